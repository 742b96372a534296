/-
  Texts of this proof, joined.
-/
import Derived.Test.YtmffkpkgbdcnjaaGreatDoorRows
import Derived.Test.YtmffkpkgbdcnjaaGreatDoorTopLimits01
import Derived.WalkKit
import Derived.WalkSpells
import Derived.WalkLawsBesides
import Derived.Deep.QuietTactic
import Derived.BigQuiet
import Derived.Outline
import Derived.Lib.Hide
import Derived.Laws.EntriesVeiled
import Derived.StillTailTactics
import Derived.Deep.DeepCutAuto
import Derived.BigRegion
import Derived.Laws.CopyOwn
import Derived.Below
import Derived.Laws.BitsAllLaws
import Derived.Laws.BitsLemmas
import Derived.WalkMore
import Derived.Laws.Tables
import Derived.Deep.Cut
import Derived.Deep.Slices
import Derived.Deep.Fields
import Derived.ChangeSame
import Derived.Lib.MinMaxS
import Derived.Laws.Cover1
set_option linter.unusedVariables false
set_option linter.unusedSimpArgs false
set_option maxRecDepth 100000
set_option maxHeartbeats 20000000
namespace Go.Proofs.YtmffkpkgbdcnjaaGreatDoor
section
open Go.RowKit
structure Rd(w:World)(r:Nat)(D:Nat→Prop)(bs:List Nat)(a en:Nat): Prop where
 small:bs.length≤1099511627776
 le:a≤en
 en_le:en≤8*bs.length
 notIn:¬ D r
 byte:∀ j,bs.getD j 0 < 256
 blk:∃ A c,au w r 542 #[.bool true,.slice A bs.length c,.int .i64 a,.int .i64 en]∧Sl w D A bs.length (aD bs)
theorem RZ(w:World)(r:Nat)(D:Nat→Prop)(bs:List Nat)(a en:Nat)(n:Int)(h:Rd w r D bs a en)(hn:n < 0∨64 < n):
  Calls Tryz.prog 392 #[.pointer (some ⟨r,0,none⟩),.int .i64 n] w fun e w'=>e=.returned (.tuple #[.int .u64 0,.int .i64 2])∧w=w':=by
 obtain⟨A,c,hb,-⟩:=h.blk
 have c0:=hb.cell 0
 simp at c0
 clear hb h
 rcases hn with hn | hn
 ·go_enter Tryz.func392,Tryz.ntmps392
  go_wp2
  go_ret2
  exact⟨rfl,rfl⟩
 ·have hn':¬ n < 0:=by omega
  go_enter Tryz.func392,Tryz.ntmps392
  go_wp2
  go_ret2
  exact⟨rfl,rfl⟩
theorem RI(w:World)(r:Nat)(D:Nat→Prop)(bs:List Nat)(a en:Nat)(n:Int)(h:Rd w r D bs a en)(h0:0≤n)(h64:n≤64)(hn:(en:Int)-a < n):
  Calls Tryz.prog 392 #[.pointer (some ⟨r,0,none⟩),.int .i64 n] w fun e w'=>e=.returned (.tuple #[.int .u64 0,.int .i64 10])∧∃ k,w'=w.drewN k:=by
 obtain⟨A,c,hb,-⟩:=h.blk
 have c0:=hb.cell 0
 have c2:=hb.cell 2
 have c3:=hb.cell 3
 simp at c0 c2 c3
 have:=h.le
 have:=h.en_le
 have:=h.small
 clear hb h
 go_enter Tryz.func392,Tryz.ntmps392
 go_wp2
 go_quiet (fail)
 go_wp2
 go_ret2
 exact⟨rfl,_,rfl⟩
theorem SS(w:World)(r:Nat)(D:Nat→Prop)(bs:List Nat)(a en:Nat)(n:Nat)(h:Rd w r D bs a en)(h64:n≤64)(hn:n≤en-a):
  Calls Tryz.prog 392 #[.pointer (some ⟨r,0,none⟩),.int .i64 n] w fun e w'=>e=.returned (.tuple #[.int .u64 (gets bs a n:Nat),.int .i64 0])∧Rd w' r D bs (a+n) en∧Keeps (fun k=>k=r) w w':=by
 obtain⟨A,c,hb,hsl⟩:=h.blk
 have c0:=hb.cell 0
 have c2:=hb.cell 2
 have c3:=hb.cell 3
 simp at c0 c2 c3
 have hle:=h.le
 have hen:=h.en_le
 have hsm:=h.small
 have HH:=zh h
 clear h
 have d1:decide ((n:Int) < 0)=false:=by simp
 have d2:decide ((64:Int) < n)=false:=by simp;omega
 have d3:decide ((en:Int)-a < n)=false:=by simp;omega
 go_enter Tryz.func392,Tryz.ntmps392
 go_wp2
 go_quiet (fail)
 go_wp2
 go_loopw [6,37] (fun v i wr=>∃ k:Nat,k≤n∧i=.int .i64 k∧v=.int .u64 (gets bs a k:Nat)∧au wr r 542 #[.bool true,.slice A bs.length c,.int .i64 (a+k:Nat),.int .i64 en]∧Keeps (fun k=>k=r) w wr)
  (fun _ i _=>n-(intOf i).toNat)
 case atStart=>exact ⟨0,Nat.zero_le _,rfl,rfl,hb,(Keeps.refl _ _).drewN _⟩
 case round=>
  obtain⟨k,hk,rfl,rfl,hbr,hkp⟩:=hrel
  clear c0 c2 c3 d1 d2 d3
  by_cases hlt:k < n
  ·have hslr:=hsl.keeps hkp (fun k hk e=>HH.out.notIn (e ▸ hk))
   obtain⟨b,off,rfl,hDb,hcell⟩:=hslr (by omega)
   have c1:=hbr.cell 1
   obtain⟨p,hp⟩:∃ p,p=a+k:=⟨_,rfl⟩
   rw[←hp] at hbr
   have hpl:p < en:=by omega
   obtain⟨q,hq⟩:∃ q,q=p / 8:=⟨_,rfl⟩
   obtain⟨t,ht⟩:∃ t,t=p%8:=⟨_,rfl⟩
   obtain⟨s,hs⟩:∃ s,s=7-t:=⟨_,rfl⟩
   obtain⟨x,hx⟩:∃ x,x=bs.getD q 0:=⟨_,rfl⟩
   obtain⟨g,hg⟩:∃ g,g=gets bs a k:=⟨_,rfl⟩
   have hxb:x < 256:=hx ▸ HH.out.byte q
   have hcb:=hcell q (by omega)
   unfold aD at hcb
   rw[←hx] at hcb
   have hgb:=iB bs a k
   rw[←hg] at hgb ⊢
   have hgb2:(2:Nat) ^ k≤2 ^ 63:=Nat.pow_le_pow_right (by omega) (by omega)
   have e1:IntKind.i64.wrap ((p:Int) / 8)=(q:Int):=by rw[IntWalk.i64_in _ (by omega)];omega
   have e2:IntKind.i64.wrap ((p:Int)%8)=(t:Int):=by rw[IntWalk.i64_in _ (by omega)];omega
   have e3:(p:Int)%8=(t:Int):=by omega
   have e4:IntKind.i64.wrap (7-(t:Int))=(s:Int):=by rw[IntWalk.i64_in _ (by omega)];omega
   have hqi:(q:Int) < (bs.length:Int):=by omega
   have hs7:s≤7:=by omega
   have HP:=zh (zN hp (zN hq (zN ht (zN hs (zN hx hg)))))
   clear hp hq ht hs hx hg hgb hgb2
   have c2:=hbr.cell 2
   have f2:=hbr.frozen 2
   simp at c1 c2 f2
   clear hcell hslr
   go_wp2
   go_quiet (fail)
   clear e1 e2 e3 e4
   go_wp2
   go_roundw
   case rel=>
    obtain⟨hp,hq,ht,hs,hx,hg⟩:=HP.out
    have hgb:g < 9223372036854775808:=by
     have h1:=iB bs a k
     have h2:(2:Nat) ^ k≤2 ^ 63:=Nat.pow_le_pow_right (by omega) (by omega)
     omega
    refine⟨k+1,by omega,by go_num,?_,?_,(hkp.drewN _).setCell (fun _=>rfl) _⟩
    ·rw[Og g x s hgb hxb,gets,←hg,bI,←hp,←hq,←ht,←hs,←hx]
    ·have:=(hbr.drewN nq).set 2 (.int .i64 ((p:Int)+1))
     rw[show ((a+(k+1):Nat):Int)=(p:Int)+1 from by omega]
     simpa using this
   case measure=>simp[intOf];omega
  ·go_wp2
   go_ret2
   obtain rfl:k=n:=by omega
   exact⟨rfl,⟨hsm,by omega,hen,HH.out.notIn,HH.out.byte,A,c,hbr,hsl.keeps hkp (fun k hk e=>HH.out.notIn (e ▸ hk))⟩,hkp⟩
theorem pV(w:World)(r:Nat)(D:Nat→Prop)(bs:List Nat)(a en:Nat)(n:Int)(h:Rd w r D bs a en):
  Calls Tryz.prog 392 #[.pointer (some ⟨r,0,none⟩),.int .i64 n] w fun e w'=>e=.returned (.tuple #[.int .u64 (kI bs a en n:Nat),.int .i64 (kG a en n)])∧Rd w' r D bs (a+kL a en n) en∧Keeps (fun k=>k=r) w w':=by
 by_cases h1:0≤n∧n≤64
 ·by_cases h2:n≤(en:Int)-a
  ·obtain ⟨m,rfl⟩:=Int.eq_ofNat_of_zero_le h1.1
   have hv:kI bs a en m=gets bs a m:=by unfold kI;rw[if_pos ⟨h1.1,h1.2,h2⟩];rfl
   have he:kG a en m=0:=by unfold kG;rw[if_pos h1,if_pos h2]
   have hn:kL a en m=m:=by unfold kL;rw[if_pos ⟨h1.1,h1.2,h2⟩];rfl
   rw[hv,he,hn]
   exact SS w r D bs a en m h (by omega) (by omega)
  ·have hv:kI bs a en n=0:=by unfold kI;rw[if_neg (by omega)]
   have he:kG a en n=10:=by unfold kG;rw[if_pos h1,if_neg h2]
   have hn:kL a en n=0:=by unfold kL;rw[if_neg (by omega)]
   rw[hv,he,hn]
   refine(RI w r D bs a en n h h1.1 h1.2 (by omega)).mono ?_
   rintro e w' ⟨rfl,k,rfl⟩
   obtain⟨s1,s2,s3,s4,s5,A,c,s6,s7⟩:=h
   exact⟨rfl,⟨s1,s2,s3,s4,s5,A,c,s6,s7⟩,(Keeps.refl _ _).drewN _⟩
 ·have hv:kI bs a en n=0:=by unfold kI;rw[if_neg (by omega)]
  have he:kG a en n=2:=by unfold kG;rw[if_neg h1]
  have hn:kL a en n=0:=by unfold kL;rw[if_neg (by omega)]
  rw[hv,he,hn]
  refine(RZ w r D bs a en n h (by omega)).mono ?_
  rintro e w' ⟨rfl,rfl⟩
  exact⟨rfl,h,Keeps.refl _ _⟩
theorem Ej(w:World)(r:Nat)(D:Nat→Prop)(bs:List Nat)(a en:Nat)(h:Rd w r D bs a en):
  Calls Tryz.prog 398 #[.pointer (some ⟨r,0,none⟩)] w fun e w'=>e=.returned (.int .i64 ((en:Int)-a))∧∃ k,w'=w.drewN k:=by
 obtain⟨A,c,hb,-⟩:=h.blk
 have c0:=hb.cell 0
 have c2:=hb.cell 2
 have c3:=hb.cell 3
 simp at c0 c2 c3
 have:=h.le
 have:=h.en_le
 have:=h.small
 clear hb h
 have e1:IntKind.i64.wrap ((en:Int)-a)=(en:Int)-a:=IntWalk.i64_in _ (by omega)
 go_enter Tryz.func398,Tryz.ntmps398
 go_wp2
 go_quiet (fail)
 go_wp2
 go_ret
 exact⟨rfl,_,rfl⟩
theorem byteElem: dL Tryz.prog 72 5 (.int .u8 0) 1:=dL.mk' Tryz.underlying72 rfl (by kernel_rfl)
def Cy(w:World)(bs:List Nat)(n:Nat)(e:Ending)(w':World): Prop:=
 ∃ r,e=.returned (.tuple #[.pointer (some ⟨r,0,none⟩),.int .i64 0])∧w.heap.size≤r∧Rd w' r (fun k=>w.heap.size≤k∧k < r) bs 0 n∧Keeps (fun _=>False) w w'
theorem EW(w:World)(A:Option Addr)(c:Nat)(D:Nat→Prop)(bs:List Nat)(n:Nat)(hsl:Sl w D A bs.length (aD bs))(hbyte:∀ j,bs.getD j 0 < 256)(hsm:bs.length≤1099511627776)(hn:n≤8*bs.length):
  Calls Tryz.prog 390 #[.slice A bs.length c,.int .i64 n] w (Cy w bs n):=by
 go_enter Tryz.func390,Tryz.ntmps390
 go_wp2_with (at_builtin;refine aW (D:=D) (f:=aD bs) (base:=w.heap.size) (n:=0) (xs:=[]) byteElem rfl (.tmp 15) (.tmp 16) rfl rfl rfl ?hown ?hsl ?h1 ?h63 ?hby ?hbase ?_)
 case hown=>exact World.ownsRow_made w _ 0 (Nat.le_refl _) (by decide) (by simp)
 case hsl=>exact hsl.keep fun k _ hlt=>Below.heap_alloc w _ k hlt
 case h1=>intro j _;rfl
 case h63=>simp only[maxLen];omega
 case hby=>omega
 case hbase=>simp
 intro v1 w1 hown1 hg1 hat1
 obtain⟨A1,c1,hv1,-,hA1⟩:=aA hown1
 rw[hv1]
 rw[hv1] at hown1
 have H1:=zh hown1
 have H2:=zh hA1
 have H3:=zh hg1
 clear hown1 hA1 hg1 hat1 hv1
 go_wp2
 go_ret2
 have hk1:Keeps (fun _=>False) w w1:=((Keeps.refl _ w).alloc _).grown H3.out (fun k hk hlt=>by simp[Value.ownBlock] at hk;omega)
 refine⟨w1.heap.size,rfl,hk1.size,⟨hsm,Nat.zero_le _,hn,fun hx=>by omega,hbyte,A1,c1,au.fresh _ _ _,?_⟩,hk1.alloc _⟩
 refine((Sl.lQ (f:=aD bs) H1.out ?_).mono ?_).keep fun k _ hlt=>Below.heap_alloc w1 _ k hlt
 ·intro j u hu
  rw[List.getElem?_map] at hu
  rcases Nat.lt_or_ge j bs.length with hj | hj
  ·rw[List.getElem?_range hj] at hu
   simpa using hu.symm
  ·rw[List.getElem?_eq_none (by simpa using hj)] at hu
   cases hu
 ·intro k hk
  have:=H1.out.lt k hk
  exact this
end
section
def eO(L:List Nat)(j:Nat): Nat:=
 128*L.getD (8*j) 0+64*L.getD (8*j+1) 0+32*L.getD (8*j+2) 0+16*L.getD (8*j+3) 0+8*L.getD (8*j+4) 0+4*L.getD (8*j+5) 0+2*L.getD (8*j+6) 0+L.getD (8*j+7) 0
def pack(L:List Nat): List Nat:=(List.range ((L.length+7) / 8)).map (eO L)
def aM(v n k:Nat): List Nat:=(List.range k).map fun j=>v / 2 ^ (n-1-j)%2
theorem FX(v n:Nat): aM v n 0=[]:=rfl
theorem FN(v n k:Nat): aM v n (k+1)=aM v n k ++ [v / 2 ^ (n-1-k)%2]:=by
 unfold aM;rw[List.range_succ,List.map_append];rfl
theorem aG(v n k:Nat): (aM v n k).length=k:=by simp[aM]
theorem Ls{L:List Nat}(h:∀ j,L.getD j 0 < 2){b:Nat}(hb:b < 2): ∀ j,(L ++ [b]).getD j 0 < 2:=by
 intro j
 rw[List.getD_eq_getElem?_getD]
 rcases Nat.lt_trichotomy j L.length with h1 | h1 | h1
 ·rw[List.getElem?_append_left h1,←List.getD_eq_getElem?_getD];exact h j
 ·subst h1;simpa using hb
 ·rw[List.getElem?_eq_none (by simp;omega)];simp
theorem uH(L:List Nat)(b j:Nat)(h:j < L.length): (L ++ [b]).getD j 0=L.getD j 0:=by
 rw[List.getD_eq_getElem?_getD,List.getD_eq_getElem?_getD,List.getElem?_append_left h]
theorem qA(L:List Nat)(b:Nat): (L ++ [b]).getD L.length 0=b:=by
 rw[List.getD_eq_getElem?_getD];simp
theorem gV(L:List Nat)(j:Nat)(h:L.length≤j): L.getD j 0=0:=by
 rw[List.getD_eq_getElem?_getD,List.getElem?_eq_none h];rfl
theorem CX(L:List Nat)(b j:Nat): (L ++ [b]).getD j 0=L.getD j 0+if j=L.length then b else 0:=by
 rcases Nat.lt_trichotomy j L.length with h1 | h1 | h1
 ·rw[uH L b j h1,if_neg (by omega)];omega
 ·subst h1;rw[qA,gV L _ (Nat.le_refl _)];simp
 ·rw[gV L j (by omega),gV (L ++ [b]) j (by simp;omega),if_neg (by omega)]
theorem bK(L:List Nat): (pack L).length=(L.length+7) / 8:=by simp[pack]
theorem Dh(L:List Nat)(j:Nat)(h:L.length≤8*j): eO L j=0:=by
 unfold eO
 rw[gV L _ h,gV L (8*j+1) (by omega),gV L (8*j+2) (by omega),gV L (8*j+3) (by omega),gV L (8*j+4) (by omega),gV L (8*j+5) (by omega),gV L (8*j+6) (by omega),gV L (8*j+7) (by omega)]
theorem fU(L:List Nat)(j:Nat): (pack L).getD j 0=eO L j:=by
 rw[List.getD_eq_getElem?_getD,pack,List.getElem?_map]
 rcases Nat.lt_or_ge j ((L.length+7) / 8) with h | h
 ·rw[List.getElem?_range h];rfl
 ·rw[List.getElem?_eq_none (by simpa using h),Dh L j (by omega)];rfl
theorem kJ{L:List Nat}(h:∀ j,L.getD j 0 < 2)(j:Nat): eO L j < 256:=by
 unfold eO
 have:=h (8*j);have:=h (8*j+1);have:=h (8*j+2);have:=h (8*j+3);have:=h (8*j+4);have:=h (8*j+5);have:=h (8*j+6);have:=h (8*j+7)
 omega
theorem wS(L:List Nat)(b j:Nat): eO (L ++ [b]) j=eO L j+if j=L.length / 8 then b*2 ^ (7-L.length%8) else 0:=by
 unfold eO
 simp only[CX]
 rcases Nat.lt_or_ge (L.length / 8) j with h1 | h1
 ·rw[if_neg (show ¬ 8*j=L.length by omega),if_neg (show ¬ 8*j+1=L.length by omega),if_neg (show ¬ 8*j+2=L.length by omega),if_neg (show ¬ 8*j+3=L.length by omega),if_neg (show ¬ 8*j+4=L.length by omega),if_neg (show ¬ 8*j+5=L.length by omega),if_neg (show ¬ 8*j+6=L.length by omega),if_neg (show ¬ 8*j+7=L.length by omega),if_neg (show ¬ j=L.length / 8 by omega)]
  omega
 ·rcases Nat.lt_or_ge j (L.length / 8) with h2 | h2
  ·rw[if_neg (show ¬ 8*j=L.length by omega),if_neg (show ¬ 8*j+1=L.length by omega),if_neg (show ¬ 8*j+2=L.length by omega),if_neg (show ¬ 8*j+3=L.length by omega),if_neg (show ¬ 8*j+4=L.length by omega),if_neg (show ¬ 8*j+5=L.length by omega),if_neg (show ¬ 8*j+6=L.length by omega),if_neg (show ¬ 8*j+7=L.length by omega),if_neg (show ¬ j=L.length / 8 by omega)]
   omega
  ·obtain rfl:j=L.length / 8:=by omega
   rw[if_pos (show L.length / 8=L.length / 8 from rfl)]
   have hr:L.length%8 < 8:=Nat.mod_lt _ (by omega)
   have hd:=Nat.div_add_mod L.length 8
   obtain⟨q,hq⟩:∃ q,q=L.length / 8:=⟨_,rfl⟩
   obtain⟨r,hrr⟩:∃ r,r=L.length%8:=⟨_,rfl⟩
   rw[←hrr] at hr hd ⊢
   rw[←hq] at hd ⊢
   generalize L.length=n at *
   rcases(show r=0∨r=1∨r=2∨r=3∨r=4∨r=5∨r=6∨r=7 by omega) with h | h | h | h | h | h | h | h
   all_goals
    subst h
    subst hd
    simp
    omega
theorem Jr(L:List Nat): ∃ x,eO L (L.length / 8)=x*2 ^ (8-L.length%8):=by
 have hr:L.length%8 < 8:=Nat.mod_lt _ (by omega)
 have hd:=Nat.div_add_mod L.length 8
 have hg:∀ j,L.length≤j→L.getD j 0=0:=fun j hj=>gV L j hj
 obtain⟨q,hq⟩:∃ q,q=L.length / 8:=⟨_,rfl⟩
 obtain⟨r,hrr⟩:∃ r,r=L.length%8:=⟨_,rfl⟩
 rw[←hrr] at hr hd ⊢
 rw[←hq] at hd ⊢
 have z0:r=0→L.getD (8*q) 0=0:=fun _=>hg _ (by omega)
 have z1:r≤1→L.getD (8*q+1) 0=0:=fun _=>hg _ (by omega)
 have z2:r≤2→L.getD (8*q+2) 0=0:=fun _=>hg _ (by omega)
 have z3:r≤3→L.getD (8*q+3) 0=0:=fun _=>hg _ (by omega)
 have z4:r≤4→L.getD (8*q+4) 0=0:=fun _=>hg _ (by omega)
 have z5:r≤5→L.getD (8*q+5) 0=0:=fun _=>hg _ (by omega)
 have z6:r≤6→L.getD (8*q+6) 0=0:=fun _=>hg _ (by omega)
 have z7:r≤7→L.getD (8*q+7) 0=0:=fun _=>hg _ (by omega)
 unfold eO
 clear hg
 generalize L.getD (8*q) 0=b0 at *
 generalize L.getD (8*q+1) 0=b1 at *
 generalize L.getD (8*q+2) 0=b2 at *
 generalize L.getD (8*q+3) 0=b3 at *
 generalize L.getD (8*q+4) 0=b4 at *
 generalize L.getD (8*q+5) 0=b5 at *
 generalize L.getD (8*q+6) 0=b6 at *
 generalize L.getD (8*q+7) 0=b7 at *
 rcases(show r=0∨r=1∨r=2∨r=3∨r=4∨r=5∨r=6∨r=7 by omega) with h | h | h | h | h | h | h | h
 ·exact ⟨0,by omega⟩
 ·exact ⟨b0,by rw[h];omega⟩
 ·exact ⟨2*b0+b1,by rw[h];omega⟩
 ·exact ⟨4*b0+2*b1+b2,by rw[h];omega⟩
 ·exact ⟨8*b0+4*b1+2*b2+b3,by rw[h];omega⟩
 ·exact ⟨16*b0+8*b1+4*b2+2*b3+b4,by rw[h];omega⟩
 ·exact ⟨32*b0+16*b1+8*b2+4*b3+2*b4+b5,by rw[h];omega⟩
 ·exact ⟨64*b0+32*b1+16*b2+8*b3+4*b4+2*b5+b6,by rw[h];omega⟩
theorem Nc(L:List Nat)(b:Nat)(hb:b < 2): eO L (L.length / 8) ||| b*2 ^ (7-L.length%8)=eO (L ++ [b]) (L.length / 8):=by
 rw[wS,if_pos rfl]
 obtain⟨x,hx⟩:=Jr L
 rw[hx]
 have hr:L.length%8 < 8:=Nat.mod_lt _ (by omega)
 generalize L.length%8=r at *
 have hlt:b*2 ^ (7-r) < 2 ^ (8-r):=by
  rw[show 8-r=(7-r)+1 by omega,Nat.pow_succ]
  have:0 < 2 ^ (7-r):=Nat.pow_pos (by omega)
  rcases(show b=0∨b=1 by omega) with rfl | rfl<;>omega
 have h:=Nat.shiftLeft_add_eq_or_of_lt hlt x
 rw[Nat.shiftLeft_eq] at h
 exact h.symm
def oneMore(L:List Nat): List Nat:=if L.length%8=0 then pack L ++ [0] else pack L
theorem jy(L:List Nat): (oneMore L).length=L.length / 8+1:=by
 unfold oneMore;split
 ·rw[List.length_append,bK];simp;omega
 ·rw[bK];omega
theorem EB(L:List Nat): (oneMore L).getD (L.length / 8) 0=eO L (L.length / 8):=by
 unfold oneMore;split
 ·next h=>
  have hl:(pack L).length=L.length / 8:=by rw[bK];omega
  rw[←hl,qA,hl,Dh L _ (by omega)]
 ·exact fU L _
theorem MX(L:List Nat)(b:Nat)(hb:b < 2): (oneMore L).set (L.length / 8) (eO L (L.length / 8) ||| b*2 ^ (7-L.length%8))=pack (L ++ [b]):=by
 rw[Nc L b hb]
 have hlen:(pack (L ++ [b])).length=L.length / 8+1:=by rw[bK];simp;omega
 apply List.ext_getElem?
 intro j
 rcases Nat.lt_or_ge j (L.length / 8+1) with hj | hj
 ·have e:(pack (L ++ [b]))[j]? = some (eO (L ++ [b]) j):=by
   rw[List.getElem?_eq_getElem (by omega)]
   have:=fU (L ++ [b]) j
   rw[List.getD_eq_getElem?_getD,List.getElem?_eq_getElem (by omega)] at this
   simpa using this
  rw[e,List.getElem?_set]
  split
  ·next h=>subst h;rw[if_pos (by rw[jy];omega)]
  ·next h=>
   rw[wS,if_neg (by omega)]
   have hjl:j < (oneMore L).length:=by rw[jy];omega
   have:(oneMore L).getD j 0=eO L j:=by
    unfold oneMore;split
    ·next h8=>
     rw[uH _ _ _ (by rw[bK];omega)];exact fU L j
    ·exact fU L j
   rw[List.getD_eq_getElem?_getD,List.getElem?_eq_getElem hjl] at this
   rw[List.getElem?_eq_getElem hjl]
   simpa using this
 ·rw[List.getElem?_eq_none (by rw[List.length_set,jy];omega),List.getElem?_eq_none (by omega)]
theorem Jg{L:List Nat}(h:∀ j,L.getD j 0 < 2)(j:Nat): (oneMore L).getD j 0 < 256:=by
 unfold oneMore;split
 ·rw[CX];split
  ·rw[fU];have:=kJ h j;omega
  ·rw[fU];have:=kJ h j;omega
 ·rw[fU];exact kJ h j
theorem Tf(x b s:Nat)(hx:x < 256)(hb:b < 2)(hs:s≤7): bits .or .u8 (x:Int) (IntKind.u64.wrap ((b:Int)*2 ^ s)%256)=((x ||| b*2 ^ s:Nat):Int):=by
 have hp:2 ^ s≤2 ^ 7:=Nat.pow_le_pow_right (by omega) hs
 have hlt:b*2 ^ s < 256:=by rcases (show b=0∨b=1 by omega) with rfl | rfl<;>omega
 rw[show (b:Int)*2 ^ s=((b*2 ^ s:Nat):Int) from by rw[yF,←Int.natCast_mul]]
 generalize b*2 ^ s=y at hlt ⊢
 rw[IntKind.wrap_u64,show (y:Int)%18446744073709551616%256=(y:Int) from by omega,u8_or_nat x y hx hlt]
theorem EC(v i:Nat)(hv:v < 18446744073709551616): bits .and .u64 ((v:Int) / 2 ^ i) 1=((v / 2 ^ i%2:Nat):Int):=by
 have h1:v / 2 ^ i < 18446744073709551616:=Nat.lt_of_le_of_lt (Nat.div_le_self _ _) hv
 rw[tQ,show (1:Int)=((1:Nat):Int) from rfl,u64_and_nat _ _ h1 (by omega),Nat.and_one_is_mod]
theorem kY{k:IntKind}{a b:Int}(h:a=b): Ending.returned (.int k a)=.returned (.int k b):=by rw[h]
theorem gJ(v n k:Nat): ∀ j,(aM v n k).getD j 0 < 2:=by
 intro j
 unfold aM
 rw[List.getD_eq_getElem?_getD,List.getElem?_map]
 rcases Nat.lt_or_ge j k with h | h
 ·rw[List.getElem?_range h];exact Nat.mod_lt _ (by omega)
 ·rw[List.getElem?_eq_none (by simpa using h)];simp
theorem jZ{L M:List Nat}(h:∀ j,L.getD j 0 < 2)(k:∀ j,M.getD j 0 < 2): ∀ j,(L ++ M).getD j 0 < 2:=by
 intro j
 rw[List.getD_eq_getElem?_getD]
 rcases Nat.lt_or_ge j L.length with h1 | h1
 ·rw[List.getElem?_append_left h1,←List.getD_eq_getElem?_getD];exact h j
 ·rw[List.getElem?_append_right h1,←List.getD_eq_getElem?_getD];exact k _
end
section
open Go.RowKit
def aI(b:Nat): Value:=.int .u8 (b:Int)
def oneOf(a:Nat): Value:=.func (.func 371) #[.pointer (some ⟨a,0,none⟩)] #[]
structure Wr(w:World)(a:Nat)(g:Option Nat)(L:List Nat): Prop where
 len:L.length≤8388608
 bit:∀ j,L.getD j 0 < 2
 blk:∃ v,v.ownBlock=g∧au w a 515 #[oneOf a,v,.int .i64 L.length]∧w.ownsRow 0 5 1 v (pack L).length ((pack L).map aI)
def KZ(w:World)(e:Ending)(w':World): Prop:=
 e=.returned (.pointer (some ⟨w.heap.size,0,none⟩))∧Wr w' w.heap.size none []∧Keeps (fun _=>False) w w'
theorem uh(w:World): Calls Tryz.prog 345 #[] w (KZ w):=by
 go_enter Tryz.func345,Tryz.ntmps345
 go_wp2
 go_ret
 refine⟨rfl,⟨by simp,by simp,.slice none 0 0,rfl,?_,⟨by simp[pack],.inl ⟨rfl,by simp[pack]⟩⟩⟩,((Keeps.refl _ _).alloc _)⟩
 exact au.fresh _ _ _
def Roomy(w:World)(a:Nat)(g:Option Nat)(L:List Nat)(wx:World): Prop:=
 ∃ gb c,au wx a 515 #[oneOf a,.slice (some ⟨gb,0,none⟩) (L.length / 8+1) c,.int .i64 L.length]∧
  wx.ownsRow 0 5 1 (.slice (some ⟨gb,0,none⟩) (L.length / 8+1) c) (L.length / 8+1) ((oneMore L).map aI)∧Keeps (fun k=>k=a∨some k=g) w wx∧(g=some gb∨w.heap.size≤gb)
theorem IK{w:World}{a:Nat}{g:Option Nat}{L:List Nat}(h:Wr w a g L)(h8:¬ L.length%8=0): Roomy w a g L w:=by
 obtain⟨v,hv,hblk,hown⟩:=h.blk
 obtain⟨A,c,rfl,hlec,hA⟩:=aA hown
 have hl:=bK L
 obtain⟨gb,rfl,-,-⟩:=hA (by omega)
 have e:(pack L).length=L.length / 8+1:=by omega
 rw[e] at hblk hown hv
 refine⟨gb,c,hblk,?_,Keeps.refl _ _,.inl hv.symm⟩
 unfold oneMore
 rw[if_neg h8]
 exact hown
theorem oV{w:World}{base:Nat}{e t:TypeId}{size n a i:Nat}{v u:Value}{xs:List Value}{cs:Array Value}(h:w.ownsRow base e size v n xs)(hg:au w a t cs)(hne:e≠t): (w.setCell ⟨a,i,none⟩ u).ownsRow base e size v n xs:=by
 refine aF h (S:=fun k=>k=a) (Keeps.setCell (Keeps.refl (fun k=>k=a) w) (p:=⟨a,i,none⟩) (fun _=>rfl) u) (fun g hgv e=>own_ne h hg hne (by rw[hgv,e]))
theorem LH{w w1:World}{a:Nat}{g:Option Nat}{L:List Nat}{v v1:Value}{o:Obj}(hv:v.ownBlock=g)(hblk:au w a 515 #[oneOf a,v,.int .i64 L.length])(hown:w.ownsRow 0 5 1 v (pack L).length ((pack L).map aI))(h8:L.length%8=0)(hg1:(w.alloc o).grownBy w1 v.ownBlock)(hown1:w1.ownsRow 0 5 1 v1 ((pack L).length+1) ((pack L).map aI ++ [.int .u8 0]))(hat1:v1.ownBlock=v.ownBlock∨v1.ownBlock=some (w.heap.size+1)):
  au w1 a 515 #[oneOf a,v,.int .i64 L.length]∧Roomy w a g L (w1.setCell ⟨a,1,none⟩ v1):=by
 have hk:Keeps (fun k=>k=a∨some k=g) w w1:=((Keeps.refl _ w).alloc o).grown hg1 (fun k hk _=>.inr (by rw[←hk,hv]))
 have hka:Keeps (fun k=>some k=g) w w1:=((Keeps.refl _ w).alloc o).grown hg1 (fun k hk _=>by rw[←hk,hv])
 have hb1:au w1 a 515 #[oneOf a,v,.int .i64 L.length]:=hblk.keeps hka (fun e=>own_ne hown hblk (by decide) (by rw[hv,e]))
 refine⟨hb1,?_⟩
 have hl:=bK L
 obtain⟨A,c,rfl,hlec,hA⟩:=aA hown1
 obtain⟨gb,rfl,-,hgb⟩:=hA (by omega)
 have e:(pack L).length+1=L.length / 8+1:=by omega
 rw[e] at hown1 ⊢
 refine⟨gb,c,?_,?_,hk.setCell (fun _=>.inl rfl) _,?_⟩
 ·have:=hb1.set 1 (.slice (some ⟨gb,0,none⟩) (L.length / 8+1) c)
  simpa using this
 ·have:(oneMore L).map aI=(pack L).map aI ++ [.int .u8 0]:=by
   unfold oneMore;rw[if_pos h8,List.map_append];rfl
  rw[this]
  exact oV hown1 hb1 (by decide)
 ·rcases hat1 with h | h
  ·left;rw[←hv,←h];rfl
  ·right
   simp[Value.ownBlock] at h
   omega
def Ri(w:World)(a:Nat)(g:Option Nat)(L:List Nat)(b:Nat)(e:Ending)(w':World): Prop:=
 e=.returned (.tuple #[])∧∃ g',Wr w' a g' (L ++ [b])∧Keeps (fun k=>k=a∨some k=g) w w'∧(g'=g∨∃ k,g'=some k∧w.heap.size≤k)
theorem Pk{w wc:World}{a:Nat}{g:Option Nat}{L:List Nat}{b gb c:Nat}(h:Wr w a g L)(hb:b < 2)(hl:L.length < 8388608)(hbx:au wc a 515 #[oneOf a,.slice (some ⟨gb,0,none⟩) (L.length / 8+1) c,.int .i64 L.length])(hox:wc.ownsRow 0 5 1 (.slice (some ⟨gb,0,none⟩) (L.length / 8+1) c) (L.length / 8+1) ((oneMore L).map aI))(hkx:Keeps (fun k=>k=a∨some k=g) w wc)(hgx:g=some gb∨w.heap.size≤gb):
  ∃ g',Wr ((wc.setCell ⟨gb,L.length / 8,none⟩ (aI (eO L (L.length / 8) ||| b*2 ^ (7-L.length%8)))).setCell ⟨a,2,none⟩ (.int .i64 ((L.length:Int)+1))).drew a g' (L ++ [b])∧
   Keeps (fun k=>k=a∨some k=g) w ((wc.setCell ⟨gb,L.length / 8,none⟩ (aI (eO L (L.length / 8) ||| b*2 ^ (7-L.length%8)))).setCell ⟨a,2,none⟩ (.int .i64 ((L.length:Int)+1))).drew∧(g'=g∨∃ k,g'=some k∧w.heap.size≤k):=by
 have hga:gb≠a:=fun e=>own_ne hox hbx (by decide) (by rw[←e];rfl)
 obtain⟨hs1,hs2⟩:=hox.stored (L.length / 8) (aI (eO L (L.length / 8) ||| b*2 ^ (7-L.length%8)))
 have hb1:au (wc.setCell ⟨gb,L.length / 8,none⟩ (aI (eO L (L.length / 8) ||| b*2 ^ (7-L.length%8)))) a 515 #[oneOf a,.slice (some ⟨gb,0,none⟩) (L.length / 8+1) c,.int .i64 L.length]:=hbx.far (p:=⟨gb,L.length / 8,none⟩) (fun e=>hga e.symm) _
 refine⟨some gb,⟨by simp;omega,Ls h.bit hb,.slice (some ⟨gb,0,none⟩) (L.length / 8+1) c,rfl,?_,?_⟩,?_,?_⟩
 ·have:=hb1.set 2 (.int .i64 ((L.length:Int)+1))
  have e:(((L ++ [b]).length:Nat):Int)=(L.length:Int)+1:=by simp
  rw[e]
  exact this.drew
 ·have e:(pack (L ++ [b])).length=L.length / 8+1:=by rw[bK];simp;omega
  rw[e,←MX L b hb,List.map_set]
  exact oV (i:=2) hs1 hb1 (by decide)
 ·refine ((hkx.setCell (p:=⟨gb,L.length / 8,none⟩) (fun hlt=>?_) _).setCell (fun _=>.inl rfl) _).drew
  rcases hgx with h | h
  ·exact .inr h.symm
  ·exact absurd hlt (by simpa using h)
 ·rcases hgx with h | h
  ·exact .inl h.symm
  ·exact .inr ⟨gb,rfl,h⟩
theorem Sb(w:World)(a:Nat)(g:Option Nat)(L:List Nat)(b:Nat)(h:Wr w a g L)(hb:b < 2)(hl:L.length < 8388608):
  Calls Tryz.prog 371 #[.pointer (some ⟨a,0,none⟩),.int .u64 b] w (Ri w a g L b):=by
 obtain⟨v,hv,hblk,hown⟩:=h.blk
 obtain⟨n,hn⟩:∃ n,n=L.length:=⟨_,rfl⟩
 rw[←hn] at hblk hl
 have c1:=hblk.cell 1
 have c2:=hblk.cell 2
 have f1:=hblk.frozen 1
 simp at c1 c2
 have HN:=zh hn
 have HH:=zh h
 have HO:=zh hown
 have HV:=zh hv
 have HB:=zh hblk
 clear hn hown hv hblk h
 go_enter Tryz.func371,Tryz.ntmps371
 go_upto_if 9 with (fail)
 go_cut [] (fun wx=>Roomy w a g L wx)
 case first=>
  by_cases h8:n%8=0
  ·have e8:(((n:Int)%8) == 0)=true:=by simp;omega
   go_wp2_with (at_builtin;refine aW (f:=fun _=>.int .u8 0) (D:=fun k=>k=w.heap.size) (base:=0) (n:=(pack L).length) (xs:=(pack L).map aI) byteElem rfl (.tmp 14) (.tmp 15) rfl rfl rfl ?hown ?hsl ?h1 ?h63 ?hby ?hbase ?_)
   case hown=>exact HO.out.alloc _
   case hsl=>exact kS _ _ _
   case h1=>intro j _;rfl
   case h63=>have:=bK L;have:=HN.out;simp only[maxLen];omega
   case hby=>have:=bK L;have:=HN.out;omega
   case hbase=>simp
   intro v1 w1 hown1 hg1 hat1
   obtain⟨A1,k1,hv1,-,-⟩:=aA hown1
   rw[hv1]
   rw[hv1] at hown1 hat1
   clear hv1
   obtain⟨hb1,hr1⟩:=LH (L:=L) HV.out (by rw[←HN.out];exact HB.out) HO.out (by rw[←HN.out];exact h8) hg1 hown1 hat1
   have HR:=zh hr1
   have c11:=hb1.cell 1
   have f11:=hb1.frozen 1
   simp at c11
   clear hown1 hg1 hat1 hb1 hr1
   go_wp2_with fail
   go_meet
   exact HR.out
  ·have e8:(((n:Int)%8) == 0)=false:=by simp;omega
   go_wp2_with fail
   go_meet
   exact IK HH.out (by rw[←HN.out];exact h8)
 case rest=>
  clear c1 c2 f1
  obtain⟨gb,c,hbx,hox,hkx,hgx⟩:=hcut
  rw[←HN.out] at hbx hox
  obtain⟨q,hq⟩:∃ q,q=n / 8:=⟨_,rfl⟩
  obtain⟨t,ht⟩:∃ t,t=n%8:=⟨_,rfl⟩
  obtain⟨s,hs⟩:∃ s,s=7-t:=⟨_,rfl⟩
  obtain⟨x,hx⟩:∃ x,x=(oneMore L).getD q 0:=⟨_,rfl⟩
  rw[←hq] at hbx hox
  have hxb:x < 256:=hx ▸ Jg HH.out.bit q
  have hcb:wc.cell? ⟨gb,q,none⟩=some (.int .u8 x):=by
   rw[hox.cellAt q (by omega),List.getElem?_map,List.getElem?_eq_getElem (by rw[jy,←HN.out];omega),hx,List.getD_eq_getElem?_getD,List.getElem?_eq_getElem (by rw[jy,←HN.out];omega)]
   rfl
  have hfb:=hox.frozenAt q
  have c1:=hbx.cell 1
  have c2:=hbx.cell 2
  have f2:=hbx.frozen 2
  simp at c1 c2
  have hga:gb≠a:=fun e=>own_ne hox hbx (by decide) (by rw[←e];rfl)
  have e1:IntKind.i64.wrap ((n:Int) / 8)=(q:Int):=by rw[IntWalk.i64_in _ (by omega)];omega
  have e2:IntKind.i64.wrap ((n:Int)%8)=(t:Int):=by rw[IntWalk.i64_in _ (by omega)];omega
  have e3:(n:Int)%8=(t:Int):=by omega
  have e5:(n:Int).tmod 8=(t:Int):=by rw[Int.tmod_eq_emod_of_nonneg (by omega)];exact e3
  have e4:IntKind.i64.wrap (7-(t:Int))=(s:Int):=by rw[IntWalk.i64_in _ (by omega)];omega
  have hqi:(q:Int) < (q:Int)+1:=by omega
  have hs7:s≤7:=by omega
  have HP:=zh (zN hq (zN ht (zN hs hx)))
  have HX:=zh (zN hbx (zN hox (zN hkx hgx)))
  clear hq ht hs hx hbx hox hkx hgx
  go_wp2
  go_still_tail 22,(by kernel_rfl)
  change wpList _ _ _ _ _ wc.drew
  clear e1 e2 e3 e4 e5
  go_wp2
  go_end0
  obtain⟨hq,ht,hs,hx⟩:=HP.out
  obtain⟨hbx,hox,hkx,hgx⟩:=HX.out
  obtain rfl:=HN.out
  subst hq ht hs
  have hx':x=eO L (L.length / 8):=hx.trans (EB L)
  rw[Tf x b _ hxb hb hs7,hx']
  exact⟨rfl,Pk HH.out hb hl hbx hox hkx hgx⟩
end
section
open Go.RowKit
theorem F3(w:World)(a:Nat): (binOp .eql 513 (.func (.func 371) #[.pointer (some ⟨a,0,none⟩)] #[]) .nilFunc).run Tryz.prog w=.ok (.bool false) w:=by kernel_rfl
theorem Ig(w:World)(a:Nat)(g:Option Nat)(L:List Nat)(h:Wr w a g L):
  Calls Tryz.prog 372 #[.pointer (some ⟨a,0,none⟩)] w fun e w'=>e=.returned (.bool false)∧w=w':=by
 obtain⟨v,hv,hblk,hown⟩:=h.blk
 have c0:=hblk.cell 0
 simp[oneOf] at c0
 clear hv hblk hown h
 have hfn:=fun w=>F3 w a
 go_enter Tryz.func372,Tryz.ntmps372
 go_wp2
 go_ret
 exact⟨rfl,rfl⟩
theorem AU(w:World)(p:Nat)(i:Nat)(v:Nat)(hv:v < 18446744073709551616)(h:au w p 50 #[.int .u64 v])(hi:i < 64):
  Calls Tryz.prog 373 #[.int .i64 i,.pointer (some ⟨p,0,none⟩)] w fun e w'=>e=.returned (.int .u64 (v / 2 ^ i%2:Nat))∧w'=w:=by
 have c0:=h.cell 0
 simp at c0
 clear h
 go_enter Tryz.func373,Tryz.ntmps373
 go_wp2
 go_ret
 exact⟨kY (EC v i hv),rfl⟩
theorem Wr.keeps{S:Nat→Prop}{w w':World}{a:Nat}{g:Option Nat}{L:List Nat}(h:Wr w a g L)(hk:Keeps S w w')(ha:¬ S a)(hg:∀ k,g=some k→¬ S k): Wr w' a g L:=by
 obtain⟨h1,h2,v,hv,hb,ho⟩:=h
 exact⟨h1,h2,v,hv,hb.keeps hk ha,aF ho hk (fun k hk=>hg k (by rw[←hv,hk]))⟩
theorem Wr.drewN{w:World}{a:Nat}{g:Option Nat}{L:List Nat}(h:Wr w a g L)(n:Nat): Wr (w.drewN n) a g L:=by
 obtain⟨h1,h2,v,hv,hb,ho⟩:=h
 exact⟨h1,h2,v,hv,hb,ho⟩
theorem Wr.ne{w:World}{a p:Nat}{g:Option Nat}{L:List Nat}{t:TypeId}{cs:Array Value}(h:Wr w a g L)(hp:au w p t cs)(h1:515≠t)(h2:5≠t): p≠a∧some p≠g:=by
 obtain⟨_,_,v,hv,hb,ho⟩:=h
 exact⟨fun e=>hb.ne hp h1 e.symm,fun e=>own_ne ho hp h2 (by rw[hv,e])⟩
def Moved(w:World)(g g':Option Nat): Prop:=g'=g∨∃ k,g'=some k∧w.heap.size≤k
theorem Moved.refl(w:World)(g:Option Nat): Moved w g g:=.inl rfl
theorem Moved.trans{w w1:World}{g g1 g2:Option Nat}(h:Moved w g g1)(hs:w.heap.size≤w1.heap.size)(k:Moved w1 g1 g2): Moved w g g2:=by
 rcases k with rfl | ⟨x,rfl,hx⟩
 ·exact h
 ·exact .inr ⟨x,rfl,by omega⟩
def Hy(w:World)(a:Nat)(g:Option Nat)(L':List Nat)(r:Int)(e:Ending)(w':World): Prop:=
 e=.returned (.int .i64 r)∧∃ g',Wr w' a g' L'∧Keeps (fun k=>k=a∨some k=g) w w'∧Moved w g g'
theorem Tc(w:World)(a:Nat)(g:Option Nat)(L:List Nat)(v n:Nat)(h:Wr w a g L)(hv:v < 18446744073709551616)(h64:n≤64)(hn:(n:Int)≤8388608-(L.length:Int)):
  Calls Tryz.prog 346 #[.pointer (some ⟨a,0,none⟩),.int .u64 v,.int .i64 n] w (Hy w a g (L ++ aM v n n) 0):=by
 have h1:Wr (w.alloc (.cells #[.int .u64 v] 50)) a g L:=h.keeps (S:=fun _=>False) ((Keeps.refl _ _).alloc _) (fun h=>h) (fun _ _ h=>h)
 have hlen:=h.len
 obtain⟨_,_,vv,-,hb,-⟩:=h1
 have c2:=hb.cell 2
 simp only[List.getElem?_toArray,List.getElem?_cons_succ,List.getElem?_cons_zero] at c2
 clear hb
 have h1:Wr (w.alloc (.cells #[.int .u64 v] 50)) a g L:=h.keeps (S:=fun _=>False) ((Keeps.refl _ _).alloc _) (fun h=>h) (fun _ _ h=>h)
 have d1:decide ((n:Int) < 0)=false:=by simp
 have d2:decide ((64:Int) < n)=false:=by simp;omega
 have d3:decide (8388608-(L.length:Int) < n)=false:=by simp;omega
 go_enter Tryz.func346,Tryz.ntmps346
 go_wp2_with fail
 refine(Ig _ _ _ _ h1).mono ?_
 rintro e w' ⟨rfl,rfl⟩
 go_wp2_with fail
 clear d1 d2 d3 c2
 go_loopw [8] (fun i wr=>∃ (k:Nat) (g':Option Nat),k≤n∧i=.int .i64 ((n:Int)-1-k)∧Wr wr a g' (L ++ aM v n k)∧au wr w.heap.size 50 #[.int .u64 v]∧Keeps (fun x=>x=a∨some x=g) w wr∧Moved w g g')
  (fun i _=>(intOf i+1).toNat)
 case atStart=>exact ⟨0,g,by omega,by simp,by simpa [FX] using h1,au.fresh _ _ _,(Keeps.refl _ _).alloc _,Moved.refl _ _⟩
 case round=>
  obtain⟨k,g',hk,rfl,hw,hbox,hkp,hmv⟩:=hrel
  clear h1
  by_cases hlt:k < n
  ·obtain ⟨m,hm⟩:∃ m:Nat,(n:Int)-1-k=(m:Int):=⟨n-1-k,by omega⟩
   rw[hm]
   have hm64:m < 64:=by omega
   have HM:=zh hm
   clear hm
   have HW:=zh hw
   obtain⟨_,_,vv,-,hb,-⟩:=hw
   have c0:=hb.cell 0
   simp[oneOf] at c0
   clear hb
   go_wp2_with fail
   go_still_tail 7,(by kernel_rfl)
   still_call (AU wr.drew w.heap.size m v hv hbox.drew (by have:=HM.out;omega))
   refine wpStill_nil ?_
   change wpList _ _ _ _ _ wr.drew
   go_wp2_with fail
   refine(Sb wr.drew a g' _ _ (HW.out.drewN 1) (Nat.mod_lt _ (by omega)) (by have:=HM.out;rw[List.length_append,aG];omega)).mono ?_
   rintro e w1 ⟨rfl,g2,hw1,hk1,hm1⟩
   have hbox1:au w1 w.heap.size 50 #[.int .u64 v]:=hbox.drew.keeps hk1 (fun e=>by
    have:=Wr.ne HW.out hbox (by decide) (by decide)
    rcases e with e | e
    ·exact this.1 e
    ·exact this.2 e)
   have hkw:Keeps (fun x=>x=a∨some x=g) w w1:=(hkp.drew).trans hk1 (fun x hx e=>by
    rcases e with e | e
    ·exact .inl e
    ·rcases hmv with h | ⟨y,h,hy⟩
     ·exact .inr (e.trans h)
     ·rw[h] at e;injection e with e;omega)
   have hmv1:Moved w g g2:=hmv.trans (show w.heap.size≤wr.drew.heap.size from hkp.size) hm1
   rw[show L ++ aM v n k ++ [v / 2 ^ m%2]=L ++ aM v n (k+1) from by rw[FN,List.append_assoc,show n-1-k=m from by have:=HM.out;omega]] at hw1
   clear hk1 hm1 hbox c0 hkp hmv
   go_wp2_with fail
   go_roundw
   case rel=>exact ⟨k+1,g2,by omega,by have:=HM.out;go_num,hw1,hbox1,hkw,hmv1⟩
   case measure=>simp[intOf]
  ·obtain rfl:k=n:=by omega
   have e1:(k:Int)-1-k = -1:=by omega
   rw[e1]
   go_wp2_with fail
   go_ret
   exact⟨rfl,g',hw,hkp,hmv⟩
end
section
open Go.RowKit
theorem LC{w:World}{base:Nat}{e:TypeId}{g n:Nat}{xs:List Value}(h:w.ownsRow base e 1 (.slice (some ⟨g,0,none⟩) n n) n xs): w.heap[g]? = some (.cells xs.toArray e (0,0)):=by
 rcases h.2 with ⟨h',_⟩ | ⟨g',cap,cur,h',_,hg,_,_,hs,ht⟩
 ·simp at h'
 ·simp only[Value.slice.injEq,Option.some.injEq,Addr.mk.injEq,and_true,true_and] at h'
  obtain⟨rfl,rfl⟩:=h'
  rw[←ht,List.take_of_length_le (by simp;omega)]
  simpa using hg
theorem II{α:Type}(l cs:List α)(h:l.length=cs.length): splice l 0 cs=cs:=by
 unfold splice
 rw[List.drop_of_length_le (by omega)]
 simp
def jE(w:World)(bs:List Nat)(e:Ending)(w':World): Prop:=
 ∃ A c,e=.returned (.slice A bs.length c)∧w'.ownsRow w.heap.size 5 1 (.slice A bs.length c) bs.length (bs.map aI)∧Keeps (fun _=>False) w w'
theorem Et(w:World)(a:Nat)(g:Option Nat)(L:List Nat)(h:Wr w a g L):
  Calls Tryz.prog 349 #[.pointer (some ⟨a,0,none⟩)] w (jE w (pack L)):=by
 have HH:=zh h
 have hlen:=h.len
 have hpl:=bK L
 obtain⟨n,hn⟩:∃ n,n=(pack L).length:=⟨_,rfl⟩
 have hn20:n≤1048577:=by omega
 obtain⟨_,_,v,hv,hb,ho⟩:=h
 rw[←hn] at ho
 obtain⟨A,c,rfl,hnc,hA⟩:=aA ho
 have c1:=hb.cell 1
 simp only[List.getElem?_toArray,List.getElem?_cons_succ,List.getElem?_cons_zero] at c1
 have HB:=zh hb
 have HO:=zh ho
 have HN:=zh hn
 have HA:=zh hA
 clear hb ho hn hpl hv hA
 obtain⟨ht,-,i,hi,hz,hs1,hby⟩:=byteElem
 have HI:=zh (zN hs1 hby)
 go_enter Tryz.func349,Tryz.ntmps349
 go_wp2_with fail
 refine(Ig _ _ _ _ HH.out).mono ?_
 rintro e w' ⟨rfl,rfl⟩
 go_wp2_with (at_make;refine wpList_make_full _ rfl (.tmp 10) (.tmp 10) 72 rfl w.heap.size 5 i (.int .u8 0) 1 ht hi hz HI.out.1 .i64 .i64 n n n rfl rfl rfl rfl ?hb1 ?hb2 ?hb3 ?_)
 case hb1=>rw[HI.out.2];omega
 case hb2=>unfold maxLen;omega
 case hb3=>exact Nat.le_refl _
 intro w1 ho1 hg1
 have hk1:Keeps (fun _=>False) w w1:=(Keeps.refl _ w).grown hg1 (fun _ h=>by cases h)
 have hb1:=HB.out.keeps hk1 (fun h=>h)
 have ho2:=aF HO.out hk1 (fun _ _ h=>h)
 have c11:=hb1.cell 1
 simp only[List.getElem?_toArray,List.getElem?_cons_succ,List.getElem?_cons_zero] at c11
 have hw1:=LC ho1
 obtain⟨cs,hcs⟩:∃ cs,cs=(pack L).map aI:=⟨_,rfl⟩
 have hcl:cs.length=n:=by rw[hcs,List.length_map];exact HN.out.symm
 obtain⟨zs,hzs⟩:∃ zs,zs=(madeCells #[Value.int .u8 0] n).toList:=⟨_,rfl⟩
 have hzl:zs.length=n:=by have:=ho1.1;rw[hzs];omega
 rw[←hzs] at hw1
 have HW:=zh (zN hw1 (zN hcs (zN hcl hzl)))
 have H1:=zh (zN ho2 hk1)
 have c1c:=c1
 clear hw1 hcs hcl hzl hzs ho1 hg1 hb1 ho2 hk1 c1
 go_wp2_with (with_reducible refine wpList_copy_splice rfl (.tmp 12) (.tmp 16) 72 72 rfl 5 ht ?hsz _ _ _ _ _ _ rfl rfl w.heap.size 0 zs 5 HW.out.1 cs ?hn ?hpos ?hfit ?hone w.heap.size w ?hbel ?hBg ?_)
 case hsz=>kernel_rfl
 case hn=>rw[HW.out.2.2.1];exact (Nat.min_self n).symm
 case hpos=>
  intro hp
  obtain⟨gg,hgg,-,-⟩:=HA.out (by rw[HW.out.2.2.1] at hp;exact hp)
  refine⟨⟨gg,0,none⟩,hgg,fun j u hu=>?_⟩
  have hh:=H1.out.1.cells (g:=gg) (by rw[hgg];rfl) j u
  rw[←HW.out.2.1] at hh
  exact hh hu
 case hfit=>have:=HW.out.2.2;omega
 case hone=>
  intro u hu
  rw[HW.out.2.1,List.mem_map] at hu
  obtain⟨x,-,rfl⟩:=hu
  rfl
 case hbel=>exact H1.out.2.bM
 case hBg=>exact Nat.le_refl _
 intro w2 hw2 hbel2
 go_wp2_with fail
 go_ret
 obtain⟨hw1,hcs,hcl,hzl⟩:=HW.out
 have hw2':=hw2.out
 rw[II zs cs (by omega)] at hw2'
 refine⟨some ⟨w.heap.size,0,none⟩,n,by rw[HN.out];rfl,⟨by simp,.inr ⟨w.heap.size,n,cs.toArray,by rw[←HN.out],Nat.le_refl _,hw2',?_,?_,?_,?_⟩⟩,Keeps.of_below hbel2⟩
 ·rw[←HN.out];exact Nat.le_refl _
 ·unfold maxLen;omega
 ·simp;omega
 ·show List.take ((pack L).length*1) cs=(pack L).map aI
  have:=HN.out
  rw[←hcs,List.take_of_length_le (by omega)]
end
section
open Go.RowKit
theorem Rd.drewN{w:World}{r:Nat}{D:Nat→Prop}{bs:List Nat}{a en:Nat}(h:Rd w r D bs a en)(k:Nat): Rd (w.drewN k) r D bs a en:=by
 obtain⟨s1,s2,s3,s4,s5,A,c,s6,s7⟩:=h
 exact⟨s1,s2,s3,s4,s5,A,c,s6,s7⟩
theorem Rd.keeps{S:Nat→Prop}{w w':World}{r:Nat}{D:Nat→Prop}{bs:List Nat}{a en:Nat}(h:Rd w r D bs a en)(hk:Keeps S w w')(hr:¬ S r)(hd:∀ k,D k→¬ S k): Rd w' r D bs a en:=by
 obtain⟨s1,s2,s3,s4,s5,A,c,s6,s7⟩:=h
 exact⟨s1,s2,s3,s4,s5,A,c,s6.keeps hk hr,s7.keeps hk hd⟩
theorem uy(w:World)(A:Option Addr)(len c:Nat)(D:Nat→Prop)(bs:List Nat)(n:Int)(hl:bs.length=len)(hsl:Sl w D A len (aD bs))(hbyte:∀ j,bs.getD j 0 < 256)(hsm:len≤1099511627776)(h0:0≤n)(hn:n≤8*(len:Int)):
  Calls Tryz.prog 390 #[.slice A len c,.int .i64 n] w (Cy w bs n.toNat):=by
 subst hl
 obtain⟨m,rfl⟩:=Int.eq_ofNat_of_zero_le h0
 exact EW w A c D bs m hsl hbyte hsm (by omega)
end
section
theorem Gq(b0 b1 b2 b3 b4 b5 b6 b7 r:Nat)(h0:b0 < 2)(h1:b1 < 2)(h2:b2 < 2)(h3:b3 < 2)(h4:b4 < 2)(h5:b5 < 2)(h6:b6 < 2)(h7:b7 < 2)(hr:r < 8):
  (128*b0+64*b1+32*b2+16*b3+8*b4+4*b5+2*b6+b7) / 2 ^ (7-r)%2=[b0,b1,b2,b3,b4,b5,b6,b7].getD r 0:=by
 rcases(show r=0∨r=1∨r=2∨r=3∨r=4∨r=5∨r=6∨r=7 by omega) with h | h | h | h | h | h | h | h<;>subst h<;>simp<;>omega
theorem tH{L:List Nat}(h:∀ j,L.getD j 0 < 2)(i:Nat): bI (pack L) i=L.getD i 0:=by
 unfold bI
 rw[fU]
 unfold eO
 have hr:i%8 < 8:=Nat.mod_lt _ (by omega)
 rw[Gq _ _ _ _ _ _ _ _ _ (h _) (h _) (h _) (h _) (h _) (h _) (h _) (h _) hr]
 have hd:=Nat.div_add_mod i 8
 rcases(show i%8=0∨i%8=1∨i%8=2∨i%8=3∨i%8=4∨i%8=5∨i%8=6∨i%8=7 by omega) with e | e | e | e | e | e | e | e<;>rw[e] at hd ⊢<;>simp only[List.getD_cons_succ,List.getD_cons_zero]<;>congr 1
theorem J2{bs:List Nat}{p u n:Nat}(h:∀ j,j < n→bI bs (p+j)=u / 2 ^ (n-1-j)%2): ∀ k,k≤n→gets bs p k=u / 2 ^ (n-k)%2 ^ k:=by
 intro k
 induction k with
 | zero=>intro _;simp[gets,Nat.mod_one]
 | succ k ih=>
  intro hk
  rw[gets,ih (by omega),h k (by omega)]
  rw[show n-1-k=n-(k+1) by omega,show n-k=(n-(k+1))+1 by omega,Nat.pow_succ 2 (n-(k+1)),←Nat.div_div_eq_div_mul]
  generalize u / 2 ^ (n-(k+1))=y
  rw[Nat.pow_succ,Nat.mul_comm (2 ^ k) 2,Nat.mod_mul]
  omega
theorem wT(v n k j:Nat)(h:j < k): (aM v n k).getD j 0=v / 2 ^ (n-1-j)%2:=by
 unfold aM
 rw[List.getD_eq_getElem?_getD,List.getElem?_map,List.getElem?_range h];rfl
theorem lI(L M:List Nat)(j:Nat): (L ++ M).getD (L.length+j) 0=M.getD j 0:=by
 rw[List.getD_eq_getElem?_getD,List.getD_eq_getElem?_getD,List.getElem?_append_right (by omega)]
 congr 2
 omega
theorem mG(L M:List Nat)(j:Nat)(h:j < L.length): (L ++ M).getD j 0=L.getD j 0:=by
 rw[List.getD_eq_getElem?_getD,List.getD_eq_getElem?_getD,List.getElem?_append_left h]
end
section
open Go.RowKit
theorem wC(w:World)(a:Nat)(g:Option Nat)(L:List Nat)(v n:Int)(h:Wr w a g L)(h0:0≤v)(hv:v < 18446744073709551616)(n0:0≤n)(n64:n≤64)(hl:(L.length:Int)+64≤8388608):
  Calls Tryz.prog 346 #[.pointer (some ⟨a,0,none⟩),.int .u64 v,.int .i64 n] w (Hy w a g (L ++ aM v.toNat n.toNat n.toNat) 0):=by
 obtain⟨v,rfl⟩:=Int.eq_ofNat_of_zero_le h0
 obtain⟨n,rfl⟩:=Int.eq_ofNat_of_zero_le n0
 exact Tc w a g L v n h (by omega) (by omega) (by omega)
theorem vM{w0 w w':World}{x:Nat}{g:Option Nat}(h:Keeps (fun _=>False) w0 w)(hk:Keeps (fun k=>k=x∨some k=g) w w')(hx:w0.heap.size≤x)(hg:∀ q,g=some q→w0.heap.size≤q): Keeps (fun _=>False) w0 w':=
 h.trans hk (fun k hk' e=>by
  rcases e with e | e
  ·omega
  ·have:=hg k e.symm;omega)
theorem uT{w0 w:World}{g g':Option Nat}(hm:Moved w g g')(hs:w0.heap.size≤w.heap.size)(hg:∀ q,g=some q→w0.heap.size≤q): ∀ q,g'=some q→w0.heap.size≤q:=by
 intro q hq
 rcases hm with h | ⟨k,h,hk⟩
 ·exact hg q (h ▸ hq)
 ·rw[hq] at h;injection h with h;omega
end
namespace D
open Go.RowKit
def cls(z:Nat): Nat:=if z=0 then 0 else if z < 128 then 1 else if z < 4096 then 2 else if z < 4294967296 then 3 else 4
def wd(k:Nat): Nat:=[0,7,12,32,64].getD k 0
def ah(k:Nat): Nat:=min (k+1) 4
theorem Aw(z:Nat): cls z≤4:=by unfold cls;split;omega;split;omega;split;omega;split<;>omega
def pO: Value:=.agg #[.int .i64 0,.int .i64 7,.int .i64 12,.int .i64 32,.int .i64 64]
theorem CW(k:Nat)(hk:k < 5)(w:World): (Instr.index 516 (.agg #[.int .i64 0,.int .i64 7,.int .i64 12,.int .i64 32,.int .i64 64]) (.int .i64 (k:Nat))).run Tryz.prog w=.ok (.int .i64 (wd k:Nat)) w:=by
 rcases(show k=0∨k=1∨k=2∨k=3∨k=4 by omega) with rfl | rfl | rfl | rfl | rfl<;>kernel_rfl
theorem sQ(w:World): Calls Tryz.prog 376 #[] w fun e w'=>e=.returned pO∧Below w.heap.size w w':=by
 go_enter Tryz.func376,Tryz.ntmps376
 go_wp2
 exact bodyPost_ret (v:=pO) (by simp[results,Tryz.results376,go_sem,pO]) rfl ⟨rfl,(Below.refl _ _).alloc (Nat.le_refl _) _⟩
theorem BJ(k:Nat)(hk:k≤4)(w:World): Calls Tryz.prog 375 #[.int .i64 (k:Nat)] w fun e w'=>e=.returned (.int .i64 (ah k:Nat))∧w=w':=by
 rcases(show k=0∨k=1∨k=2∨k=3∨k=4 by omega) with rfl | rfl | rfl | rfl | rfl
 all_goals
  go_enter Tryz.func375,Tryz.ntmps375
  go_wp2
  go_ret
  exact⟨rfl,rfl⟩
theorem xS(z:Nat)(hz:z < 18446744073709551616)(w:World):
  Calls Tryz.prog 374 #[.int .u64 (z:Nat)] w fun e w'=>e=.returned (.int .i64 (cls z:Nat))∧Below w.heap.size w w':=by
 have HZ:=zh hz
 clear hz
 go_enter Tryz.func374,Tryz.ntmps374
 go_wp2_with fail
 refine(sQ _).mono ?_
 rintro e w1 ⟨rfl,hb1⟩
 have HB:=zh hb1
 clear hb1
 unfold pO
 go_wp2_with fail
 go_loop [6] (fun i=>∃ k:Nat,k≤4∧i=.int .i64 k∧(1≤k→1≤z)∧(2≤k→128≤z)∧(3≤k→4096≤z)∧(4≤k→4294967296≤z)) (fun i=>5-(intOf i).toNat)
 case atStart=>exact ⟨0,by omega,rfl,by omega,by omega,by omega,by omega⟩
 case round=>
  obtain⟨k,hk,rfl,h1,h2,h3,h4⟩:=hrel
  rcases(show k=0∨k=1∨k=2∨k=3∨k=4 by omega) with rfl | rfl | rfl | rfl | rfl
  ·have ix:∀ w,(Instr.index 516 (.agg #[.int .i64 0,.int .i64 7,.int .i64 12,.int .i64 32,.int .i64 64]) (.int .i64 0)).run Tryz.prog w=.ok (.int .i64 0) w:=fun _=>by kernel_rfl
   by_cases hb:z < 1
   ·have d1:((z:Int) / 1 == 0)=true:=by simp;omega
    have d2:((z:Int) == 0)=decide (z=0):=by by_cases h:z=0<;>simp[h]
    have d3:z=0:=by omega
    have d4:decide (z=0)=true:=by simp[d3]
    have HD:=zh d3
    clear d3
    go_wp2_with fail
    go_ret
    refine⟨kY ?_,HB.out⟩
    have:cls z=0:=by unfold cls;have:=HD.out;repeat (first | rw[if_pos (by omega)] | rw[if_neg (by omega)])
    rw[this];rfl
   ·have d1:((z:Int) / 1 == 0)=false:=by simp;omega
    have d2:((z:Int) == 0)=false:=by simp;omega
    go_wp2_with fail
    go_round
    case rel=>exact ⟨1,by omega,rfl,by omega,by omega,by omega,by omega⟩
    case measure=>simp[intOf]
  ·have ix:∀ w,(Instr.index 516 (.agg #[.int .i64 0,.int .i64 7,.int .i64 12,.int .i64 32,.int .i64 64]) (.int .i64 1)).run Tryz.prog w=.ok (.int .i64 7) w:=fun _=>by kernel_rfl
   by_cases hb:z < 128
   ·have d1:((z:Int) / 128 == 0)=true:=by simp;omega
    have d2:((z:Int) == 0)=decide (z=0):=by by_cases h:z=0<;>simp[h]
    clear d2
    go_wp2_with fail
    go_ret
    refine⟨kY ?_,HB.out⟩
    have:cls z=1:=by unfold cls;repeat (first | rw[if_pos (by omega)] | rw[if_neg (by omega)])
    rw[this];rfl
   ·have d1:((z:Int) / 128 == 0)=false:=by simp;omega
    skip
    go_wp2_with fail
    go_round
    case rel=>exact ⟨2,by omega,rfl,by omega,by omega,by omega,by omega⟩
    case measure=>simp[intOf]
  ·have ix:∀ w,(Instr.index 516 (.agg #[.int .i64 0,.int .i64 7,.int .i64 12,.int .i64 32,.int .i64 64]) (.int .i64 2)).run Tryz.prog w=.ok (.int .i64 12) w:=fun _=>by kernel_rfl
   by_cases hb:z < 4096
   ·have d1:((z:Int) / 4096 == 0)=true:=by simp;omega
    have d2:((z:Int) == 0)=decide (z=0):=by by_cases h:z=0<;>simp[h]
    clear d2
    go_wp2_with fail
    go_ret
    refine⟨kY ?_,HB.out⟩
    have:cls z=2:=by unfold cls;repeat (first | rw[if_pos (by omega)] | rw[if_neg (by omega)])
    rw[this];rfl
   ·have d1:((z:Int) / 4096 == 0)=false:=by simp;omega
    skip
    go_wp2_with fail
    go_round
    case rel=>exact ⟨3,by omega,rfl,by omega,by omega,by omega,by omega⟩
    case measure=>simp[intOf]
  ·have ix:∀ w,(Instr.index 516 (.agg #[.int .i64 0,.int .i64 7,.int .i64 12,.int .i64 32,.int .i64 64]) (.int .i64 3)).run Tryz.prog w=.ok (.int .i64 32) w:=fun _=>by kernel_rfl
   by_cases hb:z < 4294967296
   ·have d1:((z:Int) / 4294967296 == 0)=true:=by simp;omega
    have d2:((z:Int) == 0)=decide (z=0):=by by_cases h:z=0<;>simp[h]
    clear d2
    go_wp2_with fail
    go_ret
    refine⟨kY ?_,HB.out⟩
    have:cls z=3:=by unfold cls;repeat (first | rw[if_pos (by omega)] | rw[if_neg (by omega)])
    rw[this];rfl
   ·have d1:((z:Int) / 4294967296 == 0)=false:=by simp;omega
    skip
    go_wp2_with fail
    go_round
    case rel=>exact ⟨4,by omega,rfl,by omega,by omega,by omega,by omega⟩
    case measure=>simp[intOf]
  ·have ix:∀ w,(Instr.index 516 (.agg #[.int .i64 0,.int .i64 7,.int .i64 12,.int .i64 32,.int .i64 64]) (.int .i64 4)).run Tryz.prog w=.ok (.int .i64 64) w:=fun _=>by kernel_rfl
   go_wp2_with fail
   go_ret
   refine⟨kY ?_,HB.out⟩
   have:cls z=4:=by unfold cls;repeat (first | rw[if_pos (by omega)] | rw[if_neg (by omega)])
   rw[this];rfl
end D
namespace D
open Go.RowKit
def dR(a b:Int): Int:=(a-b+9223372036854775808)%18446744073709551616-9223372036854775808
theorem gH(a b:Int): -9223372036854775808≤dR a b∧dR a b≤9223372036854775807:=by unfold dR;omega
theorem Ih(a b:Int)(w:World)(a0 : -9223372036854775808≤a)(a1:a≤9223372036854775807)(b0 : -9223372036854775808≤b)(b1:b≤9223372036854775807):
  Calls Tryz.prog 347 #[.int .i64 a,.int .i64 b] w fun e w'=>e=.returned (.int .i64 (dR a b))∧w=w':=by
 have H:=zh (zN a0 (zN a1 (zN b0 b1)))
 clear a0 a1 b0 b1
 go_enter Tryz.func347,Tryz.ntmps347
 go_wp2
 go_ret
 refine⟨kY ?_,rfl⟩
 obtain⟨a0,a1,b0,b1⟩:=H.out
 unfold dR
 unfold wrap64
 simp only[IntKind.wrap_u64]
 omega
def mk(k:Nat): Nat:=2 ^ ah k-1-(if k < 4 then 1 else 0)
def gU(z:Nat): List Nat:=aM (mk (cls z)) (ah (cls z)) (ah (cls z)) ++ aM z (wd (cls z)) (wd (cls z))
theorem Dv{k:Nat}(hk:k≤4): wd k≤64:=by
 rcases(show k=0∨k=1∨k=2∨k=3∨k=4 by omega) with rfl | rfl | rfl | rfl | rfl<;>decide
theorem Ev(z:Nat): (gU z).length=ah (cls z)+wd (cls z):=by unfold gU;rw[List.length_append,aG,aG]
theorem Pb(z:Nat): (gU z).length≤68:=by
 rw[Ev]
 have:=Dv (Aw z)
 unfold ah;omega
def PV(w:World)(a:Nat)(g:Option Nat)(L':List Nat)(e:Ending)(w':World): Prop:=
 e=.returned (.tuple #[])∧∃ g',Wr w' a g' L'∧Keeps (fun k=>k=a∨some k=g) w w'∧Moved w g g'
theorem MS{w w1 w2:World}{a:Nat}{g g1:Option Nat}(h:Keeps (fun k=>k=a∨some k=g) w w1)(hm:Moved w g g1)(k:Keeps (fun k=>k=a∨some k=g1) w1 w2): Keeps (fun k=>k=a∨some k=g) w w2:=
 h.trans k (fun x hx e=>by
  rcases e with e | e
  ·exact .inl e
  ·rcases hm with h | ⟨q,h,hq⟩
   ·exact .inr (h ▸ e)
   ·rw[h] at e;injection e with e;omega)
theorem Ol(w:World)(a:Nat)(g:Option Nat)(L:List Nat)(z:Nat)(h:Wr w a g L)(hz:z < 18446744073709551616)(hl:L.length≤4000000):
  Calls Tryz.prog 348 #[.pointer (some ⟨a,0,none⟩),.int .u64 (z:Nat)] w (PV w a g (L ++ gU z)):=by
 have HZ:=zh (zN h hz)
 clear h hz
 go_enter Tryz.func348,Tryz.ntmps348
 go_wp2_with fail
 refine(xS _ HZ.out.2 _).mono ?_
 rintro e w1 ⟨rfl,hb1⟩
 have hk:=Aw z
 obtain⟨k,hkk⟩:∃ k,k=cls z:=⟨_,rfl⟩
 rw[←hkk] at hk
 rw[←hkk]
 have hx1:=HZ.out.1.keeps (S:=fun _=>False) (Keeps.of_below hb1) (fun h=>h) (fun _ _ h=>h)
 have H1:=zh (zN hx1 (zN hb1 hkk))
 clear hx1 hb1 hkk
 have l1:1≤ah k∧ah k≤4:=by unfold ah;omega
 obtain⟨A,hA⟩:∃ A,A=ah k:=⟨_,rfl⟩
 rw[←hA] at l1
 have hpw:(2:Int) ^ A=((2 ^ A:Nat):Int):=yF A
 have hpl:2 ^ A≤2 ^ 4:=Nat.pow_le_pow_right (by omega) l1.2
 have hp1:2 ^ 1≤2 ^ A:=Nat.pow_le_pow_right (by omega) l1.1
 obtain⟨m,hm⟩:∃ m,m=mk k:=⟨_,rfl⟩
 have hmv:m=2 ^ A-1-(if k < 4 then 1 else 0):=by rw[hm];unfold mk;rw[hA]
 have hm16:m < 16:=by rw[hmv];omega
 have e1:IntKind.u64.wrap (IntKind.u64.wrap ((2:Int) ^ A)-1)=((2 ^ A-1:Nat):Int):=by
  rw[hpw,IntKind.wrap_u64,IntKind.wrap_u64];omega
 have e2:k < 4→IntKind.u64.wrap (((2 ^ A-1:Nat):Int)-1)=(m:Int):=fun h=>by
  rw[IntKind.wrap_u64,hmv,if_pos h];omega
 have e3:¬ k < 4→((2 ^ A-1:Nat):Int)=(m:Int):=fun h=>by rw[hmv,if_neg h];rfl
 obtain⟨q,hq⟩:∃ q,q=2 ^ A-1:=⟨_,rfl⟩
 rw[←hq] at e1 e2 e3
 have HM:=zh (zN hA (zN hm (zN e2 e3)))
 clear hpw hpl hp1 hm hmv e2 e3 hq
 go_wp2_with fail
 refine(BJ k hk _).mono ?_
 rintro e w2 ⟨rfl,rfl⟩
 rw[←hA]
 clear hA
 go_upto_if 13 with (fail)
 go_cut [5] (fun s5 wx=>s5=.int .u64 (m:Nat)∧w1=wx)
 case first=>
  by_cases hk4:k < 4
  ·have e2:=HM.out.2.2.1 hk4
   go_wp2_with fail
   go_meet
   exact⟨rfl,rfl⟩
  ·go_wp2_with fail
   go_meet
   rw[HM.out.2.2.2 hk4]
   exact⟨rfl,rfl⟩
 case rest=>
  obtain⟨rfl,rfl⟩:=hcut
  clear e1
  go_wp2_with fail
  refine(BJ k hk _).mono ?_
  rintro e w2 ⟨rfl,rfl⟩
  rw[←HM.out.1]
  go_wp2_with fail
  refine(wC _ _ _ _ _ _ H1.out.1 (by omega) (by omega) (by omega) (by omega) (by omega)).mono ?_
  rintro e w2 ⟨rfl,g2,hx2,hk2,hm2⟩
  rw[show ((m:Int)).toNat=m from rfl,show ((A:Int)).toNat=A from rfl] at hx2
  have hkw:Keeps (fun k=>k=a∨some k=g) w w2:=(Keeps.of_below H1.out.2.1).trans' hk2
  have hmw:Moved w g g2:=by
   rcases hm2 with h | ⟨q',h,hq'⟩
   ·exact .inl h
   ·exact .inr ⟨q',h,Nat.le_trans H1.out.2.1.size hq'⟩
  have H2:=zh (zN hx2 (zN hkw hmw))
  clear hx2 hkw hmw hk2 hm2
  go_wp2_with fail
  refine(sQ _).mono ?_
  rintro e w3 ⟨rfl,hb3⟩
  have hx3:=H2.out.1.keeps (S:=fun _=>False) (Keeps.of_below hb3) (fun h=>h) (fun _ _ h=>h)
  have H3:=zh (zN hx3 hb3)
  clear hx3 hb3
  unfold pO
  have ix:=fun w=>CW k (by omega) w
  have l2:=Dv hk
  go_wp2_with fail
  clear ix
  refine(wC _ _ _ _ _ _ H3.out.1 (by omega) (by have:=HZ.out.2;omega) (by omega) (by omega) (by rw[List.length_append,aG];omega)).mono ?_
  rintro e w4 ⟨rfl,g4,hx4,hk4,hm4⟩
  rw[show ((z:Int)).toNat=z from rfl,show ((wd k:Int)).toNat=wd k from rfl] at hx4
  have hk24:Keeps (fun k=>k=a∨some k=g2) w2 w4:=(Keeps.of_below H3.out.2).trans' hk4
  have hm24:Moved w2 g2 g4:=by
   rcases hm4 with h | ⟨q',h,hq'⟩
   ·exact .inl h
   ·exact .inr ⟨q',h,Nat.le_trans H3.out.2.size hq'⟩
  have hkw4:=MS H2.out.2.1 H2.out.2.2 hk24
  have hmw4:=H2.out.2.2.trans H2.out.2.1.size hm24
  have H4:=zh (zN hx4 (zN hkw4 hmw4))
  clear hx4 hk4 hm4 hk24 hm24 hkw4 hmw4
  go_wp2_with fail
  go_end0
  refine⟨rfl,g4,?_,H4.out.2.1,H4.out.2.2⟩
  have e:L ++ gU z=L ++ aM m A A ++ aM z (wd k) (wd k):=by
   unfold gU
   rw[←H1.out.2.2,←HM.out.1,←HM.out.2.1,List.append_assoc]
  rw[e]
  exact H4.out.1
end D
namespace D
open Go.RowKit
def st(f:Nat→Int): Nat→Int
 | 0=>0
 | 1=>0
 | k+2=>dR (f (k+1)) (f k)
def u64(n:Int): Nat:=(n%18446744073709551616).toNat
theorem zI(n:Int): u64 n < 18446744073709551616:=by unfold u64;omega
def aY(f:Nat→Int): Nat→List Nat
 | 0=>[]
 | 1=>aM (u64 (f 0)) 64 64
 | k+2=>aY f (k+1) ++ gU (zig (dR (dR (f (k+1)) (f k)) (st f (k+1))))
theorem Ov(f:Nat→Int)(k:Nat): -9223372036854775808≤st f k∧st f k≤9223372036854775807:=by
 match k with
 | 0=>exact ⟨by show _≤(0:Int);omega,by show (0:Int)≤_;omega⟩
 | 1=>exact ⟨by show _≤(0:Int);omega,by show (0:Int)≤_;omega⟩
 | k+2=>exact gH _ _
theorem oH(f:Nat→Int)(k:Nat): (aY f k).length≤64+68*k:=by
 induction k with
 | zero=>simp[aY]
 | succ k ih=>
  match k with
  | 0=>unfold aY;rw[aG];omega
  | k+1=>unfold aY;rw[List.length_append];have:=Pb (zig (dR (dR (f (k+1)) (f k)) (st f (k+1))));omega
theorem NM(z:Nat): ∀ j,(gU z).getD j 0 < 2:=by unfold gU;exact jZ (gJ _ _ _) (gJ _ _ _)
theorem qF(f:Nat→Int)(k:Nat): ∀ j,(aY f k).getD j 0 < 2:=by
 induction k with
 | zero=>intro j;simp[aY]
 | succ k ih=>
  match k with
  | 0=>unfold aY;exact gJ _ _ _
  | k+1=>unfold aY;exact jZ ih (NM _)
def RD(w:World)(bs:List Nat)(e:Ending)(w':World): Prop:=
 ∃ A c,e=.returned (.tuple #[.slice A bs.length c,.int .i64 0])∧w'.ownsRow w.heap.size 5 1 (.slice A bs.length c) bs.length (bs.map aI)∧Keeps (fun _=>False) w w'
theorem AL(w:World)(A:Option Addr)(len c:Nat)(D:Nat→Prop)(f:Nat→Int)(hsl:Sl w D A len (fun j=>.int .i64 (f j)))(hf:∀ j,-9223372036854775808≤f j∧f j≤9223372036854775807)(hlen:len≤4096):
  Calls Tryz.prog 307 #[.slice A len c] w (RD w (pack (aY f len))):=by
 have HS:=zh (zN hsl hf)
 clear hsl hf
 have d0:decide ((4096:Int) < len)=false:=by simp;omega
 go_enter Tryz.func307,Tryz.ntmps307
 go_wp2_with fail
 refine(uh _).mono ?_
 rintro e w1 ⟨rfl,hx1,hk1⟩
 obtain⟨x,hx⟩:∃ x,x=w.heap.size:=⟨_,rfl⟩
 rw[←hx] at hx1
 rw[←hx]
 have H1:=zh (zN hx1 (zN hk1 hx))
 have hxB:w.heap.size≤x:=by omega
 clear hx1 hk1 hx d0
 go_wp2_with fail
 go_loopw [5,15] (fun s i wr=>∃ (k:Nat) (g:Option Nat),k≤len∧i=.int .i64 k∧s=.int .i64 (st f k)∧Wr wr x g (aY f k)∧Keeps (fun _=>False) w wr∧(∀ q,g=some q→w.heap.size≤q))
  (fun _ i _=>len-(intOf i).toNat)
 case atStart=>exact ⟨0,none,Nat.zero_le _,rfl,rfl,H1.out.1,H1.out.2.1,fun _ h=>by cases h⟩
 case round=>
  obtain⟨k,g,hk,rfl,rfl,hxr,hkr,hgr⟩:=hrel
  by_cases hlt:k < len
  ·obtain ⟨b,off,hA,hD,hcell⟩:=(HS.out.1.keep (w':=wr) (fun q _ hq=>hkr.block q hq (fun h=>h))) (by omega)
   have ck:wr.cell? ⟨b,off+k,none⟩=some (.int .i64 (f k)):=hcell k hlt
   have hcp:1≤k→wr.cell? ⟨b,off+(k-1),none⟩=some (.int .i64 (f (k-1))):=fun h=>hcell (k-1) (by omega)
   subst hA
   have HR:=zh (zN hxr (zN hkr (zN hgr hcell)))
   clear hxr hkr hgr hcell
   have hlk:=oH f k
   rcases Nat.eq_zero_or_pos k with hk0 | hk0
   ·subst hk0
    clear hcp
    have e1:IntKind.u64.wrap (f 0)=(u64 (f 0):Int):=by rw[IntKind.wrap_u64];unfold u64;omega
    have hu:=zI (f 0)
    obtain⟨u,hu'⟩:∃ u,u=u64 (f 0):=⟨_,rfl⟩
    rw[←hu'] at e1 hu
    have HU:=zh (zN hu hu')
    clear hu hu' hlk
    rw[show ((0:Nat):Int)=0 from rfl]
    rw[Nat.add_zero] at ck
    go_wp2_with fail
    refine(wC _ _ _ _ _ _ HR.out.1 (by omega) (by have:=HU.out.1;omega) (by omega) (by omega) (by simp[aY])).mono ?_
    rintro e w2 ⟨rfl,g2,hx2,hk2,hm2⟩
    have H2:=zh (zN hx2 (zN (vM HR.out.2.1 hk2 hxB HR.out.2.2.1) (uT (w0:=w) hm2 HR.out.2.1.size HR.out.2.2.1)))
    clear hx2 hk2 hm2 e1 ck
    go_wp2_with fail
    go_roundw
    case rel=>
     refine⟨1,g2,by omega,rfl,rfl,?_,H2.out.2.1,H2.out.2.2⟩
     have:=H2.out.1
     rw[show ((u:Int)).toNat=u from rfl,show (64:Int).toNat=64 from rfl,HU.out.2] at this
     exact this
    case measure=>simp[intOf];omega
   ·obtain ⟨j,rfl⟩:∃ j,k=j+1:=⟨k-1,by omega⟩
    have cp:=hcp (by omega)
    rw[show j+1-1=j by omega] at cp
    obtain⟨r1,r2⟩:=HS.out.2 (j+1)
    obtain⟨r3,r4⟩:=HS.out.2 j
    obtain⟨a,ha⟩:∃ a,a=f (j+1):=⟨_,rfl⟩
    obtain⟨p,hp⟩:∃ p,p=f j:=⟨_,rfl⟩
    obtain⟨s,hs⟩:∃ s,s=st f (j+1):=⟨_,rfl⟩
    rw[←ha] at ck r1 r2
    rw[←hp] at cp r3 r4
    rw[←hs]
    have hsr:=Ov f (j+1)
    rw[←hs] at hsr
    have HV:=zh (zN ha (zN hp (zN hs (zN r1 (zN r2 (zN r3 (zN r4 hsr)))))))
    clear ha hp hs r1 r2 r3 r4 hsr hcp hk0
    go_wp2_with fail
    refine(Ih _ _ _ HV.out.2.2.2.1 HV.out.2.2.2.2.1 HV.out.2.2.2.2.2.1 HV.out.2.2.2.2.2.2.1).mono ?_
    rintro e w2 ⟨rfl,rfl⟩
    obtain⟨t,ht⟩:∃ t,t=dR a p:=⟨_,rfl⟩
    have htr:=gH a p
    rw[←ht] at htr
    rw[←ht]
    have HT:=zh (zN ht htr)
    clear ht htr
    go_wp2_with fail
    refine(Ih _ _ _ HT.out.2.1 HT.out.2.2 HV.out.2.2.2.2.2.2.2.1 HV.out.2.2.2.2.2.2.2.2).mono ?_
    rintro e w2 ⟨rfl,rfl⟩
    go_wp2_with fail
    refine(Ik _ _ (gH _ _).1 (gH _ _).2).mono ?_
    rintro e w2 ⟨rfl,rfl⟩
    go_wp2_with fail
    refine(Ol _ _ _ _ _ HR.out.1 (jc (gH _ _).1 (gH _ _).2) (by omega)).mono ?_
    rintro e w2 ⟨rfl,g2,hx2,hk2,hm2⟩
    have H2:=zh (zN hx2 (zN (vM HR.out.2.1 hk2 hxB HR.out.2.2.1) (uT (w0:=w) hm2 HR.out.2.1.size HR.out.2.2.1)))
    clear hx2 hk2 hm2 ck cp hlk
    go_wp2_with fail
    go_roundw
    case rel=>
     obtain⟨ha,hp,hs,-⟩:=HV.out
     have ht:=HT.out.1
     refine⟨j+2,g2,by omega,by go_num,?_,?_,H2.out.2.1,H2.out.2.2⟩
     ·rw[ht,ha,hp];rfl
     ·have:=H2.out.1
      rw[ht,ha,hp,hs] at this
      exact this
    case measure=>simp[intOf];omega
  ·obtain rfl:k=len:=by omega
   have HR:=zh (zN hxr hkr)
   clear hxr hkr hgr
   go_wp2_with fail
   refine(Et _ _ _ _ HR.out.1).mono ?_
   rintro e w2 ⟨A2,c2,rfl,ho2,hk2⟩
   have H2:=zh (zN (aU ho2 HR.out.2.size) (HR.out.2.trans' hk2))
   clear ho2 hk2
   go_wp2_with fail
   go_ret2
   exact⟨A2,c2,rfl,H2.out.1,H2.out.2⟩
end D
namespace X
def lead(u:Nat): Nat:=if u=0 then 64 else 63-Nat.log2 u
def ng: Nat→Nat→Nat
 | 0,_=>0
 | n+1,u=>if u%2=0 then ng n (u / 2)+1 else 0
def trail(u:Nat): Nat:=ng 64 u
theorem oz{u:Nat}(h0:0 < u)(h:u < 18446744073709551616): lead u≤63∧2 ^ (63-lead u)≤u∧u < 2 ^ (64-lead u):=by
 have hl:Nat.log2 u < 64:=(Nat.log2_lt (by omega)).2 h
 have hu:lead u=63-Nat.log2 u:=by unfold lead;rw[if_neg (by omega)]
 rw[hu]
 refine⟨by omega,?_,?_⟩
 ·rw[show 63-(63-Nat.log2 u)=Nat.log2 u by omega];exact Nat.log2_self_le (by omega)
 ·rw[show 64-(63-Nat.log2 u)=Nat.log2 u+1 by omega];exact Nat.lt_log2_self
theorem BN{u n:Nat}(hn:n≤63)(h1:2 ^ (63-n)≤u)(h2:u < 2 ^ (64-n)): lead u=n:=by
 have hp:0 < 2 ^ (63-n):=Nat.two_pow_pos _
 have h3:Nat.log2 u < 64-n:=(Nat.log2_lt (by omega)).2 h2
 have h4:¬ Nat.log2 u < 63-n:=fun h=>by have:=(Nat.log2_lt (by omega)).1 h;omega
 unfold lead;rw[if_neg (by omega)];omega
theorem Pv{t:Nat}(h:t≤63): lead (2 ^ t)=63-t:=by
 refine BN (by omega) ?_ ?_
 ·rw[show 63-(63-t)=t by omega];exact Nat.le_refl _
 ·exact Nat.pow_lt_pow_right (by omega) (by omega)
theorem Gz(n:Nat): ∀ u,0 < u→u < 2 ^ n→ng n u < n∧∃ m,u=2 ^ ng n u*(2*m+1):=by
 induction n with
 | zero=>intro u h0 h;simp at h;omega
 | succ n ih=>
  intro u h0 h
  rw[Nat.pow_succ] at h
  by_cases hu:u%2=0
  ·obtain ⟨h1,m,hm⟩:=ih (u / 2) (by omega) (by omega)
   have ht:ng (n+1) u=ng n (u / 2)+1:=by simp[ng,hu]
   rw[ht]
   refine⟨by omega,m,?_⟩
   rw[Nat.pow_succ,Nat.mul_comm (2 ^ _) 2,Nat.mul_assoc,←hm];omega
  ·have ht:ng (n+1) u=0:=by simp[ng,hu]
   rw[ht]
   exact⟨by omega,u / 2,by omega⟩
theorem kV{u:Nat}(h0:0 < u)(h:u < 18446744073709551616): trail u≤63∧∃ m,u=2 ^ trail u*(2*m+1):=by
 obtain⟨h1,h2⟩:=Gz 64 u h0 h
 exact⟨by unfold trail;omega,h2⟩
theorem Qa(t:Nat): ∀ s m k:Nat,2 ^ t*(2*m+1)=2 ^ s*(2*k+1)→t=s:=by
 induction t with
 | zero=>
  intro s m k h
  cases s with
  | zero=>rfl
  | succ s=>rw[Nat.pow_succ,Nat.mul_comm (2 ^ s) 2,Nat.mul_assoc] at h;generalize 2 ^ s*(2*k+1)=z at h;simp at h;omega
 | succ t ih=>
  intro s m k h
  cases s with
  | zero=>rw[Nat.pow_succ,Nat.mul_comm (2 ^ t) 2,Nat.mul_assoc] at h;generalize 2 ^ t*(2*m+1)=z at h;simp at h;omega
  | succ s=>
   rw[Nat.pow_succ,Nat.pow_succ,Nat.mul_comm (2 ^ s) 2,Nat.mul_comm (2 ^ t) 2,Nat.mul_assoc,Nat.mul_assoc] at h
   rw[ih s m k (by omega)]
theorem Ko{u t m:Nat}(h:u < 18446744073709551616)(hm:u=2 ^ t*(2*m+1)): trail u=t:=by
 have hp:0 < 2 ^ t:=Nat.two_pow_pos _
 have h0:0 < u:=by rw[hm];exact Nat.mul_pos hp (by omega)
 obtain⟨_,k,hk⟩:=kV h0 h
 exact Qa _ _ k m (hk.symm.trans hm)
theorem qJ{u:Nat}(h0:0 < u)(h:u < 18446744073709551616): lead u+trail u≤63:=by
 obtain⟨h1,h2,h3⟩:=oz h0 h
 obtain⟨h4,m,hm⟩:=kV h0 h
 have h5:2 ^ trail u≤u:=by
  calc 2 ^ trail u=2 ^ trail u*1:=by omega
   _≤2 ^ trail u*(2*m+1):=Nat.mul_le_mul_left _ (by omega)
   _=u:=hm.symm
 have h6:trail u < 64-lead u:=(Nat.pow_lt_pow_iff_right (by omega:1 < 2)).1 (Nat.lt_of_le_of_lt h5 h3)
 omega
theorem L8{n m:Nat}(h:m < 2 ^ n): m &&& (2 ^ n-(m+1))=0:=by
 apply Nat.eq_of_testBit_eq
 intro i
 rw[Nat.testBit_and,Nat.testBit_two_pow_sub_succ h,Nat.zero_testBit]
 cases Nat.testBit m i<;>simp
theorem RF(m k:Nat): (2*m+1) &&& (2*k+1)=2*(m &&& k)+1:=by
 apply Nat.eq_of_testBit_eq
 intro i
 cases i with
 | zero=>simp[Nat.testBit_zero]
 | succ i=>rw[Nat.testBit_and,Nat.testBit_succ,Nat.testBit_succ,Nat.testBit_succ,show (2*m+1) / 2=m by omega,show (2*k+1) / 2=k by omega,show (2*(m &&& k)+1) / 2=m &&& k by omega,Nat.testBit_and]
theorem QW{u:Nat}(h0:0 < u)(h:u < 18446744073709551616): u &&& (18446744073709551616-u)=2 ^ trail u:=by
 obtain⟨h4,m,hm⟩:=kV h0 h
 generalize trail u=t at h4 hm
 have hp:0 < 2 ^ t:=Nat.two_pow_pos _
 have h64:18446744073709551616=2 ^ t*(2*2 ^ (63-t)):=by
  rw[show 2*2 ^ (63-t)=2 ^ (64-t) by rw[←Nat.pow_succ'];congr 1;omega,←Nat.pow_add,show t+(64-t)=64 by omega]
 have hm':m < 2 ^ (63-t):=by
  have h7:2 ^ t*(2*m+1) < 2 ^ t*(2*2 ^ (63-t)):=by rw[←h64,←hm];exact h
  have:=Nat.lt_of_mul_lt_mul_left h7
  omega
 have hk:18446744073709551616-u=2 ^ t*(2*(2 ^ (63-t)-(m+1))+1):=by
  rw[h64,hm,←Nat.mul_sub];congr 1;omega
 rw[hk,hm,Nat.mul_comm (2 ^ t),Nat.mul_comm (2 ^ t),←Nat.shiftLeft_eq,←Nat.shiftLeft_eq,←Nat.shiftLeft_and_distrib,RF,L8 hm',Nat.shiftLeft_eq]
 omega
end X
namespace X
open Go.RowKit
def AJ: Value:=.agg #[.int .i64 32,.int .i64 16,.int .i64 8,.int .i64 4,.int .i64 2,.int .i64 1]
def Sn(k:Nat): Nat:=[1,4294967296,281474976710656,72057594037927936,1152921504606846976,4611686018427387904,9223372036854775808].getD k 0
def OD(k:Nat): Nat:=[0,32,48,56,60,62,63].getD k 0
theorem xW{a b:Int}(h:a=b): Ending.returned (.int .i64 a)=.returned (.int .i64 b):=by rw[h]
theorem Na(w:World): Calls Tryz.prog 400 #[] w fun e w'=>e=.returned AJ∧Below w.heap.size w w':=by
 go_enter Tryz.func400,Tryz.ntmps400
 go_wp2
 exact bodyPost_ret (v:=AJ) (by simp[results,Tryz.results400,go_sem,AJ]) rfl ⟨rfl,(Below.refl _ _).alloc (Nat.le_refl _) _⟩
theorem BS(u:Nat)(hu:u < 18446744073709551616)(w:World):
  Calls Tryz.prog 377 #[.int .u64 (u:Nat)] w fun e w'=>e=.returned (.int .i64 (lead u:Nat))∧Below w.heap.size w w':=by
 by_cases h0:u=0
 ·subst h0
  go_enter Tryz.func377,Tryz.ntmps377
  go_wp2
  go_ret
  exact⟨rfl,Below.refl _ _⟩
 have HU:=zh (zN hu h0)
 have d0:((u:Int) == 0)=false:=by simp;omega
 clear hu h0
 go_enter Tryz.func377,Tryz.ntmps377
 go_wp2_with fail
 refine(Na _).mono ?_
 rintro e w1 ⟨rfl,hb1⟩
 have HB:=zh hb1
 clear hb1
 unfold AJ
 go_wp2_with fail
 go_loop [0,3,9] (fun a b i=>∃ k n v:Nat,k≤6∧a=.int .u64 (v:Nat)∧b=.int .i64 (n:Nat)∧i=.int .i64 (k:Nat)∧v=u*2 ^ n∧v < 18446744073709551616∧Sn k≤v∧n≤OD k) (fun _ _ i=>6-(intOf i).toNat)
 case atStart=>exact ⟨0,0,u,by omega,rfl,rfl,rfl,by omega,HU.out.1,by have:=HU.out.2;show 1≤u;omega,Nat.le_refl _⟩
 case round=>
  obtain⟨k,n,v,hk,rfl,rfl,rfl,hv,hlt,hlo,hn⟩:=hrel
  have HV:=zh hv
  clear hv
  rcases(show k=0∨k=1∨k=2∨k=3∨k=4∨k=5∨k=6 by omega) with rfl | rfl | rfl | rfl | rfl | rfl | rfl
  ·have hlo':1≤v:=hlo
   have hn':n≤0:=hn
   clear hlo hn
   have ix:∀ w,(Instr.index 537 (.agg #[.int .i64 32,.int .i64 16,.int .i64 8,.int .i64 4,.int .i64 2,.int .i64 1]) (.int .i64 0)).run Tryz.prog w=.ok (.int .i64 32) w:=fun _=>by kernel_rfl
   by_cases hb:v < 4294967296
   ·have d1:((v:Int) / 4294967296 == 0)=true:=by simp;omega
    go_wp2_with fail
    go_round
    case rel=>
     refine⟨1,n+32,v*4294967296,by omega,by congr 1,?_,rfl,?_,by omega,by show 4294967296≤v*4294967296;omega,by show n+32≤32;omega⟩
     ·congr 1
     ·rw[Nat.pow_add,←Nat.mul_assoc,←HV.out]
    case measure=>simp[intOf]
   ·have d1:((v:Int) / 4294967296 == 0)=false:=by simp;omega
    go_wp2_with fail
    go_round
    case rel=>exact ⟨1,n,v,by omega,rfl,rfl,rfl,HV.out,hlt,by show 4294967296≤v;omega,by show n≤32;omega⟩
    case measure=>simp[intOf]
  ·have hlo':4294967296≤v:=hlo
   have hn':n≤32:=hn
   clear hlo hn
   have ix:∀ w,(Instr.index 537 (.agg #[.int .i64 32,.int .i64 16,.int .i64 8,.int .i64 4,.int .i64 2,.int .i64 1]) (.int .i64 1)).run Tryz.prog w=.ok (.int .i64 16) w:=fun _=>by kernel_rfl
   by_cases hb:v < 281474976710656
   ·have d1:((v:Int) / 281474976710656 == 0)=true:=by simp;omega
    go_wp2_with fail
    go_round
    case rel=>
     refine⟨2,n+16,v*65536,by omega,by congr 1,?_,rfl,?_,by omega,by show 281474976710656≤v*65536;omega,by show n+16≤48;omega⟩
     ·congr 1
     ·rw[Nat.pow_add,←Nat.mul_assoc,←HV.out]
    case measure=>simp[intOf]
   ·have d1:((v:Int) / 281474976710656 == 0)=false:=by simp;omega
    go_wp2_with fail
    go_round
    case rel=>exact ⟨2,n,v,by omega,rfl,rfl,rfl,HV.out,hlt,by show 281474976710656≤v;omega,by show n≤48;omega⟩
    case measure=>simp[intOf]
  ·have hlo':281474976710656≤v:=hlo
   have hn':n≤48:=hn
   clear hlo hn
   have ix:∀ w,(Instr.index 537 (.agg #[.int .i64 32,.int .i64 16,.int .i64 8,.int .i64 4,.int .i64 2,.int .i64 1]) (.int .i64 2)).run Tryz.prog w=.ok (.int .i64 8) w:=fun _=>by kernel_rfl
   by_cases hb:v < 72057594037927936
   ·have d1:((v:Int) / 72057594037927936 == 0)=true:=by simp;omega
    go_wp2_with fail
    go_round
    case rel=>
     refine⟨3,n+8,v*256,by omega,by congr 1,?_,rfl,?_,by omega,by show 72057594037927936≤v*256;omega,by show n+8≤56;omega⟩
     ·congr 1
     ·rw[Nat.pow_add,←Nat.mul_assoc,←HV.out]
    case measure=>simp[intOf]
   ·have d1:((v:Int) / 72057594037927936 == 0)=false:=by simp;omega
    go_wp2_with fail
    go_round
    case rel=>exact ⟨3,n,v,by omega,rfl,rfl,rfl,HV.out,hlt,by show 72057594037927936≤v;omega,by show n≤56;omega⟩
    case measure=>simp[intOf]
  ·have hlo':72057594037927936≤v:=hlo
   have hn':n≤56:=hn
   clear hlo hn
   have ix:∀ w,(Instr.index 537 (.agg #[.int .i64 32,.int .i64 16,.int .i64 8,.int .i64 4,.int .i64 2,.int .i64 1]) (.int .i64 3)).run Tryz.prog w=.ok (.int .i64 4) w:=fun _=>by kernel_rfl
   by_cases hb:v < 1152921504606846976
   ·have d1:((v:Int) / 1152921504606846976 == 0)=true:=by simp;omega
    go_wp2_with fail
    go_round
    case rel=>
     refine⟨4,n+4,v*16,by omega,by congr 1,?_,rfl,?_,by omega,by show 1152921504606846976≤v*16;omega,by show n+4≤60;omega⟩
     ·congr 1
     ·rw[Nat.pow_add,←Nat.mul_assoc,←HV.out]
    case measure=>simp[intOf]
   ·have d1:((v:Int) / 1152921504606846976 == 0)=false:=by simp;omega
    go_wp2_with fail
    go_round
    case rel=>exact ⟨4,n,v,by omega,rfl,rfl,rfl,HV.out,hlt,by show 1152921504606846976≤v;omega,by show n≤60;omega⟩
    case measure=>simp[intOf]
  ·have hlo':1152921504606846976≤v:=hlo
   have hn':n≤60:=hn
   clear hlo hn
   have ix:∀ w,(Instr.index 537 (.agg #[.int .i64 32,.int .i64 16,.int .i64 8,.int .i64 4,.int .i64 2,.int .i64 1]) (.int .i64 4)).run Tryz.prog w=.ok (.int .i64 2) w:=fun _=>by kernel_rfl
   by_cases hb:v < 4611686018427387904
   ·have d1:((v:Int) / 4611686018427387904 == 0)=true:=by simp;omega
    go_wp2_with fail
    go_round
    case rel=>
     refine⟨5,n+2,v*4,by omega,by congr 1,?_,rfl,?_,by omega,by show 4611686018427387904≤v*4;omega,by show n+2≤62;omega⟩
     ·congr 1
     ·rw[Nat.pow_add,←Nat.mul_assoc,←HV.out]
    case measure=>simp[intOf]
   ·have d1:((v:Int) / 4611686018427387904 == 0)=false:=by simp;omega
    go_wp2_with fail
    go_round
    case rel=>exact ⟨5,n,v,by omega,rfl,rfl,rfl,HV.out,hlt,by show 4611686018427387904≤v;omega,by show n≤62;omega⟩
    case measure=>simp[intOf]
  ·have hlo':4611686018427387904≤v:=hlo
   have hn':n≤62:=hn
   clear hlo hn
   have ix:∀ w,(Instr.index 537 (.agg #[.int .i64 32,.int .i64 16,.int .i64 8,.int .i64 4,.int .i64 2,.int .i64 1]) (.int .i64 5)).run Tryz.prog w=.ok (.int .i64 1) w:=fun _=>by kernel_rfl
   by_cases hb:v < 9223372036854775808
   ·have d1:((v:Int) / 9223372036854775808 == 0)=true:=by simp;omega
    go_wp2_with fail
    go_round
    case rel=>
     refine⟨6,n+1,v*2,by omega,by congr 1,?_,rfl,?_,by omega,by show 9223372036854775808≤v*2;omega,by show n+1≤63;omega⟩
     ·congr 1
     ·rw[Nat.pow_add,←Nat.mul_assoc,←HV.out]
    case measure=>simp[intOf]
   ·have d1:((v:Int) / 9223372036854775808 == 0)=false:=by simp;omega
    go_wp2_with fail
    go_round
    case rel=>exact ⟨6,n,v,by omega,rfl,rfl,rfl,HV.out,hlt,by show 9223372036854775808≤v;omega,by show n≤63;omega⟩
    case measure=>simp[intOf]
  ·have hlo':9223372036854775808≤v:=hlo
   have hn':n≤63:=hn
   clear hlo hn
   go_wp2_with fail
   go_ret
   refine⟨xW ?_,HB.out⟩
   have hv:=HV.out
   have hp:2 ^ (63-n)*2 ^ n=9223372036854775808:=by rw[←Nat.pow_add,show 63-n+n=63 by omega]
   have hq:2 ^ (64-n)*2 ^ n=18446744073709551616:=by rw[←Nat.pow_add,show 64-n+n=64 by omega]
   have hpos:0 < 2 ^ n:=Nat.two_pow_pos n
   have:lead u=n:=BN hn' (Nat.le_of_mul_le_mul_right (by rw[hp,←hv];exact hlo') hpos) (Nat.lt_of_mul_lt_mul_right (a:=2 ^ n) (by rw[hq,←hv];exact hlt))
   rw[this]
theorem IY(u:Nat)(hu:u < 18446744073709551616)(w:World):
  Calls Tryz.prog 378 #[.int .u64 (u:Nat)] w fun e w'=>e=.returned (.int .i64 (trail u:Nat))∧Below w.heap.size w w':=by
 by_cases h0:u=0
 ·subst h0
  go_enter Tryz.func378,Tryz.ntmps378
  go_wp2
  go_ret
  exact⟨rfl,Below.refl _ _⟩
 obtain⟨ht,m,hm⟩:=kV (by omega) hu
 clear hm
 have d0:((u:Int) == 0)=false:=by simp;omega
 have hlow:bits .and .u64 (u:Int) (IntKind.u64.wrap (-(u:Int)))=((2 ^ trail u:Nat):Int):=by
  rw[IntKind.wrap_u64,show -(u:Int)%18446744073709551616=((18446744073709551616-u:Nat):Int) by omega,u64_and_nat _ _ hu (by omega),QW (by omega) hu]
 have hc:=BS (2 ^ trail u) (show 2 ^ trail u < 2 ^ 64 from Nat.pow_lt_pow_right (by omega) (by omega))
 rw[Pv ht] at hc
 have HT:=zh (zN hu h0)
 clear hu h0
 go_enter Tryz.func378,Tryz.ntmps378
 go_wp2_with fail
 rw[show ((2:Int) ^ trail u)=((2 ^ trail u:Nat):Int) by simp]
 refine(hc _).mono ?_
 rintro e w1 ⟨rfl,hb1⟩
 have HB:=zh hb1
 clear hb1
 go_wp2_with fail
 go_ret
 exact⟨xW (by first | omega | (simp only[IntKind.wrap_i64];omega)),HB.out⟩
end X
namespace X
open Go.RowKit
theorem JH{w w1:World}{t:TypeId}{cs:Array Value}(hb:Below (w.alloc (.cells cs t)).heap.size (w.alloc (.cells cs t)) w1): au w1 w.heap.size t cs∧Below w.heap.size w w1:=
 ⟨(au.fresh w t cs).below hb (by simp),((Below.refl w.heap.size w).alloc (Nat.le_refl _) _).trans (hb.mono (by simp))⟩
theorem _root_.Go.Proofs.YtmffkpkgbdcnjaaGreatDoor.au.set2{w:World}{g:Nat}{t:TypeId}{a b:Value}(h:au w g t #[a,b])(x y:Value): au ((w.setCell ⟨g,0,none⟩ x).setCell ⟨g,1,none⟩ y) g t #[x,y]:=by
 simpa using (h.set 0 x).set 1 y
theorem JD{B:Nat}{w w':World}{g:Nat}(h:Below B w w')(hg:B≤g)(x y:Value): Below B w ((w'.setCell ⟨g,0,none⟩ x).setCell ⟨g,1,none⟩ y):=
 (h.setCell (by simpa using hg) _).setCell (by simpa using hg) _
theorem nT(w:World): Calls Tryz.prog 350 #[] w fun e w'=>e=.returned (.agg #[.int .i64 (-1),.int .i64 (-1)])∧Below w.heap.size w w':=by
 go_enter Tryz.func350,Tryz.ntmps350
 go_wp2
 exact bodyPost_ret (v:=.agg #[.int .i64 (-1),.int .i64 (-1)]) (by simp[results,Tryz.results350,go_sem]) rfl ⟨rfl,(Below.refl _ _).alloc (Nat.le_refl _) _⟩
theorem pF(l t:Nat)(h:l+t≤64)(w:World): Calls Tryz.prog 353 #[.agg #[.int .i64 (l:Nat),.int .i64 (t:Nat)]] w fun e w'=>e=.returned (.int .i64 ((64-l-t:Nat):Int))∧Below w.heap.size w w':=by
 have bel:=((Below.refl w.heap.size w).alloc (Nat.le_refl _) (.cells #[.int .i64 (l:Nat),.int .i64 (t:Nat)] 490))
 have HB:=zh bel
 clear bel
 go_enter Tryz.func353,Tryz.ntmps353
 go_wp2_with fail
 go_ret
 exact⟨xW (by omega),HB.out⟩
theorem MJ(u:Nat)(hu:u < 18446744073709551616)(w:World): Calls Tryz.prog 351 #[.int .u64 (u:Nat)] w fun e w'=>e=.returned (.agg #[.int .i64 (lead u:Nat),.int .i64 (trail u:Nat)])∧Below w.heap.size w w':=by
 have HU:=zh hu
 clear hu
 obtain⟨x,hx⟩:∃ x,x=w.heap.size:=⟨_,rfl⟩
 have HX:=zh hx
 go_enter Tryz.func351,Tryz.ntmps351
 go_wp2_with fail
 refine(BS u HU.out _).mono ?_
 rintro e w1 ⟨rfl,hb1⟩
 obtain⟨k1,g1⟩:=JH hb1
 clear hb1
 have H1:=zh (zN k1 g1)
 clear k1 g1
 go_wp2_with fail
 refine(IY u HU.out _).mono ?_
 rintro e w2 ⟨rfl,hb2⟩
 have b0:=H1.out.1.below hb2 H1.out.1.lt
 have bel:=H1.out.2.trans (hb2.mono H1.out.2.size)
 rw[←hx] at b0
 rw[←hx]
 have f0:=b0.frozen
 have p0:=b0.cell 0
 have p1:=b0.cell 1
 simp at p0 p1
 have HB:=zh (zN b0 (zN bel hx))
 clear hb2 b0 bel hx
 go_wp2_with fail
 have b2:=HB.out.1.set2 (.int .i64 (lead u:Nat)) (.int .i64 (trail u:Nat))
 have bel2:=JD (g:=x) HB.out.2.1 (by have:=HB.out.2.2;omega) (.int .i64 (lead u:Nat)) (.int .i64 (trail u:Nat))
 generalize ((w2.setCell ⟨x,0,none⟩ (.int .i64 (lead u:Nat))).setCell ⟨x,1,none⟩ (.int .i64 (trail u:Nat)))=w3 at b2 bel2 ⊢
 have r0:=b2.cell 0
 have r1:=b2.cell 1
 simp at r0 r1
 exact bodyPost_ret (v:=.agg #[.int .i64 (lead u:Nat),.int .i64 (trail u:Nat)]) (by simp[results,Tryz.results351,go_sem,r0,r1]) rfl ⟨rfl,bel2⟩
def WR(x:Nat)(l t y z:Int)(w:World): Prop:=
 w.cell? ⟨x,0,none⟩=some (.int .i64 l)∧w.cell? ⟨x,1,none⟩=some (.int .i64 t)∧w.cell? ⟨x+1,0,none⟩=some (.int .i64 y)∧w.cell? ⟨x+1,1,none⟩=some (.int .i64 z)
theorem Du{x:Nat}{l t y z:Int}{w:World}{T:TypeId}(h:au w x T #[.int .i64 l,.int .i64 t])(h':au w (x+1) T #[.int .i64 y,.int .i64 z]): WR x l t y z w:=by
 have p0:=h.cell 0
 have p1:=h.cell 1
 have q0:=h'.cell 0
 have q1:=h'.cell 1
 simp at p0 p1 q0 q1
 exact⟨p0,p1,q0,q1⟩
theorem PK(y z:Int)(w:World): Calls Tryz.prog 352 #[.agg #[.int .i64 (-1),.int .i64 (-1)],.agg #[.int .i64 y,.int .i64 z]] w fun e w'=>e=.returned (.bool false)∧Below w.heap.size w w':=by
 obtain⟨x,hx⟩:∃ x,x=w.heap.size:=⟨_,rfl⟩
 obtain⟨W,hW⟩:∃ W,W=(w.alloc (.cells #[.int .i64 (-1),.int .i64 (-1)] 490)).alloc (.cells #[.int .i64 y,.int .i64 z] 490):=⟨_,rfl⟩
 have b0:au W x 490 #[.int .i64 (-1),.int .i64 (-1)]:=by rw[hx,hW];exact (au.fresh w _ _).alloc _
 have b1:au W (x+1) 490 #[.int .i64 y,.int .i64 z]:=by
  rw[hx,hW]
  have h:=au.fresh (w.alloc (.cells #[.int .i64 (-1),.int .i64 (-1)] 490)) 490 #[.int .i64 y,.int .i64 z]
  simpa using h
 have bel:Below x w W:=by rw[hx,hW];exact ((Below.refl w.heap.size w).alloc (Nat.le_refl _) _).alloc (by simp) _
 have HB:=zh (zN b0 (zN b1 (zN bel hx)))
 clear b0 b1 bel
 go_enter Tryz.func352,Tryz.ntmps352
 go_wp2_with fail
 rw[←hW,←hx]
 clear hW hx
 have hS:(WR x (-1) (-1) y z) (W.drew):=Du HB.out.1.drew HB.out.2.1.drew
 refine av (WR x (-1) (-1) y z) (by kernel_rfl) hS ?_
 refine zT 0 ?_ ?_ hS ?_
 rotate_left
 ·(intro w' hSw;obtain ⟨p0,p1,q0,q1⟩:=hSw;go_simp<;>with_reducible rfl)
 try simp only[zP]
 refine zC 1 fun K HK=>?_
 go_simp
 refine(nT W.drew).mono ?_
 rintro e w1 ⟨rfl,hb1⟩
 have r1:WR x (-1) (-1) y z w1:=Du (HB.out.1.drew.below hb1 HB.out.1.drew.lt) (HB.out.2.1.drew.below hb1 HB.out.2.1.drew.lt)
 have bel1:Below w.heap.size w w1:=by
  have h:=HB.out.2.2.1.drew
  rw[HB.out.2.2.2] at h
  exact h.trans (hb1.mono h.size)
 have H1:=zh (zN r1 bel1)
 clear hb1 r1 bel1
 go_wp2_with fail
 refine HK.out.zt (WR x (-1) (-1) y z) (fun _ h=>h) (H1.out.1) ?_
 clear HK hS
 intro hS
 try simp only[zP]
 refine zB [2,3] ?_
 iterate 2 (refine zV ?_ ?_ hS ?_;rotate_left;(intro w' hSw;go_simp<;>with_reducible rfl);try simp only[zP])
 refine zE ?_
 refine zB [4,5,6,7,8] ?_
 iterate 5 (refine zW hS ?_;try simp only[zP])
 refine zE ?_
 refine zB [9,10] ?_
 iterate 2 (refine zV ?_ ?_ hS ?_;rotate_left;(intro w' hSw;go_simp<;>with_reducible rfl);try simp only[zP])
 refine zE ?_
 refine zB [11,12,13,14,15] ?_
 iterate 5 (refine zW hS ?_;try simp only[zP])
 refine zE ?_
 refine zB [16,17] ?_
 iterate 2 (refine zV ?_ ?_ hS ?_;rotate_left;(intro w' hSw;go_simp<;>with_reducible rfl);try simp only[zP])
 refine zE ?_
 refine zD ?_
 try simp only[zP]
 go_wp2_with fail
 go_ret
 exact⟨rfl,H1.out.2⟩
theorem QY(l t:Nat)(y z:Int)(w:World): Calls Tryz.prog 352 #[.agg #[.int .i64 (l:Nat),.int .i64 (t:Nat)],.agg #[.int .i64 y,.int .i64 z]] w fun e w'=>e=.returned (.bool (decide ((l:Int)≤y) && decide ((t:Int)≤z)))∧Below w.heap.size w w':=by
 have hl:¬ ((l:Int) = -1):=by omega
 obtain⟨x,hx⟩:∃ x,x=w.heap.size:=⟨_,rfl⟩
 obtain⟨W,hW⟩:∃ W,W=(w.alloc (.cells #[.int .i64 (l:Nat),.int .i64 (t:Nat)] 490)).alloc (.cells #[.int .i64 y,.int .i64 z] 490):=⟨_,rfl⟩
 have b0:au W x 490 #[.int .i64 (l:Nat),.int .i64 (t:Nat)]:=by rw[hx,hW];exact (au.fresh w _ _).alloc _
 have b1:au W (x+1) 490 #[.int .i64 y,.int .i64 z]:=by
  rw[hx,hW]
  have h:=au.fresh (w.alloc (.cells #[.int .i64 (l:Nat),.int .i64 (t:Nat)] 490)) 490 #[.int .i64 y,.int .i64 z]
  simpa using h
 have bel:Below x w W:=by rw[hx,hW];exact ((Below.refl w.heap.size w).alloc (Nat.le_refl _) _).alloc (by simp) _
 have HB:=zh (zN b0 (zN b1 (zN bel hx)))
 clear b0 b1 bel
 go_enter Tryz.func352,Tryz.ntmps352
 go_wp2_with fail
 rw[←hW,←hx]
 clear hW hx
 have hS:(WR x (l:Nat) (t:Nat) y z) (W.drew):=Du HB.out.1.drew HB.out.2.1.drew
 refine av (WR x (l:Nat) (t:Nat) y z) (by kernel_rfl) hS ?_
 refine zT 0 ?_ ?_ hS ?_
 rotate_left
 ·(intro w' hSw;obtain ⟨p0,p1,q0,q1⟩:=hSw;go_simp<;>with_reducible rfl)
 try simp only[zP]
 refine zC 1 fun K HK=>?_
 go_simp
 refine(nT W.drew).mono ?_
 rintro e w1 ⟨rfl,hb1⟩
 have r1:WR x (l:Nat) (t:Nat) y z w1:=Du (HB.out.1.drew.below hb1 HB.out.1.drew.lt) (HB.out.2.1.drew.below hb1 HB.out.2.1.drew.lt)
 have bel1:Below w.heap.size w w1:=by
  have h:=HB.out.2.2.1.drew
  rw[HB.out.2.2.2] at h
  exact h.trans (hb1.mono h.size)
 have H1:=zh (zN r1 bel1)
 clear hb1 r1 bel1
 go_wp2_with fail
 refine HK.out.zt (WR x (l:Nat) (t:Nat) y z) (fun _ h=>h) (H1.out.1) ?_
 clear HK hS
 intro hS
 try simp only[zP]
 refine zB [2,3] ?_
 iterate 2 (refine zV ?_ ?_ hS ?_;rotate_left;(intro w' hSw;go_simp<;>with_reducible rfl);try simp only[zP])
 refine zE ?_
 by_cases h1:(l:Int)≤y
 ·have d1:decide ((l:Int)≤y)=true:=by simp[h1]
  clear h1
  refine zB [4,5,6,7,8] ?_
  iterate 5 (refine zV ?_ ?_ hS ?_;rotate_left;(intro w' hSw;obtain ⟨p0,p1,q0,q1⟩:=hSw;go_simp<;>with_reducible rfl);try simp only[zP])
  refine zE ?_
  refine zB [9,10] ?_
  iterate 2 (refine zV ?_ ?_ hS ?_;rotate_left;(intro w' hSw;go_simp<;>with_reducible rfl);try simp only[zP])
  refine zE ?_
  refine zB [11,12,13,14,15] ?_
  iterate 5 (refine zV ?_ ?_ hS ?_;rotate_left;(intro w' hSw;obtain ⟨p0,p1,q0,q1⟩:=hSw;go_simp<;>with_reducible rfl);try simp only[zP])
  refine zE ?_
  refine zB [16,17] ?_
  iterate 2 (refine zV ?_ ?_ hS ?_;rotate_left;(intro w' hSw;go_simp<;>with_reducible rfl);try simp only[zP])
  refine zE ?_
  refine zD ?_
  try simp only[zP]
  go_wp2_with fail
  go_ret
  exact⟨by rw[d1,Bool.true_and];rfl,H1.out.2⟩
 ·have d1:decide ((l:Int)≤y)=false:=by simp;omega
  clear h1
  refine zB [4,5,6,7,8] ?_
  iterate 5 (refine zV ?_ ?_ hS ?_;rotate_left;(intro w' hSw;obtain ⟨p0,p1,q0,q1⟩:=hSw;go_simp<;>with_reducible rfl);try simp only[zP])
  refine zE ?_
  refine zB [9,10] ?_
  iterate 2 (refine zV ?_ ?_ hS ?_;rotate_left;(intro w' hSw;go_simp<;>with_reducible rfl);try simp only[zP])
  refine zE ?_
  refine zB [11,12,13,14,15] ?_
  iterate 5 (refine zW hS ?_;try simp only[zP])
  refine zE ?_
  refine zB [16,17] ?_
  iterate 2 (refine zV ?_ ?_ hS ?_;rotate_left;(intro w' hSw;go_simp<;>with_reducible rfl);try simp only[zP])
  refine zE ?_
  refine zD ?_
  try simp only[zP]
  go_wp2_with fail
  go_ret
  exact⟨by rw[d1,Bool.false_and];rfl,H1.out.2⟩
end X
section
open Go.RowKit
theorem RP: dL Tryz.prog 62 3 (.int .i64 0) 8:=dL.mk' Tryz.underlying62 rfl (by kernel_rfl)
end
section
open Go.RowKit
end
section
open Go.RowKit
theorem Rd.below{w w':World}{r:Nat}{D:Nat→Prop}{bs:List Nat}{a en:Nat}(h:Rd w r D bs a en)(hb:Below w.heap.size w w'): Rd w' r D bs a en:=
 h.keeps (S:=fun _=>False) (Keeps.of_below hb) (fun h=>h) (fun _ _ h=>h)
end
namespace X
open Go.RowKit
def fits(o:Option (Nat × Nat))(x:Nat): Bool:=match o with
 | none=>false
 | some p=>decide (p.1≤lead x) && decide (p.2≤trail x)
def iL(o:Option (Nat × Nat))(x:Nat): Option (Nat × Nat):=if x=0 then o else if fits o x=true then o else some (lead x,trail x)
def TR(o:Option (Nat × Nat)): Nat × Nat:=o.getD (0,0)
def zS(o:Option (Nat × Nat))(x:Nat): List Nat:=
 if fits o x=true then aM 2 2 2 else (aM 3 2 2 ++ aM (lead x) 6 6) ++ aM (64-lead x-trail x-1) 6 6
def JZ(p:Nat × Nat)(x:Nat): List Nat:=aM (x / 2 ^ p.2) (64-p.1-p.2) (64-p.1-p.2)
def fB(o:Option (Nat × Nat))(x:Nat): List Nat:=if x=0 then aM 0 1 1 else zS o x ++ JZ (TR (iL o x)) x
def gF(f:Nat→Nat): Nat→Option (Nat × Nat)
 | 0=>none
 | 1=>none
 | k+2=>iL (gF f (k+1)) (f (k+1) ^^^ f k)
def aV(f:Nat→Nat): Nat→List Nat
 | 0=>[]
 | 1=>aM (f 0) 64 64
 | k+2=>aV f (k+1) ++ fB (gF f (k+1)) (f (k+1) ^^^ f k)
theorem NV(o:Option (Nat × Nat))(x:Nat): (fB o x).length≤78:=by
 unfold fB zS JZ
 split
 ·rw[aG];omega
 ·rw[List.length_append,aG];split
  ·rw[aG];omega
  ·rw[List.length_append,List.length_append,aG,aG,aG];omega
theorem KP(o:Option (Nat × Nat))(x:Nat): ∀ j,(fB o x).getD j 0 < 2:=by
 unfold fB zS JZ
 split
 ·exact gJ _ _ _
 ·refine jZ ?_ (gJ _ _ _)
  split
  ·exact gJ _ _ _
  ·exact jZ (jZ (gJ _ _ _) (gJ _ _ _)) (gJ _ _ _)
theorem sD(f:Nat→Nat)(k:Nat): (aV f k).length≤64+78*k:=by
 induction k with
 | zero=>simp[aV]
 | succ k ih=>
  match k with
  | 0=>unfold aV;rw[aG];omega
  | k+1=>unfold aV;rw[List.length_append];have:=NV (gF f (k+1)) (f (k+1) ^^^ f k);omega
theorem sK(f:Nat→Nat)(k:Nat): ∀ j,(aV f k).getD j 0 < 2:=by
 induction k with
 | zero=>intro j;simp[aV]
 | succ k ih=>
  match k with
  | 0=>unfold aV;exact gJ _ _ _
  | k+1=>unfold aV;exact jZ ih (KP _ _)
theorem vJ{a b:Nat}(ha:a < 18446744073709551616)(hb:b < 18446744073709551616): a ^^^ b < 18446744073709551616:=Nat.xor_lt_two_pow (n:=64) ha hb
def lW(o:Option (Nat × Nat)): Prop:=∀ p,o=some p→p.1+p.2≤63
theorem Qq{o:Option (Nat × Nat)}{x:Nat}(h:lW o)(hx:x < 18446744073709551616): lW (iL o x):=by
 intro p hp
 unfold iL at hp
 split at hp
 ·exact h p hp
 ·split at hp
  ·exact h p hp
  ·injection hp with hp;subst hp;exact qJ (by omega) hx
theorem BH{f:Nat→Nat}(hf:∀ j,f j < 18446744073709551616)(k:Nat): lW (gF f k):=by
 induction k with
 | zero=>intro p hp;cases hp
 | succ k ih=>
  match k with
  | 0=>intro p hp;cases hp
  | k+1=>exact Qq ih (vJ (hf _) (hf _))
def uR(o:Option (Nat × Nat)): Array Value:=match o with
 | none=>#[.int .i64 (-1),.int .i64 (-1)]
 | some p=>#[.int .i64 (p.1:Nat),.int .i64 (p.2:Nat)]
structure ES(w:World)(x y:Nat)(g:Option Nat)(L:List Nat)(o:Option (Nat × Nat))(wr:World): Prop where
 out:Wr wr x g L
 win:au wr y 490 (uR o)
 keeps:Keeps (fun _=>False) w wr
 own:∀ q,g=some q→w.heap.size≤q
 hx:w.heap.size≤x
 hy:w.heap.size≤y
def O5(w:World)(x y:Nat)(L:List Nat)(o:Option (Nat × Nat))(e:Ending)(w':World): Prop:=
 e=.returned (.int .i64 0)∧∃ g,ES w x y g L o w'
theorem oo{w wr:World}{x y:Nat}{g:Option Nat}{L:List Nat}{o:Option (Nat × Nat)}(h:ES w x y g L o wr)(v n:Int)(h0:0≤v)(hv:v < 18446744073709551616)(n0:0≤n)(n64:n≤64)(hl:(L.length:Int)+64≤8388608):
  Calls Tryz.prog 346 #[.pointer (some ⟨x,0,none⟩),.int .u64 v,.int .i64 n] wr (O5 w x y (L ++ aM v.toNat n.toNat n.toNat) o):=by
 refine(wC _ _ _ _ v n h.out h0 hv n0 n64 hl).mono ?_
 rintro e w2 ⟨rfl,g2,hx2,hk2,hm2⟩
 obtain⟨n1,n2⟩:=h.out.ne h.win (by decide) (by decide)
 exact⟨rfl,g2,hx2,h.win.keeps hk2 (fun e=>by rcases e with e | e;exact n1 e;exact n2 e),vM h.keeps hk2 h.hx h.own,uT (w0:=w) hm2 h.keeps.size h.own,h.hx,h.hy⟩
theorem ES.below{w wr w':World}{x y:Nat}{g:Option Nat}{L:List Nat}{o:Option (Nat × Nat)}(h:ES w x y g L o wr)(hb:Below wr.heap.size wr w'): ES w x y g L o w':=by
 have hk:Keeps (fun _=>False) wr w':=Keeps.of_below hb
 exact⟨h.out.keeps hk (fun e=>e) (fun _ _ e=>e),h.win.below hb h.win.lt,h.keeps.trans' hk,h.own,h.hx,h.hy⟩
theorem xX(o:Option (Nat × Nat)): ∃ l t:Int,uR o=#[.int .i64 l,.int .i64 t]:=by
 cases o with
 | none=>exact ⟨-1,-1,rfl⟩
 | some p=>exact ⟨p.1,p.2,rfl⟩
theorem MC(o:Option (Nat × Nat))(q:Nat)(l t:Int)(hc:uR o=#[.int .i64 l,.int .i64 t])(w:World):
  Calls Tryz.prog 352 #[.agg #[.int .i64 l,.int .i64 t],.agg #[.int .i64 (lead q:Nat),.int .i64 (trail q:Nat)]] w fun e w'=>e=.returned (.bool (fits o q))∧Below w.heap.size w w':=by
 cases o with
 | none=>
  simp[uR] at hc
  obtain⟨rfl,rfl⟩:=hc
  exact PK _ _ w
 | some p=>
  simp[uR] at hc
  obtain⟨rfl,rfl⟩:=hc
  have h:=QY p.1 p.2 (lead q:Nat) (trail q:Nat) w
  have e:fits (some p) q=(decide ((p.1:Int)≤(lead q:Nat)) && decide ((p.2:Int)≤(trail q:Nat))):=by simp[fits]
  rw[e]
  exact h
theorem ES.set{w wr:World}{x y:Nat}{g:Option Nat}{L:List Nat}{o:Option (Nat × Nat)}(h:ES w x y g L o wr)(l t:Nat):
  ES w x y g L (some (l,t)) ((wr.setCell ⟨y,0,none⟩ (.int .i64 (l:Nat))).setCell ⟨y,1,none⟩ (.int .i64 (t:Nat))):=by
 obtain⟨n1,n2⟩:=h.out.ne h.win (by decide) (by decide)
 obtain⟨a,b,hc⟩:=xX o
 have hw:=h.win
 rw[hc] at hw
 have hk:Keeps (fun k=>k=y) wr ((wr.setCell ⟨y,0,none⟩ (.int .i64 (l:Nat))).setCell ⟨y,1,none⟩ (.int .i64 (t:Nat))):=((Keeps.refl (fun k=>k=y) wr).setCell (p:=⟨y,0,none⟩) (fun _=>rfl) _).setCell (p:=⟨y,1,none⟩) (fun _=>rfl) _
 refine⟨h.out.keeps hk (fun e=>n1 e.symm) (fun k hk e=>n2 (by rw[hk,e])),hw.set2 _ _,h.keeps.trans hk (fun k hk e=>by have:=h.hy;omega),h.own,h.hx,h.hy⟩
theorem qO{w wr:World}{x y:Nat}{g:Option Nat}{L:List Nat}{l t:Nat}(h:ES w x y g L (some (l,t)) wr): wr.cell? ⟨y,0,none⟩=some (.int .i64 (l:Nat)):=by
 have:=h.win.cell 0
 simpa [uR] using this
theorem qX{w wr:World}{x y:Nat}{g:Option Nat}{L:List Nat}{l t:Nat}(h:ES w x y g L (some (l,t)) wr): wr.cell? ⟨y,1,none⟩=some (.int .i64 (t:Nat)):=by
 have:=h.win.cell 1
 simpa [uR] using this
theorem ES.drew{w wr:World}{x y:Nat}{g:Option Nat}{L:List Nat}{o:Option (Nat × Nat)}(h:ES w x y g L o wr): ES w x y g L o wr.drew:=
 ⟨h.out.drewN 1,h.win.drew,h.keeps.drew,h.own,h.hx,h.hy⟩
theorem uZ{o:Option (Nat × Nat)}{q:Nat}(h0:q≠0)(hf:fits o q=false):
  fB o q=((aM 3 2 2 ++ aM (lead q) 6 6) ++ aM (64-lead q-trail q-1) 6 6) ++ aM (q / 2 ^ trail q) (64-lead q-trail q) (64-lead q-trail q)∧iL o q=some (lead q,trail q):=by
 have hn:iL o q=some (lead q,trail q):=by unfold iL;rw[if_neg h0,hf,if_neg (by simp)]
 refine⟨?_,hn⟩
 unfold fB zS
 rw[if_neg h0,hn,hf,if_neg (by simp)]
 rfl
theorem vD{l t q:Nat}(h0:q≠0)(hf:fits (some (l,t)) q=true):
  fB (some (l,t)) q=aM 2 2 2 ++ aM (q / 2 ^ t) (64-l-t) (64-l-t)∧iL (some (l,t)) q=some (l,t):=by
 have hn:iL (some (l,t)) q=some (l,t):=by unfold iL;rw[if_neg h0,hf,if_pos rfl]
 refine⟨?_,hn⟩
 unfold fB zS
 rw[if_neg h0,hn,hf,if_pos rfl]
 rfl
end X
namespace X
open Go.RowKit
def Px(w:World)(bs:List Nat)(e:Ending)(w':World): Prop:=
 ∃ A c,e=.returned (.tuple #[.slice A bs.length c,.int .i64 0])∧w'.ownsRow w.heap.size 5 1 (.slice A bs.length c) bs.length (bs.map aI)∧Keeps (fun _=>False) w w'
theorem GH(w:World)(A:Option Addr)(len c:Nat)(D:Nat→Prop)(f:Nat→Nat)(hsl:Sl w D A len (fun j=>.int .u64 (f j:Nat)))(hf:∀ j,f j < 18446744073709551616)(hlen:len≤4096):
  Calls Tryz.prog 308 #[.slice A len c] w (Px w (pack (aV f len))):=by
 have HS:=zh (zN hsl hf)
 clear hsl hf
 have d0:decide ((4096:Int) < len)=false:=by simp;omega
 go_enter Tryz.func308,Tryz.ntmps308
 go_wp2_with fail
 go_step3
 go_wp2_with fail
 refine(uh _).mono ?_
 rintro e w1 ⟨rfl,hx1,hk1⟩
 obtain⟨x,hx⟩:∃ x,x=w.heap.size:=⟨_,rfl⟩
 rw[←hx] at hx1
 rw[←hx]
 have H1:=zh (zN hx1 (zN hk1 hx))
 clear hx1 hk1 hx d0
 go_wp2_with fail
 refine(nT _).mono ?_
 rintro e w2 ⟨rfl,hb2⟩
 obtain⟨y,hy⟩:∃ y,y=w2.heap.size:=⟨_,rfl⟩
 have H2:=zh (zN hb2 hy)
 clear hb2 hy
 go_wp2_with fail
 rw[←H2.out.2]
 go_step3
 go_wp2_with fail
 go_loopw [17] (fun i wr=>∃ (k:Nat) (g:Option Nat),k≤len∧i=.int .i64 k∧ES w x y g (aV f k) (gF f k) wr)
  (fun i _=>len-(intOf i).toNat)
 case atStart=>
  obtain⟨hx1,hk1,hx⟩:=H1.out
  obtain⟨hb2,hy⟩:=H2.out
  have hk2:Keeps (fun _=>False) w1 (w2.alloc (.cells #[.int .i64 (-1),.int .i64 (-1)] 490)):=(Keeps.of_below hb2).alloc _
  refine⟨0,none,Nat.zero_le _,rfl,hx1.keeps hk2 (fun h=>h) (fun _ _ h=>h),?_,hk1.trans' hk2,(fun _ h=>by cases h),by omega,?_⟩
  ·rw[hy];exact au.fresh _ _ _
  ·rw[hy];exact Nat.le_trans hk1.size hb2.size
 case round=>
  obtain⟨k,g,hk,rfl,hes⟩:=hrel
  by_cases hlt:k < len
  ·obtain ⟨b,off,hA,hD,hcell⟩:=(HS.out.1.keep (w':=wr) (fun q _ hq=>hes.keeps.block q hq (fun h=>h))) (by omega)
   have ck:wr.cell? ⟨b,off+k,none⟩=some (.int .u64 (f k:Nat)):=hcell k hlt
   have hcp:1≤k→wr.cell? ⟨b,off+(k-1),none⟩=some (.int .u64 (f (k-1):Nat)):=fun h=>hcell (k-1) (by omega)
   subst hA
   have HE:=zh hes
   clear hes hcell
   have hlk:=sD f k
   rcases Nat.eq_zero_or_pos k with hk0 | hk0
   ·subst hk0
    clear hcp hlk
    have hu:=HS.out.2 0
    obtain⟨u,hu'⟩:∃ u,u=f 0:=⟨_,rfl⟩
    rw[←hu'] at ck hu
    have HU:=zh (zN hu hu')
    clear hu hu'
    rw[show ((0:Nat):Int)=0 from rfl]
    rw[Nat.add_zero] at ck
    go_wp2_with fail
    refine(oo HE.out (u:Nat) 64 (by omega) (by have:=HU.out.1;omega) (by omega) (by omega) (by simp[aV])).mono ?_
    rintro e w3 ⟨rfl,g3,hes3⟩
    have H3:=zh hes3
    clear hes3 ck
    go_wp2_with fail
    go_roundw
    case rel=>
     refine⟨1,g3,by omega,rfl,?_⟩
     have:=H3.out
     rw[show ((u:Int)).toNat=u from rfl,show (64:Int).toNat=64 from rfl,HU.out.2] at this
     exact this
    case measure=>simp[intOf];omega
   ·obtain ⟨j,rfl⟩:∃ j,k=j+1:=⟨k-1,by omega⟩
    have cp:=hcp (by omega)
    rw[show j+1-1=j by omega] at cp
    obtain⟨a,ha⟩:∃ a,a=f (j+1):=⟨_,rfl⟩
    obtain⟨p,hp⟩:∃ p,p=f j:=⟨_,rfl⟩
    obtain⟨q,hq⟩:∃ q,q=a ^^^ p:=⟨_,rfl⟩
    have r1:=HS.out.2 (j+1)
    have r2:=HS.out.2 j
    rw[←ha] at ck r1
    rw[←hp] at cp r2
    have hqx:bits .xor .u64 (a:Int) (p:Int)=(q:Int):=by rw[u64_xor_nat _ _ r1 r2,hq]
    have hql:q < 18446744073709551616:=by rw[hq];exact vJ r1 r2
    obtain⟨L,hL⟩:∃ L,L=aV f (j+1):=⟨_,rfl⟩
    obtain⟨o,ho⟩:∃ o,o=gF f (j+1):=⟨_,rfl⟩
    have hok:lW o:=by rw[ho];exact BH HS.out.2 _
    have hes:=HE.out
    rw[←hL,←ho] at hes
    rw[←hL] at hlk
    have hfin:∀ k',k'=j+2→aV f k'=L ++ fB o q∧gF f k'=iL o q:=by
     rintro k' rfl;rw[hL,ho,hq,ha,hp];exact ⟨rfl,rfl⟩
    clear HE
    have HE:=zh (zN hes (zN hql (zN hok hfin)))
    clear hes hql hok hfin hL ho hq ha hp r1 r2 hcp hk0
    rw[show ((j+1:Nat):Int)=(j:Int)+1 from rfl]
    by_cases h0:q=0
    ·subst h0
     rw[show ((0:Nat):Int)=0 from rfl] at hqx
     go_wp2_with fail
     refine(oo HE.out.1 0 1 (by omega) (by omega) (by omega) (by omega) (by omega)).mono ?_
     rintro e w3 ⟨rfl,g3,hes3⟩
     have H3:=zh hes3
     clear hes3 ck cp hqx
     go_wp2_with fail
     go_roundw
     case rel=>
      obtain⟨e1,e2⟩:=HE.out.2.2.2 (j+2) rfl
      refine⟨j+2,g3,by omega,by go_num,?_⟩
      rw[e1,e2]
      exact H3.out
     case measure=>simp[intOf];omega
    ·have dq:((q:Int) == 0)=false:=by simp[h0]
     have HQ:=zh h0
     clear h0
     go_wp2_with fail
     refine(MJ q HE.out.2.1 _).mono ?_
     rintro e w3 ⟨rfl,hb3⟩
     obtain⟨l,t,hc⟩:=xX o
     have hes3:=HE.out.1.below (hb3.alloc hb3.size (.cells #[.int .i64 (lead q:Nat),.int .i64 (trail q:Nat)] 490))
     have hbz:=au.fresh w3 490 #[.int .i64 (lead q:Nat),.int .i64 (trail q:Nat)]
     have hw3:=hes3.win
     rw[hc] at hw3
     have p0:=hw3.cell 0
     have p1:=hw3.cell 1
     simp at p0 p1
     have H3:=zh (zN hes3 (zN hbz hc))
     clear hes3 hbz hw3 hc hb3 ck cp hqx dq
     go_wp2_with fail
     clear p0 p1
     refine(MC o q l t H3.out.2.2 _).mono ?_
     rintro e w4 ⟨rfl,hb4⟩
     have hes4:=H3.out.1.below hb4
     have hbz4:=H3.out.2.1.below hb4 H3.out.2.1.lt
     obtain⟨z,hz⟩:∃ z,z=w3.heap.size:=⟨_,rfl⟩
     rw[←hz] at hbz4
     rw[←hz]
     have H4:=zh (zN hes4 hbz4)
     clear hes4 hbz4 hb4 H3 hz
     cases hfit:fits o q
     ·have HF:=zh hfit
      clear hfit
      have hwl:=qJ (u:=q) (by have:=HQ.out;omega) HE.out.2.1
      have hb:=H4.out.1.win
      obtain⟨l',t',hc'⟩:=xX o
      rw[hc'] at hb
      have f0:=hb.frozen
      have y0:=hb.cell 0
      have y1:=hb.cell 1
      have z0:=H4.out.2.cell 0
      have z1:=H4.out.2.cell 1
      simp at y0 y1 z0 z1
      obtain⟨m,hm⟩:∃ m,m=lead q:=⟨_,rfl⟩
      obtain⟨n,hn⟩:∃ n,n=trail q:=⟨_,rfl⟩
      have hset:=H4.out.1.set (lead q) (trail q)
      rw[←hm] at z0
      rw[←hn] at z1
      rw[←hm,←hn] at hwl hset
      rw[←hm,←hn]
      have HM:=zh (zN hm (zN hn hset))
      clear hm hn hset hb hc'
      go_wp2_with fail
      refine(oo HM.out.2.2 3 2 (by omega) (by omega) (by omega) (by omega) (by omega)).mono ?_
      rintro e w5 ⟨rfl,g5,hes5⟩
      have H5:=zh hes5
      have y0:=qO hes5
      have y1:=qX hes5
      clear hes5 f0 z0 z1
      have ew:IntKind.u64.wrap (m:Int)=(m:Int):=by rw[IntKind.wrap_u64];omega
      go_wp2_with fail
      refine(oo H5.out (m:Nat) 6 (by omega) (by omega) (by omega) (by omega) (by simp only[List.length_append,aG];omega)).mono ?_
      rintro e w6 ⟨rfl,g6,hes6⟩
      clear y0 y1 ew
      have y0:=qO hes6
      have y1:=qX hes6
      have H6:=zh hes6
      clear hes6
      go_wp2_with fail
      refine(pF m n (by omega) _).mono ?_
      rintro e w7 ⟨rfl,hb7⟩
      have hes7:=H6.out.below hb7
      have H7:=zh hes7
      clear hb7 hes7 y0 y1
      obtain⟨s,hs⟩:∃ s,s=64-m-n:=⟨_,rfl⟩
      rw[←hs]
      have hs1:1≤s:=by omega
      have hs64:s≤64:=by omega
      have HSS:=zh hs
      clear hs
      have ew:IntKind.u64.wrap ((s:Int)-1)=((s-1:Nat):Int):=by rw[IntKind.wrap_u64];omega
      go_wp2_with fail
      refine(oo H7.out ((s-1:Nat):Int) 6 (by omega) (by omega) (by omega) (by omega) (by simp only[List.length_append,aG];omega)).mono ?_
      rintro e W8 ⟨rfl,g8,hes8⟩
      have HY:=zh hes8
      clear hes8 ew
      go_wp2_with fail
      obtain⟨v,hv⟩:∃ v,v=q / 2 ^ n:=⟨_,rfl⟩
      have hvi:(q:Int) / 2 ^ n=(v:Int):=by rw[hv,tQ]
      have hvl:v < 18446744073709551616:=by rw[hv];exact Nat.lt_of_le_of_lt (Nat.div_le_self _ _) HE.out.2.1
      have HV:=zh (zN hv hvl)
      clear hv hvl
      have hn63:n≤63:=by omega
      have hn64:n < 64:=by omega
      have hS:(fun w':World=>w'.cell? ⟨y,0,none⟩=some (.int .i64 (m:Nat))∧w'.cell? ⟨y,1,none⟩=some (.int .i64 (n:Nat))) (W8.drew):=⟨qO HY.out.drew,qX HY.out.drew⟩
      refine av (fun w':World=>w'.cell? ⟨y,0,none⟩=some (.int .i64 (m:Nat))∧w'.cell? ⟨y,1,none⟩=some (.int .i64 (n:Nat))) (by kernel_rfl) hS ?_
      refine zB [0,1] ?_
      iterate 2 (refine zV ?_ ?_ hS ?_;rotate_left;(intro w' hSw;go_simp<;>with_reducible rfl);try simp only[zP])
      refine zE ?_
      refine zB [2,3,4,5] ?_
      iterate 4 (refine zV ?_ ?_ hS ?_;rotate_left;(intro w' hSw;obtain ⟨p0,p1⟩:=hSw;go_simp<;>with_reducible rfl);try simp only[zP])
      refine zE ?_
      refine zC 6 fun K HK=>?_
      go_simp
      refine(pF m n (by omega) W8.drew).mono ?_
      rintro e w9 ⟨rfl,hb9⟩
      have hes9:=HY.out.drew.below hb9
      have H9:=zh hes9
      clear hb9 hes9
      go_wp2_with fail
      refine HK.out.zt (fun w':World=>w'.cell? ⟨y,0,none⟩=some (.int .i64 (m:Nat))∧w'.cell? ⟨y,1,none⟩=some (.int .i64 (n:Nat))) (fun _ h=>h) (⟨qO H9.out,qX H9.out⟩) ?_
      clear HK hS
      intro hS
      try simp only[zP]
      refine zC 7 fun K HK=>?_
      go_simp
      refine(oo H9.out (v:Nat) ((64-m-n:Nat):Int) (by omega) (by have:=HV.out.2;omega) (by omega) (by omega) (by simp only[List.length_append,aG];omega)).mono ?_
      rintro e w10 ⟨rfl,g10,hes10⟩
      have H10:=zh hes10
      clear hes10
      go_wp2_with fail
      refine HK.out.zt (fun w':World=>w'.cell? ⟨y,0,none⟩=some (.int .i64 (m:Nat))∧w'.cell? ⟨y,1,none⟩=some (.int .i64 (n:Nat))) (fun _ h=>h) (⟨qO H10.out,qX H10.out⟩) ?_
      clear HK hS
      intro hS
      try simp only[zP]
      refine zD ?_
      try simp only[zP]
      go_wp2_with fail
      go_roundw
      case rel=>
       obtain⟨e1,e2⟩:=HE.out.2.2.2 (j+2) rfl
       obtain⟨e3,e4⟩:=uZ HQ.out HF.out
       refine⟨j+2,g10,by omega,by go_num,?_⟩
       rw[e1,e2,e3,e4,←List.append_assoc,←List.append_assoc,←List.append_assoc,←HM.out.1,←HM.out.2.1]
       have:=H10.out
       rw[HSS.out,HV.out.1] at this
       exact this
      case measure=>simp[intOf];omega
     ·obtain ⟨m,n,rfl⟩:∃ m n,o=some (m,n):=by
       cases o with
       | none=>simp[fits] at hfit
       | some p=>exact ⟨p.1,p.2,rfl⟩
      have HF:=zh hfit
      clear hfit
      have hwl:m+n≤63:=HE.out.2.2.1 (m,n) rfl
      go_wp2_with fail
      refine(oo H4.out.1 2 2 (by omega) (by omega) (by omega) (by omega) (by omega)).mono ?_
      rintro e W8 ⟨rfl,g8,hes8⟩
      have HY:=zh hes8
      clear hes8
      go_wp2_with fail
      obtain⟨v,hv⟩:∃ v,v=q / 2 ^ n:=⟨_,rfl⟩
      have hvi:(q:Int) / 2 ^ n=(v:Int):=by rw[hv,tQ]
      have hvl:v < 18446744073709551616:=by rw[hv];exact Nat.lt_of_le_of_lt (Nat.div_le_self _ _) HE.out.2.1
      have HV:=zh (zN hv hvl)
      clear hv hvl
      have hn63:n≤63:=by omega
      have hn64:n < 64:=by omega
      have hS:(fun w':World=>w'.cell? ⟨y,0,none⟩=some (.int .i64 (m:Nat))∧w'.cell? ⟨y,1,none⟩=some (.int .i64 (n:Nat))) (W8.drew):=⟨qO HY.out.drew,qX HY.out.drew⟩
      refine av (fun w':World=>w'.cell? ⟨y,0,none⟩=some (.int .i64 (m:Nat))∧w'.cell? ⟨y,1,none⟩=some (.int .i64 (n:Nat))) (by kernel_rfl) hS ?_
      refine zB [0,1] ?_
      iterate 2 (refine zV ?_ ?_ hS ?_;rotate_left;(intro w' hSw;go_simp<;>with_reducible rfl);try simp only[zP])
      refine zE ?_
      refine zB [2,3,4,5] ?_
      iterate 4 (refine zV ?_ ?_ hS ?_;rotate_left;(intro w' hSw;obtain ⟨p0,p1⟩:=hSw;go_simp<;>with_reducible rfl);try simp only[zP])
      refine zE ?_
      refine zC 6 fun K HK=>?_
      go_simp
      refine(pF m n (by omega) W8.drew).mono ?_
      rintro e w9 ⟨rfl,hb9⟩
      have hes9:=HY.out.drew.below hb9
      have H9:=zh hes9
      clear hb9 hes9
      go_wp2_with fail
      refine HK.out.zt (fun w':World=>w'.cell? ⟨y,0,none⟩=some (.int .i64 (m:Nat))∧w'.cell? ⟨y,1,none⟩=some (.int .i64 (n:Nat))) (fun _ h=>h) (⟨qO H9.out,qX H9.out⟩) ?_
      clear HK hS
      intro hS
      try simp only[zP]
      refine zC 7 fun K HK=>?_
      go_simp
      refine(oo H9.out (v:Nat) ((64-m-n:Nat):Int) (by omega) (by have:=HV.out.2;omega) (by omega) (by omega) (by simp only[List.length_append,aG];omega)).mono ?_
      rintro e w10 ⟨rfl,g10,hes10⟩
      have H10:=zh hes10
      clear hes10
      go_wp2_with fail
      refine HK.out.zt (fun w':World=>w'.cell? ⟨y,0,none⟩=some (.int .i64 (m:Nat))∧w'.cell? ⟨y,1,none⟩=some (.int .i64 (n:Nat))) (fun _ h=>h) (⟨qO H10.out,qX H10.out⟩) ?_
      clear HK hS
      intro hS
      try simp only[zP]
      refine zD ?_
      try simp only[zP]
      go_wp2_with fail
      go_roundw
      case rel=>
       obtain⟨e1,e2⟩:=HE.out.2.2.2 (j+2) rfl
       obtain⟨e3,e4⟩:=vD HQ.out HF.out
       refine⟨j+2,g10,by omega,by go_num,?_⟩
       rw[e1,e2,e3,e4,←List.append_assoc]
       have:=H10.out
       rw[HV.out.1] at this
       exact this
      case measure=>simp[intOf];omega
  ·obtain rfl:k=len:=by omega
   have HR:=zh (zN hes.out hes.keeps)
   clear hes
   go_wp2_with fail
   refine(Et _ _ _ _ HR.out.1).mono ?_
   rintro e w3 ⟨A2,c2,rfl,ho2,hk2⟩
   have H3:=zh (zN (aU ho2 HR.out.2.size) (HR.out.2.trans' hk2))
   clear ho2 hk2
   go_wp2_with fail
   go_ret2
   exact⟨A2,c2,rfl,H3.out.1,H3.out.2⟩
end X
section
open Go.RowKit
def mR(f:Nat→Pt)(n j:Nat): Int:=if j < n then (f j).t else 0
def mQ(f:Nat→Pt)(n j:Nat): Int:=if j < n then (f j).s else 0
def nC(f:Nat→Pt)(n j:Nat): Nat:=if j < n then (IntKind.u64.wrap (f j).v).toNat else 0
def bX(f:Nat→Pt)(n:Nat): Nat→List Nat
 | 0=>pack (D.aY (mR f n) n)
 | 1=>pack (X.aV (nC f n) n)
 | _=>pack (D.aY (mQ f n) n)
def eG(f:Nat→Pt)(n:Nat): Nat→List Nat
 | 0=>V.aC n
 | j+1=>eG f n j ++ V.aC (bX f n j).length ++ bX f n j
def dU(f:Nat→Pt)(n:Nat): List Nat × Int:=if dX f n=true then (F.aN 3 (eG f n 3),0) else ([],2)
theorem zI(v:Int): (IntKind.u64.wrap v).toNat < 18446744073709551616:=by rw[IntKind.wrap_u64];omega
theorem NP(f:Nat→Pt)(n j:Nat): nC f n j < 18446744073709551616:=by
 unfold nC
 split
 ·exact zI _
 ·omega
theorem zZ(f:Nat→Pt)(n j:Nat): ∀ i,(bX f n j).getD i 0 < 256:=by
 intro i
 match j with
 | 0=>show (pack _).getD i 0 < 256;rw[fU];exact kJ (D.qF _ _) i
 | 1=>show (pack _).getD i 0 < 256;rw[fU];exact kJ (X.sK _ _) i
 | j+2=>show (pack _).getD i 0 < 256;rw[fU];exact kJ (D.qF _ _) i
theorem mI(f:Nat→Pt)(n j:Nat)(hn:n≤4096): (bX f n j).length≤40000:=by
 match j with
 | 0=>show (pack _).length≤_;rw[bK];have:=D.oH (mR f n) n;omega
 | 1=>show (pack _).length≤_;rw[bK];have:=X.sD (nC f n) n;omega
 | j+2=>show (pack _).length≤_;rw[bK];have:=D.oH (mQ f n) n;omega
theorem BM(u:Nat): ∀ i,(V.aC u).getD i 0 < 256:=V.bW (V.cK u)
theorem oW(f:Nat→Pt)(n:Nat): ∀ j i,(eG f n j).getD i 0 < 256
 | 0=>BM n
 | j+1=>V.xM (V.xM (oW f n j) (BM _)) (zZ f n j)
theorem oC(f:Nat→Pt)(n:Nat)(hn:n≤4096): ∀ j,(eG f n j).length≤10+j*40010
 | 0=>by have:=V.aR (u:=n) (by omega);show (V.aC n).length≤_;omega
 | j+1=>by
  have h1:=oC f n hn j
  have h2:=mI f n j hn
  have h3:=V.aR (u:=(bX f n j).length) (by omega)
  show (eG f n j ++ V.aC (bX f n j).length ++ bX f n j).length≤_
  rw[List.length_append,List.length_append]
  omega
theorem xu{f:Nat→Pt}{n:Nat}(h:dX f n=true)(j:Nat)(hj:j < n): -9223372036854775808≤(f j).t∧(f j).t≤9223372036854775807∧-9223372036854775808≤(f j).s∧(f j).s≤9223372036854775807:=by
 have ha:=(oF h).1
 have hl:∀ m,m < n→-1152921504606846977≤sW f m:=by
  intro m
  induction m with
  | zero=>intro _;exact Int.le_refl _
  | succ m ih=>
   intro hm
   have h4:=(kH f m).1 (qH n ha m (by omega))
   have:=ih (by omega)
   show _≤(f m).t
   omega
 have h4:=(kH f j).1 (qH n ha j hj)
 have:=hl j hj
 omega
theorem Df{f:Nat→Pt}{n:Nat}(h:dX f n=true)(j:Nat): -9223372036854775808≤mR f n j∧mR f n j≤9223372036854775807:=by
 unfold mR
 split
 ·rename_i hj;have:=xu h j hj;omega
 ·omega
theorem CF{f:Nat→Pt}{n:Nat}(h:dX f n=true)(j:Nat): -9223372036854775808≤mQ f n j∧mQ f n j≤9223372036854775807:=by
 unfold mQ
 split
 ·rename_i hj;have:=xu h j hj;omega
 ·omega
def yt(f:Nat→Pt)(c:Fin 3)(j:Nat): Value:=
 match c with
 | 0=>.int .i64 (f j).t
 | 1=>.int .u64 (IntKind.u64.wrap (f j).v)
 | 2=>.int .i64 (f j).s
def jq(f:Nat→Pt)(k:Nat)(c:Fin 3): List Value:=(List.range k).map (yt f c)
theorem zM(f:Nat→Pt)(k:Nat)(c:Fin 3): (jq f k c).length=k:=by simp[jq]
theorem GD(f:Nat→Pt)(k:Nat)(c:Fin 3): jq f (k+1) c=jq f k c ++ [yt f c k]:=by unfold jq;rw[List.range_succ,List.map_append];rfl
def cE(c:Fin 3): TypeId:=match c with | 0=>3 | 1=>50 | 2=>3
def cT(c:Fin 3): TypeId:=match c with | 0=>62 | 1=>446 | 2=>62
def cZ(c:Fin 3): Value:=match c with | 0=>.int .i64 0 | 1=>.int .u64 0 | 2=>.int .i64 0
theorem TY(c:Fin 3): dL Tryz.prog (cT c) (cE c) (cZ c) 8:=
 match c with
 | 0=>dL.mk' Tryz.underlying62 rfl (by kernel_rfl)
 | 1=>dL.mk' Tryz.underlying446 rfl (by kernel_rfl)
 | 2=>dL.mk' Tryz.underlying62 rfl (by kernel_rfl)
theorem SQ{w:World}{base:Nat}{e:TypeId}{n c:Nat}{A:Option Addr}{g g':Nat→Value}(ho:w.ownsRow base e 1 (.slice A n c) n ((List.range n).map g))(h:∀ j,j < n→g j=g' j): Sl w (fun k=>(Value.slice A n c).ownBlock=some k) A n g':=by
 refine Sl.lQ ho ?_
 intro j u hu
 rw[List.getElem?_map] at hu
 rcases Nat.lt_or_ge j n with hj | hj
 ·rw[List.getElem?_range hj] at hu
  rw[←h j hj]
  simpa using hu.symm
 ·rw[List.getElem?_eq_none (by simpa using hj)] at hu
  cases hu
theorem OO{bs:List Nat}(h:∀ j,bs.getD j 0 < 256): V.txt (bY bs)=bs:=by
 unfold V.txt bY
 simp only[List.map_map]
 conv=>rhs;rw[←List.map_id bs]
 apply List.map_congr_left
 intro b hb
 have:b < 256:=F.kP h b hb
 simp
 omega
theorem mM(bs:List Nat): (bY bs).size=bs.length:=by simp[bY,ByteArray.size]
theorem Jj{w0 w:World}{x n:Nat}{v:Fin 3→Value}{f:Nat→Pt}(h:R3 cE w0 w x v (jq f n))(c:Fin 3): ∃ A cap,v c=.slice A n cap∧n≤cap∧∀ g',(∀ j,j < n→yt f c j=g' j)→Sl w (fun k=>k < w.heap.size) A n g':=by
 have ho:=h.own c
 rw[zM] at ho
 obtain⟨A,cap,hv,hc,-⟩:=aA ho
 rw[hv] at ho
 refine⟨A,cap,hv,hc,fun g' hg=>(SQ ho hg).mono (fun k hk=>(ho.lt k hk).2)⟩
theorem TS{f:Nat→Pt}{n j:Nat}(h:j < n): yt f 0 j=.int .i64 (mR f n j):=by unfold mR;rw[if_pos h];rfl
theorem TW{f:Nat→Pt}{n j:Nat}(h:j < n): yt f 2 j=.int .i64 (mQ f n j):=by unfold mQ;rw[if_pos h];rfl
theorem TL{f:Nat→Pt}{n j:Nat}(h:j < n): yt f 1 j=.int .u64 (nC f n j:Nat):=by
 unfold nC;rw[if_pos h]
 show Value.int .u64 _=_
 congr 1
 rw[IntKind.wrap_u64];omega
structure oD(w0 w:World)(A:Option Addr)(c:Nat)(bs:List Nat): Prop where
 own:w.ownsRow w0.heap.size 5 1 (.slice A bs.length c) bs.length (bs.map aI)
theorem oD.keeps{w0 w w':World}{A:Option Addr}{c:Nat}{bs:List Nat}(h:oD w0 w A c bs)(hk:Keeps (fun _=>False) w w'): oD w0 w' A c bs:=⟨aF h.own hk (fun _ _ h=>h)⟩
theorem oD.sl{w0 w:World}{A:Option Addr}{c:Nat}{bs:List Nat}(h:oD w0 w A c bs): Sl w (fun k=>k < w.heap.size) A bs.length (aD bs):=V.dN h.own
def tK(w0 w:World)(v:Value)(bs:List Nat): Prop:=w.ownsRow w0.heap.size 5 1 v bs.length (bs.map aI)
theorem tK.form{w0 w:World}{v:Value}{bs:List Nat}(h:tK w0 w v bs): ∃ A c,v=.slice A bs.length c∧bs.length≤c∧Sl w (fun k=>k < w.heap.size) A bs.length (aD bs):=by
 unfold tK at h
 obtain⟨A,c,rfl,hc,-⟩:=aA h
 exact⟨A,c,rfl,hc,V.dN h⟩
theorem EK(f:Nat→Pt)(n j:Nat): eG f n j ++ V.aC (bY (bX f n j)).size ++ V.txt (bY (bX f n j))=eG f n (j+1):=by
 rw[mM,OO (zZ f n j)];rfl
theorem R5{w w':World}{f:Nat→Pt}{n:Nat}(h:dX f n=false)(hk:Keeps (fun _=>False) w w'): F.jE w (dU f n).1 (dU f n).2 (.returned (.tuple #[.slice none 0 0,.int .i64 2])) w':=by
 unfold dU
 rw[h]
 exact⟨none,0,rfl,⟨rfl,.inl ⟨rfl,rfl⟩⟩,hk⟩
theorem OZ{w w1 w':World}{f:Nat→Pt}{n:Nat}{e:Ending}(h:dX f n=true)(hk:Keeps (fun _=>False) w w1)(hp:F.jE w1 (F.aN 3 (eG f n 3)) 0 e w'): F.jE w (dU f n).1 (dU f n).2 e w':=by
 unfold dU
 rw[h]
 obtain⟨A,c,h1,h2,h3⟩:=hp
 exact⟨A,c,h1,aU h2 hk.size,hk.trans' h3⟩
end
section
open Go.RowKit
theorem W3.start{e:Fin 3→TypeId}{w0 w:World}{x y:Nat}{v z:Fin 3→Value}{l:Fin 3→List Value}(h:R3 e w0 w x v l)(hy:y=w.heap.size)(t:TypeId)(cs:Array Value):
  W3 e w0 x v z l y (some (.cells cs t (0,0))) (fun _=>.z) (w.alloc (.cells cs t)):=by
 subst hy
 exact⟨h.alloc _,fun c q hq=>(by cases hq),au.fresh _ _ _,fun d g hg=>(by have:=(h.lt d hg).2;omega),by simp⟩
theorem W3.drew{e:Fin 3→TypeId}{w0 w:World}{x y:Nat}{v z:Fin 3→Value}{l:Fin 3→List Value}{Y:Option Obj}{s:Fin 3→Sg}(h:W3 e w0 x v z l y Y s w): W3 e w0 x v z l y Y s w.drew:=
 ⟨h.r.drew,h.cel,h.yk,h.yn,h.yl⟩
def Qw(c:Fin 3): Nat:=match c with | 0=>30 | 1=>36 | 2=>41
def Qz(c:Fin 3): Nat:=match c with | 0=>31 | 1=>37 | 2=>42
def Uh(c:Fin 3): Nat:=match c with | 0=>27 | 1=>32 | 2=>38
def Ug(c:Fin 3): Nat:=match c with | 0=>29 | 1=>35 | 2=>40
def SN(c:Fin 3): Nat:=match c with | 0=>3 | 1=>9 | 2=>14
def SB(c:Fin 3): Nat:=match c with | 0=>4 | 1=>10 | 2=>15
def sj(s:Fin 3→Sg): Array Bool:=#[true,true,true,(s 0).b1,(s 0).b2,true,true,true,true,(s 1).b1,(s 1).b2,true,true,true,(s 2).b1,(s 2).b2,false,false,false]
theorem Un: Hq Qw Qz:=by unfold Hq;decide
theorem Us(s:Fin 3→Sg)(c:Fin 3)(q:Nat)(hs:s c=.z): (sj s).setIfInBounds (SN c) true=sj (upd s c (.b q)):=by
 unfold sj
 match c,hs with
 | 0,hs=>rw[upd_same,upd_ne _ _ (by decide),upd_ne _ _ (by decide),hs];rfl
 | 1,hs=>rw[upd_same,upd_ne _ _ (by decide),upd_ne _ _ (by decide),hs];rfl
 | 2,hs=>rw[upd_same,upd_ne _ _ (by decide),upd_ne _ _ (by decide),hs];rfl
theorem Uv(s:Fin 3→Sg)(c:Fin 3)(q:Nat)(v':Value)(hs:s c=.b q): (sj s).setIfInBounds (SB c) true=sj (upd s c (.r q v')):=by
 unfold sj
 match c,hs with
 | 0,hs=>rw[upd_same,upd_ne _ _ (by decide),upd_ne _ _ (by decide),hs];rfl
 | 1,hs=>rw[upd_same,upd_ne _ _ (by decide),upd_ne _ _ (by decide),hs];rfl
 | 2,hs=>rw[upd_same,upd_ne _ _ (by decide),upd_ne _ _ (by decide),hs];rfl
theorem Dr{s:Fin 3→Sg}(h:mW s=0)(c:Fin 3): ∃ q v,s c=.r q v:=by
 unfold mW at h
 have:(s c).left=0:=by match c with | 0=>omega | 1=>omega | 2=>omega
 cases hs:s c with
 | z=>rw[hs] at this;cases this
 | b q=>rw[hs] at this;cases this
 | r q v=>exact ⟨q,v,rfl⟩
def Ia(p:Pt)(c:Fin 3): Value:=match c with | 0=>.int .i64 p.t | 1=>.int .u64 (IntKind.u64.wrap p.v) | 2=>.int .i64 p.s
theorem Tj(f:Nat→Pt)(k:Nat): Ia (f k)=fun c=>yt f c k:=by funext c;match c with | 0=>rfl | 1=>rfl | 2=>rfl
theorem W3.last{w0 w:World}{x y k:Nat}{v:Fin 3→Value}{f:Nat→Pt}{p:Pt}{Y:Option Obj}{s:Fin 3→Sg}(h:W3 cE w0 x v (Ia p) (jq f k) y Y s w)(hp:f k=p)(hl:mW s=0):
  R3 cE w0 w x (fun c=>(s c).row (v c)) (jq f (k+1)):=by
 have hr:=h.r
 have e:(fun c=>(s c).kC (jq f k c) (Ia p c))=jq f (k+1):=by
  funext c
  obtain⟨q,u,hs⟩:=Dr hl c
  rw[hs,GD,←hp,Tj];rfl
 rw[e] at hr
 exact hr
theorem Eo(A0 A1 A2:Option Addr)(n0 n1 n2 c0 c1 c2:Nat)(w:World):
  (Instr.index 449 (.agg #[.slice A0 n0 c0,.slice A1 n1 c1,.slice A2 n2 c2]) (.int .i64 0)).run Tryz.prog w=.ok (.slice A0 n0 c0) w∧
  (Instr.index 449 (.agg #[.slice A0 n0 c0,.slice A1 n1 c1,.slice A2 n2 c2]) (.int .i64 1)).run Tryz.prog w=.ok (.slice A1 n1 c1) w∧
  (Instr.index 449 (.agg #[.slice A0 n0 c0,.slice A1 n1 c1,.slice A2 n2 c2]) (.int .i64 2)).run Tryz.prog w=.ok (.slice A2 n2 c2) w:=by
 refine⟨?_,rfl,rfl⟩
 unfold Instr.index
 simp[run_underlying Tryz.underlying449,asIntOf,go_sem]
theorem FK(A:Option Addr)(n c:Nat)(f:Nat→Pt)(D0:Nat→Prop)(w:World)(hsl:dO w D0 A n f)(hn:n≤9223372036854775807):
  Calls Tryz.prog 226 #[.slice A n c] w (F.jE w (dU f n).1 (dU f n).2):=by
 have HO:=zh hsl
 clear hsl
 go_enter Tryz.func226,Tryz.ntmps226
 go_wp2_with fail
 refine(sH _ _ _ f D0 _ HO.out hn).mono ?_
 rintro e w1 ⟨rfl,hb1⟩
 cases hv:dX f n with
 | false=>
  have HF:=zh (zN hv (Keeps.of_below (S:=fun _=>False) hb1))
  clear hv hb1
  go_wp2_with fail
  go_ret2
  exact R5 HF.out.1 HF.out.2
 | true=>
  obtain⟨-,hn0,hn4⟩:=oF hv
  have HV:=zh hv
  have HS:=zh (R3.start cE (Keeps.of_below (S:=fun _=>False) hb1))
  clear hv hb1
  go_wp2_with fail
  go_loopw [4,5,6,23] (fun v4 v5 v6 i wr=>∃ (k:Nat) (v:Fin 3→Value),k≤n∧i=.int .i64 k∧v4=v 0∧v5=v 2∧v6=v 1∧R3 cE w wr w1.heap.size v (jq f k)) (fun _ _ _ i _=>n-(intOf i).toNat)
  case atStart=>exact ⟨0,_,Nat.zero_le _,rfl,rfl,rfl,rfl,HS.out⟩
  case round=>
   obtain⟨k,v,hk,rfl,rfl,rfl,rfl,hR⟩:=hrel
   by_cases hlt:k < n
   ·obtain ⟨b,off,rfl,-,hc⟩:=(HO.out.keeps hR.keep) (by omega)
    obtain⟨k0,k1,k2⟩:=hc k hlt
    clear hc
    generalize hp:f k=p at k0 k1 k2
    obtain⟨y,hy⟩:∃ y,y=wr.heap.size:=⟨_,rfl⟩
    have HY:=zh (zN hy (zN hp (W3.start (z:=Ia p) hR hy 149 #[.int .i64 p.t,.int .i64 p.v,.int .i64 p.s])))
    clear hy hp hR
    go_upto_region 8 with (fail)
    rw[←HY.out.1]
    have hS:=HY.out.2.2
    have HP:=zh HY.out.2.1
    clear k0 k1 k2 HY
    refine aH (W3 cE w w1.heap.size v (Ia p) (jq f k) y (some (.cells #[.int .i64 p.t,.int .i64 p.v,.int .i64 p.s] 149 (0,0))) (fun _=>.z)) hS ?_
    clear hS
    intro w2 hS0
    have HW:=zh hS0.drew
    clear hS0
    have hS:(fun w'=>au w' y 149 #[.int .i64 p.t,.int .i64 p.v,.int .i64 p.s]) (w2.drew):=HW.out.yk
    refine av (fun w'=>au w' y 149 #[.int .i64 p.t,.int .i64 p.v,.int .i64 p.s]) (by kernel_rfl) hS ?_
    refine zB [0,1,2,5,6,7,8,11,12,13] ?_
    iterate 10 (refine zV ?_ ?_ hS ?_;rotate_left;(intro w' hSw;have z0:=hSw.cell 0;have z1:=hSw.cell 1;have z2:=hSw.cell 2;simp only[List.getElem?_toArray,List.getElem?_cons_zero,List.getElem?_cons_succ] at z0 z1 z2;go_simp<;>with_reducible rfl);try simp only[zP])
    refine zE ?_
    refine Ta (tb:=Qw) (tr:=Qz) (jb:=SN) (ja:=SB) (tm:=Uh) (tv:=Ug) (t:=cT) (e:=cE) (zz:=cZ) (by_:=fun _=>8) (kC:=sj) (v:=v) (z:=Ia p) (l:=jq f k) (y:=y) ?hR _ ?hsz ?hm ?hv ?h1 ?hl ?hSS 3 ?hend 6 (fun _=>.z) _ rfl ⟨(fun h=>by cases h),(fun h=>by cases h)⟩ HW.out
    case hR=>
     refine⟨Un,TY,fun c=>?_,fun c=>?_,by unfold Uh Ug Qw Qz;decide,Us,Uv,fun s hok hs=>?_⟩
     ·match c with
      | 0=>exact ⟨_,rfl,rfl,rfl,rfl⟩
      | 1=>exact ⟨_,rfl,rfl,rfl,rfl⟩
      | 2=>exact ⟨_,rfl,rfl,rfl,rfl⟩
     ·match c with
      | 0=>exact ⟨_,rfl,rfl,rfl,rfl⟩
      | 1=>exact ⟨_,rfl,rfl,rfl,rfl⟩
      | 2=>exact ⟨_,rfl,rfl,rfl,rfl⟩
     ·unfold mW at hs
      unfold sj Sq
      unfold Cr at hok
      generalize s 0=a0 at hs hok ⊢
      generalize s 1=a1 at hs hok ⊢
      generalize s 2=a2 at hs hok ⊢
      cases a0<;>cases a1<;>cases a2<;>first | (exfalso;simp[Sg.left] at hs;done) | (exfalso;simp[Sg.b2] at hok;done) | (clear hs hok;simp only[Sg.b1,Sg.b2,Sg.Hw,SN,SB,List.cons_append,List.nil_append,if_true,Bool.false_eq_true,if_false];kernel_rfl)
    case hsz=>intro c;match c with | 0=>exact (show (30:Nat) < 79 by decide) | 1=>exact (show (36:Nat) < 79 by decide) | 2=>exact (show (41:Nat) < 79 by decide)
    case hm=>intro c;match c with | 0=>rfl | 1=>rfl | 2=>rfl
    case hv=>intro c;match c with | 0=>rfl | 1=>rfl | 2=>rfl
    case h1=>intro c;match c with | 0=>rfl | 1=>rfl | 2=>rfl
    case hl=>intro c;rw[zM];unfold maxLen;omega
    case hSS=>exact fun s w hW=>hW.yk
    case hend=>
     clear HW hS
     intro s w3 hl0 hW
     have hS:(fun w'=>au w' y 149 #[.int .i64 p.t,.int .i64 p.v,.int .i64 p.s]) w3:=hW.yk
     have hl:=hW.last HP.out hl0
     obtain⟨q0,u0,h0⟩:=Dr hl0 0
     obtain⟨q1,u1,h1⟩:=Dr hl0 1
     obtain⟨q2,u2,h2⟩:=Dr hl0 2
     have e0:u0=(fun c=>(s c).row (v c)) 0:=by simp only[h0];rfl
     have e1:u1=(fun c=>(s c).row (v c)) 1:=by simp only[h1];rfl
     have e2:u2=(fun c=>(s c).row (v c)) 2:=by simp only[h2];rfl
     generalize (fun c=>(s c).row (v c))=v' at hl e0 e1 e2
     have HL:=zh hl
     clear hl hW hl0
     unfold j5 sj
     rw[h0,h1,h2,qB,qB,qB,e0,e1,e2]
     clear h0 h1 h2 e0 e1 e2
     simp only[Sg.b1,Sg.b2,Qw,Qz,Act.put,List.setIfInBounds_toArray,List.set_cons_zero,List.set_cons_succ]
     refine zB [16,17,18] ?_
     iterate 3 (refine zV ?_ ?_ hS ?_;rotate_left;(intro w' hSw;go_simp<;>with_reducible rfl);try simp only[zP])
     refine zE ?_
     refine zD ?_
     try simp only[zP]
     clear hS
     go_wp2_with fail
     go_roundw
     case rel=>exact ⟨k+1,v',by omega,by go_num,rfl,rfl,rfl,HL.out⟩
     case measure=>simp[intOf];omega
   ·obtain rfl:k=n:=by omega
    obtain⟨A0,c0,ev0,hc0,hs0⟩:=Jj hR 0
    obtain⟨A1,c1,ev1,hc1,hs1⟩:=Jj hR 1
    obtain⟨A2,c2,ev2,hc2,hs2⟩:=Jj hR 2
    rw[ev0,ev1,ev2]
    have HK:=zh hR.keep
    have H1:=zh (hs1 _ (fun j hj=>TL hj))
    have H2:=zh (hs2 _ (fun j hj=>TW hj))
    have H0:=zh (hs0 _ (fun j hj=>TS hj))
    clear hs0 hs1 hs2 ev0 ev1 ev2 hR HS
    go_wp2_with fail
    refine(D.AL _ _ _ _ _ (mR f k) H0.out (Df HV.out) hn4).mono ?_
    rintro e w2 ⟨B0,d0,rfl,hr0,hk0⟩
    have P0:=zh (show oD wr w2 B0 d0 (bX f k 0) from ⟨hr0⟩)
    have H1:=zh (H1.out.keeps hk0 (fun _ _ h=>h))
    have H2:=zh (H2.out.keeps hk0 (fun _ _ h=>h))
    have HK:=zh (HK.out.trans' hk0)
    rw[show (pack (D.aY (mR f k) k))=bX f k 0 from rfl]
    clear hr0 hk0 H0
    go_wp2_with fail
    refine(X.GH _ _ _ _ _ (nC f k) H1.out (NP f k) hn4).mono ?_
    rintro e w3 ⟨B1,d1,rfl,hr1,hk1⟩
    have P0:=zh (P0.out.keeps hk1)
    have P1:=zh (show oD w2 w3 B1 d1 (bX f k 1) from ⟨hr1⟩)
    have H2:=zh (H2.out.keeps hk1 (fun _ _ h=>h))
    have HK:=zh (HK.out.trans' hk1)
    rw[show (pack (X.aV (nC f k) k))=bX f k 1 from rfl]
    clear hr1 hk1 H1
    go_wp2_with fail
    refine(D.AL _ _ _ _ _ (mQ f k) H2.out (CF HV.out) hn4).mono ?_
    rintro e w4 ⟨B2,d2,rfl,hr2,hk2⟩
    have P0:=zh (P0.out.keeps hk2)
    have P1:=zh (P1.out.keeps hk2)
    have P2:=zh (show oD w3 w4 B2 d2 (bX f k 2) from ⟨hr2⟩)
    have HK:=zh (HK.out.trans' hk2)
    rw[show (pack (D.aY (mQ f k) k))=bX f k 2 from rfl]
    clear hr2 hk2 H2
    go_wp2_with fail
    refine(V.gW _ none 0 0 [] _ rfl (Sl.nil _ _ _ _) (by omega) (by omega) ?_ ?_).mono ?_
    ·first | omega | (rw[IntKind.wrap_u64];omega)
    ·first | omega | (rw[IntKind.wrap_u64];omega)
    rintro e w5 ⟨v5,rfl,hi5,hb5⟩
    have hk5:=Keeps.of_below (S:=fun _=>False) hb5
    have hi5':tK w4 w5 v5 (eG f k 0):=by
     have e:([] ++ V.aC ((k:Int)).toNat)=eG f k 0:=by simp;rfl
     unfold tK
     first | (rw[←e];exact hi5) | (
       rw[IntKind.wrap_u64] at hi5;rw[←e];have e2:((k:Int)%18446744073709551616).toNat=((k:Int)).toNat:=by omega
       rw[e2] at hi5;exact hi5)
    have P0:=zh (P0.out.keeps hk5)
    have P1:=zh (P1.out.keeps hk5)
    have P2:=zh (P2.out.keeps hk5)
    have HK:=zh (HK.out.trans' hk5)
    have HI:=zh hi5'
    have HZ:=zh hk5.size
    clear hi5 hi5' hb5 hk5
    have l0:(bX f k 0).length≤40000:=mI f k 0 hn4
    have l1:(bX f k 1).length≤40000:=mI f k 1 hn4
    have l2:(bX f k 2).length≤40000:=mI f k 2 hn4
    have HL:=zh (zN l0 (zN l1 l2))
    clear l0 l1 l2
    go_wp2_with fail
    go_loopw [15,67] (fun v15 i wr=>∃ j:Nat,j≤3∧i=.int .i64 j∧tK w4 wr v15 (eG f k j)∧Keeps (fun _=>False) w5 wr) (fun _ i _=>3-(intOf i).toNat)
    case atStart=>exact ⟨0,Nat.zero_le _,rfl,HI.out,Keeps.refl _ _⟩
    case round=>
     obtain⟨j,hj,rfl,hI,hkk⟩:=hrel
     obtain⟨A5,c5,rfl,hc5,hs5⟩:=hI.form
     have hl5:=oC f k hn4 j
     have HI:=zh (zN hs5 (zN hkk hl5))
     clear hI hs5 hkk hl5
     have h4:j=0∨j=1∨j=2∨j=3:=by omega
     rcases h4 with rfl | rfl | rfl | rfl
     ·
      rw[show ((0:Nat):Int)=0 from rfl]
      have hcv:=nN (P:=Tryz.prog) (c:=d0) 72 5 9 Tryz.underlying72 Tryz.underlying5 Tryz.underlying9 (bs:=bX f k 0) rfl (P0.out.keeps HI.out.2.1).sl
      obtain⟨i0,i1,i2⟩:=Eo B0 B1 B2 (bX f k 0).length (bX f k 1).length (bX f k 2).length d0 d1 d2 wr
      go_wp2_with fail
      clear hcv i0 i1 i2
      refine(V.jU _ _ _ _ (eG f k 0) _ rfl HI.out.1 hc5 ?_ ?_).mono ?_
      ·have:=HI.out.2.2;omega
      ·rw[mM];have:=HL.out;omega
      rintro e w6 ⟨v6,rfl,hi6,hb6⟩
      have hk6:=Keeps.of_below (S:=fun _=>False) hb6
      rw[EK f k 0] at hi6
      have HJ:=zh (zN (show tK w4 w6 v6 (eG f k (0+1)) from aU hi6 (Nat.le_trans (by have:=HI.out.2.1.size;have:=HZ.out;omega) (Nat.le_refl _))) (HI.out.2.1.trans' hk6))
      clear hi6 hb6 hk6
      go_wp2_with fail
      go_roundw
      case rel=>exact ⟨0+1,by omega,by go_num,HJ.out.1,HJ.out.2⟩
      case measure=>simp[intOf]
     ·
      rw[show ((1:Nat):Int)=1 from rfl]
      have hcv:=nN (P:=Tryz.prog) (c:=d1) 72 5 9 Tryz.underlying72 Tryz.underlying5 Tryz.underlying9 (bs:=bX f k 1) rfl (P1.out.keeps HI.out.2.1).sl
      obtain⟨i0,i1,i2⟩:=Eo B0 B1 B2 (bX f k 0).length (bX f k 1).length (bX f k 2).length d0 d1 d2 wr
      go_wp2_with fail
      clear hcv i0 i1 i2
      refine(V.jU _ _ _ _ (eG f k 1) _ rfl HI.out.1 hc5 ?_ ?_).mono ?_
      ·have:=HI.out.2.2;omega
      ·rw[mM];have:=HL.out;omega
      rintro e w6 ⟨v6,rfl,hi6,hb6⟩
      have hk6:=Keeps.of_below (S:=fun _=>False) hb6
      rw[EK f k 1] at hi6
      have HJ:=zh (zN (show tK w4 w6 v6 (eG f k (1+1)) from aU hi6 (Nat.le_trans (by have:=HI.out.2.1.size;have:=HZ.out;omega) (Nat.le_refl _))) (HI.out.2.1.trans' hk6))
      clear hi6 hb6 hk6
      go_wp2_with fail
      go_roundw
      case rel=>exact ⟨1+1,by omega,by go_num,HJ.out.1,HJ.out.2⟩
      case measure=>simp[intOf]
     ·
      rw[show ((2:Nat):Int)=2 from rfl]
      have hcv:=nN (P:=Tryz.prog) (c:=d2) 72 5 9 Tryz.underlying72 Tryz.underlying5 Tryz.underlying9 (bs:=bX f k 2) rfl (P2.out.keeps HI.out.2.1).sl
      obtain⟨i0,i1,i2⟩:=Eo B0 B1 B2 (bX f k 0).length (bX f k 1).length (bX f k 2).length d0 d1 d2 wr
      go_wp2_with fail
      clear hcv i0 i1 i2
      refine(V.jU _ _ _ _ (eG f k 2) _ rfl HI.out.1 hc5 ?_ ?_).mono ?_
      ·have:=HI.out.2.2;omega
      ·rw[mM];have:=HL.out;omega
      rintro e w6 ⟨v6,rfl,hi6,hb6⟩
      have hk6:=Keeps.of_below (S:=fun _=>False) hb6
      rw[EK f k 2] at hi6
      have HJ:=zh (zN (show tK w4 w6 v6 (eG f k (2+1)) from aU hi6 (Nat.le_trans (by have:=HI.out.2.1.size;have:=HZ.out;omega) (Nat.le_refl _))) (HI.out.2.1.trans' hk6))
      clear hi6 hb6 hk6
      go_wp2_with fail
      go_roundw
      case rel=>exact ⟨2+1,by omega,by go_num,HJ.out.1,HJ.out.2⟩
      case measure=>simp[intOf]
     ·rw[show ((3:Nat):Int)=3 from rfl]
      go_wp2_with fail
      refine(F.pR _ 3 _ _ _ _ (eG f k 3) rfl HI.out.1 (oW f k 3) (by omega) (by have:=HI.out.2.2;omega)).mono ?_
      intro e w6 hp
      obtain⟨A6,c6,rfl,ho6,hk6⟩:=hp
      have HP:=zh (zN ho6 hk6)
      clear ho6 hk6
      go_wp2_with fail
      go_ret2
      exact OZ HV.out (HK.out.trans' HI.out.2.1) ⟨A6,c6,rfl,HP.out.1,HP.out.2⟩
end
section
open Go.RowKit Go.ChangeShapes Go.WideShapes Go.Deep
end
section
open Go.RowKit Go.Maps
structure dG(w0:World)(xo xf:Nat)(vo vf:Value)(O F:List Nat)(w:World): Prop where
 own:Own w0 [(xo,72,#[vo]),(xf,72,#[vf])] w
 o:w.ownsRow w0.heap.size 5 1 vo O.length (O.map V.aI)
 f:w.ownsRow w0.heap.size 5 1 vf F.length (F.map V.aI)
 dis:∀ g,vo.ownBlock=some g→vf.ownBlock≠some g
theorem dG.call{w0 w w':World}{xo xf:Nat}{vo vf:Value}{O F:List Nat}(h:dG w0 xo xf vo vf O F w)(hb:Below w.heap.size w w'): dG w0 xo xf vo vf O F w':=
 ⟨h.own.call hb,V.bH h.o hb,V.bH h.f hb,h.dis⟩
theorem rU{w:World}{B n g:Nat}{v u v0:Value}{xs:List Value}(h:w.ownsRow B 5 1 v n xs)(hg:au w g 72 #[v0]): (w.setCell ⟨g,0,none⟩ u).ownsRow B 5 1 v n xs:=
 h.kept (mJ w g 0 u) (.inr (own_ne h hg (by decide)))
theorem dG.foot{w0 w w':World}{xo xf:Nat}{vo vf v':Value}{O F F':List Nat}(h:dG w0 xo xf vo vf O F w)(hb:Below w.heap.size w w')(ho:w'.ownsRow w.heap.size 5 1 v' F'.length (F'.map V.aI)):
  dG w0 xo xf vo v' O F' (w'.setCell ⟨xf,0,none⟩ v'):=by
 have h':=h.call hb
 have hx:=h'.own.get 1 rfl
 refine⟨h'.own.set 1 0 rfl v',rU h'.o hx,rU (aU ho h.own.bel.size) hx,fun g hg hg'=>?_⟩
 have h1:=(h.o.lt g hg).2
 have h2:=(ho.lt g hg').1
 omega
theorem dG.Ni{w0 w w':World}{xo xf:Nat}{vo vf:Value}{O F:List Nat}(h:dG w0 xo xf vo vf O F w)(hg:w.grownBy w' vo.ownBlock): Own w0 [(xo,72,#[vo]),(xf,72,#[vf])] w':=by
 have n1:=own_ne h.o (h.own.get 0 rfl) (by decide)
 have n2:=own_ne h.o (h.own.get 1 rfl) (by decide)
 refine⟨V.qE h.own.bel h.o hg,fun b hb=>⟨(h.own.blk b hb).1,?_⟩,h.own.nd⟩
 show w'.heap[b.1]? = _
 have hl:=h.own.lt b hb
 have hne:some b.1≠vo.ownBlock:=by
  rcases List.mem_cons.1 hb with rfl | hb
  ·exact fun e=>n1 e.symm
  ·obtain rfl:=List.mem_singleton.1 hb
   exact fun e=>n2 e.symm
 rw[hg.block b.1 hl hne]
 exact(h.own.blk b hb).2
theorem dG.out{w0 w w':World}{xo xf:Nat}{vo vf v':Value}{O F O':List Nat}(h:dG w0 xo xf vo vf O F w)(ho:w'.ownsRow w0.heap.size 5 1 v' O'.length (O'.map V.aI))(hg:w.grownBy w' vo.ownBlock)(hx:v'.ownBlock=vo.ownBlock∨v'.ownBlock=some w.heap.size):
  dG w0 xo xf v' vf O' F (w'.setCell ⟨xo,0,none⟩ v'):=by
 have hown:=h.Ni hg
 have hf':w'.ownsRow w0.heap.size 5 1 vf F.length (F.map V.aI):=h.f.kept hg (by
  cases e:vf.ownBlock with
  | none=>exact .inl rfl
  | some g=>exact .inr fun e'=>h.dis g e'.symm e)
 have hxo:=hown.get 0 rfl
 refine⟨hown.set 0 0 rfl v',rU ho hxo,rU hf' hxo,fun g hg1 hg2=>?_⟩
 rcases hx with hx | hx
 ·exact h.dis g (by rw[←hx];exact hg1) hg2
 ·rw[hx] at hg1
  injection hg1 with hg1
  have:=(h.f.lt g hg2).2
  omega
def lC(f:Nat→Pt)(n:Nat): List Nat:=V.aC (dU f n).1.length ++ V.aC (zig (f 0).t) ++ V.aC (zig (f (n-1)).t) ++ V.aC n
def DY(w0:World)(xo xf:Nat)(O FT:List Nat)(f:Nat→Pt)(n:Nat)(e:Ending)(w':World): Prop:=
 e=.returned (.tuple #[])∧∃ vo vf,dG w0 xo xf vo vf (O ++ (dU f n).1) (FT ++ lC f n) w'
theorem DN(w0 w:World)(xo xf:Nat)(vo vf:Value)(O FT:List Nat)(A:Option Addr)(n c:Nat)(f:Nat→Pt)(h:dG w0 xo xf vo vf O FT w)(hsl:dO w (fun q=>q < w0.heap.size) A n f)(hn:0 < n)(hn':n≤4096)(hc:n≤c)(hO:O.length≤1073741824)(hF:FT.length≤1073741824)(hB:(dU f n).1.length≤1073741824)(hok:∀ j,oM (f j)):
  Calls Tryz.prog 225 #[.slice A n c,.pointer (some ⟨xo,0,none⟩),.pointer (some ⟨xf,0,none⟩)] w (DY w0 xo xf O FT f n):=by
 obtain⟨b,off,rfl,hbl,hcell⟩:=hsl hn
 obtain⟨m,rfl⟩:∃ m,n=m+1:=⟨n-1,by omega⟩
 have hpt:∀ wx,Below w0.heap.size w0 wx→∀ j,j < m+1→wx.cell? ⟨b,off+j*3,none⟩=some (.int .i64 (f j).t):=fun wx hx j hj=>(hx.cell (by exact hbl)).trans ((h.own.bel.cell (by exact hbl)).symm.trans (hcell j hj).1)
 have H0:=zh (zN h (zN hsl (zN hpt hok)))
 clear h hsl hcell hok hpt
 go_enter Tryz.func225,Tryz.ntmps225
 go_wp2_with fail
 refine(FK _ (m+1) c f _ _ H0.out.2.1 (by omega)).mono ?_
 rintro e w1 ⟨A1,c1,rfl,ho1,hk1⟩
 have h1:=H0.out.1.call hk1.bM
 obtain⟨B,hBe⟩:∃ B,B=(dU f (m+1)).1:=⟨_,rfl⟩
 obtain⟨er,hee⟩:∃ er,er=(dU f (m+1)).2:=⟨_,rfl⟩
 have hB':=hB
 rw[←hBe] at ho1 hB' ⊢
 rw[←hee]
 have H1:=zh (zN h1 (zN (V.dN ho1) (zN hBe hk1.bM)))
 clear h1 ho1 hk1 hBe hee hB
 have zo:=H1.out.1.own.cell 0 0 rfl rfl
 obtain⟨nb,hnb⟩:∃ nb,nb=B.length:=⟨_,rfl⟩
 rw[←hnb]
 have HNB:=zh hnb
 clear hnb
 go_wp2_with (at_builtin;refine aW (f:=aD B) (D:=fun k=>k < w1.heap.size) (base:=w0.heap.size) (n:=O.length) (xs:=O.map V.aI) V.byteElem rfl (.tmp 11) (.tmp 12) rfl rfl rfl ?hown ?hsl ?h1 ?h63 ?hby ?hbase ?_)
 case hown=>exact H1.out.1.o
 case hsl=>rw[HNB.out];exact H1.out.2.1
 case h1=>intro j _;rfl
 case h63=>rw[HNB.out];unfold maxLen;omega
 case hby=>rw[HNB.out];omega
 case hbase=>exact H1.out.1.own.bel.size
 intro v2 w2 ho2 hg2 hx2
 have ho2':w2.ownsRow w0.heap.size 5 1 v2 (O ++ B).length ((O ++ B).map V.aI):=by
  have:=ho2
  rw[HNB.out,←V.fE rfl] at this
  rw[List.length_append,List.map_append]
  exact this
 obtain⟨A2,c2,hv2,-,-⟩:=aA ho2'
 subst hv2
 obtain⟨lo,hlo⟩:∃ lo,lo=(O ++ B).length:=⟨_,rfl⟩
 rw[←hlo] at ho2' ⊢
 have hW:=H1.out.1.Ni hg2
 have z0:=hW.cell 0 0 rfl rfl
 have zf:=hW.free 0 rfl
 have h2:=H1.out.1.out (O':=O ++ B) (by rw[←hlo];exact ho2') hg2 (by rw[←hlo] at hx2;exact hx2)
 have H2:=zh (zN h2 hlo)
 clear ho2 hg2 hx2 ho2' hW zo h2 hlo
 go_upto_region 2 with (fail)
 clear z0 zf
 refine aH (dG w0 xo xf (.slice A2 lo c2) vf (O ++ B) FT) H2.out.1 ?_
 intro w3 h3
 obtain⟨Af,cf,hvf,hcf,-⟩:=aA h3.f
 subst hvf
 obtain⟨lf,hlf⟩:∃ lf,lf=FT.length:=⟨_,rfl⟩
 rw[←hlf] at hcf hF
 have zc:=h3.own.cell 1 0 rfl rfl
 rw[←hlf] at zc
 have ku:IntKind.u64.wrap (nb:Int)=(nb:Int):=by rw[IntKind.wrap_u64,HNB.out];omega
 have H3:=zh (zN h3 hlf.symm)
 clear h3 hlf
 go_wp2_with fail
 refine(V.gW _ Af lf cf FT (nb:Int) H3.out.2 (by have:=V.dN H3.out.1.f;rw[H3.out.2] at this;exact this) hcf (by omega) (by omega) (by rw[HNB.out];omega)).mono ?_
 rintro e w4 ⟨v4,rfl,ho4,hb4⟩
 rw[Int.toNat_natCast] at ho4
 obtain⟨F4,hF4⟩:∃ F4,F4=FT ++ V.aC nb:=⟨_,rfl⟩
 rw[←hF4] at ho4
 have hl4:F4.length≤lf+10:=by
  have:=V.aR (u:=nb) (by rw[HNB.out];omega)
  rw[hF4,List.length_append,H3.out.2];omega
 obtain⟨A4,c4,hv4,hc4,-⟩:=aA ho4
 subst hv4
 have hW:=H3.out.1.own.call hb4
 have z0:=hW.cell 1 0 rfl rfl
 rw[H3.out.2] at z0
 have zf:=hW.free 1 rfl
 have H4:=zh (zN (H3.out.1.foot hb4 ho4) hF4)
 clear ho4 hb4 hW zc ku hF4
 go_upto_region 3 with (fail)
 clear z0 zf
 refine aH (dG w0 xo xf (.slice A2 lo c2) (.slice A4 F4.length c4) (O ++ B) F4) H4.out.1 ?_
 intro w5 h5
 obtain⟨l4,hl4e⟩:∃ l,l=F4.length:=⟨_,rfl⟩
 rw[←hl4e] at h5 hl4 hc4 ⊢
 have p0:=H0.out.2.2.1 w5 h5.own.bel 0 (by omega)
 have pm:=H0.out.2.2.1 w5 h5.own.bel m (by omega)
 have H5:=zh (zN h5 (zN hl4e.symm (zN p0 pm)))
 clear h5 hl4e p0 pm
 have km:(m:Int) < (m:Int)+1:=by omega
 have k0:(0:Int) < (m:Int)+1:=by omega
 have kw:IntKind.i64.wrap (m:Int)=(m:Int):=IntWalk.i64_in _ (by omega)
 obtain⟨t0,ht0⟩:∃ z,z=(f 0).t:=⟨_,rfl⟩
 obtain⟨tm,htm⟩:∃ z,z=(f m).t:=⟨_,rfl⟩
 have HT:=zh (zN ht0 htm)
 clear ht0 htm
 have hd:=H5.out.1.call (Below.refl w5.heap.size w5).drew
 have hS:(fun w'=>∃ vf FF,dG w0 xo xf (.slice A2 lo c2) vf (O ++ B) FF w') (w5.drew):=⟨_,_,hd⟩
 refine av (fun w'=>∃ vf FF,dG w0 xo xf (.slice A2 lo c2) vf (O ++ B) FF w') (by kernel_rfl) hS ?_
 generalize w5.drew=wd at hS hd ⊢
 have HD:=zh hd
 clear hd
 refine zB [1,2,3] ?_
 iterate 3 (refine zV ?_ ?_ hS ?_;rotate_left;(intro w' hSw;go_simp<;>with_reducible rfl);try simp only[zP])
 refine zE ?_
 refine zT 4 ?_ ?_ hS ?_
 rotate_left
 ·(intro w' hSw;have u0:=(by obtain ⟨_,_,hq⟩:=hSw;have:=H0.out.2.2.1 w' hq.own.bel 0 (by omega);rw[←HT.out.1] at this;simpa using this:w'.cell? ⟨b,off,none⟩=some (.int .i64 t0));go_simp<;>with_reducible rfl)
 try simp only[zP]
 refine zB [6,7,8,9,10,11] ?_
 iterate 6 (refine zV ?_ ?_ hS ?_;rotate_left;(intro w' hSw;go_simp<;>with_reducible rfl);try simp only[zP])
 refine zE ?_
 refine zT 12 ?_ ?_ hS ?_
 rotate_left
 ·(intro w' hSw;have u0:=(by obtain ⟨_,_,hq⟩:=hSw;have:=H0.out.2.2.1 w' hq.own.bel m (by omega);rw[←HT.out.2] at this;exact this:w'.cell? ⟨b,off+m*3,none⟩=some (.int .i64 tm));go_simp<;>with_reducible rfl)
 try simp only[zP]
 have u0:=HD.out.own.cell 1 0 rfl rfl
 refine zC 0 fun K HK=>?_
 go_simp
 go_wp2_with fail
 refine HK.out.zt (fun w'=>∃ vf FF,dG w0 xo xf (.slice A2 lo c2) vf (O ++ B) FF w') (fun _ h=>h) (⟨_,_,HD.out⟩) ?_
 clear HK hS
 intro hS
 try simp only[zP]
 clear u0
 refine zC 5 fun K HK=>?_
 go_simp
 refine(V.jO _ A4 l4 c4 F4 t0 H5.out.2.1 (by have:=HD.out.f;rw[H5.out.2.1] at this;exact V.dN this) hc4 (by omega) (by rw[HT.out.1];exact (H0.out.2.2.2 0).1.1) (by rw[HT.out.1];exact (H0.out.2.2.2 0).1.2)).mono ?_
 rintro e w6 ⟨v6,rfl,ho6,hb6⟩
 obtain⟨F6,hF6⟩:∃ F6,F6=F4 ++ V.aC (zig t0):=⟨_,rfl⟩
 rw[←hF6] at ho6
 have hl6:F6.length≤lf+20:=by
  have:=V.aR (u:=zig t0) (jc (by rw[HT.out.1];exact (H0.out.2.2.2 0).1.1) (by rw[HT.out.1];exact (H0.out.2.2.2 0).1.2))
  rw[hF6,List.length_append,H5.out.2.1];omega
 obtain⟨l6,hl6e⟩:∃ l,l=F6.length:=⟨_,rfl⟩
 rw[←hl6e] at ho6 hl6
 obtain⟨A6,c6,hv6,hc6,-⟩:=aA ho6
 subst hv6
 have H6:=zh (zN (HD.out.call hb6) (zN hF6 (zN hl6e.symm (V.dN ho6))))
 clear ho6 hb6 hF6 hl6e
 go_wp2_with fail
 refine HK.out.zt (fun w'=>∃ vf FF,dG w0 xo xf (.slice A2 lo c2) vf (O ++ B) FF w') (fun _ h=>h) (⟨_,_,H6.out.1⟩) ?_
 clear HK hS
 intro hS
 try simp only[zP]
 refine zC 13 fun K HK=>?_
 go_simp
 refine(V.jO _ A6 l6 c6 F6 tm H6.out.2.2.1 H6.out.2.2.2 hc6 (by omega) (by rw[HT.out.2];exact (H0.out.2.2.2 m).1.1) (by rw[HT.out.2];exact (H0.out.2.2.2 m).1.2)).mono ?_
 rintro e w7 ⟨v7,rfl,ho7,hb7⟩
 obtain⟨F7,hF7⟩:∃ F7,F7=F6 ++ V.aC (zig tm):=⟨_,rfl⟩
 rw[←hF7] at ho7
 have hl7:F7.length≤lf+30:=by
  have:=V.aR (u:=zig tm) (jc (by rw[HT.out.2];exact (H0.out.2.2.2 m).1.1) (by rw[HT.out.2];exact (H0.out.2.2.2 m).1.2))
  rw[hF7,List.length_append,H6.out.2.2.1];omega
 obtain⟨A7,c7,hv7,hc7,-⟩:=aA ho7
 subst hv7
 have h7:=H6.out.1.call hb7
 have z0:=h7.own.cell 1 0 rfl rfl
 have zf:=h7.own.free 1 rfl
 have H7:=zh (zN h7 (zN (H6.out.1.foot hb7 ho7) hF7))
 clear ho7 hb7 hF7 h7
 go_wp2_with fail
 refine HK.out.zt (fun w'=>∃ vf FF,dG w0 xo xf (.slice A2 lo c2) vf (O ++ B) FF w') (fun _ h=>h) (⟨_,_,H7.out.1⟩) ?_
 clear HK hS
 intro hS
 try simp only[zP]
 refine zC 14 fun K HK=>?_
 go_simp
 go_wp2_with fail
 refine HK.out.zt (fun w'=>∃ vf FF,dG w0 xo xf (.slice A2 lo c2) vf (O ++ B) FF w') (fun _ h=>h) (⟨_,_,H7.out.2.1⟩) ?_
 clear HK hS
 intro hS
 try simp only[zP]
 refine zD ?_
 try simp only[zP]
 clear hS z0 zf
 go_upto_region 4 with (fail)
 refine aH (dG w0 xo xf (.slice A2 lo c2) (.slice A7 F7.length c7) (O ++ B) F7) H7.out.2.1 ?_
 intro w8 h8
 obtain⟨l7,hl7e⟩:∃ l,l=F7.length:=⟨_,rfl⟩
 rw[←hl7e] at h8 hl7 hc7 ⊢
 have zc:=h8.own.cell 1 0 rfl rfl
 have ku:IntKind.u64.wrap ((m:Int)+1)=((m:Int)+1):=by rw[IntKind.wrap_u64];omega
 have H8:=zh (zN h8 hl7e.symm)
 clear h8 hl7e
 go_wp2_with fail
 refine(V.gW _ A7 l7 c7 F7 ((m:Int)+1) H8.out.2 (by have:=H8.out.1.f;rw[H8.out.2] at this;exact V.dN this) hc7 (by omega) (by omega) (by omega)).mono ?_
 rintro e w9 ⟨v9,rfl,ho9,hb9⟩
 rw[show ((m:Int)+1).toNat=m+1 by omega] at ho9
 obtain⟨F9,hF9⟩:∃ F9,F9=F7 ++ V.aC (m+1):=⟨_,rfl⟩
 rw[←hF9] at ho9
 have HF9:=zh hF9
 clear hF9
 obtain⟨A9,c9,hv9,hc9,-⟩:=aA ho9
 subst hv9
 have h9:=H8.out.1.own.call hb9
 have z0:=h9.cell 1 0 rfl rfl
 have zf:=h9.free 1 rfl
 have T9:=H8.out.1.foot hb9 ho9
 have H9:=zh T9
 clear ho9 hb9 h9 zc ku T9
 go_wp2_with fail
 have e1:O ++ (dU f (m+1)).1=O ++ B:=by rw[H1.out.2.2.1]
 have e2:FT ++ lC f (m+1)=F9:=by
  unfold lC
  rw[HF9.out,H7.out.2.2,H6.out.2.1,H4.out.2,←H1.out.2.2.1,←HNB.out,HT.out.1,HT.out.2]
  simp only[List.append_assoc,Nat.add_sub_cancel]
 refine bodyPost_end (v:=.tuple #[]) (by simp[results,Tryz.results225,go_sem]) rfl ?_
 unfold DY
 rw[e1,e2]
 exact⟨rfl,_,_,H9.out⟩
end
section
open Go.RowKit Go.Maps
def aZ(f:Nat→Pt)(a:Nat)(j:Nat): Pt:=f (a+j)
def bn(n a:Nat): Nat:=min (a+1024) n-a
def bO(f:Nat→Pt)(n:Nat): Nat→List Nat
 | 0=>[]
 | k+1=>bO f n k ++ (dU (aZ f (1024*k)) (bn n (1024*k))).1
def bF(f:Nat→Pt)(n:Nat): Nat→List Nat
 | 0=>[]
 | k+1=>bF f n k ++ lC (aZ f (1024*k)) (bn n (1024*k))
def jP(f:Nat→Pt)(n k:Nat): Bool:=dX (aZ f (1024*k)) (bn n (1024*k)) && (k == 0 || decide ((f (1024*k-1)).t < (f (1024*k)).t))
def bV(f:Nat→Pt)(n:Nat): Nat→Bool
 | 0=>true
 | k+1=>bV f n k && jP f n k
theorem D7{f:Nat→Pt}{n k:Nat}(h:jP f n k=false): ∀ m,k < m→bV f n m=false
 | 0,hk=>by omega
 | m+1,hk=>by
  show (bV f n m && jP f n m)=false
  rcases Nat.lt_or_ge k m with h1 | h1
  ·rw[D7 h m h1];rfl
  ·rw[show m=k by omega,h];simp
theorem rV(f:Nat→Pt)(n:Nat)(hn:n≤4096): (dU f n).1.length≤130049:=by
 unfold dU
 have:=oC f n hn 3
 split
 ·show (F.aN 3 _).length≤_
  rw[F.bB];omega
 ·show ([]:List Nat).length≤_;simp
theorem yY(f:Nat→Pt)(n:Nat)(hn:n≤4096): ∀ k,(bO f n k).length≤k*130049
 | 0=>by simp[bO]
 | k+1=>by
  have ih:=yY f n hn k
  have h:=rV (aZ f (1024*k)) (bn n (1024*k)) (by unfold bn;omega)
  show (bO f n k ++ _).length≤_
  rw[List.length_append]
  omega
theorem M4(f:Nat→Pt)(hok:∀ j,oM (f j))(n:Nat)(hn:n≤4096): (lC f n).length≤40:=by
 unfold lC
 have h0:=rV f n hn
 have h1:=V.aR (u:=(dU f n).1.length) (by omega)
 have h2:=V.aR (u:=zig (f 0).t) (jc (hok 0).1.1 (hok 0).1.2)
 have h3:=V.aR (u:=zig (f (n-1)).t) (jc (hok _).1.1 (hok _).1.2)
 have h4:=V.aR (u:=n) (by omega)
 simp only[List.length_append]
 omega
theorem vI(f:Nat→Pt)(hok:∀ j,oM (f j))(n:Nat)(hn:n≤4096): ∀ k,(bF f n k).length≤k*40
 | 0=>by simp[bF]
 | k+1=>by
  have ih:=vI f hok n hn k
  have h:=M4 (aZ f (1024*k)) (fun j=>hok _) (bn n (1024*k)) (by unfold bn;omega)
  show (bF f n k ++ _).length≤_
  rw[List.length_append]
  omega
def aT(n:Nat): Nat:=(n+1023) / 1024
def RG(w0:World)(xo xf:Nat)(O FT:List Nat)(f:Nat→Pt)(n:Nat)(e:Ending)(w':World): Prop:=
 (bV f n (aT n)=true∧0 < n∧e=.returned (.bool true)∧∃ vo vf,dG w0 xo xf vo vf (O ++ bO f n (aT n)) (FT ++ bF f n (aT n)) w')∨
 ((bV f n (aT n)=false∨n=0)∧e=.returned (.bool false)∧Below w0.heap.size w0 w')
theorem JC(w0 w:World)(xo xf:Nat)(vo vf:Value)(O FT:List Nat)(A:Option Addr)(n c:Nat)(f:Nat→Pt)(h:dG w0 xo xf vo vf O FT w)(hsl:dO w (fun q=>q < w0.heap.size) A n f)(hn:n≤4096)(hc:n≤c)(hcm:c≤9223372036854775807)(hO:O.length≤536870912)(hF:FT.length≤536870912)(hok:∀ j,oM (f j)):
  Calls Tryz.prog 224 #[.slice A n c,.func (.func 225) #[] #[.pointer (some ⟨xo,0,none⟩),.pointer (some ⟨xf,0,none⟩)]] w (RG w0 xo xf O FT f n):=by
 have H0:=zh (zN h (zN hsl hok))
 clear h hsl hok
 go_enter Tryz.func224,Tryz.ntmps224
 go_wp2_with fail
 go_loopw [5] (fun i wr=>∃ (k:Nat),k≤aT n∧i=.int .i64 ((1024*k:Nat):Int)∧bV f n k=true∧∃ vo vf,dG w0 xo xf vo vf (O ++ bO f n k) (FT ++ bF f n k) wr) (fun i _=>n-(intOf i).toNat)
 case atStart=>exact ⟨0,by omega,rfl,rfl,vo,vf,by rw[show bO f n 0=[] from rfl,show bF f n 0=[] from rfl,List.append_nil,List.append_nil];exact H0.out.1⟩
 case round=>
  obtain⟨k,hk,rfl,hv,vo1,vf1,hT⟩:=hrel
  by_cases hlt:1024*k < n
  ·obtain ⟨b,off,hA,hbl,hcell⟩:=H0.out.2.1 (by omega)
   subst hA
   obtain⟨a,ha⟩:∃ a,a=1024*k:=⟨_,rfl⟩
   rw[←ha]
   have hlt':(a:Int) < (n:Int):=by omega
   have HT:=zh (zN hT (zN hv (zN ha hcell)))
   clear hT hv hcell ha
   go_upto_region 5 with (fail)
   have hp:(min ((a:Int)+1024) (n:Int)).toNat-a=bn n a:=by unfold bn;omega
   generalize min ((a:Int)+1024) (n:Int)=mv at hp ⊢
   rw[hp]
   obtain⟨p,hpe⟩:∃ p,p=bn n a:=⟨_,rfl⟩
   rw[←hpe]
   have hp0:0 < p:=by rw[hpe];unfold bn;omega
   have hp1:p≤1024:=by rw[hpe];unfold bn;omega
   have hpn:a+p≤n:=by rw[hpe];unfold bn;omega
   have hsp:∀ wx,Below w0.heap.size w0 wx→dO wx (fun q=>q < w0.heap.size) (some ⟨b,off+a*3,none⟩) p (aZ f a):=by
    intro wx hx
    have h1:dO wx (fun q=>q < w0.heap.size) (some ⟨b,off,none⟩) (a+p) f:=fun hq=>by
     refine⟨b,off,rfl,hbl,fun j hj=>?_⟩
     obtain⟨g1,g2,g3⟩:=HT.out.2.2.2 j (by omega)
     have hb:∀ o,wx.cell? ⟨b,o,none⟩=w.cell? ⟨b,o,none⟩:=fun o=>(hx.cell (by exact hbl)).trans (H0.out.1.own.bel.cell (by exact hbl)).symm
     exact⟨(hb _).trans g1,(hb _).trans g2,(hb _).trans g3⟩
    exact h1.drop
   have hst:jP f n k=(dX (aZ f a) p && (k == 0 || decide ((f (a-1)).t < (f a).t))):=by unfold jP;rw[←HT.out.2.2.1,←hpe]
   have HP:=zh (zN hpe (zN hsp hst))
   clear hp hpe hsp hst
   have hval:=fun (wx:World) (hx:Below w0.heap.size w0 wx)=>sH (some ⟨b,off+a*3,none⟩) p (c-a) (aZ f a) _ wx (HP.out.2.1 wx hx) (by omega)
   have HV:=zh hval
   clear hval
   have hS:(dG w0 xo xf vo1 vf1 (O ++ bO f n k) (FT ++ bF f n k)) (wr.drew):=HT.out.1.call (Below.refl _ _).drew
   refine av (dG w0 xo xf vo1 vf1 (O ++ bO f n k) (FT ++ bF f n k)) (by kernel_rfl) hS ?_
   refine zT 0 ?_ ?_ hS ?_
   rotate_left
   ·(intro w' hSw;go_simp<;>with_reducible rfl)
   try simp only[zP]
   refine zC 1 fun K HK=>?_
   go_simp
   refine(HV.out _ hS.own.bel).mono ?_
   rintro e w6 ⟨rfl,hb6⟩
   have H6:=zh (hS.call hb6)
   clear hb6
   cases hcv:dX (aZ f a) p with
   | false=>
    have HF:=zh (show bV f n (aT n)=false from D7 (k:=k) (by rw[HP.out.2.2,hcv];rfl) _ (by unfold aT;have:=HT.out.2.2.1;omega))
    clear hcv
    go_wp2_with fail
    refine HK.out.zt (dG w0 xo xf vo1 vf1 (O ++ bO f n k) (FT ++ bF f n k)) (fun _ h=>h) (H6.out) ?_
    clear HK hS
    intro hS
    try simp only[zP]
    refine zB [2,3] ?_
    iterate 2 (refine zV ?_ ?_ hS ?_;rotate_left;(intro w' hSw;go_simp<;>with_reducible rfl);try simp only[zP])
    refine zE ?_
    refine zB [4,5,6,7,8,9,10,11,12,13,14,15,16,17,18] ?_
    iterate 15 (refine zW hS ?_;try simp only[zP])
    refine zE ?_
    refine zT 19 ?_ ?_ hS ?_
    rotate_left
    ·(intro w' hSw;go_simp<;>with_reducible rfl)
    try simp only[zP]
    refine zD ?_
    try simp only[zP]
    have HG:=zh hS.own.bel
    clear hS
    go_wp2_with fail
    go_ret
    exact .inr ⟨.inl HF.out,rfl,HG.out⟩
   | true=>
    have HCV:=zh hcv
    clear hcv
    go_wp2_with fail
    refine HK.out.zt (dG w0 xo xf vo1 vf1 (O ++ bO f n k) (FT ++ bF f n k)) (fun _ h=>h) (H6.out) ?_
    clear HK hS
    intro hS
    try simp only[zP]
    have hce:∀ wx,Below w0.heap.size w0 wx→∀ j,j < n→wx.cell? ⟨b,off+j*3,none⟩=some (.int .i64 (f j).t):=fun wx hx j hj=>
     (hx.cell (by exact hbl)).trans ((H0.out.1.own.bel.cell (by exact hbl)).symm.trans (HT.out.2.2.2 j hj).1)
    have HCE:=zh hce
    clear hce
    by_cases ha0:a=0
    ·have hk0:k=0:=by have:=HT.out.2.2.1;omega
     have HO:=zh (show jP f n k=true by rw[HP.out.2.2,HCV.out,hk0];rfl)
     have d0:decide ((0:Int) < (a:Int))=false:=by simp;omega
     have d0':decide (0 < a)=false:=by simp;omega
     clear ha0 hk0
     refine zB [2,3,4,5,6] ?_
     iterate 5 (refine zV ?_ ?_ hS ?_;rotate_left;(intro w' hSw;go_simp<;>with_reducible rfl);try simp only[zP])
     refine zE ?_
     refine zB [7,8,9,10,11,12,13,14,15,16,17] ?_
     iterate 11 (refine zW hS ?_;try simp only[zP])
     refine zE ?_
     refine zB [18,19] ?_
     iterate 2 (refine zV ?_ ?_ hS ?_;rotate_left;(intro w' hSw;go_simp<;>with_reducible rfl);try simp only[zP])
     refine zE ?_
     refine zD ?_
     try simp only[zP]
     have HG:=zh hS
     clear hS
     go_wp2_with fail
     refine(DN w0 _ xo xf vo1 vf1 (O ++ bO f n k) (FT ++ bF f n k) (some ⟨b,off+a*3,none⟩) p (c-a) (aZ f a) HG.out (HP.out.2.1 _ HG.out.own.bel) hp0 (by omega) (by omega)
      (by have:=yY f n hn k;have:=HT.out.2.2.1;rw[List.length_append];omega) (by have:=vI f H0.out.2.2 n hn k;have:=HT.out.2.2.1;rw[List.length_append];omega)
      (by have:=rV (aZ f a) p (by omega);omega) (fun j=>H0.out.2.2 _)).mono ?_
     rintro e w8 ⟨rfl,vo2,vf2,h8⟩
     have HE:=zh h8
     clear h8
     go_wp2_with fail
     go_roundw
     case rel=>
      refine⟨k+1,by unfold aT;have:=HT.out.2.2.1;omega,by congr 1;have:=HT.out.2.2.1;omega,?_,vo2,vf2,?_⟩
      ·show (bV f n k && jP f n k)=true
       rw[HT.out.2.1,HO.out];rfl
      ·have e1:O ++ bO f n (k+1)=(O ++ bO f n k) ++ (dU (aZ f a) p).1:=by rw[List.append_assoc,HP.out.1,HT.out.2.2.1];rfl
       have e2:FT ++ bF f n (k+1)=(FT ++ bF f n k) ++ lC (aZ f a) p:=by rw[List.append_assoc,HP.out.1,HT.out.2.2.1];rfl
       rw[e1,e2]
       exact HE.out
     case measure=>simp[intOf]<;>omega
    ·have d0:decide ((0:Int) < (a:Int))=true:=by simp;omega
     have d0':decide (0 < a)=true:=by simp;omega
     obtain⟨q,hq⟩:∃ q,q=a-1:=⟨_,rfl⟩
     have km:((a:Int)-1)=(q:Int):=by omega
     have kw:IntKind.i64.wrap (q:Int)=(q:Int):=IntWalk.i64_in _ (by omega)
     have hqn:(q:Int) < (n:Int):=by omega
     have hqn':q < n:=by omega
     have hp0i:(0:Int) < (p:Int):=by omega
     have hst:jP f n k = !decide ((f a).t≤(f q).t):=by
      rw[HP.out.2.2,HCV.out,hq]
      have hk:(k == 0)=false:=by have:=HT.out.2.2.1;simp;omega
      rw[hk]
      by_cases g:(f (a-1)).t < (f a).t
      ·rw[decide_eq_true g,decide_eq_false (by omega)];rfl
      ·rw[decide_eq_false g,decide_eq_true (by omega)];rfl
     have HST:=zh hst
     clear hst ha0 hq
     refine zB [2,3,4,5,6,7,8,9] ?_
     iterate 8 (refine zV ?_ ?_ hS ?_;rotate_left;(intro w' hSw;go_simp<;>with_reducible rfl);try simp only[zP])
     refine zE ?_
     refine zT 10 ?_ ?_ hS ?_
     rotate_left
     ·(intro w' hSw;have u0:=HCE.out w' hSw.own.bel a (by omega);go_simp<;>with_reducible rfl)
     try simp only[zP]
     refine zB [11,12,13,14,15] ?_
     iterate 5 (refine zV ?_ ?_ hS ?_;rotate_left;(intro w' hSw;go_simp<;>with_reducible rfl);try simp only[zP])
     refine zE ?_
     refine zT 16 ?_ ?_ hS ?_
     rotate_left
     ·(intro w' hSw;have u1:=HCE.out w' hSw.own.bel q hqn';go_simp<;>with_reducible rfl)
     try simp only[zP]
     refine zT 17 ?_ ?_ hS ?_
     rotate_left
     ·(intro w' hSw;go_simp<;>with_reducible rfl)
     try simp only[zP]
     by_cases hle:(f a).t≤(f q).t
     ·have d1:decide ((f a).t≤(f q).t)=true:=by simp[hle]
      have HF:=zh (show bV f n (aT n)=false from D7 (k:=k) (by rw[HST.out,d1];rfl) _ (by unfold aT;have:=HT.out.2.2.1;omega))
      clear hle
      refine zB [18,19] ?_
      iterate 2 (refine zV ?_ ?_ hS ?_;rotate_left;(intro w' hSw;go_simp<;>with_reducible rfl);try simp only[zP])
      refine zE ?_
      refine zD ?_
      try simp only[zP]
      have HG:=zh hS.own.bel
      clear hS
      go_wp2_with fail
      go_ret
      exact .inr ⟨.inl HF.out,rfl,HG.out⟩
     ·have d1:decide ((f a).t≤(f q).t)=false:=by simp;omega
      have HO:=zh (show jP f n k=true by rw[HST.out,d1];rfl)
      clear hle
      refine zB [18,19] ?_
      iterate 2 (refine zV ?_ ?_ hS ?_;rotate_left;(intro w' hSw;go_simp<;>with_reducible rfl);try simp only[zP])
      refine zE ?_
      refine zD ?_
      try simp only[zP]
      have HG:=zh hS
      clear hS
      go_wp2_with fail
      refine(DN w0 _ xo xf vo1 vf1 (O ++ bO f n k) (FT ++ bF f n k) (some ⟨b,off+a*3,none⟩) p (c-a) (aZ f a) HG.out (HP.out.2.1 _ HG.out.own.bel) hp0 (by omega) (by omega)
       (by have:=yY f n hn k;have:=HT.out.2.2.1;rw[List.length_append];omega) (by have:=vI f H0.out.2.2 n hn k;have:=HT.out.2.2.1;rw[List.length_append];omega)
       (by have:=rV (aZ f a) p (by omega);omega) (fun j=>H0.out.2.2 _)).mono ?_
      rintro e w8 ⟨rfl,vo2,vf2,h8⟩
      have HE:=zh h8
      clear h8
      go_wp2_with fail
      go_roundw
      case rel=>
       refine⟨k+1,by unfold aT;have:=HT.out.2.2.1;omega,by congr 1;have:=HT.out.2.2.1;omega,?_,vo2,vf2,?_⟩
       ·show (bV f n k && jP f n k)=true
        rw[HT.out.2.1,HO.out];rfl
       ·have e1:O ++ bO f n (k+1)=(O ++ bO f n k) ++ (dU (aZ f a) p).1:=by rw[List.append_assoc,HP.out.1,HT.out.2.2.1];rfl
        have e2:FT ++ bF f n (k+1)=(FT ++ bF f n k) ++ lC (aZ f a) p:=by rw[List.append_assoc,HP.out.1,HT.out.2.2.1];rfl
        rw[e1,e2]
        exact HE.out
      case measure=>simp[intOf]<;>omega
  ·have HE:=zh (zN hT hv)
   clear hT hv
   rcases Nat.eq_zero_or_pos n with h0 | h0
   ·subst h0
    have d1:decide (((1024*k:Nat):Int) < 0)=false:=by simp;omega
    go_wp2_with fail
    go_ret
    exact .inr ⟨.inr rfl,rfl,HE.out.1.own.bel⟩
   ·have hkn:k=aT n:=by unfold aT at hk ⊢;omega
    have d1:decide (((1024*k:Nat):Int) < (n:Int))=false:=by simp;omega
    have d2:decide ((0:Int) < (n:Int))=true:=by simp;omega
    have HK:=zh hkn
    clear hkn
    go_wp2_with fail
    go_ret
    refine .inl ⟨by rw[←HK.out];exact HE.out.2,h0,rfl,vo1,vf1,?_⟩
    rw[←HK.out]
    exact HE.out.1
end
section
open Go.RowKit Go.Maps
def ql(s t:ByteArray): Bool:=Op.bytesLess s.toList t.toList || s.toList == t.toList
theorem Dg{s t:ByteArray}(h:ql s t=false): t.toList < s.toList:=by
 unfold ql at h
 rw[Bool.or_eq_false_iff,Proofs.bytesLess_eq] at h
 obtain⟨h1,h2⟩:=h
 have h1':¬ s.toList < t.toList:=by simpa using h1
 have h2':s.toList≠t.toList:=by simpa using h2
 exact Classical.byContradiction fun h3=>h2' (List.le_antisymm (List.not_lt.1 h3) (List.not_lt.1 h1'))
theorem OY{s t:ByteArray}(h:¬ t.toList < s.toList): ql s t=true:=by
 cases h':ql s t with
 | true=>rfl
 | false=>exact absurd (Dg h') h
def rX(nm:Nat→ByteArray)(k:Nat): Prop:=∀ i,0 < i→i < k→ql (nm i) (nm (i-1))=false
theorem rX.lt{nm:Nat→ByteArray}{k:Nat}(h:rX nm k)(i:Nat): ∀ d,0 < d→i+d < k→(nm i).toList < (nm (i+d)).toList
 | 0,h0,_=>absurd h0 (by omega)
 | d+1,_,hk=>by
  have h1:=Dg (h (i+(d+1)) (by omega) hk)
  rw[show i+(d+1)-1=i+d by omega] at h1
  rcases Nat.eq_zero_or_pos d with h0 | h0
  ·subst h0;exact h1
  ·exact List.lt_trans (rX.lt h i d h0 (by omega)) h1
theorem rX.apart{nm:Nat→ByteArray}{k:Nat}(h:rX nm k): Apart nm k:=fun i j hij hj e=>by
 have:=h.lt i (j-i) (by omega) (by omega)
 rw[show i+(j-i)=j by omega,e] at this
 exact List.lt_irrefl _ this
theorem rX.there{nm:Nat→ByteArray}{k j:Nat}(h:rX nm k)(hj:j < k)(e:nm j=nm k): ql (nm k) (nm (k-1))=true:=by
 refine OY fun hlt=>?_
 rcases Nat.lt_or_ge j (k-1) with h1 | h1
 ·have:=h.lt j (k-1-j) (by omega) (by omega)
  rw[show j+(k-1-j)=k-1 by omega,e] at this
  exact List.lt_irrefl _ (List.lt_trans this hlt)
 ·have:j=k-1:=by omega
  rw[←this,e] at hlt
  exact List.lt_irrefl _ hlt
def lS(nm:Nat→ByteArray)(i:Nat): Bool:=dI (nm i) && (i == 0 || !ql (nm i) (nm (i-1)))
def dP(nm:Nat→ByteArray)(k:Nat): Bool:=(List.range k).all (lS nm)
theorem vU(nm:Nat→ByteArray)(k:Nat): dP nm (k+1)=(dP nm k && lS nm k):=by unfold dP;rw[List.range_succ,List.all_append];simp
theorem ru{nm:Nat→ByteArray}{i k:Nat}(hi:i < k)(h:lS nm i=false): dP nm k=false:=by
 unfold dP
 rw[List.all_eq_false]
 exact⟨i,List.mem_range.2 hi,by rw[h];simp⟩
theorem qz{nm:Nat→ByteArray}{k:Nat}(h:dP nm k=true): rX nm k:=fun i h0 hi=>by
 have:=List.all_eq_true.1 h i (List.mem_range.2 hi)
 unfold lS at this
 simp only[Bool.and_eq_true,Bool.or_eq_true,beq_iff_eq] at this
 rcases this.2 with h1 | h1
 ·omega
 ·simpa using h1
theorem Ee{nm:Nat→ByteArray}{k i:Nat}(h:dP nm k=true)(hi:i < k): dI (nm i)=true:=by
 have:=List.all_eq_true.1 h i (List.mem_range.2 hi)
 unfold lS at this
 simp only[Bool.and_eq_true] at this
 exact this.1
structure PartsAt(w:World)(A:Option Addr)(k:Nat)(nm:Nat→ByteArray)(pa:Nat→Option Addr)(pn pc:Nat→Nat)(pf:Nat→Nat→Pt): Prop where
 row:0 < k→∃ b off,A=some ⟨b,off,none⟩∧b < w.heap.size∧∀ j,j < k→w.cell? ⟨b,off+j*2,none⟩=some (.string (nm j))∧w.cell? ⟨b,off+j*2+1,none⟩=some (.slice (pa j) (pn j) (pc j))
 pts:∀ j,j < k→dO w (fun q=>q < w.heap.size) (pa j) (pn j) (pf j)
 le:∀ j,j < k→pn j≤pc j∧pc j≤9223372036854775807
 ok:∀ j i,oM (pf j i)
 nsz:∀ j,j < k→(nm j).size≤9223372036854775807
theorem PartsAt.below{w w':World}{A:Option Addr}{k:Nat}{nm:Nat→ByteArray}{pa:Nat→Option Addr}{pn pc:Nat→Nat}{pf:Nat→Nat→Pt}(h:PartsAt w A k nm pa pn pc pf)(hb:Below w.heap.size w w'): PartsAt w' A k nm pa pn pc pf:=by
 refine⟨fun hk=>?_,fun j hj=>?_,h.le,h.ok,h.nsz⟩
 ·obtain ⟨b,off,e,hlt,hc⟩:=h.row hk
  exact⟨b,off,e,Nat.lt_of_lt_of_le hlt hb.size,fun j hj=>⟨(hb.cell (by exact hlt)).trans (hc j hj).1,(hb.cell (by exact hlt)).trans (hc j hj).2⟩⟩
 ·exact ((h.pts j hj).below hb).mono (fun _ hq=>Nat.lt_of_lt_of_le hq hb.size)
end
section
open Go.RowKit Go.Maps
theorem dA.alloc{w0 w:World}{d m k y:Nat}{nm:Nat→ByteArray}(h:dA w0 [] d m k nm w)(hy:y=w.heap.size)(ty:TypeId)(cs:Array Value): dA w0 [(y,ty,cs)] d m k nm (w.alloc (.cells cs ty)):=by
 refine⟨h.own.alloc hy ty cs,World.ownsMap.alloc h.map _,h.ge,fun b hb=>?_⟩
 rcases List.mem_cons.1 hb with rfl | hb
 ·exact h.ne _ List.mem_cons_self
 ·obtain rfl:=List.mem_singleton.1 hb
  have:=World.ownsMap.lt h.map
  show y≠m
  omega
theorem dA.forget{w0 w:World}{L:List (Nat × TypeId × Array Value)}{d m k:Nat}{nm:Nat→ByteArray}(h:dA w0 L d m k nm w): dA w0 [] d m k nm w:=
 ⟨h.own.take 1,h.map,h.ge,fun b hb=>h.ne b (by obtain rfl:=List.mem_singleton.1 hb;exact List.mem_cons_self)⟩
def Rm(k:Nat)(nm:Nat→ByteArray)(w:World)(e:Ending)(w':World): Prop:=
 (dP nm k=true∧0 < k∧∃ d m,e=.returned (.tuple #[.pointer (some ⟨d,0,none⟩),.bool true])∧dA w [] d m k nm w')∨
 ((dP nm k=false∨k=0)∧∃ v,e=.returned (.tuple #[v,.bool false])∧Below w.heap.size w w')
theorem LQ(w:World)(A:Option Addr)(k c:Nat)(nm:Nat→ByteArray)(pa:Nat→Option Addr)(pn pc:Nat→Nat)(pf:Nat→Nat→Pt)(h:PartsAt w A k nm pa pn pc pf)(hk:k≤1024):
  Calls Tryz.prog 222 #[.slice A k c] w (Rm k nm w):=by
 have H0:=zh h
 clear h
 go_enter Tryz.func222,Tryz.ntmps222
 go_wp2_with fail
 refine(DK w nm).mono ?_
 rintro e w1 ⟨rfl,hd⟩
 obtain⟨m,hm⟩:∃ m,m=w.heap.size:=⟨_,rfl⟩
 obtain⟨d,hd0⟩:∃ d,d=w.heap.size+1:=⟨_,rfl⟩
 rw[←hd0,←hm] at hd
 rw[←hd0]
 have HD:=zh hd
 clear hd hm hd0
 go_wp2_with fail
 go_loopw [12] (fun i wr=>∃ (j:Nat),j≤k∧i=.int .i64 (j:Nat)∧dP nm j=true∧dA w [] d m j nm wr) (fun i _=>k-(intOf i).toNat)
 case atStart=>exact ⟨0,by omega,rfl,rfl,HD.out⟩
 case round=>
  obtain⟨j,hj,rfl,hok,hS⟩:=hrel
  by_cases hlt:j < k
  ·obtain ⟨b,off,hA,hbl,hcell⟩:=H0.out.row (by omega)
   subst hA
   obtain⟨s,hs⟩:∃ s,s=nm j:=⟨_,rfl⟩
   have zc0:wr.cell? ⟨b,off+j*2,none⟩=some (.string s):=by rw[hs];exact (hS.own.bel.cell (by exact hbl)).trans (hcell j hlt).1
   have zc1:wr.cell? ⟨b,off+j*2+1,none⟩=some (.slice (pa j) (pn j) (pc j)):=(hS.own.bel.cell (by exact hbl)).trans (hcell j hlt).2
   have hjk:(j:Int) < (k:Int):=by omega
   obtain⟨y,hy⟩:∃ y,y=wr.heap.size:=⟨_,rfl⟩
   have HS:=zh (zN hS (zN hok (zN hs hy)))
   have HC:=zh hcell
   clear hS hok hs hcell
   go_upto_region 5 with (fail)
   rw[←hy]
   clear zc0 zc1
   refine aH (fun wx=>dA w [(y,250,#[.string s,.slice (pa j) (pn j) (pc j)])] d m j nm wx) (HS.out.1.alloc hy _ _) ?_
   intro w2 h2
   clear hy
   have zc0:=h2.own.cell 1 0 rfl rfl
   have H2:=zh h2
   clear h2
   have hrise:=qz HS.out.2.1
   have hput:=DT w w2 [(y,250,#[.string s,.slice (pa j) (pn j) (pc j)])] d m j nm H2.out (by omega) hrise.apart (H0.out.nsz j hlt)
   rw[←HS.out.2.2.1] at hput
   go_wp2_with fail
   refine hput.mono ?_
   intro e w3 hcase
   have HQ:=zh hrise
   clear hput zc0 hrise
   rcases hcase with ⟨hn,rfl,h3⟩ | ⟨hn,hth,q,rfl,h3⟩ | ⟨hn,hfr,rfl,h3⟩
   ·have HF:=zh (show dP nm k=false from ru hlt (by unfold lS;rw[hn];rfl))
    have H3:=zh h3
    clear hn h3
    go_upto_region 6 with (fail)
    have hS:(dA w [(y,250,#[.string s,.slice (pa j) (pn j) (pc j)])] d m j nm) (w3.drew):=H3.out.call (Below.refl _ _).drew
    refine av (dA w [(y,250,#[.string s,.slice (pa j) (pn j) (pc j)])] d m j nm) (by kernel_rfl) hS ?_
    refine zB [0,1,2] ?_
    iterate 3 (refine zV ?_ ?_ hS ?_;rotate_left;(intro w' hSw;go_simp<;>with_reducible rfl);try simp only[zP])
    refine zE ?_
    refine zB [3,4,5,6,7,8,9,10,11,12,13,14,15] ?_
    iterate 13 (refine zW hS ?_;try simp only[zP])
    refine zE ?_
    refine zT 16 ?_ ?_ hS ?_
    rotate_left
    ·(intro w' hSw;go_simp<;>with_reducible rfl)
    try simp only[zP]
    refine zD ?_
    try simp only[zP]
    have HG:=zh hS.own.bel
    clear hS
    go_wp2_with fail
    go_ret2
    exact .inr ⟨.inl HF.out,_,rfl,HG.out⟩
   ·obtain ⟨i,rfl⟩:∃ i,j=i+1:=⟨j-1,by obtain ⟨q,h,_⟩:=hth;omega⟩
    have hle:ql s (nm i)=true:=by obtain ⟨q,h1,h2⟩:=hth;rw[HS.out.2.2.1];exact HQ.out.there h1 h2
    have HF:=zh (show dP nm k=false from ru hlt (by unfold lS;rw[←HS.out.2.2.1];show (dI s && (false || !ql s (nm i)))=false;rw[hle];simp))
    obtain⟨t,ht⟩:∃ t,t=nm i:=⟨_,rfl⟩
    rw[←ht] at hle
    have zt:w3.cell? ⟨b,off+i*2,none⟩=some (.string t):=by rw[ht];exact (h3.own.bel.cell (by exact hbl)).trans (HC.out i (by omega)).1
    have H3:=zh (zN h3 zt)
    have HL:=zh hle
    have km:((i:Int)+1-1)=(i:Int):=by omega
    have hik:(i:Int) < (k:Int):=by omega
    have kw:IntKind.i64.wrap (i:Int)=(i:Int):=IntWalk.i64_in _ (by omega)
    clear hn h3 zt ht hle
    go_upto_region 6 with (fail)
    have hS:(fun w'=>dA w [(y,250,#[.string s,.slice (pa (i+1)) (pn (i+1)) (pc (i+1))])] d m (i+1) nm w'∧w'.cell? ⟨b,off+i*2,none⟩=some (.string t)) (w3.drew):=⟨H3.out.1.call (Below.refl _ _).drew,H3.out.2⟩
    refine av (fun w'=>dA w [(y,250,#[.string s,.slice (pa (i+1)) (pn (i+1)) (pc (i+1))])] d m (i+1) nm w'∧w'.cell? ⟨b,off+i*2,none⟩=some (.string t)) (by kernel_rfl) hS ?_
    refine zB [0,1,2,3,4,5,6] ?_
    iterate 7 (refine zV ?_ ?_ hS ?_;rotate_left;(intro w' hSw;go_simp<;>with_reducible rfl);try simp only[zP])
    refine zE ?_
    refine zT 7 ?_ ?_ hS ?_
    rotate_left
    ·(intro w' hSw;have u0:=hSw.1.own.cell 1 0 rfl rfl;go_simp<;>with_reducible rfl)
    try simp only[zP]
    refine zB [8,9,10,11,12] ?_
    iterate 5 (refine zV ?_ ?_ hS ?_;rotate_left;(intro w' hSw;go_simp<;>with_reducible rfl);try simp only[zP])
    refine zE ?_
    refine zT 13 ?_ ?_ hS ?_
    rotate_left
    ·(intro w' hSw;have u1:=hSw.2;go_simp<;>with_reducible rfl)
    try simp only[zP]
    refine mg (i:=14) (v:=.bool (ql s t)) rfl (by kernel_rfl) (by kernel_rfl) (by kernel_rfl) (fun _ _ _ h=>h) (Or.inl ⟨by kernel_rfl,?_⟩) hS ?_
    ·(intro w' hSw;(go_simp<;>rfl))
    try simp only[zP]
    rw[HL.out]
    refine zB [15,16] ?_
    iterate 2 (refine zV ?_ ?_ hS ?_;rotate_left;(intro w' hSw;go_simp<;>with_reducible rfl);try simp only[zP])
    refine zE ?_
    refine zD ?_
    try simp only[zP]
    have HG:=zh hS.1.own.bel
    clear hS
    go_wp2_with fail
    go_ret2
    exact .inr ⟨.inl HF.out,_,rfl,HG.out⟩
   ·rcases Nat.eq_zero_or_pos j with h0 | h0
    ·subst h0
     have HO:=zh (show dP nm (0+1)=true by rw[vU,HS.out.2.1];unfold lS;rw[hn];rfl)
     have H3:=zh h3
     clear hn h3
     go_upto_region 6 with (fail)
     have hS:(dA w [(y,250,#[.string s,.slice (pa 0) (pn 0) (pc 0)])] d m (0+1) nm) (w3.drew):=H3.out.call (Below.refl _ _).drew
     refine av (dA w [(y,250,#[.string s,.slice (pa 0) (pn 0) (pc 0)])] d m (0+1) nm) (by kernel_rfl) hS ?_
     refine zB [0,1,2,3,4,5] ?_
     iterate 6 (refine zV ?_ ?_ hS ?_;rotate_left;(intro w' hSw;go_simp<;>with_reducible rfl);try simp only[zP])
     refine zE ?_
     refine zB [6,7,8,9,10,11,12,13,14] ?_
     iterate 9 (refine zW hS ?_;try simp only[zP])
     refine zE ?_
     refine zB [15,16] ?_
     iterate 2 (refine zV ?_ ?_ hS ?_;rotate_left;(intro w' hSw;go_simp<;>with_reducible rfl);try simp only[zP])
     refine zE ?_
     refine zD ?_
     try simp only[zP]
     have HG:=zh hS
     clear hS
     go_wp2_with fail
     go_roundw
     case rel=>exact ⟨0+1,by omega,by go_num,HO.out,HG.out.forget⟩
     case measure=>simp[intOf]<;>omega
    ·obtain ⟨i,rfl⟩:∃ i,j=i+1:=⟨j-1,by omega⟩
     have HNO:=zh hn
     cases hle:ql s (nm i) with
     | true=>
      have HF:=zh (show dP nm k=false from ru hlt (by unfold lS;rw[←HS.out.2.2.1];show (dI s && (false || !ql s (nm i)))=false;rw[hle];simp))
      obtain⟨t,ht⟩:∃ t,t=nm i:=⟨_,rfl⟩
      rw[←ht] at hle
      have zt:w3.cell? ⟨b,off+i*2,none⟩=some (.string t):=by rw[ht];exact (h3.own.bel.cell (by exact hbl)).trans (HC.out i (by omega)).1
      have H3:=zh (zN h3 zt)
      have HL:=zh hle
      have km:((i:Int)+1-1)=(i:Int):=by omega
      have hik:(i:Int) < (k:Int):=by omega
      have kw:IntKind.i64.wrap (i:Int)=(i:Int):=IntWalk.i64_in _ (by omega)
      clear hn h3 zt ht hle
      go_upto_region 6 with (fail)
      have hS:(fun w'=>dA w [(y,250,#[.string s,.slice (pa (i+1)) (pn (i+1)) (pc (i+1))])] d m (i+1+1) nm w'∧w'.cell? ⟨b,off+i*2,none⟩=some (.string t)) (w3.drew):=⟨H3.out.1.call (Below.refl _ _).drew,H3.out.2⟩
      refine av (fun w'=>dA w [(y,250,#[.string s,.slice (pa (i+1)) (pn (i+1)) (pc (i+1))])] d m (i+1+1) nm w'∧w'.cell? ⟨b,off+i*2,none⟩=some (.string t)) (by kernel_rfl) hS ?_
      refine zB [0,1,2,3,4,5,6] ?_
      iterate 7 (refine zV ?_ ?_ hS ?_;rotate_left;(intro w' hSw;go_simp<;>with_reducible rfl);try simp only[zP])
      refine zE ?_
      refine zT 7 ?_ ?_ hS ?_
      rotate_left
      ·(intro w' hSw;have u0:=hSw.1.own.cell 1 0 rfl rfl;go_simp<;>with_reducible rfl)
      try simp only[zP]
      refine zB [8,9,10,11,12] ?_
      iterate 5 (refine zV ?_ ?_ hS ?_;rotate_left;(intro w' hSw;go_simp<;>with_reducible rfl);try simp only[zP])
      refine zE ?_
      refine zT 13 ?_ ?_ hS ?_
      rotate_left
      ·(intro w' hSw;have u1:=hSw.2;go_simp<;>with_reducible rfl)
      try simp only[zP]
      refine mg (i:=14) (v:=.bool (ql s t)) rfl (by kernel_rfl) (by kernel_rfl) (by kernel_rfl) (fun _ _ _ h=>h) (Or.inl ⟨by kernel_rfl,?_⟩) hS ?_
      ·(intro w' hSw;(go_simp<;>rfl))
      try simp only[zP]
      rw[HL.out]
      refine zB [15,16] ?_
      iterate 2 (refine zV ?_ ?_ hS ?_;rotate_left;(intro w' hSw;go_simp<;>with_reducible rfl);try simp only[zP])
      refine zE ?_
      refine zD ?_
      try simp only[zP]
      have HG:=zh hS.1.own.bel
      clear hS
      go_wp2_with fail
      go_ret2
      exact .inr ⟨.inl HF.out,_,rfl,HG.out⟩
     | false=>
      have HO:=zh (show dP nm (i+1+1)=true by rw[vU,HS.out.2.1];unfold lS;rw[←HS.out.2.2.1];show (true && (dI s && (false || !ql s (nm i))))=true;rw[hle,HS.out.2.2.1,HNO.out];rfl)
      obtain⟨t,ht⟩:∃ t,t=nm i:=⟨_,rfl⟩
      rw[←ht] at hle
      have zt:w3.cell? ⟨b,off+i*2,none⟩=some (.string t):=by rw[ht];exact (h3.own.bel.cell (by exact hbl)).trans (HC.out i (by omega)).1
      have H3:=zh (zN h3 zt)
      have HL:=zh hle
      have km:((i:Int)+1-1)=(i:Int):=by omega
      have hik:(i:Int) < (k:Int):=by omega
      have kw:IntKind.i64.wrap (i:Int)=(i:Int):=IntWalk.i64_in _ (by omega)
      clear hn h3 zt ht hle
      go_upto_region 6 with (fail)
      have hS:(fun w'=>dA w [(y,250,#[.string s,.slice (pa (i+1)) (pn (i+1)) (pc (i+1))])] d m (i+1+1) nm w'∧w'.cell? ⟨b,off+i*2,none⟩=some (.string t)) (w3.drew):=⟨H3.out.1.call (Below.refl _ _).drew,H3.out.2⟩
      refine av (fun w'=>dA w [(y,250,#[.string s,.slice (pa (i+1)) (pn (i+1)) (pc (i+1))])] d m (i+1+1) nm w'∧w'.cell? ⟨b,off+i*2,none⟩=some (.string t)) (by kernel_rfl) hS ?_
      refine zB [0,1,2,3,4,5,6] ?_
      iterate 7 (refine zV ?_ ?_ hS ?_;rotate_left;(intro w' hSw;go_simp<;>with_reducible rfl);try simp only[zP])
      refine zE ?_
      refine zT 7 ?_ ?_ hS ?_
      rotate_left
      ·(intro w' hSw;have u0:=hSw.1.own.cell 1 0 rfl rfl;go_simp<;>with_reducible rfl)
      try simp only[zP]
      refine zB [8,9,10,11,12] ?_
      iterate 5 (refine zV ?_ ?_ hS ?_;rotate_left;(intro w' hSw;go_simp<;>with_reducible rfl);try simp only[zP])
      refine zE ?_
      refine zT 13 ?_ ?_ hS ?_
      rotate_left
      ·(intro w' hSw;have u1:=hSw.2;go_simp<;>with_reducible rfl)
      try simp only[zP]
      refine mg (i:=14) (v:=.bool (ql s t)) rfl (by kernel_rfl) (by kernel_rfl) (by kernel_rfl) (fun _ _ _ h=>h) (Or.inl ⟨by kernel_rfl,?_⟩) hS ?_
      ·(intro w' hSw;(go_simp<;>rfl))
      try simp only[zP]
      rw[HL.out]
      refine zB [15,16] ?_
      iterate 2 (refine zV ?_ ?_ hS ?_;rotate_left;(intro w' hSw;go_simp<;>with_reducible rfl);try simp only[zP])
      refine zE ?_
      refine zD ?_
      try simp only[zP]
      have HG:=zh hS.1
      clear hS
      go_wp2_with fail
      go_roundw
      case rel=>exact ⟨i+1+1,by omega,by go_num,HO.out,HG.out.forget⟩
      case measure=>simp[intOf]<;>omega
  ·obtain rfl:j=k:=by omega
   have HE:=zh (zN hS hok)
   clear hS hok
   rcases Nat.eq_zero_or_pos j with h0 | h0
   ·subst h0
    go_wp2_with fail
    go_ret2
    exact .inr ⟨.inr rfl,_,rfl,HE.out.1.own.bel⟩
   ·have d1:decide ((0:Int) < (j:Int))=true:=by simp;omega
    go_wp2_with fail
    go_ret2
    exact .inl ⟨HE.out.2,h0,d,m,rfl,HE.out.1⟩
end
section
open Go.RowKit Go.Maps
def sO(pf:Nat→Nat→Pt)(pn:Nat→Nat): Nat→List Nat
 | 0=>[]
 | i+1=>sO pf pn i ++ bO (pf i) (pn i) (aT (pn i))
def sF(nm:Nat→ByteArray)(pf:Nat→Nat→Pt)(pn:Nat→Nat)(k:Nat): Nat→List Nat
 | 0=>dx nm k k
 | i+1=>(sF nm pf pn k i ++ V.aC (aT (pn i))) ++ bF (pf i) (pn i) (aT (pn i))
def pI(pf:Nat→Nat→Pt)(pn:Nat→Nat)(i:Nat): Bool:=bV (pf i) (pn i) (aT (pn i)) && decide (0 < pn i)
def sV(pf:Nat→Nat→Pt)(pn:Nat→Nat): Nat→Bool
 | 0=>true
 | i+1=>sV pf pn i && pI pf pn i
theorem Mx{pf:Nat→Nat→Pt}{pn:Nat→Nat}{i:Nat}(h:pI pf pn i=false): ∀ m,i < m→sV pf pn m=false
 | 0,hk=>by omega
 | m+1,hk=>by
  show (sV pf pn m && pI pf pn m)=false
  rcases Nat.lt_or_ge i m with h1 | h1
  ·rw[Mx h m h1];rfl
  ·rw[show m=i by omega,h];simp
theorem iR{l m:List Nat}(hl:∀ x ∈ l,x < 256)(hm:∀ x ∈ m,x < 256): ∀ x ∈ l ++ m,x < 256:=fun x hx=>(List.mem_append.1 hx).elim (hl x) (hm x)
theorem rW(s:ByteArray): ∀ x ∈ V.txt s,x < 256:=fun x hx=>by
 unfold V.txt at hx
 obtain⟨b,_,rfl⟩:=List.mem_map.1 hx
 exact UInt8.toNat_lt _
theorem wZ(nm:Nat→ByteArray)(n:Nat): ∀ k,∀ x ∈ dx nm n k,x < 256
 | 0=>V.cK n
 | k+1=>iR (iR (wZ nm n k) (V.cK _)) (rW _)
theorem Jv(f:Nat→Pt)(n:Nat): ∀ x ∈ lC f n,x < 256:=iR (iR (iR (V.cK _) (V.cK _)) (V.cK _)) (V.cK _)
theorem IC(f:Nat→Pt)(n:Nat): ∀ k,∀ x ∈ bF f n k,x < 256
 | 0=>fun x hx=>by simp[bF] at hx
 | k+1=>iR (IC f n k) (Jv _ _)
theorem pK(nm:Nat→ByteArray)(pf:Nat→Nat→Pt)(pn:Nat→Nat)(k:Nat): ∀ i,∀ x ∈ sF nm pf pn k i,x < 256
 | 0=>wZ nm k k
 | i+1=>iR (iR (pK nm pf pn k i) (V.cK _)) (IC _ _ _)
def four(n:Nat): List Nat:=[n%256,n / 256%256,n / 65536%256,n / 16777216%256]
theorem qK(n:Nat): ∀ x ∈ four n,x < 256:=fun x hx=>by
 unfold four at hx
 simp only[List.mem_cons,List.not_mem_nil,or_false] at hx
 rcases hx with rfl | rfl | rfl | rfl<;>exact Nat.mod_lt _ (by omega)
theorem RA(w:World)(q:Nat): Sl (w.alloc (.cells #[.int .u8 ((q:Int)%256),.int .u8 ((q:Int) / 256%256),.int .u8 ((q:Int) / 65536%256),.int .u8 ((q:Int) / 16777216%256)] 5)) (fun k=>k < w.heap.size+1) (some ⟨w.heap.size,0,none⟩) 4 (aD (four q)):=fun _=>by
 refine⟨w.heap.size,0,rfl,by omega,fun j hj=>?_⟩
 rw[Nat.zero_add,(au.fresh w _ _).cell j]
 unfold aD four
 rcases(show j=0∨j=1∨j=2∨j=3 by omega) with rfl | rfl | rfl | rfl<;>simp
def sB(nm:Nat→ByteArray)(pf:Nat→Nat→Pt)(pn:Nat→Nat)(k:Nat): List Nat × Int:=
 if (dP nm k && (decide (0 < k) && sV pf pn k))=true then
  (if 1048563 < (F.aN 5 (sF nm pf pn k k)).length+(sO pf pn k).length then ([],3)
   else (sO pf pn k ++ F.aN 5 (sF nm pf pn k k) ++ F.aN 6 (four (F.aN 5 (sF nm pf pn k k)).length),0))
 else ([],2)
structure Small(nm:Nat→ByteArray)(pf:Nat→Nat→Pt)(pn:Nat→Nat)(k:Nat): Prop where
 kb:k≤1024
 nb:∀ j,j < k→(nm j).size≤1048576
 pb:∀ j,j < k→pn j≤4096
 ob:∀ i,i≤k→(sO pf pn i).length≤268435456
 fb:∀ i,i≤k→(sF nm pf pn k i).length≤1048000
def iT(nm:Nat→ByteArray)(pf:Nat→Nat→Pt)(pn:Nat→Nat)(k:Nat)(w:World)(e:Ending)(w':World): Prop:=
 ∃ v,e=.returned (.tuple #[v,.int .i64 (sB nm pf pn k).2])∧w'.ownsRow w.heap.size 5 1 v (sB nm pf pn k).1.length ((sB nm pf pn k).1.map V.aI)∧Below w.heap.size w w'
theorem BG(w:World)(B:Nat): w.ownsRow B 5 1 (.slice none 0 0) 0 []:=⟨rfl,.inl ⟨rfl,rfl⟩⟩
theorem AP{nm:Nat→ByteArray}{pf:Nat→Nat→Pt}{pn:Nat→Nat}{k:Nat}{w w':World}(h:(dP nm k && (decide (0 < k) && sV pf pn k))=false)(hb:Below w.heap.size w w'): iT nm pf pn k w (.returned (.tuple #[.slice none 0 0,.int .i64 2])) w':=by
 have e:sB nm pf pn k=([],2):=by unfold sB;rw[h];rfl
 unfold iT
 rw[e]
 exact⟨_,rfl,BG _ _,hb⟩
theorem KO(w:World)(A:Option Addr)(k c:Nat)(nm:Nat→ByteArray)(pa:Nat→Option Addr)(pn pc:Nat→Nat)(pf:Nat→Nat→Pt)(h:PartsAt w A k nm pa pn pc pf)(hs:Small nm pf pn k):
  Calls Tryz.prog 151 #[.slice A k c] w (iT nm pf pn k w):=by
 have hk:=hs.kb
 have H0:=zh (zN h hs)
 clear h hs
 go_enter Tryz.func151,Tryz.ntmps151
 go_wp2_with fail
 refine(LQ w A k c nm pa pn pc pf H0.out.1 hk).mono ?_
 rintro e w1 (⟨hn,hk0,d,m,rfl,hd⟩ | ⟨hn,v,rfl,hb⟩)
 rotate_left
 ·have HF:=zh (show iT nm pf pn k w (.returned (.tuple #[.slice none 0 0,.int .i64 2])) w1 from AP (by
   rcases hn with h | h;· rw[h];rfl
   ·subst h;simp) hb)
  clear hn hb
  go_wp2_with fail
  go_ret2
  exact HF.out
 have HD:=zh (zN hd hn)
 have hbel:=hd.own.bel
 clear hd hn
 obtain⟨xo,hxo⟩:∃ x,x=w1.heap.size:=⟨_,rfl⟩
 have hal:Below w1.heap.size w1 (w1.alloc (.cells #[.slice none 0 0] 72)):=(Below.refl _ _).alloc (Nat.le_refl _) _
 have o1:=((Own.start w).call hbel).alloc hxo 72 #[.slice none 0 0]
 have H1:=zh (zN o1 (zN (HD.out.1.call hal) hxo))
 clear o1 hal hbel hxo
 go_upto_region 5 with (fail)
 rw[←H1.out.2.2]
 refine aH (fun wx=>Own w [(xo,72,#[.slice none 0 0])] wx∧dA w [] d m k nm wx) ⟨H1.out.1,H1.out.2.1⟩ ?_
 rintro w2 ⟨o2,d2⟩
 have H2:=zh (zN o2 d2)
 clear o2 d2 H1
 go_wp2_with fail
 refine(KE w w2 [] d m k nm H2.out.2 hk (qz HD.out.2).apart H0.out.2.nb).mono ?_
 rintro e w3 ⟨v3,rfl,ho3,hb3⟩
 obtain⟨A3,c3,hv3,hc3,-⟩:=aA ho3
 subst hv3
 obtain⟨xf,hxf⟩:∃ x,x=w3.heap.size:=⟨_,rfl⟩
 obtain⟨lf,hlf⟩:∃ l,l=(dx nm k k).length:=⟨_,rfl⟩
 rw[←hlf] at ho3 ⊢
 have o3:=(H2.out.1.call hb3).alloc hxf 72 #[.slice A3 lf c3]
 have hT:dG w xo xf (.slice none 0 0) (.slice A3 lf c3) (sO pf pn 0) (sF nm pf pn k 0) (w3.alloc (.cells #[.slice A3 lf c3] 72)):=by
  refine⟨o3,BG _ _,?_,fun g hg=>by simp[Value.ownBlock] at hg⟩
  have h1:=aU ho3 H2.out.1.bel.size
  rw[hlf] at h1 ⊢
  exact V.bH h1 ((Below.refl _ _).alloc (Nat.le_refl _) _)
 have H3:=zh (zN hT hxf)
 clear ho3 hb3 o3 hT hxf hlf
 go_upto_region 6 with (fail)
 rw[←H3.out.2]
 refine aH (dG w xo xf (.slice none 0 0) (.slice A3 lf c3) (sO pf pn 0) (sF nm pf pn k 0)) H3.out.1 ?_
 intro w4 h4
 have H4:=zh h4
 clear h4
 go_wp2_with fail
 go_loopw [27] (fun i wr=>∃ (j:Nat),j≤k∧i=.int .i64 (j:Nat)∧sV pf pn j=true∧∃ vo vf,dG w xo xf vo vf (sO pf pn j) (sF nm pf pn k j) wr) (fun i _=>k-(intOf i).toNat)
 case atStart=>exact ⟨0,by omega,rfl,rfl,_,_,H4.out⟩
 case round=>
  obtain⟨j,hj,rfl,hv,vo,vf,hT⟩:=hrel
  by_cases hlt:j < k
  ·obtain ⟨b,off,hA,hbl,hcell⟩:=H0.out.1.row (by omega)
   subst hA
   have zc0:wr.cell? ⟨b,off+j*2,none⟩=some (.string (nm j)):=(hT.own.bel.cell (by exact hbl)).trans (hcell j hlt).1
   have zc1:wr.cell? ⟨b,off+j*2+1,none⟩=some (.slice (pa j) (pn j) (pc j)):=(hT.own.bel.cell (by exact hbl)).trans (hcell j hlt).2
   have hjk:(j:Int) < (k:Int):=by omega
   obtain⟨y,hy⟩:∃ y,y=wr.heap.size:=⟨_,rfl⟩
   have HS:=zh (zN hT (zN hv hy))
   clear hT hv hcell
   go_upto_region 9 with (fail)
   rw[←hy]
   clear zc0 zc1
   have hal:Below wr.heap.size wr (wr.alloc (.cells #[.string (nm j),.slice (pa j) (pn j) (pc j)] 250)):=(Below.refl _ _).alloc (Nat.le_refl _) _
   refine aH (fun wx=>dG w xo xf vo vf (sO pf pn j) (sF nm pf pn k j) wx∧au wx y 250 #[.string (nm j),.slice (pa j) (pn j) (pc j)]) ⟨HS.out.1.call hal,by rw[hy];exact au.fresh _ _ _⟩ ?_
   rintro w5 ⟨h5,hb5⟩
   clear hal hy
   obtain⟨Af,cf,hvf,hcf,-⟩:=aA h5.f
   subst hvf
   obtain⟨l5,hl5⟩:∃ l,l=(sF nm pf pn k j).length:=⟨_,rfl⟩
   rw[←hl5] at hcf
   have zc:=h5.own.cell 1 0 rfl rfl
   rw[←hl5] at zc
   have zy:w5.cell? ⟨y,1,none⟩=some (.slice (pa j) (pn j) (pc j)):=by rw[hb5.cell 1];rfl
   have hpj:=H0.out.2.pb j hlt
   have hfl:=H0.out.2.fb j (by omega)
   have kq:((pn j:Int)+1024-1).tdiv 1024=(aT (pn j):Nat):=by rw[Int.tdiv_eq_ediv_of_nonneg (by omega)];unfold aT;omega
   have kq':((pn j:Int)+1024-1) / 1024=(aT (pn j):Nat):=by unfold aT;omega
   have hnb:aT (pn j)≤5:=by unfold aT;omega
   have ku:IntKind.u64.wrap ((aT (pn j):Nat):Int)=((aT (pn j):Nat):Int):=by rw[IntKind.wrap_u64];omega
   have H5:=zh (zN h5 (zN hl5.symm hb5))
   rw[←hl5] at hfl
   clear h5 hl5 hb5
   go_wp2_with fail
   refine(V.gW _ Af l5 cf (sF nm pf pn k j) ((aT (pn j):Nat):Int) H5.out.2.1 (by have:=H5.out.1.f;rw[H5.out.2.1] at this;exact V.dN this) hcf (by omega) (by omega) (by omega)).mono ?_
   rintro e w6 ⟨v6,rfl,ho6,hb6⟩
   rw[Int.toNat_natCast] at ho6
   obtain⟨F6,hF6⟩:∃ F6,F6=sF nm pf pn k j ++ V.aC (aT (pn j)):=⟨_,rfl⟩
   rw[←hF6] at ho6
   have hl6:F6.length≤l5+10:=by
    have:=V.aR (u:=aT (pn j)) (by omega)
    rw[hF6,List.length_append,H5.out.2.1];omega
   obtain⟨A6,c6,hv6,hc6,-⟩:=aA ho6
   subst hv6
   have h6:=H5.out.1.call hb6
   have z0:=h6.own.cell 1 0 rfl rfl
   rw[H5.out.2.1] at z0
   have zf:=h6.own.free 1 rfl
   have hb6y:=H5.out.2.2.below hb6 H5.out.2.2.lt
   have hyx:y≠xf:=hb6y.ne (h6.own.get 1 rfl) (by decide)
   have H6:=zh (zN (H5.out.1.foot hb6 ho6) (zN (hb6y.far (p:=⟨xf,0,none⟩) hyx (.slice A6 F6.length c6)) hF6))
   clear ho6 hb6 h6 hb6y hyx hF6 zc zy kq kq' ku
   go_upto_region 10 with (fail)
   clear z0 zf
   refine aH (fun wx=>dG w xo xf vo (.slice A6 F6.length c6) (sO pf pn j) F6 wx∧au wx y 250 #[.string (nm j),.slice (pa j) (pn j) (pc j)]) ⟨H6.out.1,H6.out.2.1⟩ ?_
   rintro w7 ⟨h7,hb7⟩
   have zy:w7.cell? ⟨y,1,none⟩=some (.slice (pa j) (pn j) (pc j)):=by rw[hb7.cell 1];rfl
   have H7:=zh h7
   clear h7 hb7
   go_wp2_with fail
   refine(JC w _ xo xf vo (.slice A6 F6.length c6) (sO pf pn j) F6 (pa j) (pn j) (pc j) (pf j) H7.out ((H0.out.1.pts j hlt).below H7.out.own.bel) hpj (H0.out.1.le j hlt).1 (H0.out.1.le j hlt).2 (by have:=H0.out.2.ob j (by omega);omega) (by omega) (H0.out.1.ok j)).mono ?_
   rintro e w8 (⟨hbv,hp0,rfl,vo2,vf2,h8⟩ | ⟨hbad,rfl,hb8⟩)
   ·have HE:=zh (zN h8 (zN hbv hp0))
    clear h8 hbv hp0 zy
    go_wp2_with fail
    go_roundw
    case rel=>
     refine⟨j+1,by omega,by go_num,?_,vo2,vf2,?_⟩
     ·show (sV pf pn j && pI pf pn j)=true
      rw[HS.out.2.1]
      unfold pI
      rw[HE.out.2.1,decide_eq_true HE.out.2.2]
      rfl
     ·have e1:sF nm pf pn k (j+1)=F6 ++ bF (pf j) (pn j) (aT (pn j)):=by rw[H6.out.2.2];rfl
      rw[e1]
      exact HE.out.1
    case measure=>simp[intOf]<;>omega
   ·have hpv:pI pf pn j=false:=by
     unfold pI
     rcases hbad with h | h
     ·rw[h];rfl
     ·rw[decide_eq_false (by omega)];simp
    have HF:=zh (show iT nm pf pn k w (.returned (.tuple #[.slice none 0 0,.int .i64 2])) w8 from AP (by rw[Mx hpv k hlt];simp) hb8)
    clear hbad hb8 hpv zy
    go_wp2_with fail
    go_ret2
    exact HF.out
  ·obtain rfl:j=k:=by omega
   have HE:=zh (zN hT hv)
   clear hT hv
   obtain⟨Ao,co,hvo,hco,-⟩:=aA HE.out.1.o
   subst hvo
   obtain⟨Af,cf,hvf,hcf,-⟩:=aA HE.out.1.f
   subst hvf
   obtain⟨ol,hol⟩:∃ l,l=(sO pf pn j).length:=⟨_,rfl⟩
   obtain⟨fl,hfl⟩:∃ l,l=(sF nm pf pn j j).length:=⟨_,rfl⟩
   have hob:=H0.out.2.ob j (Nat.le_refl _)
   have hfb:=H0.out.2.fb j (Nat.le_refl _)
   have hT:=HE.out.1
   rw[←hol] at hco hob hT
   rw[←hfl] at hcf hfb hT
   have zo:=hT.own.cell 0 0 rfl rfl
   have zc:=hT.own.cell 1 0 rfl rfl
   have hTo:=hT.o
   have hTf:=hT.f
   rw[←hol] at hTo
   rw[←hfl] at hTf
   have HL:=zh (zN hol.symm (zN hfl.symm (zN hT (zN hTo hTf))))
   clear hol hfl hT hTo hTf
   go_wp2_with fail
   refine(F.pR _ 5 Af fl cf _ (sF nm pf pn j j) HL.out.2.1 (V.dN HL.out.2.2.2.2) (F.lM (pK nm pf pn j j)) (by omega) (by omega)).mono ?_
   rintro e w9 ⟨A9,c9,rfl,ho9,hk9⟩
   obtain⟨S5,hS5⟩:∃ S,S=F.aN 5 (sF nm pf pn j j):=⟨_,rfl⟩
   rw[←hS5] at ho9 ⊢
   have hsl:S5.length=fl+9:=by rw[hS5,F.bB,HL.out.2.1]
   obtain⟨q,hq⟩:∃ q,q=fl+9:=⟨_,rfl⟩
   rw[hsl,←hq] at ho9 ⊢
   have hqb:q≤1048009:=by omega
   have H9:=zh (zN ho9 (zN hk9.bM (zN hS5 (zN hsl hq))))
   have hT9:=HL.out.2.2.1.call hk9.bM
   have zo9:=hT9.own.cell 0 0 rfl rfl
   have HT9:=zh hT9
   clear ho9 hk9 hS5 hsl hq zo zc hT9
   have hn:(dP nm j && (decide (0 < j) && sV pf pn j))=true:=by rw[HD.out.2,HE.out.2,decide_eq_true hk0];rfl
   have HN:=zh hn
   clear hn
   by_cases hbig:1048563 < q+ol
   ·have d1:decide ((1048563:Int)-(ol:Int) < (q:Int))=true:=by simp;omega
    have hB:iT nm pf pn j w (.returned (.tuple #[.slice none 0 0,.int .i64 3])) w9:=by
     have e:sB nm pf pn j=([],3):=by
      unfold sB
      rw[if_pos HN.out,if_pos (by rw[←H9.out.2.2.1,H9.out.2.2.2.1,←H9.out.2.2.2.2,HL.out.1];exact hbig)]
     unfold iT
     rw[e]
     exact⟨_,rfl,BG _ _,HT9.out.own.bel⟩
    have HF:=zh hB
    clear hB hbig
    go_wp2_with fail
    go_ret2
    exact HF.out
   ·have d1:decide ((1048563:Int)-(ol:Int) < (q:Int))=false:=by simp;omega
    have k0:IntKind.u8.wrap (q:Int)=((q%256:Nat):Int):=by rw[IntKind.wrap_u8];omega
    have k1:IntKind.u8.wrap ((q:Int) / 256)=((q / 256%256:Nat):Int):=by rw[IntKind.wrap_u8];omega
    have k2:IntKind.u8.wrap ((q:Int) / 65536)=((q / 65536%256:Nat):Int):=by rw[IntKind.wrap_u8];omega
    have k3:IntKind.u8.wrap ((q:Int) / 16777216)=((q / 16777216%256:Nat):Int):=by rw[IntKind.wrap_u8];omega
    have h4:=RA w9 q
    have hal:Below w9.heap.size w9 (w9.alloc (.cells #[.int .u8 ((q:Int)%256),.int .u8 ((q:Int) / 256%256),.int .u8 ((q:Int) / 65536%256),.int .u8 ((q:Int) / 16777216%256)] 5)):=(Below.refl _ _).alloc (Nat.le_refl _) _
    have HQ:=zh (zN h4 hal)
    clear h4 hal hbig
    go_wp2_with fail
    refine(F.pR _ 6 _ 4 4 _ (four q) rfl HQ.out.1 (F.lM (qK q)) (by omega) (by omega)).mono ?_
    rintro e w10 ⟨A10,c10,rfl,ho10,hk10⟩
    obtain⟨S6,hS6⟩:∃ S,S=F.aN 6 (four q):=⟨_,rfl⟩
    obtain⟨z6,hl6⟩:∃ z,S6.length=z:=⟨_,rfl⟩
    have hz6:z6≤13:=by rw[←hl6,hS6,F.bB];exact Nat.le_refl _
    rw[←hS6,hl6] at ho10
    rw[←hS6,hl6]
    have hb10:=HQ.out.2.trans (hk10.bM.mono HQ.out.2.size)
    have hT10:=HT9.out.call hb10
    have zo10:=hT10.own.cell 0 0 rfl rfl
    have ho9':=V.bH H9.out.1 hb10
    have hoo:=V.bH (V.bH HL.out.2.2.2.1 H9.out.2.1) hb10
    have H10:=zh (zN hT10 (zN (V.dN ho9') (zN (V.dN ho10) (zN hS6 (zN hl6 (zN hoo ho10))))))
    clear ho10 hk10 hS6 hl6 hb10 hT10 ho9' hoo zo9 k0 k1 k2 k3
    go_wp2_with (at_builtin;refine aW (f:=aD S5) (D:=fun k=>k < w10.heap.size) (base:=w.heap.size) (n:=ol) (xs:=(sO pf pn j).map V.aI) V.byteElem rfl (.tmp 80) (.tmp 81) rfl rfl rfl ?hown ?hsl ?h1 ?h63 ?hby ?hbase ?_)
    case hown=>exact H10.out.2.2.2.2.2.1
    case hsl=>have:=H10.out.2.1;exact this
    case h1=>intro i _;rfl
    case h63=>unfold maxLen;omega
    case hby=>omega
    case hbase=>exact H10.out.1.own.bel.size
    intro v11 w11 ho11 hg11 hx11
    have ho11':w11.ownsRow w.heap.size 5 1 v11 (ol+q) ((sO pf pn j ++ S5).map V.aI):=by
     have:=ho11
     rw[←V.fE (H9.out.2.2.2.1.trans H9.out.2.2.2.2.symm),←List.map_append] at this
     exact this
    have hbl11:=V.qE H10.out.1.own.bel H10.out.2.2.2.2.2.1 hg11
    have h10o:w11.ownsRow _ 5 1 (.slice A10 z6 c10) z6 (S6.map V.aI):=World.ownsRow.kept H10.out.2.2.2.2.2.2 hg11 (by
     cases e:(Value.slice A10 z6 c10).ownBlock with
     | none=>exact .inl rfl
     | some g=>
      refine .inr fun e'=>?_
      have h1:=(H10.out.2.2.2.2.2.2.lt g e).1
      have h2:=(HL.out.2.2.2.1.lt g e'.symm).2
      have h3:=H9.out.2.1.size
      have h4:=HQ.out.2.size
      omega)
    have H11:=zh (zN ho11' (zN hbl11 (V.dN h10o)))
    clear ho11 hg11 hx11 ho11' hbl11 h10o
    go_wp2_with (at_builtin;refine aW (f:=aD S6) (D:=fun k=>k < w11.heap.size) (base:=w.heap.size) (n:=ol+q) (xs:=(sO pf pn j ++ S5).map V.aI) V.byteElem rfl (.tmp 82) (.tmp 83) rfl rfl rfl ?hown ?hsl ?h1 ?h63 ?hby ?hbase ?_)
    case hown=>exact H11.out.1
    case hsl=>exact H11.out.2.2
    case h1=>intro i _;rfl
    case h63=>unfold maxLen;omega
    case hby=>omega
    case hbase=>exact H11.out.2.1.size
    intro v12 w12 ho12 hg12 hx12
    have hB:iT nm pf pn j w (.returned (.tuple #[v12,.int .i64 0])) w12:=by
     have e:sB nm pf pn j=(sO pf pn j ++ S5 ++ S6,0):=by
      unfold sB
      rw[if_pos HN.out,if_neg (by rw[←H9.out.2.2.1,H9.out.2.2.2.1,←H9.out.2.2.2.2,HL.out.1];have:=of_decide_eq_false d1;omega),←H9.out.2.2.1,H9.out.2.2.2.1,←H9.out.2.2.2.2,←H10.out.2.2.2.1]
     unfold iT
     rw[e]
     refine⟨v12,rfl,?_,V.qE H11.out.2.1 H11.out.1 hg12⟩
     have:=ho12
     rw[←V.fE H10.out.2.2.2.2.1] at this
     show w12.ownsRow w.heap.size 5 1 v12 (sO pf pn j ++ S5 ++ S6).length ((sO pf pn j ++ S5 ++ S6).map V.aI)
     rw[List.length_append,List.length_append,HL.out.1,H9.out.2.2.2.1,←H9.out.2.2.2.2,H10.out.2.2.2.2.1,List.map_append,List.map_append]
     simp only[List.map_append,List.append_assoc] at this ⊢
     exact this
    have HF:=zh hB
    clear hB ho12 hg12 hx12
    go_wp2_with fail
    go_ret2
    exact HF.out
end
namespace F
open Go.RowKit
def bS(bs:List Nat)(i m:Nat): Nat:=2 ^ (8*i)*le ((bs.take m).drop i)
theorem Gh(bs:List Nat)(i m:Nat)(hi:i < m)(hm:m≤bs.length)(hb:∀ j,bs.getD j 0 < 256): bS bs (i+1) m ||| bs.getD i 0*2 ^ (8*i)=bS bs i m:=by
 have hd:(bs.take m).drop i=bs.getD i 0 :: (bs.take m).drop (i+1):=by
  rw[List.drop_eq_getElem_cons (by simp;omega),List.getElem_take,List.getD_eq_getElem?_getD,List.getElem?_eq_getElem (by omega)]
  rfl
 have hx:=hb i
 have h1:bS bs (i+1) m%2 ^ (8*i+8)=0:=by
  unfold bS
  rw[show 8*(i+1)=8*i+8 by omega]
  exact Nat.mul_mod_right _ _
 have h2:bs.getD i 0*2 ^ (8*i) < 2 ^ (8*i+8):=by
  rw[Nat.pow_add,Nat.mul_comm (2 ^ (8*i))]
  exact Nat.mul_lt_mul_of_pos_right (by omega) (Nat.two_pow_pos _)
 rw[nat_join _ _ _ h1 h2]
 unfold bS
 rw[hd]
 show _=2 ^ (8*i)*(bs.getD i 0+256*le ((bs.take m).drop (i+1)))
 rw[show 8*(i+1)=8*i+8 by omega,Nat.pow_add,Nat.mul_add,show (2:Nat) ^ 8=256 by decide,Nat.mul_assoc,Nat.mul_comm (bs.getD i 0),Nat.add_comm]
theorem Mh(bs:List Nat)(i m:Nat)(hm:m≤8)(hb:∀ j,bs.getD j 0 < 256): bS bs i m < 18446744073709551616:=by
 have h1:=Kv (l:=(bs.take m).drop i) (fun b hbm=>gZ hb m b (List.mem_of_mem_drop hbm))
 have h2:((bs.take m).drop i).length≤8-i:=by simp;omega
 unfold bS
 rcases Nat.lt_or_ge i 9 with hi | hi
 ·have h3:(2:Nat) ^ (8*((bs.take m).drop i).length)≤2 ^ (8*(8-i)):=Nat.pow_le_pow_right (by omega) (by omega)
  have h4:2 ^ (8*i)*le ((bs.take m).drop i) < 2 ^ (8*i)*2 ^ (8*(8-i)):=Nat.mul_lt_mul_of_pos_left (by omega) (Nat.two_pow_pos _)
  rw[←Nat.pow_add,show 8*i+8*(8-i)=64 by omega] at h4
  exact h4
 ·have:(bs.take m).drop i=[]:=List.drop_eq_nil_of_le (by simp;omega)
  rw[this]
  show _*0 < _
  omega
def SX(w:World)(gu gb:Nat)(A:Option Addr)(len c:Nat)(u:Nat)(w':World): Prop:=
 au w' gu 50 #[.int .u64 (u:Nat)]∧au w' gb 72 #[.slice A len c]∧Keeps (fun k=>k=gu) w w'
theorem OX(w:World)(gu gb:Nat)(A:Option Addr)(len c:Nat)(D:Nat→Prop)(bs:List Nat)(i m:Nat)(hl:bs.length=len)(hsl:Sl w D A len (aD bs))(hb:∀ j,bs.getD j 0 < 256)(hi:i < m)(hm:m≤len)(hm8:m≤8)(hu:au w gu 50 #[.int .u64 (bS bs (i+1) m:Nat)])(hbb:au w gb 72 #[.slice A len c]):
  Calls Tryz.prog 343 #[.int .i64 (i:Nat),.pointer (some ⟨gu,0,none⟩),.pointer (some ⟨gb,0,none⟩)] w fun e w'=>e=.returned (.tuple #[])∧SX w gu gb A len c (bS bs i m) w':=by
 obtain⟨b,off,hA,-,hc⟩:=hsl (by omega)
 have ck:w.cell? ⟨b,off+i,none⟩=some (.int .u8 (bs.getD i 0:Nat)):=hc i (by omega)
 subst hA
 have hx:=hb i
 have hst:=Gh bs i m hi (by omega) hb
 have hlt:=Mh bs (i+1) m hm8 hb
 obtain⟨x,hxx⟩:∃ x,x=bs.getD i 0:=⟨_,rfl⟩
 rw[←hxx] at ck hx hst
 obtain⟨u,huu⟩:∃ u,u=bS bs (i+1) m:=⟨_,rfl⟩
 rw[←huu] at hu hst hlt
 have c0:=hu.cell 0
 have c1:=hbb.cell 0
 have f0:=hu.frozen 0
 simp at c0 c1 f0
 have hne:gb≠gu:=fun e=>(hu.ne hbb (by decide)) e.symm
 have HH:=zh (zN hu (zN hbb (zN hst (zN hlt (zN hx hne)))))
 clear hu hbb hst hlt hx hne hc hsl hxx huu hb
 have hil:(i:Int) < (len:Int):=by omega
 have hi0:(0:Int)≤(i:Int):=by omega
 have hin:((i:Int)).toNat=i:=by omega
 have hi8:IntKind.i64.wrap (8*(i:Int))=8*(i:Int):=IntWalk.i64_in _ (by omega)
 have hi9:(0:Int)≤8*(i:Int):=by omega
 have hi10:(8*(i:Int)).toNat=8*i:=by omega
 have hi11:8*(i:Int) < 64:=by omega
 go_enter Tryz.func343,Tryz.ntmps343
 go_wp2_with fail
 go_still_tail 10,(by kernel_rfl)
 change wpList _ _ _ _ _ w.drew
 clear hin hi8 hi10
 go_wp2_with fail
 obtain⟨hu,hbb,hst,hlt,hx,hne⟩:=HH.out
 have hp:(2:Nat) ^ (8*i)≤2 ^ 56:=Nat.pow_le_pow_right (by omega) (by omega)
 have hxp:x*2 ^ (8*i) < 18446744073709551616:=by
  have:x*2 ^ (8*i)≤255*2 ^ 56:=Nat.mul_le_mul (by omega) hp
  omega
 have e1:bits .or .u64 (u:Int) (IntKind.u64.wrap (IntKind.u64.wrap (x:Int)*2 ^ (8*i)))=((bS bs i m:Nat):Int):=by
  rw[IntKind.wrap_u64 (x:Int),show (x:Int)%18446744073709551616=(x:Int) by omega,show (x:Int)*2 ^ (8*i)=((x*2 ^ (8*i):Nat):Int) by rw[Int.natCast_mul,Int.natCast_pow];rfl,IntKind.wrap_u64,
   show ((x*2 ^ (8*i):Nat):Int)%18446744073709551616=((x*2 ^ (8*i):Nat):Int) by omega,u64_or_nat _ _ hlt hxp,hst]
 rw[e1]
 refine bodyPost_end (v:=.tuple #[]) (by simp[results,Tryz.results343,go_sem]) rfl ?_
 exact⟨rfl,by simpa using (hu.set 0 (.int .u64 (bS bs i m:Nat))).drew,(hbb.far (by exact hne) _).drew,((Keeps.refl (fun k=>k=gu) w).setCell (p:=⟨gu,0,none⟩) (fun _=>rfl) _).drew⟩
end F
end Go.Proofs.YtmffkpkgbdcnjaaGreatDoor
