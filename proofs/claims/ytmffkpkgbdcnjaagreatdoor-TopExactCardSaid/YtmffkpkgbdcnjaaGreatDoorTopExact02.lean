/-
  Texts of this proof, joined.
-/
import Derived.Test.YtmffkpkgbdcnjaaGreatDoorTopExact01
import Derived.Test.YtmffkpkgbdcnjaaGreatDoorProg
import Derived.Laws.Externs
import Derived.WalkMore
import Derived.Laws.Closers25b
import Derived.Maps.Own
import Derived.Maps.OwnOps
import Derived.Maps.OwnSet
import Derived.Maps.RangeWalk
import Derived.Deep.OwnRows
import Derived.Deep.QuietTactic
import Derived.BigQuiet
import Derived.Great.BuildSlice
import Derived.Laws.EntriesVeiled
import Derived.StillTailTactics
import Derived.BigRegion
import Derived.Laws.CopyOwn
import Derived.Laws.Tables
import Derived.Deep.Slices
import Derived.Deep.Fields
import Derived.ChangeSame
import Derived.Deep.LoopGhost
import Derived.Lib.ConvBytes
import Derived.Laws.IdiomCopy
set_option linter.unusedVariables false
set_option linter.unusedSimpArgs false
set_option maxRecDepth 100000
set_option maxHeartbeats 20000000
namespace Go.Proofs.YtmffkpkgbdcnjaaGreatDoor
section
open Go.RowKit
def marks: ByteArray:={ data:=#[95,46,45,58,47,61,44] }
def qx(c:Nat): Bool:=(decide (97<=bits .or .u8 (c:Int) 32) && decide (bits .or .u8 (c:Int) 32<=122)) || ((decide (48<=(c:Int)) && decide ((c:Int)<=57)) || decide (0<=firstIdx marks ((c:Int).toNat.toUInt8)))
theorem Jd(c:Int)(w:World): (callFunc 299 #[.string marks,.int .u8 c]).run Tryz.prog w=.ok (.value (Z (firstIdx marks c.toNat.toUInt8))) w:=by
 rw[run_callFunc_extern Tryz.func299 (by kernel_rfl) (by kernel_rfl) (by kernel_rfl) (e:=Extern.BytealgIndexByte.indexByte) (by kernel_rfl),run_indexByte_string];rfl
theorem CG(c:Int)(w:World): Calls Tryz.prog 135 #[.string marks,.int .u8 c] w fun e w'=>e=.returned (Z (firstIdx marks c.toNat.toUInt8))/\Below w.heap.size w w':=by
 have h:=Jd c;have h1:∀ w,Calls Tryz.prog 208 #[.string marks,.int .u8 c] w fun e w'=>e=.returned (Z (firstIdx marks c.toNat.toUInt8))/\Below w.heap.size w w':=by
  intro w
  go_enter Tryz.func208,Tryz.ntmps208
  go_wp2_with fail;go_ret;exact⟨rfl,Below.refl _ _⟩
 clear h
 go_enter Tryz.func135,Tryz.ntmps135
 go_wp2_with fail;refine(h1 _).mono ?_;rintro e w1 ⟨rfl,hb⟩;have HB:=zh hb;clear hb h1;go_wp2_with fail;go_ret;exact⟨rfl,HB.out⟩
theorem nQ{w wr w1:World}(h:Below w.heap.size w wr)(hb:Below wr.heap.size wr w1): Below w.heap.size w w1:=((Own.start w).call h).call hb |>.av
def fZ(s:ByteArray): Bool:=(List.range s.size).all (fun j=>qx (s[j]!).toNat) && (decide (1<=s.size) && decide (s.size<=64))
theorem O1{s:ByteArray}(h:∀ j,j < s.size->qx (s[j]!).toNat=true): fZ s=(decide (1<=s.size) && decide (s.size<=64)):=by
 unfold fZ;rw[List.all_eq_true.2 (fun j hj=>h j (List.mem_range.1 hj))];rfl
theorem uo{s:ByteArray}{k:Nat}(hk:k < s.size)(h:qx (s[k]!).toNat=false): fZ s=false:=by
 unfold fZ;have e:(List.range s.size).all (fun j=>qx (s[j]!).toNat)=false:=by
  rw[List.all_eq_false];exact⟨k,List.mem_range.2 hk,by rw[h];simp⟩
 rw[e];rfl
theorem mZ(s:ByteArray)(hs:s.size<=9223372036854775807)(w:World): Calls Tryz.prog 70 #[.string s] w fun e w'=>e=.returned (.bool (fZ s))/\Below w.heap.size w w':=by
 have hi:=CG;have HI:=zh hi;clear hi
 go_enter Tryz.func70,Tryz.ntmps70
 go_wp2_with fail
 go_loopw [8] (fun i wr=>∃ k:Nat,k<=s.size/\i=Z (k:Nat)/\(∀ j,j < k->qx (s[j]!).toNat=true)/\Below w.heap.size w wr) (fun i _=>s.size-(intOf i).toNat)
 case atStart=>exact ⟨0,J,rfl,fun j hj=>absurd hj J,Below.refl _ _⟩
 case round=>
  obtain⟨k,hk,rfl,hall,hbel⟩:=hrel;have HA:=zh (zN hall hbel);clear hall hbel
  by_cases hlt:k < s.size
  ·go_upto_region 6 with (fail)
   obtain⟨c,hc⟩:∃ c:Nat,c=s[k].toNat:=⟨_,rfl⟩
   have hc':(s[k]!).toNat=c:=by rw[hc,getElem!_pos s k hlt]
   have hc256:c < 256:=by rw[hc];exact UInt8.toNat_lt _
   rw[<-hc];obtain⟨lw,hlw⟩:∃ z,z=bits .or .u8 (c:Int) 32:=⟨_,rfl⟩
   rw[<-hlw];obtain⟨ix,hix⟩:∃ z,z=firstIdx marks ((c:Int).toNat.toUInt8):=⟨_,rfl⟩
   have hic:=HI.out (c:Int);rw[<-hix] at hic
   have hch:qx c=((decide (97<=lw) && decide (lw<=122)) || ((decide (48<=(c:Int)) && decide ((c:Int)<=57)) || decide (0<=ix))):=by unfold qx;rw[<-hlw,<-hix]
   have HC:=zh (zN hc' (zN hch hic));have HW:=zh (show ∀ j,j < k->qx (s[j]!).toNat=true from HA.out.1);clear hc hc' hch hic hlw hix
   by_cases e1:97<=lw
   ·have d1:decide (97<=lw)=true:=by simp[e1]
    by_cases e2:lw<=122
    ·have d2:decide (lw<=122)=true:=by simp[e2]
     have HT:=zh (show qx c=true by rw[HC.out.2.1];simp[e1,e2]);clear e1 e2;go_wp2_with fail
     go_roundw
     case rel=>
      refine⟨k+1,J,by go_num,fun j hj=>?_,HA.out.2⟩;rcases Nat.lt_or_ge j k with h | h
      ·exact HW.out j h
      ·obtain rfl:j=k:=J
       rw[HC.out.1];exact HT.out
     case measure=>simp[intOf]<;>omega
    ·have d2:decide (lw<=122)=false:=by simp;omega
     by_cases e3:48<=(c:Int)
     ·have d3:decide (48<=(c:Int))=true:=by simp;omega
      by_cases e4:(c:Int)<=57
      ·have d4:decide ((c:Int)<=57)=true:=by simp;omega
       have HT:=zh (show qx c=true by rw[HC.out.2.1];simp[d3,d4]);clear e1 e2 e3 e4;go_wp2_with fail
       go_roundw
       case rel=>
        refine⟨k+1,J,by go_num,fun j hj=>?_,HA.out.2⟩;rcases Nat.lt_or_ge j k with h | h
        ·exact HW.out j h
        ·obtain rfl:j=k:=J
         rw[HC.out.1];exact HT.out
       case measure=>simp[intOf]<;>omega
      ·have d4:decide ((c:Int)<=57)=false:=by simp;omega
       clear e1 e2 e3 e4;go_wp2_with fail;refine(HC.out.2.2 _).mono ?_;rintro e w1 ⟨rfl,hb⟩;have HB:=zh (nQ HA.out.2 hb);clear hb
       by_cases e5:0<=ix
       ·have d5:decide (0<=ix)=true:=by simp[e5]
        have HT:=zh (show qx c=true by rw[HC.out.2.1,d5];simp);clear e5;go_wp2_with fail
        go_roundw
        case rel=>
         refine⟨k+1,J,by go_num,fun j hj=>?_,HB.out⟩;rcases Nat.lt_or_ge j k with h | h
         ·exact HW.out j h
         ·obtain rfl:j=k:=J
          rw[HC.out.1];exact HT.out
        case measure=>simp[intOf]<;>omega
       ·have d5:decide (0<=ix)=false:=by simp;omega
        have HT:=zh (show fZ s=false from uo hlt (by rw[HC.out.1,HC.out.2.1,d5];simp[d1,d2,d3,d4]));clear e5;go_wp2_with fail;go_ret;exact⟨by rw[HT.out];rfl,HB.out⟩
     ·have d3:decide (48<=(c:Int))=false:=by simp;omega
      clear e1 e2 e3;go_wp2_with fail;refine(HC.out.2.2 _).mono ?_;rintro e w1 ⟨rfl,hb⟩;have HB:=zh (nQ HA.out.2 hb);clear hb
      by_cases e5:0<=ix
      ·have d5:decide (0<=ix)=true:=by simp[e5]
       have HT:=zh (show qx c=true by rw[HC.out.2.1,d5];simp);clear e5;go_wp2_with fail
       go_roundw
       case rel=>
        refine⟨k+1,J,by go_num,fun j hj=>?_,HB.out⟩;rcases Nat.lt_or_ge j k with h | h
        ·exact HW.out j h
        ·obtain rfl:j=k:=J
         rw[HC.out.1];exact HT.out
       case measure=>simp[intOf]<;>omega
      ·have d5:decide (0<=ix)=false:=by simp;omega
       have HT:=zh (show fZ s=false from uo hlt (by rw[HC.out.1,HC.out.2.1,d5];simp[d1,d2,d3]));clear e5;go_wp2_with fail;go_ret;exact⟨by rw[HT.out];rfl,HB.out⟩
   ·have d1:decide (97<=lw)=false:=by simp;omega
    by_cases e3:48<=(c:Int)
    ·have d3:decide (48<=(c:Int))=true:=by simp;omega
     by_cases e4:(c:Int)<=57
     ·have d4:decide ((c:Int)<=57)=true:=by simp;omega
      have HT:=zh (show qx c=true by rw[HC.out.2.1];simp[d3,d4]);clear e1 e3 e4;go_wp2_with fail
      go_roundw
      case rel=>
       refine⟨k+1,J,by go_num,fun j hj=>?_,HA.out.2⟩;rcases Nat.lt_or_ge j k with h | h
       ·exact HW.out j h
       ·obtain rfl:j=k:=J
        rw[HC.out.1];exact HT.out
      case measure=>simp[intOf]<;>omega
     ·have d4:decide ((c:Int)<=57)=false:=by simp;omega
      clear e1 e3 e4;go_wp2_with fail;refine(HC.out.2.2 _).mono ?_;rintro e w1 ⟨rfl,hb⟩;have HB:=zh (nQ HA.out.2 hb);clear hb
      by_cases e5:0<=ix
      ·have d5:decide (0<=ix)=true:=by simp[e5]
       have HT:=zh (show qx c=true by rw[HC.out.2.1,d5];simp);clear e5;go_wp2_with fail
       go_roundw
       case rel=>
        refine⟨k+1,J,by go_num,fun j hj=>?_,HB.out⟩;rcases Nat.lt_or_ge j k with h | h
        ·exact HW.out j h
        ·obtain rfl:j=k:=J
         rw[HC.out.1];exact HT.out
       case measure=>simp[intOf]<;>omega
      ·have d5:decide (0<=ix)=false:=by simp;omega
       have HT:=zh (show fZ s=false from uo hlt (by rw[HC.out.1,HC.out.2.1,d5];simp[d1,d3,d4]));clear e5;go_wp2_with fail;go_ret;exact⟨by rw[HT.out];rfl,HB.out⟩
    ·have d3:decide (48<=(c:Int))=false:=by simp;omega
     clear e1 e3;go_wp2_with fail;refine(HC.out.2.2 _).mono ?_;rintro e w1 ⟨rfl,hb⟩;have HB:=zh (nQ HA.out.2 hb);clear hb
     by_cases e5:0<=ix
     ·have d5:decide (0<=ix)=true:=by simp[e5]
      have HT:=zh (show qx c=true by rw[HC.out.2.1,d5];simp);clear e5;go_wp2_with fail
      go_roundw
      case rel=>
       refine⟨k+1,J,by go_num,fun j hj=>?_,HB.out⟩;rcases Nat.lt_or_ge j k with h | h
       ·exact HW.out j h
       ·obtain rfl:j=k:=J
        rw[HC.out.1];exact HT.out
      case measure=>simp[intOf]<;>omega
     ·have d5:decide (0<=ix)=false:=by simp;omega
      have HT:=zh (show fZ s=false from uo hlt (by rw[HC.out.1,HC.out.2.1,d5];simp[d1,d3]));clear e5;go_wp2_with fail;go_ret;exact⟨by rw[HT.out];rfl,HB.out⟩
  ·obtain rfl:k=s.size:=J
   have hn:=O1 HA.out.1
   by_cases h0:s.size=0
   ·obtain rfl:s=ByteArray.empty:=by
     apply ByteArray.ext;exact Array.eq_empty_of_size_eq_zero h0
    have HN:=zh (show fZ ByteArray.empty=false from hn);clear hn;go_wp2_with fail;go_ret;exact⟨by rw[HN.out];rfl,HA.out.2⟩
   ·have hne:s≠ByteArray.empty:=fun h=>h0 (by rw[h];rfl)
    have h1:1<=s.size:=J;have d0:s.toList.isEmpty=false:=by
     cases h:s.toList with
     | nil=>exact absurd ((toList_nil_iff_emptyBytes s).1 h) hne
     | cons a l=>rfl
    by_cases h64:s.size<=64
    ·have HN:=zh (show fZ s=true by rw[hn];simp[h1,h64])
     have d1:decide ((s.size:Int)<=64)=true:=by simp;omega
     clear hn h64;go_wp2_with fail;go_ret;exact⟨by rw[HN.out];rfl,HA.out.2⟩
    ·have HN:=zh (show fZ s=false by rw[hn];simp[h64])
     have d1:decide ((s.size:Int)<=64)=false:=by simp;omega
     clear hn h64;go_wp2_with fail;go_ret;exact⟨by rw[HN.out];rfl,HA.out.2⟩
end
section
open Go.RowKit Go.Maps
open Go.WideMaps (keyOf_string_mk)
theorem law: Keyed Tryz.prog 9:=string_keyed Tryz.underlying9
def fV(s:ByteArray): Lit:=.string s.data.toList
theorem wF{s t:ByteArray}(h:fV s=fV t): s=t:=by
 unfold fV at h
 injection h with h
 apply ByteArray.ext;exact Array.toList_inj.1 h
theorem sI(s:ByteArray): WideAt.IsKeyLit (fV s):=by unfold fV;simp[WideAt.IsKeyLit]
theorem mO{s:ByteArray}(h:s.size<=maxLen): keyOf Tryz.prog 9 (.string s)=some (fV s):=keyOf_string_mk Tryz.underlying9 h
def Dn(nm:Nat->ByteArray): Nat->DataW Unit
 | 0=>.map []
 | k+1=>(Dn nm k).put (fV (nm k)) (.lit (.int .i64 k))
def nP(w:World)(m k:Nat)(nm:Nat->ByteArray): Prop:=w.ownsMap Tryz.prog 9 (plainElem (H:=Unit) Tryz.prog 3) m k (Dn nm k)
theorem nP.block{w w':World}{m k:Nat}{nm:Nat->ByteArray}(h:nP w m k nm)(hb:w'.heap[m]? = w.heap[m]?): nP w' m k nm:=by
 obtain⟨es,clock,h1,r⟩:=h;exact⟨es,clock,by rw[hb];exact h1,r⟩
theorem nP.call{w w':World}{m k:Nat}{nm:Nat->ByteArray}(h:nP w m k nm)(hb:Below w.heap.size w w'): nP w' m k nm:=
 h.block (hb.block m (World.ownsMap.lt h))
theorem nP.setCell{w:World}{m k g j:Nat}{nm:Nat->ByteArray}(h:nP w m k nm)(hg:m≠g)(v:Value): nP (w.setCell ⟨g,j,none⟩ v) m k nm:=World.ownsMap.setCell h hg v
structure vT(w0:World)(L:List (Nat × TypeId × Array Value))(d m k:Nat)(nm:Nat->ByteArray)(w:World): Prop where
 own:Own w0 ((d,445,#[.map (some m)]) :: L) w
 map:nP w m k nm
 ge:w0.heap.size<=m
 ne:∀ b ∈ (d,445,#[Value.map (some m)]) :: L,b.1≠m
theorem vT.call{w0 w w':World}{L:List (Nat × TypeId × Array Value)}{d m k:Nat}{nm:Nat->ByteArray}(h:vT w0 L d m k nm w)(hb:Below w.heap.size w w'): vT w0 L d m k nm w':=⟨h.own.call hb,h.map.call hb,h.ge,h.ne⟩
end
section
open Go.RowKit Go.Maps
theorem Bg: (Tryz.prog.info? 9).map (fun i=>(i.zero,i.size,i.bytes))=some (some (.string ByteArray.empty),1,16):=by kernel_rfl
theorem lX{key:Value}{kl:Lit}(h:keyOf Tryz.prog 9 key=some kl): ∃ s:ByteArray,key=.string s/\kl=fV s:=by
 simp only[keyOf,mapKey,Tryz.underlying9] at h
 cases key<;>simp at h
 rename_i s
 exact⟨s,rfl,by unfold fV;exact h.2.symm⟩
theorem rE(w:World)(g j:Nat)(v:Value): w.grownBy (w.setCell ⟨g,j,none⟩ v) (some g):=
 have b:Below 0 w (w.setCell ⟨g,j,none⟩ v):=(Below.refl 0 w).setCell (p:=⟨g,j,none⟩) (Nat.zero_le _) v
 ⟨b.os,b.tape,b.output,b.size,fun q _ hq=>Below.heap_setCell _ _ _ _ (fun e=>hq (by rw[e]))⟩
theorem jK{w w':World}(h:Below w.heap.size w w')(row:Option Nat): w.grownBy w' row:=⟨h.os,h.tape,h.output,h.size,fun q hq _=>h.block q hq⟩
theorem qz{w w1 w2:World}{row:Option Nat}(h:w.grownBy w1 row)(k:w1.grownBy w2 row): w.grownBy w2 row:=
 ⟨k.os.trans h.os,k.tape.trans h.tape,k.output.trans h.output,Nat.le_trans h.size k.size,fun q hq hn=>(k.block q (Nat.lt_of_lt_of_le hq h.size) hn).trans (h.block q hq hn)⟩
theorem cZ{w w':World}{row:Option Nat}{g:Nat}{t:TypeId}{cs:Array Value}(h:w.grownBy w' row)(hb:ay w g t cs)(hn:some g≠row): ay w' g t cs:=(h.block g hb.lt hn).trans hb
theorem wu{w w':World}{row:Option Nat}{a:Addr}{v:Value}(h:w.grownBy w' row)(hc:w.cell? a=some v)(hn:some a.block≠row): w'.cell? a=some v:=
 (World.cell?_of_block (w:=w) (a:=a) (h.block a.block (World.block_lt_of_cell? w _ hc) hn)).trans hc
theorem rD{w0 w w':World}{y:Nat}(h:Below w0.heap.size w0 w)(hg:w.grownBy w' (some y))(hy:w0.heap.size<=y): Below w0.heap.size w0 w':=
 ⟨hg.os.trans h.os,hg.tape.trans h.tape,hg.output.trans h.output,Nat.le_trans h.size hg.size,fun q hq=>(hg.block q (Nat.lt_of_lt_of_le hq h.size) (fun e=>by injection e with e;omega)).trans (h.block q hq)⟩
def eO(v:Value): Option (DataW Value × List MemPlace):=some (.held v,[])
def DB(nm:Nat->ByteArray)(VS:Nat->Value): Nat->DataW Value
 | 0=>.map []
 | k+1=>(DB nm VS k).put (fV (nm k)) (.held (VS k))
theorem Dh(nm:Nat->ByteArray){VS WS:Nat->Value}: ∀ k,(∀ j,j < k->VS j=WS j)->DB nm VS k=DB nm WS k
 | 0,_=>rfl
 | k+1,h=>by
  show (DB nm VS k).put _ (.held (VS k))=(DB nm WS k).put _ (.held (WS k))
  rw[Dh nm k (fun j hj=>h j J),h k J]
def mD(w:World)(M n k:Nat)(nm:Nat->ByteArray)(VS:Nat->Value): Prop:=w.ownsMap Tryz.prog 9 eO M n (DB nm VS k)
theorem mD.gb{w w':World}{M n k:Nat}{nm:Nat->ByteArray}{VS:Nat->Value}{row:Option Nat}(h:mD w M n k nm VS)(hg:w.grownBy w' row)(hne:some M≠row): mD w' M n k nm VS:=World.ownsMap.kept h hg hne
theorem mD.call{w w':World}{M n k:Nat}{nm:Nat->ByteArray}{VS:Nat->Value}(h:mD w M n k nm VS)(hb:Below w.heap.size w w'): mD w' M n k nm VS:=h.gb (jK hb none) (by simp)
structure Bk where
 a: Nat
 b:Nat
 f:Int
 t:Int
 n:Nat
def G7(x:Bk): List Value:=[Z (x.a:Nat),Z (x.b:Nat),Z x.f,Z x.t,Z (x.n:Nat)]
def uR(B:Nat->Bk): Nat->List Value
 | 0=>[]
 | j+1=>uR B j ++ G7 (B j)
theorem Ai(B:Nat->Bk): ∀ k,(uR B k).length=k*5
 | 0=>rfl
 | k+1=>by
  show (uR B k ++ G7 (B k)).length=_
  rw[List.length_append,Ai B k];unfold G7;simp;omega
theorem K8(B:Nat->Bk)(j i:Nat)(hi:i < 5): ∀ k,j < k->(uR B k)[j*5+i]? = (G7 (B j))[i]?
 | 0,h=>absurd h J
 | k+1,h=>by
  have hl:=Ai B k;show (uR B k ++ G7 (B k))[j*5+i]? = _
  rcases Nat.lt_or_ge j k with h1 | h1
  ·rw[List.getElem?_append_left J]
   exact K8 B j i hi k h1
  ·obtain rfl:j=k:=J
   rw[List.getElem?_append_right J,hl,show j*5+i-j*5=i by omega]
def jH(w:World)(y:Nat)(l:List Nat): Prop:=
 ∃ A c,ay w y 356 #[.slice A l.length c,.nilIface]/\Sl w (fun q=>q < y) A l.length (aI l)/\l.length<=c/\c<=9223372036854775807/\∀ j,l.getD j 0 < 256
theorem AA{w w':World}{y:Nat}(hv:V.dh w)(hg:w.grownBy w' (some y))(hne:some 0≠some y): V.dh w':=wu hg hv hne
theorem jH.call{w w':World}{y:Nat}{l:List Nat}(h:jH w y l)(hb:Below w.heap.size w w'): jH w' y l:=by
 obtain⟨A,c,h1,h2,h3⟩:=h;exact⟨A,c,h1.below hb h1.lt,h2.below hb (fun _ _ hk=>hk),h3⟩
theorem jH.next{w:World}{y n:Nat}{l:List Nat}{A':Option Addr}{c':Nat}(h:jH w y l)(hs:Sl w (fun q=>q < y) A' (l.length-n) (aI (l.drop n)))(hc:l.length-n<=c')(hm:c'<=9223372036854775807)(hn:n<=l.length):
  jH (w.setCell ⟨y,0,none⟩ (.slice A' (l.length-n) c')) y (l.drop n):=by
 obtain⟨A0,c0,h1,h2,h3,h4,h5⟩:=h;have e:(l.drop n).length=l.length-n:=by simp
 have hset:=h1.set 0 (.slice A' (l.length-n) c');refine⟨A',c',by rw[e];exact hset,?_,by rw[e];exact hc,hm,V.jB h5 n⟩;rw[e];exact hs.keep (fun k hk _=>Below.heap_setCell _ _ _ _ (show k≠y by have:k < y:=hk;omega))
def qG(nm:Nat->ByteArray)(n:Nat): Nat->List Nat
 | 0=>V.aF n
 | k+1=>qG nm n k ++ V.aF (nm k).size ++ V.txt (nm k)
def IV(w:World)(A:Option Addr)(k:Nat)(nm:Nat->ByteArray): Prop:=0 < k->∃ b off,A=some ⟨b,off,none⟩/\b < w.heap.size/\∀ j,j < k->w.cell? ⟨b,off+j,none⟩=some (.string (nm j))
theorem IV.below{w w':World}{A:Option Addr}{k:Nat}{nm:Nat->ByteArray}(h:IV w A k nm)(hb:Below w.heap.size w w'): IV w' A k nm:=fun hk=>by
 obtain⟨b,off,e,hlt,hc⟩:=h hk;exact⟨b,off,e,Nat.lt_of_lt_of_le hlt hb.size,fun j hj=>(hb.cell (by exact hlt)).trans (hc j hj)⟩
end
section
open Go.RowKit
def RV(f:Nat->Pt): Nat->Int
 | 0=>-1152921504606846977
 | k+1=>(f k).t
def C9(f:Nat->Pt)(k:Nat): Bool:=decide (RV f k < (f k).t) && (decide ((f k).t<=1152921504606846976) && (decide (0<=(f k).s) && decide ((f k).s<=1152921504606846976)))
def yM(f:Nat->Pt): Nat->Bool
 | 0=>true
 | k+1=>yM f k && C9 f k
def NP(f:Nat->Pt)(n:Nat): Bool:=yM f n && (decide (0 < n) && decide (n<=4096))
theorem Le(f:Nat->Pt)(k:Nat): C9 f k=true↔RV f k < (f k).t/\(f k).t<=1152921504606846976/\0<=(f k).s/\(f k).s<=1152921504606846976:=by
 unfold C9;simp only[Bool.and_eq_true,decide_eq_true_eq]
def qb(b:Bool)(w:World)(e:Ending)(w':World): Prop:=e=.returned (.bool b)/\Below w.heap.size w w'
end
section
open Go.RowKit
def upd{α:Type}(f:Fin 3->α)(c:Fin 3)(u:α): Fin 3->α:=fun d=>if d=c then u else f d
theorem upd_same{α:Type}(f:Fin 3->α)(c:Fin 3)(u:α): upd f c u c=u:=by unfold upd;rw[if_pos rfl]
theorem upd_ne{α:Type}(f:Fin 3->α){c d:Fin 3}(u:α)(h:d≠c): upd f c u d=f d:=by unfold upd;rw[if_neg h]
structure R3(e:Fin 3->TypeId)(w0 w:World)(x:Nat)(v:Fin 3->Value)(l:Fin 3->List Value): Prop where
 own:∀ c,w.ownsRow x (e c) 1 (v c) (l c).length (l c)
 dis:∀ c d,c≠d->∀ g,(v c).ownBlock=some g->(v d).ownBlock≠some g
 keep:Keeps (fun _=>False) w0 w
 base:w0.heap.size<=x
 size:x<=w.heap.size
variable {e:Fin 3->TypeId} {w0 w w':World} {x:Nat} {v z:Fin 3->Value} {l:Fin 3->List Value}
theorem wT{v:Value}(hg:w.grownBy w' v.ownBlock): Keeps (fun k=>v.ownBlock=some k) w w':=(Keeps.refl _ w).grown hg (fun k hk _=>hk)
theorem R3.alloc(h:R3 e w0 w x v l)(o:Obj): R3 e w0 (w.alloc o) x v l:=
 ⟨fun c=>(h.own c).alloc o,h.dis,h.keep.alloc o,h.base,by simp;have:=h.size;omega⟩
theorem R3.drew(h:R3 e w0 w x v l): R3 e w0 w.drew x v l:=⟨fun c=>aG (h.own c) ((Keeps.refl (fun _=>False) w).drew) (fun _ _ h=>h),h.dis,h.keep.drew,h.base,h.size⟩
theorem R3.keeps(h:R3 e w0 w x v l)(hk:Keeps (fun _=>False) w w'): R3 e w0 w' x v l:=
 ⟨fun c=>aG (h.own c) hk (fun _ _ h=>h),h.dis,h.keep.trans' hk,h.base,Nat.le_trans h.size hk.size⟩
theorem R3.lt(h:R3 e w0 w x v l)(c:Fin 3){g:Nat}(hg:(v c).ownBlock=some g): x<=g/\g < w.heap.size:=(h.own c).lt g hg
theorem R3.start(e:Fin 3->TypeId)(hk:Keeps (fun _=>False) w0 w): R3 e w0 w w.heap.size (fun _=>.slice none 0 0) (fun _=>[]):=
 ⟨fun c=>⟨rfl,.inl ⟨rfl,rfl⟩⟩,fun _ _ _ g hg=>by simp[Value.ownBlock] at hg,hk,hk.size,Nat.le_refl _⟩
theorem R3.grow(h:R3 e w0 w x v l)(c:Fin 3){v' u:Value}(hown:w'.ownsRow x (e c) 1 v' ((l c).length+1) (l c ++ [u]))(hg:w.grownBy w' (v c).ownBlock)(hb:v'.ownBlock=(v c).ownBlock\/v'.ownBlock=some w.heap.size):
  R3 e w0 w' x (upd v c v') (upd l c (l c ++ [u])):=by
 have hk:=wT hg;refine⟨fun d=>?_,fun c1 d1 hne g hg1 hg2=>?_,h.keep.trans hk (fun k hk e=>by have:=(h.lt c e).1;have:=h.base;omega),h.base,Nat.le_trans h.size hk.size⟩
 ·by_cases hd:d=c
  ·subst hd
   rw[upd_same,upd_same,List.length_append];exact hown
  ·rw[upd_ne _ _ hd,upd_ne _ _ hd]
   exact aG (h.own d) hk (fun g hg e=>h.dis d c hd g hg e)
 ·by_cases h1:c1=c
  ·subst h1
   rw[upd_same] at hg1
   rw[upd_ne _ _ (Ne.symm hne)] at hg2
   rcases hb with hb | hb
   ·exact h.dis c1 d1 hne g (by rw[<-hb];exact hg1) hg2
   ·rw[hb] at hg1;injection hg1 with hg1;have:=(h.lt d1 hg2).2;omega
  ·rw[upd_ne _ _ h1] at hg1
   by_cases h2:d1=c
   ·subst h2
    rw[upd_same] at hg2
    rcases hb with hb | hb
    ·exact h.dis c1 d1 hne g hg1 (by rw[<-hb];exact hg2)
    ·rw[hb] at hg2;injection hg2 with hg2;have:=(h.lt c1 hg1).2;omega
   ·rw[upd_ne _ _ h2] at hg2
    exact h.dis c1 d1 hne g hg1 hg2
inductive Sg
 | z
 | b (q:Nat)
 | r (q:Nat) (v:Value)
def Sg.row(v:Value): Sg->Value
 | .r _ v'=>v'
 | _=>v
def Sg.Ia(l:List Value)(z:Value): Sg->List Value
 | .r _ _=>l ++ [z]
 | _=>l
structure W3(e:Fin 3->TypeId)(w0:World)(x:Nat)(v z:Fin 3->Value)(l:Fin 3->List Value)(y:Nat)(Y:Option Obj)(s:Fin 3->Sg)(w:World): Prop where
 r:R3 e w0 w x (fun c=>(s c).row (v c)) (fun c=>(s c).Ia (l c) (z c))
 cel:∀ c q,s c=.b q->w.cell? ⟨q,0+0,none⟩=some (z c)/\∀ d g,((s d).row (v d)).ownBlock=some g->g≠q
 yk:w.heap[y]? = Y
 yn:∀ d g,((s d).row (v d)).ownBlock=some g->g≠y
 yl:y < w.heap.size
variable {y:Nat} {Y:Option Obj} {s:Fin 3->Sg}
theorem Tv{v:Fin 3->Value}(s:Fin 3->Sg)(c:Fin 3)(q:Nat)(v':Value): (fun d=>(upd s c (.r q v') d).row (v d))=upd (fun d=>(s d).row (v d)) c v':=by
 funext d
 by_cases h:d=c
 ·subst h;rw[upd_same,upd_same];rfl
 ·rw[upd_ne _ _ h,upd_ne _ _ h]
theorem Tp{l:Fin 3->List Value}{z:Fin 3->Value}{s:Fin 3->Sg}{c:Fin 3}{q:Nat}(hs:s c=.b q)(v':Value): (fun d=>(upd s c (.r q v') d).Ia (l d) (z d))=upd (fun d=>(s d).Ia (l d) (z d)) c ((s c).Ia (l c) (z c) ++ [z c]):=by
 funext d
 by_cases h:d=c
 ·subst h;rw[upd_same,upd_same,hs];rfl
 ·rw[upd_ne _ _ h,upd_ne _ _ h]
theorem W3.app(h:W3 e w0 x v z l y Y s w){c:Fin 3}{q:Nat}(hs:s c=.b q){v':Value}(hown:w'.ownsRow x (e c) 1 v' (((s c).Ia (l c) (z c)).length+1) ((s c).Ia (l c) (z c) ++ [z c]))(hg:w.grownBy w' ((s c).row (v c)).ownBlock)(hb:v'.ownBlock=((s c).row (v c)).ownBlock\/v'.ownBlock=some w.heap.size): W3 e w0 x v z l y Y (upd s c (.r q v')) w':=by
 have hk:=wT hg;have er:=Tv (v:=v) s c q v';have er':∀ d,(upd s c (.r q v') d).row (v d)=upd (fun d=>(s d).row (v d)) c v' d:=fun d=>congrFun er d
 have hrow:∀ d g,((upd s c (.r q v') d).row (v d)).ownBlock=some g->(∃ d',((s d').row (v d')).ownBlock=some g)\/g=w.heap.size:=fun d g hg'=>by
  rw[er' d] at hg'
  by_cases hd:d=c
  ·subst hd
   rw[upd_same] at hg'
   rcases hb with hb | hb
   ·exact .inl ⟨d,by rw[<-hb];exact hg'⟩
   ·rw[hb] at hg';injection hg' with hg';exact .inr hg'.symm
  ·rw[upd_ne _ _ hd] at hg';exact .inl ⟨d,hg'⟩
 refine⟨?_,fun d q2 hq=>?_,?_,fun d g hg'=>?_,Nat.lt_of_lt_of_le h.yl hk.size⟩
 ·rw[er,Tp hs]
  exact h.r.grow c hown hg hb
 ·by_cases hd:d=c
  ·subst hd;rw[upd_same] at hq;cases hq
  ·rw[upd_ne _ _ hd] at hq
   obtain⟨h1,h2⟩:=h.cel d q2 hq;have hlt:=World.block_lt_of_cell? w _ h1;refine⟨(World.cell?_of_block (w:=w) (a:=⟨q2,0+0,none⟩) (hk.block q2 hlt (fun e=>h2 c q2 e rfl))).trans h1,fun d' g hg'=>?_⟩;rcases hrow d' g hg' with ⟨d2,h3⟩ | h3
   ·exact h2 d2 g h3
   ·have:q2 < w.heap.size:=hlt
    omega
 ·rw[<-h.yk];exact hk.block y h.yl (fun e=>h.yn c y e rfl)
 ·rcases hrow d g hg' with ⟨d2,h3⟩ | h3
  ·exact h.yn d2 g h3
  ·have:=h.yl;omega
def Sg.b1: Sg->Bool
 | .z=>false
 | _=>true
def Sg.b2: Sg->Bool
 | .r _ _=>true
 | _=>false
def Sg.nx(i j:Nat): Sg->List Nat
 | .z=>[i]
 | .b _=>[j]
 | .r _ _=>[]
def Sg.left: Sg->Nat
 | .z=>2
 | .b _=>1
 | .r _ _=>0
section
variable {P:Program} {ops:Array Oper} {Q:Exit->Act->World->Prop} {S:World->Prop}
end
end
namespace F
def oK(s:Nat): Nat:=if s%2=1 then s / 2 ^^^ 3988292384 else s / 2
def gN: Nat->Nat->Nat
 | 0,s=>s
 | n+1,s=>gN n (oK s)
theorem R6(a b s:Nat): gN (a+b) s=gN b (gN a s):=by
 induction a generalizing s with
 | zero=>rw[Nat.zero_add];rfl
 | succ a ih=>rw[Nat.succ_add];exact ih (oK s)
theorem QK{s:Nat}(h:s < 4294967296): oK s < 4294967296:=by
 unfold oK
 split
 ·exact Nat.xor_lt_two_pow (n:=32) J J
 ·omega
theorem I9(n:Nat){s:Nat}(h:s < 4294967296): gN n s < 4294967296:=by
 induction n generalizing s with
 | zero=>exact h
 | succ n ih=>exact ih (QK h)
theorem TS(a b p:Nat): a ^^^ b=(a ^^^ p) ^^^ (b ^^^ p):=by
 apply Nat.eq_of_testBit_eq;intro i;simp only[Nat.testBit_xor]
 cases a.testBit i<;>cases b.testBit i<;>cases p.testBit i<;>rfl
theorem TB(a b p:Nat): a ^^^ b ^^^ p=(a ^^^ p) ^^^ b:=by
 apply Nat.eq_of_testBit_eq;intro i;simp only[Nat.testBit_xor]
 cases a.testBit i<;>cases b.testBit i<;>cases p.testBit i<;>rfl
theorem PW(a b:Nat): (a ^^^ b)%2=(a%2+b%2)%2:=by
 have h:(a ^^^ b)%2 ^ 1=a%2 ^ 1 ^^^ b%2 ^ 1:=Nat.xor_mod_two_pow;simp only[Nat.pow_one] at h
 rw[h];rcases(show a%2=0\/a%2=1 by omega) with e | e<;>rcases (show b%2=0\/b%2=1 by omega) with k | k<;>rw[e,k]<;>rfl
theorem Od(a b:Nat): oK (a ^^^ b)=oK a ^^^ oK b:=by
 have hm:=PW a b;unfold oK;rw[Nat.xor_div_two]
 by_cases ha:a%2=1
 ·by_cases hb:b%2=1
  ·rw[if_neg J,if_pos ha,if_pos hb];exact TS _ _ _
  ·rw[if_pos J,if_pos ha,if_neg hb];exact TB _ _ _
 ·by_cases hb:b%2=1
  ·rw[if_pos J,if_neg ha,if_pos hb];exact Nat.xor_assoc _ _ _
  ·rw[if_neg J,if_neg ha,if_neg hb]
theorem R8(n a b:Nat): gN n (a ^^^ b)=gN n a ^^^ gN n b:=by
 induction n generalizing a b with
 | zero=>rfl
 | succ n ih=>show gN n (oK (a ^^^ b))=_;rw[Od];exact ih _ _
theorem Oc(x:Nat): oK (2*x)=x:=by unfold oK;rw[if_neg J];omega
theorem R7(n x:Nat): gN n (2 ^ n*x)=x:=by
 induction n with
 | zero=>show 2 ^ 0*x=x;omega
 | succ n ih=>
  show gN n (oK (2 ^ (n+1)*x))=x
  rw[Nat.pow_succ,Nat.mul_comm (2 ^ n) 2,Nat.mul_assoc,Oc];exact ih
theorem Om(n t k:Nat)(h:k < 2 ^ n): 2 ^ n*t ^^^ k=2 ^ n*t+k:=by
 have h1:(2 ^ n*t ^^^ k) / 2 ^ n=t:=by
  rw[Nat.xor_div_two_pow,Nat.mul_div_cancel_left _ (Nat.two_pow_pos n),Nat.div_eq_of_lt h,Nat.xor_zero]
 have h2:(2 ^ n*t ^^^ k)%2 ^ n=k:=by
  rw[Nat.xor_mod_two_pow,Nat.mul_mod_right,Nat.mod_eq_of_lt h,Nat.zero_xor]
 have h3:=Nat.div_add_mod (2 ^ n*t ^^^ k) (2 ^ n);rw[h1,h2] at h3
 exact h3.symm
theorem MX(n s:Nat): s=2 ^ n*(s / 2 ^ n) ^^^ s%2 ^ n:=by
 rw[Om n _ _ (Nat.mod_lt _ (Nat.two_pow_pos n))];exact(Nat.div_add_mod s (2 ^ n)).symm
theorem Oa(n s:Nat): gN n s=s / 2 ^ n ^^^ gN n (s%2 ^ n):=by
 have h:=MX n s;have h2:gN n s=gN n (2 ^ n*(s / 2 ^ n) ^^^ s%2 ^ n):=by rw[<-h]
 rw[h2,R8,R7]
def Dc: List Nat:=[0,498536548,997073096,651767980,1994146192,1802195444,1303535960,1342533948,3988292384,4027552580,3604390888,3412177804,2607071920,2262029012,2685067896,3183342108]
theorem Fp(k:Nat)(h:k < 16): gN 4 k=Dc.getD k 0:=by
 rcases(show k=0\/k=1\/k=2\/k=3\/k=4\/k=5\/k=6\/k=7\/k=8\/k=9\/k=10\/k=11\/k=12\/k=13\/k=14\/k=15 by omega) with
  rfl | rfl | rfl | rfl | rfl | rfl | rfl | rfl | rfl | rfl | rfl | rfl | rfl | rfl | rfl | rfl<;>decide
theorem QJ(s:Nat): s / 16 ^^^ Dc.getD (s%16) 0=gN 4 s:=by
 rw[<-Fp _ (Nat.mod_lt _ J)];exact(Oa 4 s).symm
def rO: List Nat->Nat->Nat
 | [],s=>s
 | b :: l,s=>rO l (gN 8 (s ^^^ b))
def rP(l:List Nat): Nat:=rO l 4294967295 ^^^ 4294967295
theorem FZ(l m:List Nat)(s:Nat): rO (l ++ m) s=rO m (rO l s):=by
 induction l generalizing s with
 | nil=>rfl
 | cons b l ih=>exact ih _
theorem He{l:List Nat}{s:Nat}(hl:∀ b ∈ l,b < 256)(hs:s < 4294967296): rO l s < 4294967296:=by
 induction l generalizing s with
 | nil=>exact hs
 | cons b l ih=>
  refine ih (fun x hx=>hl x (by simp[hx])) (I9 8 ?_);have:=hl b (by simp);exact Nat.xor_lt_two_pow (n:=32) hs J
theorem Am{l:List Nat}(hl:∀ b ∈ l,b < 256): rP l < 4294967296:=
 Nat.xor_lt_two_pow (n:=32) (He hl J) J
def le: List Nat->Nat
 | []=>0
 | b :: l=>b+256*le l
theorem J7{l:List Nat}(hl:∀ b ∈ l,b < 256): le l < 2 ^ (8*l.length):=by
 induction l with
 | nil=>simp[le]
 | cons b l ih=>
  have h1:=ih (fun x hx=>hl x (by simp[hx]));have h2:=hl b (by simp);rw[List.length_cons,Nat.mul_add,Nat.pow_add,show (2:Nat) ^ (8*1)=256 by decide];show b+256*le l < _
  omega
end F
namespace F
open Go.RowKit
theorem Ii{k:IntKind}{a b:Int}(h:a=b): Ending.returned (.int k a)=.returned (.int k b):=by rw[h]
def qv(k:Nat): Nat:=Dc.getD k 0
theorem Tt(k:Nat): qv k < 4294967296:=by
 unfold qv;rcases Nat.lt_or_ge k 16 with h | h
 ·rw[<-Fp k h];exact I9 4 J
 ·rw[List.getD_eq_getElem?_getD,List.getElem?_eq_none (by simpa [Dc] using h)];decide
theorem BI(y:Nat)(hy:y < 4294967296): bits .xor .u32 ((y:Int) / 16) (qv (y%16):Nat)=((gN 4 y:Nat):Int):=by
 rw[show (y:Int) / 16=((y / 16:Nat):Int) by omega,u32_xor_nat _ _ J (Tt _)];unfold qv;rw[QJ]
theorem Pj(k:Nat)(hk:k < 16)(w:World): (Instr.index 483 (.agg #[.int .u32 0,.int .u32 498536548,.int .u32 997073096,.int .u32 651767980,.int .u32 1994146192,.int .u32 1802195444,.int .u32 1303535960,.int .u32 1342533948,.int .u32 3988292384,.int .u32 4027552580,.int .u32 3604390888,.int .u32 3412177804,.int .u32 2607071920,.int .u32 2262029012,.int .u32 2685067896,.int .u32 3183342108]) (.int .u32 (k:Nat))).run Tryz.prog w=.ok (.int .u32 (qv k:Nat)) w:=by
 rcases(show k=0\/k=1\/k=2\/k=3\/k=4\/k=5\/k=6\/k=7\/k=8\/k=9\/k=10\/k=11\/k=12\/k=13\/k=14\/k=15 by omega) with
  rfl | rfl | rfl | rfl | rfl | rfl | rfl | rfl | rfl | rfl | rfl | rfl | rfl | rfl | rfl | rfl<;>kernel_rfl
theorem xG(s:Nat)(w:World)(hs:s < 4294967296): Calls Tryz.prog 300 #[.int .u32 (s:Nat)] w fun e w'=>e=.returned (.int .u32 (qv (s%16):Nat))/\w=w':=by
 have e1:bits .and .u32 (s:Int) 15=((s%16:Nat):Int):=by rw[show (15:Int)=((15:Nat):Int) from rfl,u32_and_nat _ _ hs J,nat_mask4]
 obtain⟨k,hk⟩:∃ k,k=s%16:=⟨_,rfl⟩
 have hk16:k < 16:=J;rw[<-hk] at e1
 rw[<-hk];clear hk hs;have ix:=Pj k hk16
 go_enter Tryz.func300,Tryz.ntmps300
 go_wp2_with fail;go_ret;exact⟨rfl,rfl⟩
theorem NQ(bs:List Nat)(k:Nat)(h:k < bs.length): rO (bs.take (k+1)) 4294967295=gN 4 (gN 4 (rO (bs.take k) 4294967295 ^^^ bs.getD k 0)):=by
 rw[List.take_succ_eq_append_getElem h,FZ,List.getD_eq_getElem?_getD,List.getElem?_eq_getElem h];show gN 8 (_ ^^^ bs[k])=gN 4 (gN 4 (_ ^^^ bs[k]))
 rw[<-R6]
theorem gV{bs:List Nat}(hb:∀ j,bs.getD j 0 < 256)(k:Nat): ∀ b ∈ bs.take k,b < 256:=by
 intro b hm;obtain⟨i,hi,rfl⟩:=List.getElem_of_mem (List.mem_of_mem_take hm);have:=hb i;rw[List.getD_eq_getElem?_getD,List.getElem?_eq_getElem hi] at this
 exact this
theorem OY{bs:List Nat}(hb:∀ j,bs.getD j 0 < 256): ∀ b ∈ bs,b < 256:=by
 have:=gV hb bs.length
 rwa [List.take_length] at this
theorem Iw(w:World)(A:Option Addr)(len c:Nat)(D:Nat->Prop)(bs:List Nat)(hl:bs.length=len)(hsl:Sl w D A len (aI bs))(hb:∀ j,bs.getD j 0 < 256)(hlen:len<=2097152):
  Calls Tryz.prog 214 #[.slice A len c] w fun e w'=>e=.returned (.int .u32 (rP bs:Nat))/\w=w':=by
 have HS:=zh (zN hl (zN hsl hb));clear hl hsl hb
 go_enter Tryz.func214,Tryz.ntmps214
 go_wp2_with fail
 go_loopw [3,8] (fun s i wr=>∃ k:Nat,k<=len/\i=Z k/\s=.int .u32 (rO (bs.take k) 4294967295:Nat)/\w=wr) (fun _ i _=>len-(intOf i).toNat)
 case atStart=>exact ⟨0,Nat.zero_le _,rfl,rfl,rfl⟩
 case round=>
  obtain⟨k,hk,rfl,rfl,rfl⟩:=hrel;have hsl:=He (s:=4294967295) (gV HS.out.2.2 k) J;obtain⟨s,hs⟩:∃ s,s=rO (bs.take k) 4294967295:=⟨_,rfl⟩
  rw[<-hs] at hsl
  rw[<-hs]
  by_cases hlt:k < len
  ·obtain ⟨b,off,hA,-,hc⟩:=HS.out.2.1 J
   have ck:w.cell? ⟨b,off+k,none⟩=some (.int .u8 (bs.getD k 0:Nat)):=hc k hlt;subst hA;have hx:=HS.out.2.2 k;obtain⟨x,hxx⟩:∃ x,x=bs.getD k 0:=⟨_,rfl⟩
   rw[<-hxx] at hx ck
   have e0:bits .xor .u32 (s:Int) (x:Int)=((s ^^^ x:Nat):Int):=u32_xor_nat _ _ hsl J;have hsx:s ^^^ x < 4294967296:=Nat.xor_lt_two_pow (n:=32) hsl J;obtain⟨y,hy⟩:∃ y,y=s ^^^ x:=⟨_,rfl⟩
   rw[<-hy] at e0 hsx
   have HY:=zh (zN hy (zN hs (zN hxx hsx)));clear hc hs hxx hy;go_wp2_with fail;refine(xG y _ HY.out.2.2.2).mono ?_;rintro e w2 ⟨rfl,rfl⟩;have e1:=BI y HY.out.2.2.2;have hg1:=I9 4 HY.out.2.2.2;have e2:=BI (gN 4 y) hg1;obtain⟨z,hz⟩:∃ z,z=gN 4 y:=⟨_,rfl⟩
   rw[<-hz] at e1 e2 hg1
   have HZ:=zh (zN hz (zN e2 hg1));clear hz e2 e0;go_wp2_with fail;refine(xG z _ HZ.out.2.2).mono ?_;rintro e w2 ⟨rfl,rfl⟩;have e2:=HZ.out.2.1;obtain⟨u,hu⟩:∃ u,u=gN 4 z:=⟨_,rfl⟩
   rw[<-hu] at e2
   have HU:=zh hu;clear hu e1;go_wp2_with fail
   go_roundw
   case rel=>
    refine⟨k+1,J,by go_num,?_,by trivial⟩;obtain⟨hl,-,-⟩:=HS.out;rw[NQ bs k J,<-HY.out.2.1,<-HY.out.2.2.1,<-HY.out.1,<-HZ.out.1,<-HU.out]
   case measure=>simp[intOf];omega
  ·have e0:bits .xor .u32 (s:Int) 4294967295=((rP bs:Nat):Int):=by
    rw[show (4294967295:Int)=((4294967295:Nat):Int) from rfl,u32_xor_nat _ _ hsl J,hs];obtain⟨hl,-,-⟩:=HS.out;rw[List.take_of_length_le J];rfl
   clear hs;go_wp2_with fail;go_ret;exact⟨rfl,rfl⟩
def fT(u:Nat): List Nat:=[u%256,u / 256%256,u / 65536%256,u / 16777216%256]
def Dj(w:World)(u:Nat)(e:Ending)(w':World): Prop:=
 e=.returned (.agg #[.int .u8 ((u:Int)%256),.int .u8 ((u:Int) / 256%256),.int .u8 ((u:Int) / 65536%256),.int .u8 ((u:Int) / 16777216%256)])/\Below w.heap.size w w'
theorem Eb(u:Nat)(w:World)(hu:u < 4294967296): Calls Tryz.prog 213 #[.int .u32 (u:Nat)] w (Dj w u):=by
 go_enter Tryz.func213,Tryz.ntmps213
 go_wp2_with fail;have hb:=ay.fresh w 333 #[.int .u8 ((u:Int)%256),.int .u8 ((u:Int) / 256%256),.int .u8 ((u:Int) / 65536%256),.int .u8 ((u:Int) / 16777216)]
 have av:=(Below.refl w.heap.size w).alloc (Nat.le_refl _) (.cells #[.int .u8 ((u:Int)%256),.int .u8 ((u:Int) / 256%256),.int .u8 ((u:Int) / 65536%256),.int .u8 ((u:Int) / 16777216)] 333);generalize w.alloc (.cells #[.int .u8 ((u:Int)%256),.int .u8 ((u:Int) / 256%256),.int .u8 ((u:Int) / 65536%256),.int .u8 ((u:Int) / 16777216)] 333)=w2 at hb av ⊢
 have r0:=hb.cell 0;have r1:=hb.cell 1;have r2:=hb.cell 2;have r3:=hb.cell 3;simp at r0 r1 r2 r3
 refine bodyPost_ret (v:=.agg #[.int .u8 ((u:Int)%256),.int .u8 ((u:Int) / 256%256),.int .u8 ((u:Int) / 65536%256),.int .u8 ((u:Int) / 16777216)]) (by simp[results,Tryz.results213,go_sem,r0,r1,r2,r3]) rfl ⟨?_,av⟩;rw[show (u:Int) / 16777216%256=(u:Int) / 16777216 by omega]
theorem Iu(w:World)(g u:Nat)(h:ay w g 333 #[.int .u8 ((u:Int)%256),.int .u8 ((u:Int) / 256%256),.int .u8 ((u:Int) / 65536%256),.int .u8 ((u:Int) / 16777216%256)]): Sl w (fun k=>k=g) (some ⟨g,0,none⟩) 4 (aI (fT u)):=fun _=>
 ⟨_,_,rfl,rfl,fun j hj=>by
  rw[h.cell (0+j)];rcases(show j=0\/j=1\/j=2\/j=3 by omega) with rfl | rfl | rfl | rfl
  ·show some (Value.int .u8 ((u:Int)%256))=some (.int .u8 ((u%256:Nat):Int));rw[show ((u%256:Nat):Int)=(u:Int)%256 by omega]
  ·show some (Value.int .u8 ((u:Int) / 256%256))=some (.int .u8 ((u / 256%256:Nat):Int));rw[show ((u / 256%256:Nat):Int)=(u:Int) / 256%256 by omega]
  ·show some (Value.int .u8 ((u:Int) / 65536%256))=some (.int .u8 ((u / 65536%256:Nat):Int));rw[show ((u / 65536%256:Nat):Int)=(u:Int) / 65536%256 by omega]
  ·show some (Value.int .u8 ((u:Int) / 16777216%256))=some (.int .u8 ((u / 16777216%256:Nat):Int));rw[show ((u / 16777216%256:Nat):Int)=(u:Int) / 16777216%256 by omega]⟩
theorem yU(u:Nat): ∀ b ∈ fT u,b < 256:=by
 intro b hb;simp only[fT,List.mem_cons,List.not_mem_nil,or_false] at hb
 omega
theorem Hz(u:Nat)(hu:u < 4294967296): le (fT u)=u:=by
 show u%256+256*(u / 256%256+256*(u / 65536%256+256*(u / 16777216%256+256*0)))=u
 omega
end F
namespace F
open Go.RowKit
def aR(b:Nat): Value:=.int .u8 (b:Int)
theorem byteElem: iK Tryz.prog 72 5 (.int .u8 0) 1:=iK.mk' Tryz.underlying72 rfl (by kernel_rfl)
theorem jh{bs:List Nat}{len:Nat}(hl:bs.length=len): (List.range len).map (aI bs)=bs.map aR:=by
 subst hl;apply List.ext_getElem (by simp);intro j h1 h2;simp at h1
 simp[aI,aR,List.getD_eq_getElem?_getD,List.getElem?_eq_getElem h1]
def iQ(kind:Nat)(bs:List Nat): List Nat:=kind :: (fT bs.length ++ bs)
def aZ(kind:Nat)(bs:List Nat): List Nat:=iQ kind bs ++ fT (rP (iQ kind bs))
theorem oW{kind:Nat}{bs:List Nat}(hk:kind < 256)(hb:∀ j,bs.getD j 0 < 256): ∀ b ∈ iQ kind bs,b < 256:=by
 intro b hm;unfold iQ at hm
 simp only[List.mem_cons,List.mem_append] at hm
 rcases hm with rfl | hm | hm
 ·exact hk
 ·exact yU _ b hm
 ·exact OY hb b hm
theorem mH(kind:Nat)(bs:List Nat): (iQ kind bs).length=bs.length+5:=by simp[iQ,fT]
theorem bT(kind:Nat)(bs:List Nat): (aZ kind bs).length=bs.length+9:=by unfold aZ;rw[List.length_append,mH];simp[fT]
theorem rQ{bs:List Nat}(h:∀ b ∈ bs,b < 256)(j:Nat): bs.getD j 0 < 256:=by
 rw[List.getD_eq_getElem?_getD];rcases Nat.lt_or_ge j bs.length with hj | hj
 ·rw[List.getElem?_eq_getElem hj];exact h _ (List.getElem_mem _)
 ·rw[List.getElem?_eq_none hj];decide
theorem pK{kind:Nat}{bs:List Nat}(hk:kind < 256)(hb:∀ j,bs.getD j 0 < 256): ∀ b ∈ aZ kind bs,b < 256:=by
 intro b hm;unfold aZ at hm
 rcases List.mem_append.1 hm with hm | hm
 ·exact oW hk hb b hm
 ·exact yU _ b hm
theorem N8(z:Int)(u:Nat)(w:World)(hz:z=(u:Nat))(hu:u < 4294967296): Calls Tryz.prog 213 #[.int .u32 z] w (Dj w u):=by
 subst hz;exact Eb u w hu
theorem sM{w:World}{base:Nat}{A:Option Addr}{n c:Nat}{bs:List Nat}(hn:bs.length=n)(h:w.ownsRow base 5 1 (.slice A n c) n (bs.map aR)): Sl w (fun k=>(Value.slice A n c).ownBlock=some k) A n (aI bs):=by
 refine Sl.E9 h ?_;intro j u hu;rw[List.getElem?_map] at hu
 cases hj:bs[j]? with
 | none=>rw[hj] at hu;cases hu
 | some x=>rw[hj] at hu;injection hu with hu;unfold aI;rw[List.getD_eq_getElem?_getD,hj];exact hu.symm
theorem K9{w w':World}{g:Nat}{t e:TypeId}{cs:Array Value}{base n:Nat}{v:Value}{xs:List Value}(h:ay w g t cs)(ho:w.ownsRow base e 1 v n xs)(hne:e≠t)(hg:w.grownBy w' v.ownBlock): ay w' g t cs:=
 (hg.block g h.lt (fun e'=>own_ne ho h hne e'.symm)).trans h
theorem kY{w0 w w':World}{e:TypeId}{n:Nat}{v:Value}{xs:List Value}(hk:Keeps (fun _=>False) w0 w)(ho:w.ownsRow w0.heap.size e 1 v n xs)(hg:w.grownBy w' v.ownBlock): Keeps (fun _=>False) w0 w':=
 hk.grown hg (fun k hk' hlt=>by have:=(ho.lt k hk').1;omega)
def uK(w:World)(bs:List Nat)(er:Int)(e:Ending)(w':World): Prop:=
 ∃ A c,e=.returned (.tuple #[.slice A bs.length c,Z er])/\w'.ownsRow w.heap.size 5 1 (.slice A bs.length c) bs.length (bs.map aR)/\Keeps (fun _=>False) w w'
theorem wL(w:World)(kind:Nat)(A:Option Addr)(len c:Nat)(D:Nat->Prop)(bs:List Nat)(hl:bs.length=len)(hsl:Sl w D A len (aI bs))(hb:∀ j,bs.getD j 0 < 256)(hk:kind < 256)(hlen:len<=1048576):
  Calls Tryz.prog 140 #[.int .u8 (kind:Nat),.slice A len c] w (uK w (aZ kind bs) 0):=by
 have HS:=zh (zN hl (zN hsl (zN hb hk)));clear hl hsl hb hk;obtain⟨ht,-,i,hi,hz,hs1,hby⟩:=byteElem;have HI:=zh (zN ht (zN hi (zN hz (zN hs1 hby))));clear ht hi hz hs1 hby;have d0:decide ((1048576:Int) < (len:Int))=false:=by simp;omega
 go_enter Tryz.func140,Tryz.ntmps140
 go_wp2_with fail;refine(N8 _ len _ (by first | rfl | omega | (rw[IntKind.wrap_u32'];omega)) J).mono ?_;rintro e w1 ⟨rfl,hb1⟩;clear d0;have H1:=zh hb1;clear hb1;go_wp2_with (at_make;refine wpList_make_own _ rfl _ _ 72 rfl w.heap.size 5 i (.int .u8 0) 1 HI.out.1 HI.out.2.1 HI.out.2.2.1 HI.out.2.2.2.1 .i64 .i64 ((len:Int)+9) (len+9) rfl rfl J ?hb2 ?hb3 ?hb4 ?_)
 case hb2=>rw[HI.out.2.2.2.2];omega
 case hb3=>unfold maxLen;omega
 case hb4=>have:=H1.out.size;simp;omega
 intro w2 ho2 hg2;obtain⟨p,hp⟩:∃ p,p=w1.heap.size:=⟨_,rfl⟩
 have k1:Keeps (fun _=>False) w w1:=Keeps.of_below H1.out;have k2:Keeps (fun _=>False) w w2:=(k1.alloc _).grown hg2 (fun k hk=>by cases hk);have bp2:ay w2 p 333 #[.int .u8 ((len:Int)%256),.int .u8 ((len:Int) / 256%256),.int .u8 ((len:Int) / 65536%256),.int .u8 ((len:Int) / 16777216%256)]:=by
  rw[hp];exact(hg2.block w1.heap.size (ay.fresh w1 _ _).lt (by simp)).trans (ay.fresh w1 _ _)
 have H2:=zh (zN ho2 (zN k2 bp2));clear ho2 hg2 k1 k2 bp2;go_wp2_with (at_builtin;refine bW (f:=fun _=>.int .u8 (kind:Nat)) (D:=fun k=>k=w2.heap.size) (base:=w.heap.size) (n:=0) (xs:=[]) byteElem rfl (.tmp 19) (.tmp 21) rfl rfl rfl ?hown ?hsl ?h1 ?h63 ?hby ?hbase ?_)
 case hown=>exact H2.out.1.alloc _
 case hsl=>exact oF _ _ _
 case h1=>intro j _;rfl
 case h63=>unfold maxLen;omega
 case hby=>omega
 case hbase=>have:=H2.out.2.1.size;simp;omega
 intro v3 w3 ho3 hg3 hx;clear hx;have k3:=kY (H2.out.2.1.alloc _) (H2.out.1.alloc _) hg3;have bp3:=K9 (H2.out.2.2.alloc _) (H2.out.1.alloc _) (by decide) hg3;rw[<-hp];have H3:=zh (zN ho3 (zN k3 bp3));clear ho3 hg3 k3 bp3 hp;go_wp2_with (at_builtin;refine bW (f:=aI (fT len)) (D:=fun k=>k=p) (base:=w.heap.size) (n:=1) (xs:=[aR kind]) byteElem rfl (.tmp 23) (.tmp 24) rfl rfl rfl ?hown ?hsl ?h1 ?h63 ?hby ?hbase ?_)
 case hown=>exact H3.out.1
 case hsl=>exact Iu _ _ _ H3.out.2.2
 case h1=>intro j _;rfl
 case h63=>unfold maxLen;omega
 case hby=>omega
 case hbase=>exact H3.out.2.1.size
 intro v4 w4 ho4 hg4 hx;clear hx;have k4:=kY H3.out.2.1 H3.out.1 hg4;have H4:=zh (zN ho4 k4);clear ho4 hg4 k4;go_wp2_with (at_builtin;refine bW (f:=aI bs) (D:=D) (base:=w.heap.size) (n:=5) (xs:=[aR kind] ++ (List.range 4).map (aI (fT len))) byteElem rfl (.tmp 25) (.tmp 26) rfl rfl rfl ?hown ?hsl ?h1 ?h63 ?hby ?hbase ?_)
 case hown=>exact H4.out.1
 case hsl=>exact HS.out.2.1.keep (w':=w4) (fun q _ hq=>H4.out.2.block q hq (fun h=>h))
 case h1=>intro j _;rfl
 case h63=>unfold maxLen;omega
 case hby=>omega
 case hbase=>exact H4.out.2.size
 intro v5 w5 ho5 hg5 hx;clear hx;have k5:=kY H4.out.2 H4.out.1 hg5;have e5:aR kind :: aI (fT len) 0 :: aI (fT len) 1 :: aI (fT len) 2 :: aI (fT len) 3 :: (List.range len).map (aI bs)=(iQ kind bs).map aR:=by
  rw[jh HS.out.1,<-HS.out.1];rfl
 rw[e5] at ho5
 obtain⟨A5,c5,hv5,-,-⟩:=aH ho5;subst hv5;have hbl:(iQ kind bs).length=5+len:=by rw[mH,HS.out.1];omega
 have H5:=zh (zN ho5 (zN k5 hbl));clear ho5 hg5 k5 e5 hbl;go_wp2_with fail;refine(Iw _ _ _ _ _ (iQ kind bs) H5.out.2.2 (sM H5.out.2.2 H5.out.1) (rQ (oW HS.out.2.2.2 HS.out.2.2.1)) J).mono ?_;rintro e w6 ⟨rfl,rfl⟩;have hcl:=Am (oW HS.out.2.2.2 HS.out.2.2.1);obtain⟨u,hu⟩:∃ u,u=rP (iQ kind bs):=⟨_,rfl⟩
 rw[<-hu] at hcl
 rw[<-hu];have HU:=zh (zN hu hcl);clear hu hcl;go_wp2_with fail;refine(Eb u _ HU.out.2).mono ?_;rintro e w7 ⟨rfl,hb7⟩;have k7':Keeps (fun _=>False) w5 w7:=Keeps.of_below hb7;have o7:=aG H5.out.1 k7' (fun _ _ h=>h);have k7:=H5.out.2.1.trans' k7';have H7:=zh (zN o7 k7);clear hb7 k7' o7 k7;go_wp2_with (at_builtin;refine bW (f:=aI (fT u)) (D:=fun k=>k=w7.heap.size) (base:=w.heap.size) (n:=5+len) (xs:=(iQ kind bs).map aR) byteElem rfl (.tmp 31) (.tmp 32) rfl rfl rfl ?hown ?hsl ?h1 ?h63 ?hby ?hbase ?_)
 case hown=>exact H7.out.1.alloc _
 case hsl=>exact Iu _ _ _ (ay.fresh w7 _ _)
 case h1=>intro j _;rfl
 case h63=>unfold maxLen;omega
 case hby=>omega
 case hbase=>have:=H7.out.2.size;simp;omega
 intro v8 w8 ho8 hg8 hx;clear hx;have k8:=kY (H7.out.2.alloc _) (H7.out.1.alloc _) hg8;have e8:(iQ kind bs).map aR ++ [aI (fT u) 0,aI (fT u) 1,aI (fT u) 2,aI (fT u) 3]=(aZ kind bs).map aR:=by
  unfold aZ;rw[HU.out.1,List.map_append];rfl
 rw[e8] at ho8
 have hsl:5+len+4=(aZ kind bs).length:=by rw[bT,HS.out.1];omega
 rw[hsl] at ho8
 obtain⟨A8,c8,hv8,-,-⟩:=aH ho8;subst hv8;have H8:=zh (zN ho8 k8);clear ho8 hg8 k8 e8 hsl;go_wp2_with fail;go_ret2;exact⟨A8,c8,rfl,H8.out.1,H8.out.2⟩
end F
section
def lC(bs:List Nat)(i:Nat): Nat:=bs.getD (i / 8) 0 / 2 ^ (7-i%8)%2
def gets(bs:List Nat)(a:Nat): Nat->Nat
 | 0=>0
 | n+1=>2*gets bs a n+lC bs (a+n)
theorem NG(bs:List Nat)(i:Nat): lC bs i < 2:=Nat.mod_lt _ J
theorem Pf(s:Nat): ((2:Int) ^ s)=((2 ^ s:Nat):Int):=by simp
theorem NT(x s:Nat): (x:Int) / 2 ^ s=((x / 2 ^ s:Nat):Int):=by rw[Pf];rfl
end
section
open Go.RowKit
structure Rd(w:World)(r:Nat)(D:Nat->Prop)(bs:List Nat)(a en:Nat): Prop where
 small:bs.length<=1099511627776
 le:a<=en
 en_le:en<=8*bs.length
 notIn:¬ D r
 byte:∀ j,bs.getD j 0 < 256
 blk:∃ A c,ay w r 542 #[.bool true,.slice A bs.length c,Z a,Z en]/\Sl w D A bs.length (aI bs)
theorem byteElem: iK Tryz.prog 72 5 (.int .u8 0) 1:=iK.mk' Tryz.underlying72 rfl (by kernel_rfl)
end
section
def qw(L:List Nat)(j:Nat): Nat:=
 128*L.getD (8*j) 0+64*L.getD (8*j+1) 0+32*L.getD (8*j+2) 0+16*L.getD (8*j+3) 0+8*L.getD (8*j+4) 0+4*L.getD (8*j+5) 0+2*L.getD (8*j+6) 0+L.getD (8*j+7) 0
def pack(L:List Nat): List Nat:=(List.range ((L.length+7) / 8)).map (qw L)
def fU(v n k:Nat): List Nat:=(List.range k).map fun j=>v / 2 ^ (n-1-j)%2
theorem dH(v n k:Nat): (fU v n k).length=k:=by simp[fU]
theorem kK(L:List Nat)(j:Nat)(h:L.length<=j): L.getD j 0=0:=by
 rw[List.getD_eq_getElem?_getD,List.getElem?_eq_none h];rfl
theorem iA(L:List Nat): (pack L).length=(L.length+7) / 8:=by simp[pack]
theorem La(L:List Nat)(j:Nat)(h:L.length<=8*j): qw L j=0:=by
 unfold qw;rw[kK L _ h,kK L (8*j+1) J,kK L (8*j+2) J,kK L (8*j+3) J,kK L (8*j+4) J,kK L (8*j+5) J,kK L (8*j+6) J,kK L (8*j+7) J]
theorem oC(L:List Nat)(j:Nat): (pack L).getD j 0=qw L j:=by
 rw[List.getD_eq_getElem?_getD,pack,List.getElem?_map];rcases Nat.lt_or_ge j ((L.length+7) / 8) with h | h
 ·rw[List.getElem?_range h];rfl
 ·rw[List.getElem?_eq_none (by simpa using h),La L j J];rfl
theorem rz{L:List Nat}(h:∀ j,L.getD j 0 < 2)(j:Nat): qw L j < 256:=by
 unfold qw;have:=h (8*j);have:=h (8*j+1);have:=h (8*j+2);have:=h (8*j+3);have:=h (8*j+4);have:=h (8*j+5);have:=h (8*j+6);have:=h (8*j+7);omega
theorem Dy(v i:Nat)(hv:v < 18446744073709551616): bits .and .u64 ((v:Int) / 2 ^ i) 1=((v / 2 ^ i%2:Nat):Int):=by
 have h1:v / 2 ^ i < 18446744073709551616:=Nat.lt_of_le_of_lt (Nat.div_le_self _ _) hv;rw[NT,show (1:Int)=((1:Nat):Int) from rfl,u64_and_nat _ _ h1 J,Nat.and_one_is_mod]
theorem Ii{k:IntKind}{a b:Int}(h:a=b): Ending.returned (.int k a)=.returned (.int k b):=by rw[h]
theorem gF(v n k:Nat): ∀ j,(fU v n k).getD j 0 < 2:=by
 intro j;unfold fU;rw[List.getD_eq_getElem?_getD,List.getElem?_map];rcases Nat.lt_or_ge j k with h | h
 ·rw[List.getElem?_range h];exact Nat.mod_lt _ J
 ·rw[List.getElem?_eq_none (by simpa using h)];simp
theorem jT{L M:List Nat}(h:∀ j,L.getD j 0 < 2)(k:∀ j,M.getD j 0 < 2): ∀ j,(L ++ M).getD j 0 < 2:=by
 intro j;rw[List.getD_eq_getElem?_getD];rcases Nat.lt_or_ge j L.length with h1 | h1
 ·rw[List.getElem?_append_left h1,<-List.getD_eq_getElem?_getD];exact h j
 ·rw[List.getElem?_append_right h1,<-List.getD_eq_getElem?_getD];exact k _
end
section
open Go.RowKit
def aR(b:Nat): Value:=.int .u8 (b:Int)
def oneOf(a:Nat): Value:=.func (.func 371) #[.pointer (some ⟨a,0,none⟩)] #[]
structure Wr(w:World)(a:Nat)(g:Option Nat)(L:List Nat): Prop where
 len:L.length<=8388608
 bit:∀ j,L.getD j 0 < 2
 blk:∃ v,v.ownBlock=g/\ay w a 515 #[oneOf a,v,Z L.length]/\w.ownsRow 0 5 1 v (pack L).length ((pack L).map aR)
theorem DF(w:World)(p:Nat)(i:Nat)(v:Nat)(hv:v < 18446744073709551616)(h:ay w p 50 #[.int .u64 v])(hi:i < 64):
  Calls Tryz.prog 373 #[Z i,.pointer (some ⟨p,0,none⟩)] w fun e w'=>e=.returned (.int .u64 (v / 2 ^ i%2:Nat))/\w'=w:=by
 have c0:=h.cell 0;simp at c0
 clear h
 go_enter Tryz.func373,Tryz.ntmps373
 go_wp2
 go_ret;exact⟨Ii (Dy v i hv),rfl⟩
theorem Wr.keeps{S:Nat->Prop}{w w':World}{a:Nat}{g:Option Nat}{L:List Nat}(h:Wr w a g L)(hk:Keeps S w w')(ha:¬ S a)(hg:∀ k,g=some k->¬ S k): Wr w' a g L:=by
 obtain⟨h1,h2,v,hv,hb,ho⟩:=h;exact⟨h1,h2,v,hv,hb.keeps hk ha,aG ho hk (fun k hk=>hg k (by rw[<-hv,hk]))⟩
theorem Wr.drewN{w:World}{a:Nat}{g:Option Nat}{L:List Nat}(h:Wr w a g L)(n:Nat): Wr (w.drewN n) a g L:=by
 obtain⟨h1,h2,v,hv,hb,ho⟩:=h;exact⟨h1,h2,v,hv,hb,ho⟩
theorem Wr.ne{w:World}{a p:Nat}{g:Option Nat}{L:List Nat}{t:TypeId}{cs:Array Value}(h:Wr w a g L)(hp:ay w p t cs)(h1:515≠t)(h2:5≠t): p≠a/\some p≠g:=by
 obtain⟨_,_,v,hv,hb,ho⟩:=h;exact⟨fun e=>hb.ne hp h1 e.symm,fun e=>own_ne ho hp h2 (by rw[hv,e])⟩
theorem Wr.lt{w:World}{a:Nat}{g:Option Nat}{L:List Nat}(h:Wr w a g L): a < w.heap.size:=by
 obtain⟨_,_,v,hv,hb,ho⟩:=h;exact hb.lt
def Moved(w:World)(g g':Option Nat): Prop:=g'=g\/∃ k,g'=some k/\w.heap.size<=k
theorem Moved.refl(w:World)(g:Option Nat): Moved w g g:=.inl rfl
theorem Moved.trans{w w1:World}{g g1 g2:Option Nat}(h:Moved w g g1)(hs:w.heap.size<=w1.heap.size)(k:Moved w1 g1 g2): Moved w g g2:=by
 rcases k with rfl | ⟨x,rfl,hx⟩
 ·exact h
 ·exact .inr ⟨x,rfl,J⟩
def uK(w:World)(bs:List Nat)(e:Ending)(w':World): Prop:=
 ∃ A c,e=.returned (.slice A bs.length c)/\w'.ownsRow w.heap.size 5 1 (.slice A bs.length c) bs.length (bs.map aR)/\Keeps (fun _=>False) w w'
theorem Rd.drewN{w:World}{r:Nat}{D:Nat->Prop}{bs:List Nat}{a en:Nat}(h:Rd w r D bs a en)(k:Nat): Rd (w.drewN k) r D bs a en:=by
 obtain⟨s1,s2,s3,s4,s5,A,c,s6,s7⟩:=h;exact⟨s1,s2,s3,s4,s5,A,c,s6,s7⟩
theorem Rd.keeps{S:Nat->Prop}{w w':World}{r:Nat}{D:Nat->Prop}{bs:List Nat}{a en:Nat}(h:Rd w r D bs a en)(hk:Keeps S w w')(hr:¬ S r)(hd:∀ k,D k->¬ S k): Rd w' r D bs a en:=by
 obtain⟨s1,s2,s3,s4,s5,A,c,s6,s7⟩:=h;exact⟨s1,s2,s3,s4,s5,A,c,s6.keeps hk hr,s7.keeps hk hd⟩
end
section
theorem FY(b0 b1 b2 b3 b4 b5 b6 b7 r:Nat)(h0:b0 < 2)(h1:b1 < 2)(h2:b2 < 2)(h3:b3 < 2)(h4:b4 < 2)(h5:b5 < 2)(h6:b6 < 2)(h7:b7 < 2)(hr:r < 8):
  (128*b0+64*b1+32*b2+16*b3+8*b4+4*b5+2*b6+b7) / 2 ^ (7-r)%2=[b0,b1,b2,b3,b4,b5,b6,b7].getD r 0:=by
 rcases(show r=0\/r=1\/r=2\/r=3\/r=4\/r=5\/r=6\/r=7 by omega) with h | h | h | h | h | h | h | h<;>subst h<;>simp<;>omega
theorem yK{L:List Nat}(h:∀ j,L.getD j 0 < 2)(i:Nat): lC (pack L) i=L.getD i 0:=by
 unfold lC;rw[oC];unfold qw;have hr:i%8 < 8:=Nat.mod_lt _ J;rw[FY _ _ _ _ _ _ _ _ _ (h _) (h _) (h _) (h _) (h _) (h _) (h _) (h _) hr];have hd:=Nat.div_add_mod i 8;rcases(show i%8=0\/i%8=1\/i%8=2\/i%8=3\/i%8=4\/i%8=5\/i%8=6\/i%8=7 by omega) with e | e | e | e | e | e | e | e<;>rw[e] at hd ⊢<;>simp only[List.getD_cons_succ,List.getD_cons_zero]<;>congr 1
theorem Ja{bs:List Nat}{p u n:Nat}(h:∀ j,j < n->lC bs (p+j)=u / 2 ^ (n-1-j)%2): ∀ k,k<=n->gets bs p k=u / 2 ^ (n-k)%2 ^ k:=by
 intro k
 induction k with
 | zero=>intro _;simp[gets,Nat.mod_one]
 | succ k ih=>
  intro hk;rw[gets,ih J,h k J];rw[show n-1-k=n-(k+1) by omega,show n-k=(n-(k+1))+1 by omega,Nat.pow_succ 2 (n-(k+1)),<-Nat.div_div_eq_div_mul];generalize u / 2 ^ (n-(k+1))=y;rw[Nat.pow_succ,Nat.mul_comm (2 ^ k) 2,Nat.mod_mul];omega
theorem wP(v n k j:Nat)(h:j < k): (fU v n k).getD j 0=v / 2 ^ (n-1-j)%2:=by
 unfold fU;rw[List.getD_eq_getElem?_getD,List.getElem?_map,List.getElem?_range h];rfl
theorem kV(L M:List Nat)(j:Nat): (L ++ M).getD (L.length+j) 0=M.getD j 0:=by
 rw[List.getD_eq_getElem?_getD,List.getD_eq_getElem?_getD,List.getElem?_append_right J]
 congr 2
 omega
theorem qA(L M:List Nat)(j:Nat)(h:j < L.length): (L ++ M).getD j 0=L.getD j 0:=by
 rw[List.getD_eq_getElem?_getD,List.getD_eq_getElem?_getD,List.getElem?_append_left h]
end
section
open Go.RowKit
end
namespace D
open Go.RowKit
def cls(z:Nat): Nat:=if z=0 then 0 else if z < 128 then 1 else if z < 4096 then 2 else if z < 4294967296 then 3 else 4
def wd(k:Nat): Nat:=[0,7,12,32,64].getD k 0
def ah(k:Nat): Nat:=min (k+1) 4
theorem RU(z:Nat): cls z<=4:=by unfold cls;split;omega;split;omega;split;omega;split<;>omega
end D
namespace D
open Go.RowKit
def zL(a b:Int): Int:=(a-b+9223372036854775808)%18446744073709551616-9223372036854775808
def mk(k:Nat): Nat:=2 ^ ah k-1-(if k < 4 then 1 else 0)
def vZ(z:Nat): List Nat:=fU (mk (cls z)) (ah (cls z)) (ah (cls z)) ++ fU z (wd (cls z)) (wd (cls z))
theorem Tz{k:Nat}(hk:k<=4): wd k<=64:=by
 rcases(show k=0\/k=1\/k=2\/k=3\/k=4 by omega) with rfl | rfl | rfl | rfl | rfl<;>decide
theorem DW(z:Nat): (vZ z).length=ah (cls z)+wd (cls z):=by unfold vZ;rw[List.length_append,dH,dH]
theorem NS(z:Nat): (vZ z).length<=68:=by
 rw[DW];have:=Tz (RU z);unfold ah;omega
end D
namespace D
open Go.RowKit
def st(f:Nat->Int): Nat->Int
 | 0=>0
 | 1=>0
 | k+2=>zL (f (k+1)) (f k)
def u64(n:Int): Nat:=(n%18446744073709551616).toNat
def mJ(f:Nat->Int): Nat->List Nat
 | 0=>[]
 | 1=>fU (u64 (f 0)) 64 64
 | k+2=>mJ f (k+1) ++ vZ (zig (zL (zL (f (k+1)) (f k)) (st f (k+1))))
theorem rA(f:Nat->Int)(k:Nat): (mJ f k).length<=64+68*k:=by
 induction k with
 | zero=>simp[mJ]
 | succ k ih=>
  match k with
  | 0=>unfold mJ;rw[dH];omega
  | k+1=>unfold mJ;rw[List.length_append];have:=NS (zig (zL (zL (f (k+1)) (f k)) (st f (k+1))));omega
theorem Lf(z:Nat): ∀ j,(vZ z).getD j 0 < 2:=by unfold vZ;exact jT (gF _ _ _) (gF _ _ _)
theorem BG(f:Nat->Int)(k:Nat): ∀ j,(mJ f k).getD j 0 < 2:=by
 induction k with
 | zero=>intro j;simp[mJ]
 | succ k ih=>
  match k with
  | 0=>unfold mJ;exact gF _ _ _
  | k+1=>unfold mJ;exact jT ih (Lf _)
end D
namespace X
def lead(u:Nat): Nat:=if u=0 then 64 else 63-Nat.log2 u
def M5: Nat->Nat->Nat
 | 0,_=>0
 | n+1,u=>if u%2=0 then M5 n (u / 2)+1 else 0
def trail(u:Nat): Nat:=M5 64 u
theorem Ce{u:Nat}(h0:0 < u)(h:u < 18446744073709551616): lead u<=63/\2 ^ (63-lead u)<=u/\u < 2 ^ (64-lead u):=by
 have hl:Nat.log2 u < 64:=(Nat.log2_lt J).2 h;have hu:lead u=63-Nat.log2 u:=by unfold lead;rw[if_neg J]
 rw[hu];refine⟨J,?_,?_⟩
 ·rw[show 63-(63-Nat.log2 u)=Nat.log2 u by omega];exact Nat.log2_self_le J
 ·rw[show 64-(63-Nat.log2 u)=Nat.log2 u+1 by omega];exact Nat.lt_log2_self
end X
namespace X
open Go.RowKit
end X
namespace X
open Go.RowKit
theorem _root_.Go.Proofs.YtmffkpkgbdcnjaaGreatDoor.ay.set2{w:World}{g:Nat}{t:TypeId}{a b:Value}(h:ay w g t #[a,b])(x y:Value): ay ((w.setCell ⟨g,0,none⟩ x).setCell ⟨g,1,none⟩ y) g t #[x,y]:=by
 simpa using (h.set 0 x).set 1 y
end X
section
open Go.RowKit
theorem Rd.below{w w':World}{r:Nat}{D:Nat->Prop}{bs:List Nat}{a en:Nat}(h:Rd w r D bs a en)(hb:Below w.heap.size w w'): Rd w' r D bs a en:=
 h.keeps (S:=fun _=>False) (Keeps.of_below hb) (fun h=>h) (fun _ _ h=>h)
end
namespace X
open Go.RowKit
def fits(o:Option (Nat × Nat))(x:Nat): Bool:=match o with
 | none=>false
 | some p=>decide (p.1<=lead x) && decide (p.2<=trail x)
def Qg(o:Option (Nat × Nat))(x:Nat): Option (Nat × Nat):=if x=0 then o else if fits o x=true then o else some (lead x,trail x)
def TA(o:Option (Nat × Nat)): Nat × Nat:=o.getD (0,0)
def Jb(o:Option (Nat × Nat))(x:Nat): List Nat:=
 if fits o x=true then fU 2 2 2 else (fU 3 2 2 ++ fU (lead x) 6 6) ++ fU (64-lead x-trail x-1) 6 6
def Kz(p:Nat × Nat)(x:Nat): List Nat:=fU (x / 2 ^ p.2) (64-p.1-p.2) (64-p.1-p.2)
def zQ(o:Option (Nat × Nat))(x:Nat): List Nat:=if x=0 then fU 0 1 1 else Jb o x ++ Kz (TA (Qg o x)) x
def PX(f:Nat->Nat): Nat->Option (Nat × Nat)
 | 0=>none
 | 1=>none
 | k+2=>Qg (PX f (k+1)) (f (k+1) ^^^ f k)
def lu(f:Nat->Nat): Nat->List Nat
 | 0=>[]
 | 1=>fU (f 0) 64 64
 | k+2=>lu f (k+1) ++ zQ (PX f (k+1)) (f (k+1) ^^^ f k)
theorem PV(o:Option (Nat × Nat))(x:Nat): (zQ o x).length<=78:=by
 unfold zQ Jb Kz
 split
 ·rw[dH];omega
 ·rw[List.length_append,dH];split
  ·rw[dH];omega
  ·rw[List.length_append,List.length_append,dH,dH,dH];omega
theorem Nj(o:Option (Nat × Nat))(x:Nat): ∀ j,(zQ o x).getD j 0 < 2:=by
 unfold zQ Jb Kz
 split
 ·exact gF _ _ _
 ·refine jT ?_ (gF _ _ _)
  split
  ·exact gF _ _ _
  ·exact jT (jT (gF _ _ _) (gF _ _ _)) (gF _ _ _)
theorem zR(f:Nat->Nat)(k:Nat): (lu f k).length<=64+78*k:=by
 induction k with
 | zero=>simp[lu]
 | succ k ih=>
  match k with
  | 0=>unfold lu;rw[dH];omega
  | k+1=>unfold lu;rw[List.length_append];have:=PV (PX f (k+1)) (f (k+1) ^^^ f k);omega
theorem KF(f:Nat->Nat)(k:Nat): ∀ j,(lu f k).getD j 0 < 2:=by
 induction k with
 | zero=>intro j;simp[lu]
 | succ k ih=>
  match k with
  | 0=>unfold lu;exact gF _ _ _
  | k+1=>unfold lu;exact jT ih (Nj _ _)
def Te(o:Option (Nat × Nat)): Array Value:=match o with
 | none=>#[Z (-1),Z (-1)]
 | some p=>#[Z (p.1:Nat),Z (p.2:Nat)]
structure ES(w:World)(x y:Nat)(g:Option Nat)(L:List Nat)(o:Option (Nat × Nat))(wr:World): Prop where
 out:Wr wr x g L
 win:ay wr y 490 (Te o)
 keeps:Keeps (fun _=>False) w wr
 own:∀ q,g=some q->w.heap.size<=q
 hx:w.heap.size<=x
 hy:w.heap.size<=y
theorem ES.below{w wr w':World}{x y:Nat}{g:Option Nat}{L:List Nat}{o:Option (Nat × Nat)}(h:ES w x y g L o wr)(hb:Below wr.heap.size wr w'): ES w x y g L o w':=by
 have hk:Keeps (fun _=>False) wr w':=Keeps.of_below hb;exact⟨h.out.keeps hk (fun e=>e) (fun _ _ e=>e),h.win.below hb h.win.lt,h.keeps.trans' hk,h.own,h.hx,h.hy⟩
theorem PU(o:Option (Nat × Nat)): ∃ l t:Int,Te o=#[Z l,Z t]:=by
 cases o with
 | none=>exact ⟨-1,-1,rfl⟩
 | some p=>exact ⟨p.1,p.2,rfl⟩
theorem ES.set{w wr:World}{x y:Nat}{g:Option Nat}{L:List Nat}{o:Option (Nat × Nat)}(h:ES w x y g L o wr)(l t:Nat):
  ES w x y g L (some (l,t)) ((wr.setCell ⟨y,0,none⟩ (Z (l:Nat))).setCell ⟨y,1,none⟩ (Z (t:Nat))):=by
 obtain⟨n1,n2⟩:=h.out.ne h.win (by decide) (by decide);obtain⟨a,b,hc⟩:=PU o;have hw:=h.win;rw[hc] at hw
 have hk:Keeps (fun k=>k=y) wr ((wr.setCell ⟨y,0,none⟩ (Z (l:Nat))).setCell ⟨y,1,none⟩ (Z (t:Nat))):=((Keeps.refl (fun k=>k=y) wr).setCell (p:=⟨y,0,none⟩) (fun _=>rfl) _).setCell (p:=⟨y,1,none⟩) (fun _=>rfl) _;refine⟨h.out.keeps hk (fun e=>n1 e.symm) (fun k hk e=>n2 (by rw[hk,e])),hw.set2 _ _,h.keeps.trans hk (fun k hk e=>by have:=h.hy;omega),h.own,h.hx,h.hy⟩
theorem ES.drew{w wr:World}{x y:Nat}{g:Option Nat}{L:List Nat}{o:Option (Nat × Nat)}(h:ES w x y g L o wr): ES w x y g L o wr.drew:=
 ⟨h.out.drewN 1,h.win.drew,h.keeps.drew,h.own,h.hx,h.hy⟩
end X
namespace X
open Go.RowKit
end X
section
open Go.RowKit
def Tc(f:Nat->Pt)(n j:Nat): Int:=if j < n then (f j).t else 0
def SV(f:Nat->Pt)(n j:Nat): Int:=if j < n then (f j).s else 0
def Td(f:Nat->Pt)(n j:Nat): Nat:=if j < n then (IntKind.u64.wrap (f j).v).toNat else 0
def mX(f:Nat->Pt)(n:Nat): Nat->List Nat
 | 0=>pack (D.mJ (Tc f n) n)
 | 1=>pack (X.lu (Td f n) n)
 | _=>pack (D.mJ (SV f n) n)
def tL(f:Nat->Pt)(n:Nat): Nat->List Nat
 | 0=>V.aF n
 | j+1=>tL f n j ++ V.aF (mX f n j).length ++ mX f n j
def qy(f:Nat->Pt)(n:Nat): List Nat × Int:=if NP f n=true then (F.aZ 3 (tL f n 3),0) else ([],2)
theorem Ko(f:Nat->Pt)(n j:Nat): ∀ i,(mX f n j).getD i 0 < 256:=by
 intro i
 match j with
 | 0=>show (pack _).getD i 0 < 256;rw[oC];exact rz (D.BG _ _) i
 | 1=>show (pack _).getD i 0 < 256;rw[oC];exact rz (X.KF _ _) i
 | j+2=>show (pack _).getD i 0 < 256;rw[oC];exact rz (D.BG _ _) i
theorem Cn(f:Nat->Pt)(n j:Nat)(hn:n<=4096): (mX f n j).length<=40000:=by
 match j with
 | 0=>show (pack _).length<=_;rw[iA];have:=D.rA (Tc f n) n;omega
 | 1=>show (pack _).length<=_;rw[iA];have:=X.zR (Td f n) n;omega
 | j+2=>show (pack _).length<=_;rw[iA];have:=D.rA (SV f n) n;omega
theorem Cz(u:Nat): ∀ i,(V.aF u).getD i 0 < 256:=V.gG (V.bH u)
theorem yN(f:Nat->Pt)(n:Nat): ∀ j i,(tL f n j).getD i 0 < 256
 | 0=>Cz n
 | j+1=>V.wS (V.wS (yN f n j) (Cz _)) (Ko f n j)
theorem BF(f:Nat->Pt)(n:Nat)(hn:n<=4096): ∀ j,(tL f n j).length<=10+j*40010
 | 0=>by have:=V.aK (u:=n) J;show (V.aF n).length<=_;omega
 | j+1=>by
  have h1:=BF f n hn j;have h2:=Cn f n j hn;have h3:=V.aK (u:=(mX f n j).length) J;show (tL f n j ++ V.aF (mX f n j).length ++ mX f n j).length<=_
  rw[List.length_append,List.length_append];omega
def cT(c:Fin 3): TypeId:=match c with | 0=>62 | 1=>446 | 2=>62
theorem Cu(bs:List Nat): (ji bs).size=bs.length:=by simp[ji,ByteArray.size]
structure uM(w0 w:World)(A:Option Addr)(c:Nat)(bs:List Nat): Prop where
 own:w.ownsRow w0.heap.size 5 1 (.slice A bs.length c) bs.length (bs.map aR)
theorem uM.keeps{w0 w w':World}{A:Option Addr}{c:Nat}{bs:List Nat}(h:uM w0 w A c bs)(hk:Keeps (fun _=>False) w w'): uM w0 w' A c bs:=⟨aG h.own hk (fun _ _ h=>h)⟩
theorem uM.sl{w0 w:World}{A:Option Addr}{c:Nat}{bs:List Nat}(h:uM w0 w A c bs): Sl w (fun k=>k < w.heap.size) A bs.length (aI bs):=V.gI h.own
def Ac(w0 w:World)(v:Value)(bs:List Nat): Prop:=w.ownsRow w0.heap.size 5 1 v bs.length (bs.map aR)
theorem Ac.keeps{w0 w w':World}{v:Value}{bs:List Nat}(h:Ac w0 w v bs)(hk:Keeps (fun _=>False) w w'): Ac w0 w' v bs:=aG h hk (fun _ _ h=>h)
theorem Ac.form{w0 w:World}{v:Value}{bs:List Nat}(h:Ac w0 w v bs): ∃ A c,v=.slice A bs.length c/\bs.length<=c/\Sl w (fun k=>k < w.heap.size) A bs.length (aI bs):=by
 unfold Ac at h
 obtain⟨A,c,rfl,hc,-⟩:=aH h;exact⟨A,c,rfl,hc,V.gI h⟩
theorem W3.start{e:Fin 3->TypeId}{w0 w:World}{x y:Nat}{v z:Fin 3->Value}{l:Fin 3->List Value}(h:R3 e w0 w x v l)(hy:y=w.heap.size)(t:TypeId)(cs:Array Value):
  W3 e w0 x v z l y (some (.cells cs t (0,0))) (fun _=>.z) (w.alloc (.cells cs t)):=by
 subst hy;exact⟨h.alloc _,fun c q hq=>(by cases hq),ay.fresh _ _ _,fun d g hg=>(by have:=(h.lt d hg).2;omega),by simp⟩
theorem W3.drew{e:Fin 3->TypeId}{w0 w:World}{x y:Nat}{v z:Fin 3->Value}{l:Fin 3->List Value}{Y:Option Obj}{s:Fin 3->Sg}(h:W3 e w0 x v z l y Y s w): W3 e w0 x v z l y Y s w.drew:=
 ⟨h.r.drew,h.cel,h.yk,h.yn,h.yl⟩
end
section
open Go.RowKit Go.ChangeShapes Go.WideShapes Go.Deep
structure Dk(w:World)(a:Option Addr)(len cap:Nat)(f:Nat->Pt): Prop where
 le:len<=cap
 cap_le:cap<=maxLen
 ok:∀ j,j < len->eU (f j)
 sl:dN w (fun x=>x < w.heap.size) a len f
theorem Dk.cut{w:World}{a:Option Addr}{len cap:Nat}{f:Nat->Pt}(h:Dk w a len cap f)(m:Nat)(hm:m<=len):
  ∃ g:Nat->Pt,(∀ j,eU (g j))/\dN w (fun x=>x < w.heap.size) a m g:=by
 refine⟨fun j=>if j < m then f j else ⟨0,0,0⟩,fun j=>?_,(h.sl.take hm).congr fun j hj=>(if_pos hj).symm⟩;show eU (if j < m then f j else ⟨0,0,0⟩)
 by_cases hj:j < m
 ·rw[if_pos hj];exact h.ok j J
 ·rw[if_neg hj];exact ⟨by unfold bI;simp,by unfold bI;simp,by unfold bI;simp⟩
end
section
open Go.RowKit Go.Maps
structure qX(w0:World)(xo xf:Nat)(vo vf:Value)(O F:List Nat)(w:World): Prop where
 own:Own w0 [(xo,72,#[vo]),(xf,72,#[vf])] w
 o:w.ownsRow w0.heap.size 5 1 vo O.length (O.map V.aR)
 f:w.ownsRow w0.heap.size 5 1 vf F.length (F.map V.aR)
 dis:∀ g,vo.ownBlock=some g->vf.ownBlock≠some g
theorem qX.call{w0 w w':World}{xo xf:Nat}{vo vf:Value}{O F:List Nat}(h:qX w0 xo xf vo vf O F w)(hb:Below w.heap.size w w'): qX w0 xo xf vo vf O F w':=
 ⟨h.own.call hb,V.cO h.o hb,V.cO h.f hb,h.dis⟩
theorem AX{w:World}{B n g:Nat}{v u v0:Value}{xs:List Value}(h:w.ownsRow B 5 1 v n xs)(hg:ay w g 72 #[v0]): (w.setCell ⟨g,0,none⟩ u).ownsRow B 5 1 v n xs:=
 h.kept (rE w g 0 u) (.inr (own_ne h hg (by decide)))
theorem qX.SL{w0 w w':World}{xo xf:Nat}{vo vf:Value}{O F:List Nat}(h:qX w0 xo xf vo vf O F w)(hg:w.grownBy w' vo.ownBlock): Own w0 [(xo,72,#[vo]),(xf,72,#[vf])] w':=by
 have n1:=own_ne h.o (h.own.get 0 rfl) (by decide);have n2:=own_ne h.o (h.own.get 1 rfl) (by decide);refine⟨V.Cb h.own.av h.o hg,fun b hb=>⟨(h.own.blk b hb).1,?_⟩,h.own.nd⟩;show w'.heap[b.1]? = _
 have hl:=h.own.lt b hb;have hne:some b.1≠vo.ownBlock:=by
  rcases List.mem_cons.1 hb with rfl | hb
  ·exact fun e=>n1 e.symm
  ·obtain rfl:=List.mem_singleton.1 hb
   exact fun e=>n2 e.symm
 rw[hg.block b.1 hl hne];exact(h.own.blk b hb).2
theorem qX.out{w0 w w':World}{xo xf:Nat}{vo vf v':Value}{O F O':List Nat}(h:qX w0 xo xf vo vf O F w)(ho:w'.ownsRow w0.heap.size 5 1 v' O'.length (O'.map V.aR))(hg:w.grownBy w' vo.ownBlock)(hx:v'.ownBlock=vo.ownBlock\/v'.ownBlock=some w.heap.size):
  qX w0 xo xf v' vf O' F (w'.setCell ⟨xo,0,none⟩ v'):=by
 have hown:=h.SL hg;have hf':w'.ownsRow w0.heap.size 5 1 vf F.length (F.map V.aR):=h.f.kept hg (by
  cases e:vf.ownBlock with
  | none=>exact .inl rfl
  | some g=>exact .inr fun e'=>h.dis g e'.symm e)
 have hxo:=hown.get 0 rfl;refine⟨hown.set 0 0 rfl v',AX ho hxo,AX hf' hxo,fun g hg1 hg2=>?_⟩;rcases hx with hx | hx
 ·exact h.dis g (by rw[<-hx];exact hg1) hg2
 ·rw[hx] at hg1
  injection hg1 with hg1
  have:=(h.f.lt g hg2).2;omega
def Db(f:Nat->Pt)(n:Nat): List Nat:=V.aF (qy f n).1.length ++ V.aF (zig (f 0).t) ++ V.aF (zig (f (n-1)).t) ++ V.aF n
end
namespace F
open Go.RowKit
def bY(bs:List Nat)(i m:Nat): Nat:=2 ^ (8*i)*le ((bs.take m).drop i)
theorem GA(bs:List Nat)(i m:Nat)(hi:i < m)(hm:m<=bs.length)(hb:∀ j,bs.getD j 0 < 256): bY bs (i+1) m ||| bs.getD i 0*2 ^ (8*i)=bY bs i m:=by
 have hd:(bs.take m).drop i=bs.getD i 0 :: (bs.take m).drop (i+1):=by
  rw[List.drop_eq_getElem_cons (by simp;omega),List.getElem_take,List.getD_eq_getElem?_getD,List.getElem?_eq_getElem J];rfl
 have hx:=hb i;have h1:bY bs (i+1) m%2 ^ (8*i+8)=0:=by
  unfold bY;rw[show 8*(i+1)=8*i+8 by omega];exact Nat.mul_mod_right _ _
 have h2:bs.getD i 0*2 ^ (8*i) < 2 ^ (8*i+8):=by
  rw[Nat.pow_add,Nat.mul_comm (2 ^ (8*i))];exact Nat.mul_lt_mul_of_pos_right J (Nat.two_pow_pos _)
 rw[nat_join _ _ _ h1 h2];unfold bY;rw[hd];show _=2 ^ (8*i)*(bs.getD i 0+256*le ((bs.take m).drop (i+1)))
 rw[show 8*(i+1)=8*i+8 by omega,Nat.pow_add,Nat.mul_add,show (2:Nat) ^ 8=256 by decide,Nat.mul_assoc,Nat.mul_comm (bs.getD i 0),Nat.add_comm]
theorem Mj(bs:List Nat)(i m:Nat)(hm:m<=8)(hb:∀ j,bs.getD j 0 < 256): bY bs i m < 18446744073709551616:=by
 have h1:=J7 (l:=(bs.take m).drop i) (fun b hbm=>gV hb m b (List.mem_of_mem_drop hbm));have h2:((bs.take m).drop i).length<=8-i:=by simp;omega
 unfold bY;rcases Nat.lt_or_ge i 9 with hi | hi
 ·have h3:(2:Nat) ^ (8*((bs.take m).drop i).length)<=2 ^ (8*(8-i)):=Nat.pow_le_pow_right J J
  have h4:2 ^ (8*i)*le ((bs.take m).drop i) < 2 ^ (8*i)*2 ^ (8*(8-i)):=Nat.mul_lt_mul_of_pos_left J (Nat.two_pow_pos _);rw[<-Nat.pow_add,show 8*i+8*(8-i)=64 by omega] at h4
  exact h4
 ·have:(bs.take m).drop i=[]:=List.drop_eq_nil_of_le (by simp;omega)
  rw[this];show _*0 < _
  omega
def RF(w:World)(gu gb:Nat)(A:Option Addr)(len c:Nat)(u:Nat)(w':World): Prop:=
 ay w' gu 50 #[.int .u64 (u:Nat)]/\ay w' gb 72 #[.slice A len c]/\Keeps (fun k=>k=gu) w w'
theorem OX(w:World)(gu gb:Nat)(A:Option Addr)(len c:Nat)(D:Nat->Prop)(bs:List Nat)(i m:Nat)(hl:bs.length=len)(hsl:Sl w D A len (aI bs))(hb:∀ j,bs.getD j 0 < 256)(hi:i < m)(hm:m<=len)(hm8:m<=8)(hu:ay w gu 50 #[.int .u64 (bY bs (i+1) m:Nat)])(hbb:ay w gb 72 #[.slice A len c]):
  Calls Tryz.prog 343 #[Z (i:Nat),.pointer (some ⟨gu,0,none⟩),.pointer (some ⟨gb,0,none⟩)] w fun e w'=>e=.returned (.tuple #[])/\RF w gu gb A len c (bY bs i m) w':=by
 obtain⟨b,off,hA,-,hc⟩:=hsl J;have ck:w.cell? ⟨b,off+i,none⟩=some (.int .u8 (bs.getD i 0:Nat)):=hc i J;subst hA;have hx:=hb i;have hst:=GA bs i m hi J hb;have hlt:=Mj bs (i+1) m hm8 hb;obtain⟨x,hxx⟩:∃ x,x=bs.getD i 0:=⟨_,rfl⟩
 rw[<-hxx] at ck hx hst
 obtain⟨u,huu⟩:∃ u,u=bY bs (i+1) m:=⟨_,rfl⟩
 rw[<-huu] at hu hst hlt
 have c0:=hu.cell 0;have c1:=hbb.cell 0;have f0:=hu.frozen 0;simp at c0 c1 f0
 have hne:gb≠gu:=fun e=>(hu.ne hbb (by decide)) e.symm
 have HH:=zh (zN hu (zN hbb (zN hst (zN hlt (zN hx hne)))));clear hu hbb hst hlt hx hne hc hsl hxx huu hb;have hil:(i:Int) < (len:Int):=J;have hi0:(0:Int)<=(i:Int):=J;have hin:((i:Int)).toNat=i:=J;have hi8:IntKind.i64.wrap (8*(i:Int))=8*(i:Int):=IntWalk.i64_in _ J;have hi9:(0:Int)<=8*(i:Int):=J;have hi10:(8*(i:Int)).toNat=8*i:=J;have hi11:8*(i:Int) < 64:=J
 go_enter Tryz.func343,Tryz.ntmps343
 go_wp2_with fail
 go_still_tail 10,(by kernel_rfl)
 change wpList _ _ _ _ _ w.drew
 clear hin hi8 hi10;go_wp2_with fail;obtain⟨hu,hbb,hst,hlt,hx,hne⟩:=HH.out;have hp:(2:Nat) ^ (8*i)<=2 ^ 56:=Nat.pow_le_pow_right J J;have hxp:x*2 ^ (8*i) < 18446744073709551616:=by
  have:x*2 ^ (8*i)<=255*2 ^ 56:=Nat.mul_le_mul J hp;omega
 have e1:bits .or .u64 (u:Int) (IntKind.u64.wrap (IntKind.u64.wrap (x:Int)*2 ^ (8*i)))=((bY bs i m:Nat):Int):=by
  rw[IntKind.wrap_u64 (x:Int),show (x:Int)%18446744073709551616=(x:Int) by omega,show (x:Int)*2 ^ (8*i)=((x*2 ^ (8*i):Nat):Int) by rw[Int.natCast_mul,Int.natCast_pow];rfl,IntKind.wrap_u64,
   show ((x*2 ^ (8*i):Nat):Int)%18446744073709551616=((x*2 ^ (8*i):Nat):Int) by omega,u64_or_nat _ _ hlt hxp,hst]
 rw[e1];refine bodyPost_end (v:=.tuple #[]) (by simp[results,Tryz.results343,go_sem]) rfl ?_;exact⟨rfl,by simpa using (hu.set 0 (.int .u64 (bY bs i m:Nat))).drew,(hbb.far (by exact hne) _).drew,((Keeps.refl (fun k=>k=gu) w).setCell (p:=⟨gu,0,none⟩) (fun _=>rfl) _).drew⟩
end F
namespace F
open Go.RowKit
theorem bK(w:World)(gu gb:Nat)(A:Option Addr)(len c:Nat)(D:Nat->Prop)(bs:List Nat)(i m:Nat)(z:Int)(hz:z=(i:Nat))(hl:bs.length=len)(hsl:Sl w D A len (aI bs))(hb:∀ j,bs.getD j 0 < 256)(hi:i < m)(hm:m<=len)(hm8:m<=8)(hu:ay w gu 50 #[.int .u64 (bY bs (i+1) m:Nat)])(hbb:ay w gb 72 #[.slice A len c]):
  Calls Tryz.prog 343 #[Z z,.pointer (some ⟨gu,0,none⟩),.pointer (some ⟨gb,0,none⟩)] w fun e w'=>e=.returned (.tuple #[])/\RF w gu gb A len c (bY bs i m) w':=by
 subst hz;exact OX w gu gb A len c D bs i m hl hsl hb hi hm hm8 hu hbb
def jS(w:World)(u:Nat)(e:Ending)(w':World): Prop:=e=.returned (.int .u64 (u:Nat))/\Keeps (fun _=>False) w w'
theorem iR(bs:List Nat)(m:Nat): bY bs m m=0:=by
 unfold bY;rw[List.drop_eq_nil_of_le (by simp;omega)];show _*0=0
 omega
theorem OJ(w:World)(A:Option Addr)(c:Nat)(D:Nat->Prop)(bs:List Nat)(hl:bs.length=0)(hsl:Sl w D A 0 (aI bs))(hb:∀ j,bs.getD j 0 < 256):
  Calls Tryz.prog 293 #[.slice A 0 c] w (jS w (bY bs 0 0)):=by
 have HS:=zh (zN hl (zN hsl hb));clear hl hsl hb
 go_enter Tryz.func293,Tryz.ntmps293
 go_wp2_with fail;go_ret;have k0:Keeps (fun _=>False) w ((w.alloc (.cells #[.slice A 0 c] 72)).alloc (.cells #[.int .u64 0] 50)):=((Keeps.refl _ w).alloc _).alloc _;exact⟨rfl,k0⟩
theorem OL(w:World)(A:Option Addr)(c:Nat)(D:Nat->Prop)(bs:List Nat)(hl:bs.length=1)(hsl:Sl w D A 1 (aI bs))(hb:∀ j,bs.getD j 0 < 256):
  Calls Tryz.prog 293 #[.slice A 1 c] w (jS w (bY bs 0 1)):=by
 have HS:=zh (zN hl (zN hsl hb));clear hl hsl hb
 go_enter Tryz.func293,Tryz.ntmps293
 go_wp2_with fail;obtain⟨x,hx⟩:∃ x,x=w.heap.size:=⟨_,rfl⟩
 have k0:Keeps (fun _=>False) w ((w.alloc (.cells #[.slice A 1 c] 72)).alloc (.cells #[.int .u64 0] 50)):=((Keeps.refl _ w).alloc _).alloc _;have bb0:ay ((w.alloc (.cells #[.slice A 1 c] 72)).alloc (.cells #[.int .u64 0] 50)) x 72 #[.slice A 1 c]:=by rw[hx];exact (ay.fresh w _ _).alloc _
 have bu0:ay ((w.alloc (.cells #[.slice A 1 c] 72)).alloc (.cells #[.int .u64 0] 50)) (x+1) 50 #[.int .u64 (bY bs 1 1:Nat)]:=by
  rw[hx,iR];have h:=ay.fresh (w.alloc (.cells #[.slice A 1 c] 72)) 50 #[.int .u64 0]
  simpa using h
 have s0:=HS.out.2.1.keep (w':=((w.alloc (.cells #[.slice A 1 c] 72)).alloc (.cells #[.int .u64 0] 50))) (fun q _ hq=>k0.block q hq (fun h=>h));generalize ((w.alloc (.cells #[.slice A 1 c] 72)).alloc (.cells #[.int .u64 0] 50))=w0 at k0 bb0 bu0 s0 ⊢
 rw[<-hx];have hxw:w.heap.size<=x:=J;have H0:=zh (zN k0 (zN bb0 (zN bu0 s0)));clear k0 bb0 bu0 s0 hx;refine(bK w0 (x+1) x A 1 c _ bs 0 1 0 rfl HS.out.1 H0.out.2.2.2 HS.out.2.2 J J J H0.out.2.2.1 H0.out.2.1).mono ?_;rintro e w1 ⟨rfl,hu,hbb,hk⟩;have H1:=zh (zN (H0.out.1.trans hk (fun y hy e=>J)) (zN hbb (zN hu (HS.out.2.1.keep (w':=w1) (fun q _ hq=>(H0.out.1.trans hk (T:=fun k=>k=x+1) (S:=fun _=>False) (fun y hy e=>J)).block q hq (fun h=>h))))));clear hu hbb hk;have c0:=H1.out.2.2.1.cell 0;simp at c0
 go_wp2_with fail;go_ret;exact⟨rfl,H1.out.1⟩
theorem OM(w:World)(A:Option Addr)(c:Nat)(D:Nat->Prop)(bs:List Nat)(hl:bs.length=2)(hsl:Sl w D A 2 (aI bs))(hb:∀ j,bs.getD j 0 < 256):
  Calls Tryz.prog 293 #[.slice A 2 c] w (jS w (bY bs 0 2)):=by
 have HS:=zh (zN hl (zN hsl hb));clear hl hsl hb
 go_enter Tryz.func293,Tryz.ntmps293
 go_wp2_with fail;obtain⟨x,hx⟩:∃ x,x=w.heap.size:=⟨_,rfl⟩
 have k0:Keeps (fun _=>False) w ((w.alloc (.cells #[.slice A 2 c] 72)).alloc (.cells #[.int .u64 0] 50)):=((Keeps.refl _ w).alloc _).alloc _;have bb0:ay ((w.alloc (.cells #[.slice A 2 c] 72)).alloc (.cells #[.int .u64 0] 50)) x 72 #[.slice A 2 c]:=by rw[hx];exact (ay.fresh w _ _).alloc _
 have bu0:ay ((w.alloc (.cells #[.slice A 2 c] 72)).alloc (.cells #[.int .u64 0] 50)) (x+1) 50 #[.int .u64 (bY bs 2 2:Nat)]:=by
  rw[hx,iR];have h:=ay.fresh (w.alloc (.cells #[.slice A 2 c] 72)) 50 #[.int .u64 0]
  simpa using h
 have s0:=HS.out.2.1.keep (w':=((w.alloc (.cells #[.slice A 2 c] 72)).alloc (.cells #[.int .u64 0] 50))) (fun q _ hq=>k0.block q hq (fun h=>h));generalize ((w.alloc (.cells #[.slice A 2 c] 72)).alloc (.cells #[.int .u64 0] 50))=w0 at k0 bb0 bu0 s0 ⊢
 rw[<-hx];have hxw:w.heap.size<=x:=J;have H0:=zh (zN k0 (zN bb0 (zN bu0 s0)));clear k0 bb0 bu0 s0 hx;refine(bK w0 (x+1) x A 2 c _ bs 1 2 1 rfl HS.out.1 H0.out.2.2.2 HS.out.2.2 J J J H0.out.2.2.1 H0.out.2.1).mono ?_;rintro e w1 ⟨rfl,hu,hbb,hk⟩;have H1:=zh (zN (H0.out.1.trans hk (fun y hy e=>J)) (zN hbb (zN hu (HS.out.2.1.keep (w':=w1) (fun q _ hq=>(H0.out.1.trans hk (T:=fun k=>k=x+1) (S:=fun _=>False) (fun y hy e=>J)).block q hq (fun h=>h))))));clear hu hbb hk;go_wp2_with fail;refine(bK w1 (x+1) x A 2 c _ bs 0 2 0 rfl HS.out.1 H1.out.2.2.2 HS.out.2.2 J J J H1.out.2.2.1 H1.out.2.1).mono ?_;rintro e w2 ⟨rfl,hu,hbb,hk⟩;have H2:=zh (zN (H1.out.1.trans hk (fun y hy e=>J)) (zN hbb (zN hu (HS.out.2.1.keep (w':=w2) (fun q _ hq=>(H1.out.1.trans hk (T:=fun k=>k=x+1) (S:=fun _=>False) (fun y hy e=>J)).block q hq (fun h=>h))))));clear hu hbb hk;have c0:=H2.out.2.2.1.cell 0;simp at c0
 go_wp2_with fail;go_ret;exact⟨rfl,H2.out.1⟩
theorem OO(w:World)(A:Option Addr)(c:Nat)(D:Nat->Prop)(bs:List Nat)(hl:bs.length=3)(hsl:Sl w D A 3 (aI bs))(hb:∀ j,bs.getD j 0 < 256):
  Calls Tryz.prog 293 #[.slice A 3 c] w (jS w (bY bs 0 3)):=by
 have HS:=zh (zN hl (zN hsl hb));clear hl hsl hb
 go_enter Tryz.func293,Tryz.ntmps293
 go_wp2_with fail;obtain⟨x,hx⟩:∃ x,x=w.heap.size:=⟨_,rfl⟩
 have k0:Keeps (fun _=>False) w ((w.alloc (.cells #[.slice A 3 c] 72)).alloc (.cells #[.int .u64 0] 50)):=((Keeps.refl _ w).alloc _).alloc _;have bb0:ay ((w.alloc (.cells #[.slice A 3 c] 72)).alloc (.cells #[.int .u64 0] 50)) x 72 #[.slice A 3 c]:=by rw[hx];exact (ay.fresh w _ _).alloc _
 have bu0:ay ((w.alloc (.cells #[.slice A 3 c] 72)).alloc (.cells #[.int .u64 0] 50)) (x+1) 50 #[.int .u64 (bY bs 3 3:Nat)]:=by
  rw[hx,iR];have h:=ay.fresh (w.alloc (.cells #[.slice A 3 c] 72)) 50 #[.int .u64 0]
  simpa using h
 have s0:=HS.out.2.1.keep (w':=((w.alloc (.cells #[.slice A 3 c] 72)).alloc (.cells #[.int .u64 0] 50))) (fun q _ hq=>k0.block q hq (fun h=>h));generalize ((w.alloc (.cells #[.slice A 3 c] 72)).alloc (.cells #[.int .u64 0] 50))=w0 at k0 bb0 bu0 s0 ⊢
 rw[<-hx];have hxw:w.heap.size<=x:=J;have H0:=zh (zN k0 (zN bb0 (zN bu0 s0)));clear k0 bb0 bu0 s0 hx;refine(bK w0 (x+1) x A 3 c _ bs 2 3 2 rfl HS.out.1 H0.out.2.2.2 HS.out.2.2 J J J H0.out.2.2.1 H0.out.2.1).mono ?_;rintro e w1 ⟨rfl,hu,hbb,hk⟩;have H1:=zh (zN (H0.out.1.trans hk (fun y hy e=>J)) (zN hbb (zN hu (HS.out.2.1.keep (w':=w1) (fun q _ hq=>(H0.out.1.trans hk (T:=fun k=>k=x+1) (S:=fun _=>False) (fun y hy e=>J)).block q hq (fun h=>h))))));clear hu hbb hk;go_wp2_with fail;refine(bK w1 (x+1) x A 3 c _ bs 1 3 1 rfl HS.out.1 H1.out.2.2.2 HS.out.2.2 J J J H1.out.2.2.1 H1.out.2.1).mono ?_;rintro e w2 ⟨rfl,hu,hbb,hk⟩;have H2:=zh (zN (H1.out.1.trans hk (fun y hy e=>J)) (zN hbb (zN hu (HS.out.2.1.keep (w':=w2) (fun q _ hq=>(H1.out.1.trans hk (T:=fun k=>k=x+1) (S:=fun _=>False) (fun y hy e=>J)).block q hq (fun h=>h))))));clear hu hbb hk;go_wp2_with fail;refine(bK w2 (x+1) x A 3 c _ bs 0 3 0 rfl HS.out.1 H2.out.2.2.2 HS.out.2.2 J J J H2.out.2.2.1 H2.out.2.1).mono ?_;rintro e w3 ⟨rfl,hu,hbb,hk⟩;have H3:=zh (zN (H2.out.1.trans hk (fun y hy e=>J)) (zN hbb (zN hu (HS.out.2.1.keep (w':=w3) (fun q _ hq=>(H2.out.1.trans hk (T:=fun k=>k=x+1) (S:=fun _=>False) (fun y hy e=>J)).block q hq (fun h=>h))))));clear hu hbb hk;have c0:=H3.out.2.2.1.cell 0;simp at c0
 go_wp2_with fail;go_ret;exact⟨rfl,H3.out.1⟩
theorem OP(w:World)(A:Option Addr)(c:Nat)(D:Nat->Prop)(bs:List Nat)(hl:bs.length=4)(hsl:Sl w D A 4 (aI bs))(hb:∀ j,bs.getD j 0 < 256):
  Calls Tryz.prog 293 #[.slice A 4 c] w (jS w (bY bs 0 4)):=by
 have HS:=zh (zN hl (zN hsl hb));clear hl hsl hb
 go_enter Tryz.func293,Tryz.ntmps293
 go_wp2_with fail;obtain⟨x,hx⟩:∃ x,x=w.heap.size:=⟨_,rfl⟩
 have k0:Keeps (fun _=>False) w ((w.alloc (.cells #[.slice A 4 c] 72)).alloc (.cells #[.int .u64 0] 50)):=((Keeps.refl _ w).alloc _).alloc _;have bb0:ay ((w.alloc (.cells #[.slice A 4 c] 72)).alloc (.cells #[.int .u64 0] 50)) x 72 #[.slice A 4 c]:=by rw[hx];exact (ay.fresh w _ _).alloc _
 have bu0:ay ((w.alloc (.cells #[.slice A 4 c] 72)).alloc (.cells #[.int .u64 0] 50)) (x+1) 50 #[.int .u64 (bY bs 4 4:Nat)]:=by
  rw[hx,iR];have h:=ay.fresh (w.alloc (.cells #[.slice A 4 c] 72)) 50 #[.int .u64 0]
  simpa using h
 have s0:=HS.out.2.1.keep (w':=((w.alloc (.cells #[.slice A 4 c] 72)).alloc (.cells #[.int .u64 0] 50))) (fun q _ hq=>k0.block q hq (fun h=>h));generalize ((w.alloc (.cells #[.slice A 4 c] 72)).alloc (.cells #[.int .u64 0] 50))=w0 at k0 bb0 bu0 s0 ⊢
 rw[<-hx];have hxw:w.heap.size<=x:=J;have H0:=zh (zN k0 (zN bb0 (zN bu0 s0)));clear k0 bb0 bu0 s0 hx;refine(bK w0 (x+1) x A 4 c _ bs 3 4 3 rfl HS.out.1 H0.out.2.2.2 HS.out.2.2 J J J H0.out.2.2.1 H0.out.2.1).mono ?_;rintro e w1 ⟨rfl,hu,hbb,hk⟩;have H1:=zh (zN (H0.out.1.trans hk (fun y hy e=>J)) (zN hbb (zN hu (HS.out.2.1.keep (w':=w1) (fun q _ hq=>(H0.out.1.trans hk (T:=fun k=>k=x+1) (S:=fun _=>False) (fun y hy e=>J)).block q hq (fun h=>h))))));clear hu hbb hk;go_wp2_with fail;refine(bK w1 (x+1) x A 4 c _ bs 2 4 2 rfl HS.out.1 H1.out.2.2.2 HS.out.2.2 J J J H1.out.2.2.1 H1.out.2.1).mono ?_;rintro e w2 ⟨rfl,hu,hbb,hk⟩;have H2:=zh (zN (H1.out.1.trans hk (fun y hy e=>J)) (zN hbb (zN hu (HS.out.2.1.keep (w':=w2) (fun q _ hq=>(H1.out.1.trans hk (T:=fun k=>k=x+1) (S:=fun _=>False) (fun y hy e=>J)).block q hq (fun h=>h))))));clear hu hbb hk;go_wp2_with fail;refine(bK w2 (x+1) x A 4 c _ bs 1 4 1 rfl HS.out.1 H2.out.2.2.2 HS.out.2.2 J J J H2.out.2.2.1 H2.out.2.1).mono ?_;rintro e w3 ⟨rfl,hu,hbb,hk⟩;have H3:=zh (zN (H2.out.1.trans hk (fun y hy e=>J)) (zN hbb (zN hu (HS.out.2.1.keep (w':=w3) (fun q _ hq=>(H2.out.1.trans hk (T:=fun k=>k=x+1) (S:=fun _=>False) (fun y hy e=>J)).block q hq (fun h=>h))))));clear hu hbb hk;go_wp2_with fail;refine(bK w3 (x+1) x A 4 c _ bs 0 4 0 rfl HS.out.1 H3.out.2.2.2 HS.out.2.2 J J J H3.out.2.2.1 H3.out.2.1).mono ?_;rintro e w4 ⟨rfl,hu,hbb,hk⟩;have H4:=zh (zN (H3.out.1.trans hk (fun y hy e=>J)) (zN hbb (zN hu (HS.out.2.1.keep (w':=w4) (fun q _ hq=>(H3.out.1.trans hk (T:=fun k=>k=x+1) (S:=fun _=>False) (fun y hy e=>J)).block q hq (fun h=>h))))));clear hu hbb hk;have c0:=H4.out.2.2.1.cell 0;simp at c0
 go_wp2_with fail;go_ret;exact⟨rfl,H4.out.1⟩
theorem OQ(w:World)(A:Option Addr)(c:Nat)(D:Nat->Prop)(bs:List Nat)(hl:bs.length=5)(hsl:Sl w D A 5 (aI bs))(hb:∀ j,bs.getD j 0 < 256):
  Calls Tryz.prog 293 #[.slice A 5 c] w (jS w (bY bs 0 5)):=by
 have HS:=zh (zN hl (zN hsl hb));clear hl hsl hb
 go_enter Tryz.func293,Tryz.ntmps293
 go_wp2_with fail;obtain⟨x,hx⟩:∃ x,x=w.heap.size:=⟨_,rfl⟩
 have k0:Keeps (fun _=>False) w ((w.alloc (.cells #[.slice A 5 c] 72)).alloc (.cells #[.int .u64 0] 50)):=((Keeps.refl _ w).alloc _).alloc _;have bb0:ay ((w.alloc (.cells #[.slice A 5 c] 72)).alloc (.cells #[.int .u64 0] 50)) x 72 #[.slice A 5 c]:=by rw[hx];exact (ay.fresh w _ _).alloc _
 have bu0:ay ((w.alloc (.cells #[.slice A 5 c] 72)).alloc (.cells #[.int .u64 0] 50)) (x+1) 50 #[.int .u64 (bY bs 5 5:Nat)]:=by
  rw[hx,iR];have h:=ay.fresh (w.alloc (.cells #[.slice A 5 c] 72)) 50 #[.int .u64 0]
  simpa using h
 have s0:=HS.out.2.1.keep (w':=((w.alloc (.cells #[.slice A 5 c] 72)).alloc (.cells #[.int .u64 0] 50))) (fun q _ hq=>k0.block q hq (fun h=>h));generalize ((w.alloc (.cells #[.slice A 5 c] 72)).alloc (.cells #[.int .u64 0] 50))=w0 at k0 bb0 bu0 s0 ⊢
 rw[<-hx];have hxw:w.heap.size<=x:=J;have H0:=zh (zN k0 (zN bb0 (zN bu0 s0)));clear k0 bb0 bu0 s0 hx;refine(bK w0 (x+1) x A 5 c _ bs 4 5 4 rfl HS.out.1 H0.out.2.2.2 HS.out.2.2 J J J H0.out.2.2.1 H0.out.2.1).mono ?_;rintro e w1 ⟨rfl,hu,hbb,hk⟩;have H1:=zh (zN (H0.out.1.trans hk (fun y hy e=>J)) (zN hbb (zN hu (HS.out.2.1.keep (w':=w1) (fun q _ hq=>(H0.out.1.trans hk (T:=fun k=>k=x+1) (S:=fun _=>False) (fun y hy e=>J)).block q hq (fun h=>h))))));clear hu hbb hk;go_wp2_with fail;refine(bK w1 (x+1) x A 5 c _ bs 3 5 3 rfl HS.out.1 H1.out.2.2.2 HS.out.2.2 J J J H1.out.2.2.1 H1.out.2.1).mono ?_;rintro e w2 ⟨rfl,hu,hbb,hk⟩;have H2:=zh (zN (H1.out.1.trans hk (fun y hy e=>J)) (zN hbb (zN hu (HS.out.2.1.keep (w':=w2) (fun q _ hq=>(H1.out.1.trans hk (T:=fun k=>k=x+1) (S:=fun _=>False) (fun y hy e=>J)).block q hq (fun h=>h))))));clear hu hbb hk;go_wp2_with fail;refine(bK w2 (x+1) x A 5 c _ bs 2 5 2 rfl HS.out.1 H2.out.2.2.2 HS.out.2.2 J J J H2.out.2.2.1 H2.out.2.1).mono ?_;rintro e w3 ⟨rfl,hu,hbb,hk⟩;have H3:=zh (zN (H2.out.1.trans hk (fun y hy e=>J)) (zN hbb (zN hu (HS.out.2.1.keep (w':=w3) (fun q _ hq=>(H2.out.1.trans hk (T:=fun k=>k=x+1) (S:=fun _=>False) (fun y hy e=>J)).block q hq (fun h=>h))))));clear hu hbb hk;go_wp2_with fail;refine(bK w3 (x+1) x A 5 c _ bs 1 5 1 rfl HS.out.1 H3.out.2.2.2 HS.out.2.2 J J J H3.out.2.2.1 H3.out.2.1).mono ?_;rintro e w4 ⟨rfl,hu,hbb,hk⟩;have H4:=zh (zN (H3.out.1.trans hk (fun y hy e=>J)) (zN hbb (zN hu (HS.out.2.1.keep (w':=w4) (fun q _ hq=>(H3.out.1.trans hk (T:=fun k=>k=x+1) (S:=fun _=>False) (fun y hy e=>J)).block q hq (fun h=>h))))));clear hu hbb hk;go_wp2_with fail;refine(bK w4 (x+1) x A 5 c _ bs 0 5 0 rfl HS.out.1 H4.out.2.2.2 HS.out.2.2 J J J H4.out.2.2.1 H4.out.2.1).mono ?_;rintro e w5 ⟨rfl,hu,hbb,hk⟩;have H5:=zh (zN (H4.out.1.trans hk (fun y hy e=>J)) (zN hbb (zN hu (HS.out.2.1.keep (w':=w5) (fun q _ hq=>(H4.out.1.trans hk (T:=fun k=>k=x+1) (S:=fun _=>False) (fun y hy e=>J)).block q hq (fun h=>h))))));clear hu hbb hk
 have c0:=H5.out.2.2.1.cell 0;simp at c0
 go_wp2_with fail;go_ret;exact⟨rfl,H5.out.1⟩
theorem OT(w:World)(A:Option Addr)(c:Nat)(D:Nat->Prop)(bs:List Nat)(hl:bs.length=6)(hsl:Sl w D A 6 (aI bs))(hb:∀ j,bs.getD j 0 < 256):
  Calls Tryz.prog 293 #[.slice A 6 c] w (jS w (bY bs 0 6)):=by
 have HS:=zh (zN hl (zN hsl hb));clear hl hsl hb
 go_enter Tryz.func293,Tryz.ntmps293
 go_wp2_with fail;obtain⟨x,hx⟩:∃ x,x=w.heap.size:=⟨_,rfl⟩
 have k0:Keeps (fun _=>False) w ((w.alloc (.cells #[.slice A 6 c] 72)).alloc (.cells #[.int .u64 0] 50)):=((Keeps.refl _ w).alloc _).alloc _;have bb0:ay ((w.alloc (.cells #[.slice A 6 c] 72)).alloc (.cells #[.int .u64 0] 50)) x 72 #[.slice A 6 c]:=by rw[hx];exact (ay.fresh w _ _).alloc _
 have bu0:ay ((w.alloc (.cells #[.slice A 6 c] 72)).alloc (.cells #[.int .u64 0] 50)) (x+1) 50 #[.int .u64 (bY bs 6 6:Nat)]:=by
  rw[hx,iR];have h:=ay.fresh (w.alloc (.cells #[.slice A 6 c] 72)) 50 #[.int .u64 0]
  simpa using h
 have s0:=HS.out.2.1.keep (w':=((w.alloc (.cells #[.slice A 6 c] 72)).alloc (.cells #[.int .u64 0] 50))) (fun q _ hq=>k0.block q hq (fun h=>h));generalize ((w.alloc (.cells #[.slice A 6 c] 72)).alloc (.cells #[.int .u64 0] 50))=w0 at k0 bb0 bu0 s0 ⊢
 rw[<-hx];have hxw:w.heap.size<=x:=J;have H0:=zh (zN k0 (zN bb0 (zN bu0 s0)));clear k0 bb0 bu0 s0 hx;refine(bK w0 (x+1) x A 6 c _ bs 5 6 5 rfl HS.out.1 H0.out.2.2.2 HS.out.2.2 J J J H0.out.2.2.1 H0.out.2.1).mono ?_;rintro e w1 ⟨rfl,hu,hbb,hk⟩;have H1:=zh (zN (H0.out.1.trans hk (fun y hy e=>J)) (zN hbb (zN hu (HS.out.2.1.keep (w':=w1) (fun q _ hq=>(H0.out.1.trans hk (T:=fun k=>k=x+1) (S:=fun _=>False) (fun y hy e=>J)).block q hq (fun h=>h))))));clear hu hbb hk;go_wp2_with fail;refine(bK w1 (x+1) x A 6 c _ bs 4 6 4 rfl HS.out.1 H1.out.2.2.2 HS.out.2.2 J J J H1.out.2.2.1 H1.out.2.1).mono ?_;rintro e w2 ⟨rfl,hu,hbb,hk⟩;have H2:=zh (zN (H1.out.1.trans hk (fun y hy e=>J)) (zN hbb (zN hu (HS.out.2.1.keep (w':=w2) (fun q _ hq=>(H1.out.1.trans hk (T:=fun k=>k=x+1) (S:=fun _=>False) (fun y hy e=>J)).block q hq (fun h=>h))))));clear hu hbb hk;go_wp2_with fail;refine(bK w2 (x+1) x A 6 c _ bs 3 6 3 rfl HS.out.1 H2.out.2.2.2 HS.out.2.2 J J J H2.out.2.2.1 H2.out.2.1).mono ?_;rintro e w3 ⟨rfl,hu,hbb,hk⟩;have H3:=zh (zN (H2.out.1.trans hk (fun y hy e=>J)) (zN hbb (zN hu (HS.out.2.1.keep (w':=w3) (fun q _ hq=>(H2.out.1.trans hk (T:=fun k=>k=x+1) (S:=fun _=>False) (fun y hy e=>J)).block q hq (fun h=>h))))));clear hu hbb hk;go_wp2_with fail;refine(bK w3 (x+1) x A 6 c _ bs 2 6 2 rfl HS.out.1 H3.out.2.2.2 HS.out.2.2 J J J H3.out.2.2.1 H3.out.2.1).mono ?_;rintro e w4 ⟨rfl,hu,hbb,hk⟩;have H4:=zh (zN (H3.out.1.trans hk (fun y hy e=>J)) (zN hbb (zN hu (HS.out.2.1.keep (w':=w4) (fun q _ hq=>(H3.out.1.trans hk (T:=fun k=>k=x+1) (S:=fun _=>False) (fun y hy e=>J)).block q hq (fun h=>h))))));clear hu hbb hk;go_wp2_with fail;refine(bK w4 (x+1) x A 6 c _ bs 1 6 1 rfl HS.out.1 H4.out.2.2.2 HS.out.2.2 J J J H4.out.2.2.1 H4.out.2.1).mono ?_;rintro e w5 ⟨rfl,hu,hbb,hk⟩;have H5:=zh (zN (H4.out.1.trans hk (fun y hy e=>J)) (zN hbb (zN hu (HS.out.2.1.keep (w':=w5) (fun q _ hq=>(H4.out.1.trans hk (T:=fun k=>k=x+1) (S:=fun _=>False) (fun y hy e=>J)).block q hq (fun h=>h))))));clear hu hbb hk
 go_wp2_with fail;refine(bK w5 (x+1) x A 6 c _ bs 0 6 0 rfl HS.out.1 H5.out.2.2.2 HS.out.2.2 J J J H5.out.2.2.1 H5.out.2.1).mono ?_;rintro e w6 ⟨rfl,hu,hbb,hk⟩;have H6:=zh (zN (H5.out.1.trans hk (fun y hy e=>J)) (zN hbb (zN hu (HS.out.2.1.keep (w':=w6) (fun q _ hq=>(H5.out.1.trans hk (T:=fun k=>k=x+1) (S:=fun _=>False) (fun y hy e=>J)).block q hq (fun h=>h))))));clear hu hbb hk;have c0:=H6.out.2.2.1.cell 0;simp at c0
 go_wp2_with fail;go_ret;exact⟨rfl,H6.out.1⟩
theorem OU(w:World)(A:Option Addr)(c:Nat)(D:Nat->Prop)(bs:List Nat)(hl:bs.length=7)(hsl:Sl w D A 7 (aI bs))(hb:∀ j,bs.getD j 0 < 256):
  Calls Tryz.prog 293 #[.slice A 7 c] w (jS w (bY bs 0 7)):=by
 have HS:=zh (zN hl (zN hsl hb));clear hl hsl hb
 go_enter Tryz.func293,Tryz.ntmps293
 go_wp2_with fail;obtain⟨x,hx⟩:∃ x,x=w.heap.size:=⟨_,rfl⟩
 have k0:Keeps (fun _=>False) w ((w.alloc (.cells #[.slice A 7 c] 72)).alloc (.cells #[.int .u64 0] 50)):=((Keeps.refl _ w).alloc _).alloc _;have bb0:ay ((w.alloc (.cells #[.slice A 7 c] 72)).alloc (.cells #[.int .u64 0] 50)) x 72 #[.slice A 7 c]:=by rw[hx];exact (ay.fresh w _ _).alloc _
 have bu0:ay ((w.alloc (.cells #[.slice A 7 c] 72)).alloc (.cells #[.int .u64 0] 50)) (x+1) 50 #[.int .u64 (bY bs 7 7:Nat)]:=by
  rw[hx,iR];have h:=ay.fresh (w.alloc (.cells #[.slice A 7 c] 72)) 50 #[.int .u64 0]
  simpa using h
 have s0:=HS.out.2.1.keep (w':=((w.alloc (.cells #[.slice A 7 c] 72)).alloc (.cells #[.int .u64 0] 50))) (fun q _ hq=>k0.block q hq (fun h=>h));generalize ((w.alloc (.cells #[.slice A 7 c] 72)).alloc (.cells #[.int .u64 0] 50))=w0 at k0 bb0 bu0 s0 ⊢
 rw[<-hx];have hxw:w.heap.size<=x:=J;have H0:=zh (zN k0 (zN bb0 (zN bu0 s0)));clear k0 bb0 bu0 s0 hx;refine(bK w0 (x+1) x A 7 c _ bs 6 7 6 rfl HS.out.1 H0.out.2.2.2 HS.out.2.2 J J J H0.out.2.2.1 H0.out.2.1).mono ?_;rintro e w1 ⟨rfl,hu,hbb,hk⟩;have H1:=zh (zN (H0.out.1.trans hk (fun y hy e=>J)) (zN hbb (zN hu (HS.out.2.1.keep (w':=w1) (fun q _ hq=>(H0.out.1.trans hk (T:=fun k=>k=x+1) (S:=fun _=>False) (fun y hy e=>J)).block q hq (fun h=>h))))));clear hu hbb hk;go_wp2_with fail;refine(bK w1 (x+1) x A 7 c _ bs 5 7 5 rfl HS.out.1 H1.out.2.2.2 HS.out.2.2 J J J H1.out.2.2.1 H1.out.2.1).mono ?_;rintro e w2 ⟨rfl,hu,hbb,hk⟩;have H2:=zh (zN (H1.out.1.trans hk (fun y hy e=>J)) (zN hbb (zN hu (HS.out.2.1.keep (w':=w2) (fun q _ hq=>(H1.out.1.trans hk (T:=fun k=>k=x+1) (S:=fun _=>False) (fun y hy e=>J)).block q hq (fun h=>h))))));clear hu hbb hk;go_wp2_with fail;refine(bK w2 (x+1) x A 7 c _ bs 4 7 4 rfl HS.out.1 H2.out.2.2.2 HS.out.2.2 J J J H2.out.2.2.1 H2.out.2.1).mono ?_;rintro e w3 ⟨rfl,hu,hbb,hk⟩;have H3:=zh (zN (H2.out.1.trans hk (fun y hy e=>J)) (zN hbb (zN hu (HS.out.2.1.keep (w':=w3) (fun q _ hq=>(H2.out.1.trans hk (T:=fun k=>k=x+1) (S:=fun _=>False) (fun y hy e=>J)).block q hq (fun h=>h))))));clear hu hbb hk;go_wp2_with fail;refine(bK w3 (x+1) x A 7 c _ bs 3 7 3 rfl HS.out.1 H3.out.2.2.2 HS.out.2.2 J J J H3.out.2.2.1 H3.out.2.1).mono ?_;rintro e w4 ⟨rfl,hu,hbb,hk⟩;have H4:=zh (zN (H3.out.1.trans hk (fun y hy e=>J)) (zN hbb (zN hu (HS.out.2.1.keep (w':=w4) (fun q _ hq=>(H3.out.1.trans hk (T:=fun k=>k=x+1) (S:=fun _=>False) (fun y hy e=>J)).block q hq (fun h=>h))))));clear hu hbb hk;go_wp2_with fail;refine(bK w4 (x+1) x A 7 c _ bs 2 7 2 rfl HS.out.1 H4.out.2.2.2 HS.out.2.2 J J J H4.out.2.2.1 H4.out.2.1).mono ?_;rintro e w5 ⟨rfl,hu,hbb,hk⟩;have H5:=zh (zN (H4.out.1.trans hk (fun y hy e=>J)) (zN hbb (zN hu (HS.out.2.1.keep (w':=w5) (fun q _ hq=>(H4.out.1.trans hk (T:=fun k=>k=x+1) (S:=fun _=>False) (fun y hy e=>J)).block q hq (fun h=>h))))));clear hu hbb hk
 go_wp2_with fail;refine(bK w5 (x+1) x A 7 c _ bs 1 7 1 rfl HS.out.1 H5.out.2.2.2 HS.out.2.2 J J J H5.out.2.2.1 H5.out.2.1).mono ?_;rintro e w6 ⟨rfl,hu,hbb,hk⟩;have H6:=zh (zN (H5.out.1.trans hk (fun y hy e=>J)) (zN hbb (zN hu (HS.out.2.1.keep (w':=w6) (fun q _ hq=>(H5.out.1.trans hk (T:=fun k=>k=x+1) (S:=fun _=>False) (fun y hy e=>J)).block q hq (fun h=>h))))));clear hu hbb hk;go_wp2_with fail;refine(bK w6 (x+1) x A 7 c _ bs 0 7 0 rfl HS.out.1 H6.out.2.2.2 HS.out.2.2 J J J H6.out.2.2.1 H6.out.2.1).mono ?_;rintro e w7 ⟨rfl,hu,hbb,hk⟩;have H7:=zh (zN (H6.out.1.trans hk (fun y hy e=>J)) (zN hbb (zN hu (HS.out.2.1.keep (w':=w7) (fun q _ hq=>(H6.out.1.trans hk (T:=fun k=>k=x+1) (S:=fun _=>False) (fun y hy e=>J)).block q hq (fun h=>h))))));clear hu hbb hk;have c0:=H7.out.2.2.1.cell 0;simp at c0
 go_wp2_with fail;go_ret;exact⟨rfl,H7.out.1⟩
theorem OV(w:World)(A:Option Addr)(c:Nat)(D:Nat->Prop)(bs:List Nat)(len:Nat)(hl:bs.length=len)(hlen:8<=len)(hlen2:len<=1099511627776)(hsl:Sl w D A len (aI bs))(hb:∀ j,bs.getD j 0 < 256):
  Calls Tryz.prog 293 #[.slice A len c] w (jS w (bY bs 0 8)):=by
 have HS:=zh (zN hl (zN hsl hb));clear hl hsl hb;have hmi:min (len:Int) 8=8:=J;have hd:decide ((8:Int) < (len:Int))=true\/len=8:=by rcases (show 8 < len\/len=8 by omega) with h | h;exact .inl (by simp;omega);exact .inr h
 clear hd
 go_enter Tryz.func293,Tryz.ntmps293
 go_wp2_with fail
 all_goals
  obtain⟨x,hx⟩:∃ x,x=w.heap.size:=⟨_,rfl⟩
  have k0:Keeps (fun _=>False) w ((w.alloc (.cells #[.slice A len c] 72)).alloc (.cells #[.int .u64 0] 50)):=((Keeps.refl _ w).alloc _).alloc _;have bb0:ay ((w.alloc (.cells #[.slice A len c] 72)).alloc (.cells #[.int .u64 0] 50)) x 72 #[.slice A len c]:=by rw[hx];exact (ay.fresh w _ _).alloc _
  have bu0:ay ((w.alloc (.cells #[.slice A len c] 72)).alloc (.cells #[.int .u64 0] 50)) (x+1) 50 #[.int .u64 (bY bs 8 8:Nat)]:=by
   rw[hx,iR];have h:=ay.fresh (w.alloc (.cells #[.slice A len c] 72)) 50 #[.int .u64 0]
   simpa using h
  have s0:=HS.out.2.1.keep (w':=((w.alloc (.cells #[.slice A len c] 72)).alloc (.cells #[.int .u64 0] 50))) (fun q _ hq=>k0.block q hq (fun h=>h));generalize ((w.alloc (.cells #[.slice A len c] 72)).alloc (.cells #[.int .u64 0] 50))=w0 at k0 bb0 bu0 s0 ⊢
  rw[<-hx];have hxw:w.heap.size<=x:=J;have H0:=zh (zN k0 (zN bb0 (zN bu0 s0)));clear k0 bb0 bu0 s0 hx;refine(bK w0 (x+1) x A len c _ bs 7 8 7 rfl HS.out.1 H0.out.2.2.2 HS.out.2.2 J J J H0.out.2.2.1 H0.out.2.1).mono ?_;rintro e w1 ⟨rfl,hu,hbb,hk⟩;have H1:=zh (zN (H0.out.1.trans hk (fun y hy e=>J)) (zN hbb (zN hu (HS.out.2.1.keep (w':=w1) (fun q _ hq=>(H0.out.1.trans hk (T:=fun k=>k=x+1) (S:=fun _=>False) (fun y hy e=>J)).block q hq (fun h=>h))))));clear hu hbb hk;go_wp2_with fail;refine(bK w1 (x+1) x A len c _ bs 6 8 6 rfl HS.out.1 H1.out.2.2.2 HS.out.2.2 J J J H1.out.2.2.1 H1.out.2.1).mono ?_;rintro e w2 ⟨rfl,hu,hbb,hk⟩;have H2:=zh (zN (H1.out.1.trans hk (fun y hy e=>J)) (zN hbb (zN hu (HS.out.2.1.keep (w':=w2) (fun q _ hq=>(H1.out.1.trans hk (T:=fun k=>k=x+1) (S:=fun _=>False) (fun y hy e=>J)).block q hq (fun h=>h))))));clear hu hbb hk;go_wp2_with fail;refine(bK w2 (x+1) x A len c _ bs 5 8 5 rfl HS.out.1 H2.out.2.2.2 HS.out.2.2 J J J H2.out.2.2.1 H2.out.2.1).mono ?_;rintro e w3 ⟨rfl,hu,hbb,hk⟩;have H3:=zh (zN (H2.out.1.trans hk (fun y hy e=>J)) (zN hbb (zN hu (HS.out.2.1.keep (w':=w3) (fun q _ hq=>(H2.out.1.trans hk (T:=fun k=>k=x+1) (S:=fun _=>False) (fun y hy e=>J)).block q hq (fun h=>h))))));clear hu hbb hk;go_wp2_with fail;refine(bK w3 (x+1) x A len c _ bs 4 8 4 rfl HS.out.1 H3.out.2.2.2 HS.out.2.2 J J J H3.out.2.2.1 H3.out.2.1).mono ?_;rintro e w4 ⟨rfl,hu,hbb,hk⟩;have H4:=zh (zN (H3.out.1.trans hk (fun y hy e=>J)) (zN hbb (zN hu (HS.out.2.1.keep (w':=w4) (fun q _ hq=>(H3.out.1.trans hk (T:=fun k=>k=x+1) (S:=fun _=>False) (fun y hy e=>J)).block q hq (fun h=>h))))));clear hu hbb hk;go_wp2_with fail;refine(bK w4 (x+1) x A len c _ bs 3 8 3 rfl HS.out.1 H4.out.2.2.2 HS.out.2.2 J J J H4.out.2.2.1 H4.out.2.1).mono ?_;rintro e w5 ⟨rfl,hu,hbb,hk⟩;have H5:=zh (zN (H4.out.1.trans hk (fun y hy e=>J)) (zN hbb (zN hu (HS.out.2.1.keep (w':=w5) (fun q _ hq=>(H4.out.1.trans hk (T:=fun k=>k=x+1) (S:=fun _=>False) (fun y hy e=>J)).block q hq (fun h=>h))))))
  clear hu hbb hk;go_wp2_with fail;refine(bK w5 (x+1) x A len c _ bs 2 8 2 rfl HS.out.1 H5.out.2.2.2 HS.out.2.2 J J J H5.out.2.2.1 H5.out.2.1).mono ?_;rintro e w6 ⟨rfl,hu,hbb,hk⟩;have H6:=zh (zN (H5.out.1.trans hk (fun y hy e=>J)) (zN hbb (zN hu (HS.out.2.1.keep (w':=w6) (fun q _ hq=>(H5.out.1.trans hk (T:=fun k=>k=x+1) (S:=fun _=>False) (fun y hy e=>J)).block q hq (fun h=>h))))));clear hu hbb hk;go_wp2_with fail;refine(bK w6 (x+1) x A len c _ bs 1 8 1 rfl HS.out.1 H6.out.2.2.2 HS.out.2.2 J J J H6.out.2.2.1 H6.out.2.1).mono ?_;rintro e w7 ⟨rfl,hu,hbb,hk⟩;have H7:=zh (zN (H6.out.1.trans hk (fun y hy e=>J)) (zN hbb (zN hu (HS.out.2.1.keep (w':=w7) (fun q _ hq=>(H6.out.1.trans hk (T:=fun k=>k=x+1) (S:=fun _=>False) (fun y hy e=>J)).block q hq (fun h=>h))))));clear hu hbb hk;go_wp2_with fail;refine(bK w7 (x+1) x A len c _ bs 0 8 0 rfl HS.out.1 H7.out.2.2.2 HS.out.2.2 J J J H7.out.2.2.1 H7.out.2.1).mono ?_;rintro e w8 ⟨rfl,hu,hbb,hk⟩;have H8:=zh (zN (H7.out.1.trans hk (fun y hy e=>J)) (zN hbb (zN hu (HS.out.2.1.keep (w':=w8) (fun q _ hq=>(H7.out.1.trans hk (T:=fun k=>k=x+1) (S:=fun _=>False) (fun y hy e=>J)).block q hq (fun h=>h))))));clear hu hbb hk;have c0:=H8.out.2.2.1.cell 0;simp at c0
  go_wp2_with fail;go_ret;exact⟨rfl,H8.out.1⟩
theorem zo(w:World)(A:Option Addr)(len c:Nat)(D:Nat->Prop)(bs:List Nat)(hl:bs.length=len)(hsl:Sl w D A len (aI bs))(hb:∀ j,bs.getD j 0 < 256)(hlen:len<=1099511627776):
  Calls Tryz.prog 293 #[.slice A len c] w (jS w (le (bs.take 8))):=by
 have e:∀ m,bY bs 0 m=le (bs.take m):=fun m=>by unfold bY;rw[List.drop_zero];omega
 rcases Nat.lt_or_ge len 8 with h | h
 ·have e2:bs.take 8=bs.take len:=by rw[List.take_of_length_le J,List.take_of_length_le J]
  rw[e2,<-e];rcases(show len=0\/len=1\/len=2\/len=3\/len=4\/len=5\/len=6\/len=7 by omega) with rfl | rfl | rfl | rfl | rfl | rfl | rfl | rfl
  ·exact OJ w A c D bs hl hsl hb
  ·exact OL w A c D bs hl hsl hb
  ·exact OM w A c D bs hl hsl hb
  ·exact OO w A c D bs hl hsl hb
  ·exact OP w A c D bs hl hsl hb
  ·exact OQ w A c D bs hl hsl hb
  ·exact OT w A c D bs hl hsl hb
  ·exact OU w A c D bs hl hsl hb
 ·rw[<-e]
  exact OV w A c D bs len hl h hlen hsl hb
end F
namespace F
open Go.RowKit
theorem Oe(bs:List Nat)(lo hi j:Nat)(h:lo+j < hi): ((bs.take hi).drop lo).getD j 0=bs.getD (lo+j) 0:=by
 rw[List.getD_eq_getElem?_getD,List.getD_eq_getElem?_getD,List.getElem?_drop,List.getElem?_take_of_lt h]
theorem zJ{w:World}{D:Nat->Prop}{b off len:Nat}{bs:List Nat}(h:Sl w D (some ⟨b,off,none⟩) len (aI bs))(lo hi:Nat)(hhi:hi<=len): Sl w D (some ⟨b,off+lo,none⟩) (hi-lo) (aI ((bs.take hi).drop lo)):=by
 intro h0;obtain⟨b',off',e,hD,hc⟩:=h J;injection e with e
 injection e with e1 e2
 subst e1;subst e2;refine⟨_,_,rfl,hD,fun j hj=>?_⟩;have:=hc (lo+j) J;rw[<-Nat.add_assoc] at this
 rw[this];unfold aI;rw[Oe bs lo hi j J]
theorem yx{bs:List Nat}(h:∀ j,bs.getD j 0 < 256)(lo hi:Nat): ∀ j,((bs.take hi).drop lo).getD j 0 < 256:=
 rQ (fun b hb=>gV h hi b (List.mem_of_mem_drop hb))
theorem pQ(bs:List Nat)(lo hi:Nat)(h:hi<=bs.length): ((bs.take hi).drop lo).length=hi-lo:=by simp;omega
def iG(bs:List Nat): Nat:=le ((bs.take 5).drop 1)
def jf(bs:List Nat): Int:=if bs.length < 9 then 10 else if 1048576 < iG bs then 3 else if bs.length < iG bs+9 then 10 else 0
def vC(bs:List Nat): Nat:=if jf bs=0 then iG bs+9 else 0
def nA(w:World)(bs:List Nat)(e:Ending)(w':World): Prop:=e=.returned (.tuple #[Z (vC bs:Nat),Z (jf bs)])/\Keeps (fun _=>False) w w'
theorem rF{w w':World}{bs:List Nat}(v er:Int)(h1:jf bs=er)(h2:er≠0/\v=0\/er=0/\v=((iG bs+9:Nat):Int))(hk:Keeps (fun _=>False) w w'): nA w bs (.returned (.tuple #[Z v,Z er])) w':=by
 refine⟨?_,hk⟩;unfold vC;rw[h1];rcases h2 with ⟨h2,rfl⟩ | ⟨rfl,rfl⟩
 ·rw[if_neg h2];rfl
 ·rw[if_pos rfl]
theorem OW(w:World)(A:Option Addr)(len c:Nat)(D:Nat->Prop)(bs:List Nat)(hl:bs.length=len)(hsl:Sl w D A len (aI bs))(hb:∀ j,bs.getD j 0 < 256)(hlen:len<=2097152)(hlc:len<=c):
  Calls Tryz.prog 283 #[.slice A len c] w (nA w bs):=by
 by_cases h9:len < 9
 ·have hfin:nA w bs (.returned (.tuple #[Z 0,Z 10])) w:=rF 0 10 (by unfold jf;rw[if_pos J]) (.inl ⟨J,rfl⟩) (Keeps.refl _ _)
  have HF:=zh hfin;clear hfin hl hsl hb
  go_enter Tryz.func283,Tryz.ntmps283
  go_wp2_with fail;go_ret2;exact HF.out
 ·obtain ⟨b,off,hA,-,-⟩:=hsl J
  subst hA;have hs4:=zJ hsl 1 5 J;have hb4:=yx hb 1 5;have hl4:=pQ bs 1 5 J;have hn4:iG bs < 4294967296:=by
   have:=J7 (l:=(bs.take 5).drop 1) (fun x hx=>gV hb 5 x (List.mem_of_mem_drop hx));rw[hl4] at this
   exact this
  have h8:le (((bs.take 5).drop 1).take 8)=iG bs:=by rw[List.take_of_length_le J];rfl
  have herr:∀ er,jf bs=er->jf bs=er:=fun _ h=>h
  have hE:jf bs=if 1048576 < iG bs then 3 else if len < iG bs+9 then 10 else 0:=by unfold jf;rw[hl,if_neg h9]
  have HS:=zh (zN hs4 (zN hb4 (zN hl4 (zN hn4 (zN h8 hE)))));clear hs4 hb4 hl4 hn4 h8 herr hE hsl hb hl;have d9:decide ((len:Int) < 9)=false:=by simp;omega
  go_enter Tryz.func283,Tryz.ntmps283
  go_wp2_with fail;refine(zo _ _ _ _ _ ((bs.take 5).drop 1) HS.out.2.2.1 HS.out.1 HS.out.2.1 J).mono ?_;rintro e w1 ⟨rfl,hk1⟩;obtain⟨-,-,-,hn4,h8,hE⟩:=HS.out;rw[h8];obtain⟨n,hn⟩:∃ n,n=iG bs:=⟨_,rfl⟩
  rw[<-hn] at hn4 hE
  rw[<-hn]
  by_cases h1:1048576 < n
  ·have hfin:nA w bs (.returned (.tuple #[Z 0,Z 3])) w1:=rF 0 3 (by rw[hE,if_pos h1]) (.inl ⟨J,rfl⟩) hk1
   have HF:=zh hfin;clear hfin hk1 hn h8 hE d9;go_wp2_with fail;go_ret2;exact HF.out
  ·by_cases h2:len < n+9
   ·have hfin:nA w bs (.returned (.tuple #[Z 0,Z 10])) w1:=rF 0 10 (by rw[hE,if_neg h1,if_pos h2]) (.inl ⟨J,rfl⟩) hk1
    have HF:=zh hfin;have d3:decide ((len:Int)-9 < (n:Int))=true:=by simp;omega
    clear hfin hk1 hn h8 hE d9;go_wp2_with fail;go_ret2;exact HF.out
   ·have hfin:nA w bs (.returned (.tuple #[Z ((n:Int)+9),Z 0])) w1:=rF _ 0 (by rw[hE,if_neg h1,if_neg h2]) (.inr ⟨rfl,J⟩) hk1
    have HF:=zh hfin;have d3:decide ((len:Int)-9 < (n:Int))=false:=by simp;omega
    clear hfin hk1 hn h8 hE d9;go_wp2_with fail;go_ret2;exact HF.out
def sumOf(bs:List Nat): Nat:=le ((bs.take bs.length).drop (bs.length-4))
def iW(bs:List Nat): Int:=if sumOf bs=rP (bs.take (bs.length-4)) then 0 else 12
def lH(bs:List Nat): Nat:=if iW bs=0 then bs.getD 0 0 else 0
def j5(bs:List Nat): List Nat:=if iW bs=0 then (bs.take (bs.length-4)).drop 5 else []
def nD(w:World)(k:Nat)(l:List Nat)(er:Int)(e:Ending)(w':World): Prop:=
 ∃ A c,e=.returned (.tuple #[.int .u8 (k:Nat),.slice A l.length c,Z er])/\w'.ownsRow w.heap.size 5 1 (.slice A l.length c) l.length (l.map aR)/\Keeps (fun _=>False) w w'
theorem Fe(w:World)(base:Nat)(e:TypeId)(hb:base<=w.heap.size): (w.alloc (.cells #[] e)).ownsRow base e 1 (.slice (some ⟨w.heap.size,0,none⟩) 0 0) 0 []:=
 World.ownsRow_made w #[] 0 hb (by unfold maxLen;omega) rfl
theorem KD(w:World)(A:Option Addr)(len c:Nat)(D:Nat->Prop)(bs:List Nat)(hl:bs.length=len)(hsl:Sl w D A len (aI bs))(hb:∀ j,bs.getD j 0 < 256)(h9:9<=len)(hlen:len<=2097152)(hlc:len<=c):
  Calls Tryz.prog 284 #[.slice A len c] w (nD w (lH bs) (j5 bs) (iW bs)):=by
 obtain⟨b,off,hA,-,hcell⟩:=hsl J;subst hA;obtain⟨m,hm⟩:∃ m,m=len-4:=⟨_,rfl⟩
 have hs1:=zJ hsl m len (Nat.le_refl _);have hs2:=zJ hsl 0 m J;have hs3:=zJ hsl 5 m J;have hb1:=yx hb m len;have hb2:=yx hb 0 m;have hl1:=pQ bs m len J;have hl2:=pQ bs 0 m J;have hl3:=pQ bs 5 m J;rw[Nat.sub_zero] at hs2 hl2
 rw[Nat.add_zero] at hs2
 have h8:le (((bs.take len).drop m).take 8)=sumOf bs:=by rw[List.take_of_length_le J,hm,<-hl];rfl
 have hcr:rP ((bs.take m).drop 0)=rP (bs.take (bs.length-4)):=by rw[List.drop_zero,hm,hl]
 have hsu:sumOf bs < 4294967296:=by
  have:=J7 (l:=(bs.take len).drop m) (fun x hx=>gV hb len x (List.mem_of_mem_drop hx));rw[hl1,show len-m=4 by omega,List.take_of_length_le J] at this
  unfold sumOf;rw[hl,<-hm,List.take_of_length_le J];exact this
 have hI:(bs.take (bs.length-4)).drop 5=(bs.take m).drop 5:=by rw[hl,hm]
 have c0:w.cell? ⟨b,off,none⟩=some (.int .u8 (bs.getD 0 0:Nat)):=hcell 0 J;have hcu:=Am (gV hb (bs.length-4));have HS:=zh (zN hs1 (zN hs2 (zN hs3 (zN hb1 (zN hb2 (zN hl1 (zN hl2 (zN hl3 (zN h8 (zN hcr (zN hsu (zN hI hcu))))))))))));have HM:=zh hm;clear hs1 hs2 hs3 hb1 hb2 hl1 hl2 hl3 h8 hcr hsu hI hcu hcell hsl hb hl;have e4:(len:Int)-4=(m:Int):=J;have hm5:5<=m:=J;have hml:m < len:=J;clear hm;have i1:(0:Int)<=(m:Int):=J;have i2:(m:Int)<=(len:Int):=J;have i3:(m:Int).toNat=m:=J;have i4:(5:Int)<=(m:Int):=J;have hmc:m<=c:=J;have hmc2:m < c:=J;have hmc3:¬ c=m:=J;have hmc4:¬ c=5:=J;have hl0:0 < len:=J
 go_enter Tryz.func284,Tryz.ntmps284
 go_wp2_with fail;clear e4;obtain⟨hs1,hs2,hs3,hb1,hb2,hl1,hl2,hl3,h8,hcr,hsu,hI,hcu⟩:=HS.out;obtain⟨su,hsu'⟩:∃ su,su=sumOf bs:=⟨_,rfl⟩
 obtain⟨cr,hcr'⟩:∃ cr,cr=rP (bs.take (bs.length-4)):=⟨_,rfl⟩
 obtain⟨k0,hk0⟩:∃ k0,k0=bs.getD 0 0:=⟨_,rfl⟩
 rw[<-hk0] at c0
 rw[<-hsu'] at h8 hsu
 rw[<-hcr'] at hcr hcu
 have hE:iW bs=if su=cr then 0 else 12:=by rw[hsu',hcr'];rfl
 have hK:lH bs=if iW bs=0 then k0 else 0:=by rw[hk0];rfl
 have HT:=zh (zN hs1 (zN hs2 (zN hs3 (zN h8 (zN hcr (zN hE hK))))));clear hs1 hs2 hs3 hb1 hb2 hl1 hl2 hl3 h8 hcr hI hE hK hsu' hcr' hk0;have C0:=zh c0;clear c0;have hS:(fun _:World=>True) (w.drew):=trivial;refine aA (fun _:World=>True) (by kernel_rfl) hS ?_;refine zB [0,1,2,5,6,7] ?_;iterate 6 (refine zv hS ?_;try simp only[zP])
 refine zE ?_;refine zC 3 fun K HK=>?_
 go_simp;refine(zo w.drew _ _ _ _ ((bs.take len).drop m) HS.out.2.2.2.2.2.1 (HT.out.1.keep (w':=w.drew) (fun _ _ _=>rfl)) HS.out.2.2.2.1 J).mono ?_;rintro e w1 ⟨rfl,hk1⟩;rw[HT.out.2.2.2.1];have hk1':Keeps (fun _=>False) w w1:=((Keeps.refl _ w).drew).trans' hk1;have H1:=zh hk1';clear hk1 hk1';go_wp2_with fail;refine HK.out.zt (fun _:World=>True) (fun _ h=>h) (trivial) ?_;clear HK hS;intro hS;try simp only[zP]
 have euw:IntKind.u32.wrap (su:Int)=(su:Int):=by rw[IntKind.wrap_u32'];omega
 refine zt 4 hS ?_;try simp only[zP]
 clear euw;refine zC 8 fun K HK=>?_
 go_simp;refine(Iw w1 _ _ _ _ ((bs.take m).drop 0) HS.out.2.2.2.2.2.2.1 (HT.out.2.1.keep (w':=w1) (fun q _ hq=>H1.out.block q hq (fun h=>h))) HS.out.2.2.2.2.1 J).mono ?_;rintro e w2 ⟨rfl,rfl⟩;rw[HT.out.2.2.2.2.1];go_wp2_with fail;refine HK.out.zt (fun _:World=>True) (fun _ h=>h) (trivial) ?_;clear HK hS;intro hS;try simp only[zP]
 refine zt 9 hS ?_;try simp only[zP]
 refine zD ?_;try simp only[zP]
 by_cases heq:su=cr
 ·have hE0:iW bs=0:=by rw[HT.out.2.2.2.2.2.1,if_pos heq]
  have hK0:lH bs=k0:=by rw[HT.out.2.2.2.2.2.2,hE0,if_pos rfl]
  have hI0:j5 bs=(bs.take m).drop 5:=by unfold j5;rw[hE0,if_pos rfl,HS.out.2.2.2.2.2.2.2.2.2.2.2.1]
  have HE:=zh (zN hE0 (zN hK0 hI0));clear hE0 hK0 hI0;subst heq;have d1:((su:Int) != (su:Int))=false:=by simp
  have d2:((su:Int) == (su:Int))=true:=by simp
  go_wp2_with fail;clear d1 d2;have c1:w1.cell? ⟨b,off,none⟩=some (.int .u8 (k0:Nat)):=by
   have hlt:=World.block_lt_of_cell? w _ C0.out;exact(World.cell?_of_block (w:=w) (H1.out.block b hlt (fun h=>h))).trans C0.out
  have hlt1:b < w1.heap.size:=World.block_lt_of_cell? w1 _ c1;have sof:∀ w',Keeps (fun _=>False) w1 w'->(fun w':World=>w'.cell? ⟨b,off,none⟩=some (.int .u8 (k0:Nat))) w':=fun w' hk=>(World.cell?_of_block (w:=w1) (hk.block b hlt1 (fun h=>h))).trans c1
  have HSo:=zh sof;clear sof c1 hlt1;have kd:Keeps (fun _=>False) w1 w1.drew:=(Keeps.refl _ w1).drew;have hS:(fun w':World=>w'.cell? ⟨b,off,none⟩=some (.int .u8 (k0:Nat))) (w1.drew):=HSo.out _ kd;refine aA (fun w':World=>w'.cell? ⟨b,off,none⟩=some (.int .u8 (k0:Nat))) (by kernel_rfl) hS ?_;refine zB [0,1,2,4,5,6] ?_;iterate 6 (refine zv hS ?_;try simp only[zP])
  refine zE ?_;refine zC 3 fun K HK=>?_
  go_simp;go_wp2_with fail;refine HK.out.zt (fun w':World=>w'.cell? ⟨b,off,none⟩=some (.int .u8 (k0:Nat))) (fun _ h=>h) (HSo.out _ (kd.alloc (.cells #[] 5))) ?_;clear HK hS;intro hS;try simp only[zP]
  refine zC 7 fun K HK=>?_
  refine nJ (f:=aI ((bs.take m).drop 5)) (D:=D) (base:=w.heap.size) (n:=0) (xs:=[]) byteElem rfl (.tmp 22) (.tmp 25) rfl rfl rfl ?hown ?hsl ?h1 ?h63 ?hby ?hbase ?_
  case hown=>exact Fe w1.drew w.heap.size 5 H1.out.size
  case hsl=>exact HT.out.2.2.1.keep (w':=w1.drew.alloc (.cells #[] 5)) (fun q _ hq=>((H1.out.drew).alloc (.cells #[] 5)).block q hq (fun h=>h))
  case h1=>intro j _;rfl
  case h63=>unfold maxLen;omega
  case hby=>omega
  case hbase=>have:=H1.out.size;simp;omega
  intro v3 w3 ho3 hg3 hx3;clear hx3;have hkk:Keeps (fun _=>False) w1 w3:=kY (w0:=w1) (kd.alloc (.cells #[] 5)) (Fe w1.drew w1.heap.size 5 (Nat.le_refl _)) hg3;have hkw:Keeps (fun _=>False) w w3:=H1.out.trans' hkk;have e3:[] ++ (List.range (0+(m-5))).map (aI ((bs.take m).drop 5))=(j5 bs).map aR:=by
   rw[HE.out.2.2,Nat.zero_add,jh HS.out.2.2.2.2.2.2.2.1];rfl
  have hlI:0+(m-5)=(j5 bs).length:=by rw[HE.out.2.2,HS.out.2.2.2.2.2.2.2.1];omega
  rw[Nat.zero_add] at e3
  rw[e3,hlI] at ho3
  obtain⟨A3,c3,hv3,-,-⟩:=aH ho3;subst hv3;have H3:=zh (zN ho3 (zN hkk hkw));clear ho3 hg3 hkk hkw e3 hlI;refine HK.out.zt (fun w':World=>w'.cell? ⟨b,off,none⟩=some (.int .u8 (k0:Nat))) (fun _ h=>h) (HSo.out _ H3.out.2.1) ?_;clear HK hS;intro hS;try simp only[zP]
  refine zB [8,9,10] ?_;iterate 3 (refine zv hS ?_;try simp only[zP])
  refine zE ?_;refine zD ?_;try simp only[zP]
  go_wp2_with fail
  go_ret3
  refine⟨A3,c3,?_,H3.out.1,H3.out.2.2⟩;rw[HE.out.1,HE.out.2.1];rfl
 ·have hE0:iW bs=12:=by rw[HT.out.2.2.2.2.2.1,if_neg heq]
  have hfin:nD w (lH bs) (j5 bs) (iW bs) (.returned (.tuple #[.int .u8 0,.slice none 0 0,Z 12])) w1:=by
   unfold lH j5;rw[hE0,if_neg J,if_neg J];exact⟨none,0,rfl,⟨rfl,.inl ⟨rfl,rfl⟩⟩,H1.out⟩
  have HF:=zh hfin;have d1:((su:Int) != (cr:Int))=true:=by simp;omega
  have d2:((su:Int) == (cr:Int))=false:=by simp;omega
  clear hE0 hfin heq;go_wp2_with fail
  go_ret3
  exact HF.out
end F
namespace F
open Go.RowKit
def jL(bs:List Nat): Int:=if jf bs=0 then (if vC bs=bs.length then iW bs else 11) else jf bs
def nT(bs:List Nat): Nat:=if jL bs=0 then lH bs else 0
def nS(bs:List Nat): List Nat:=if jL bs=0 then j5 bs else []
def xQ(w:World)(k:Nat)(l:List Nat)(n:Nat)(er:Int)(e:Ending)(w':World): Prop:=
 ∃ A c,e=.returned (.tuple #[.int .u8 (k:Nat),.slice A l.length c,Z (n:Nat),Z er])/\w'.ownsRow w.heap.size 5 1 (.slice A l.length c) l.length (l.map aR)/\Keeps (fun _=>False) w w'
theorem Mq{bs:List Nat}(h:jf bs=0): vC bs=iG bs+9/\iG bs<=1048576/\iG bs+9<=bs.length:=by
 unfold vC;rw[if_pos h];unfold jf at h
 split at h
 ·omega
 ·split at h
  ·omega
  ·split at h
   ·omega
   ·omega
theorem FP{bs:List Nat}(h:iW bs≠0): lH bs=0/\j5 bs=[]:=by unfold lH j5;rw[if_neg h,if_neg h];exact ⟨rfl,rfl⟩
theorem O8(w:World)(A:Option Addr)(len c:Nat)(D:Nat->Prop)(bs:List Nat)(hl:bs.length=len)(hsl:Sl w D A len (aI bs))(hb:∀ j,bs.getD j 0 < 256)(hlen:len<=2097152)(hlc:len<=c):
  Calls Tryz.prog 192 #[.slice A len c] w (nD w (nT bs) (nS bs) (jL bs)):=by
 have HS:=zh (zN hl (zN hsl hb));clear hl hsl hb
 go_enter Tryz.func192,Tryz.ntmps192
 go_wp2_with fail;refine(OW _ _ _ _ _ bs HS.out.1 HS.out.2.1 HS.out.2.2 hlen hlc).mono ?_;rintro e w1 ⟨rfl,hk1⟩
 by_cases hE:jf bs=0
 ·obtain ⟨g1,g2,g3⟩:=Mq hE
  rw[hE,g1];obtain⟨n,hn⟩:∃ n,n=iG bs+9:=⟨_,rfl⟩
  rw[<-hn] at g1 g3
  rw[<-hn];have hn9:9<=n:=J;have hnl:n<=len:=by have:=HS.out.1;omega
  by_cases heq:n=len
  ·have hoE:jL bs=iW bs:=by unfold jL;rw[if_pos hE,g1,HS.out.1,if_pos heq]
   have hoK:nT bs=lH bs:=by
    unfold nT;rw[hoE]
    by_cases h0:iW bs=0
    ·rw[if_pos h0]
    ·rw[if_neg h0,(FP h0).1]
   have hoI:nS bs=j5 bs:=by
    unfold nS;rw[hoE]
    by_cases h0:iW bs=0
    ·rw[if_pos h0]
    ·rw[if_neg h0,(FP h0).2]
   have HO:=zh (zN hoE (zN hoK hoI));have H1:=zh hk1;clear hoE hoK hoI hk1 hE g1 g2 g3 hn;subst heq;have d:((n:Int) != (n:Int))=false:=by simp
   go_wp2_with fail;clear d;refine(KD _ _ _ _ _ bs HS.out.1 (HS.out.2.1.keep (w':=w1) (fun q _ hq=>H1.out.block q hq (fun h=>h))) HS.out.2.2 hn9 hlen hlc).mono ?_;rintro e w2 ⟨A2,c2,rfl,ho2,hk2⟩;have hfin:nD w (nT bs) (nS bs) (jL bs) (.returned (.tuple #[.int .u8 (lH bs:Nat),.slice A2 (j5 bs).length c2,Z (iW bs)])) w2:=by
    rw[HO.out.1,HO.out.2.1,HO.out.2.2];exact⟨A2,c2,rfl,aN ho2 H1.out.size,H1.out.trans' hk2⟩
   have HF:=zh hfin;clear ho2 hk2 hfin;go_wp2_with fail
   go_ret3
   exact HF.out
  ·have hoE:jL bs=11:=by unfold jL;rw[if_pos hE,g1,HS.out.1,if_neg heq]
   have hfin:nD w (nT bs) (nS bs) (jL bs) (.returned (.tuple #[.int .u8 0,.slice none 0 0,Z 11])) w1:=by
    unfold nT nS;rw[hoE,if_neg J,if_neg J];exact⟨none,0,rfl,⟨rfl,.inl ⟨rfl,rfl⟩⟩,hk1⟩
   have HF:=zh hfin;clear hfin hoE hk1 hE g1 g2 g3 hn;have d:((n:Int) != (len:Int))=true:=by simp;omega
   go_wp2_with fail
   go_ret3
   exact HF.out
 ·have hoE:jL bs=jf bs:=by unfold jL;rw[if_neg hE]
  have hfin:nD w (nT bs) (nS bs) (jL bs) (.returned (.tuple #[.int .u8 0,.slice none 0 0,Z (jf bs)])) w1:=by
   unfold nT nS;rw[hoE,if_neg hE,if_neg hE];exact⟨none,0,rfl,⟨rfl,.inl ⟨rfl,rfl⟩⟩,hk1⟩
  have HF:=zh hfin;have d1:(jf bs != 0)=true:=by simp[hE]
  have d2:(jf bs == 0)=false:=by simp[hE]
  obtain⟨er,her⟩:∃ er,er=jf bs:=⟨_,rfl⟩
  rw[<-her] at d1 d2 HF
  rw[<-her];clear hfin hoE hk1 hE her;go_wp2_with fail
  go_ret3
  exact HF.out
end F
namespace F
theorem MZ(kind:Nat)(bs more:List Nat): (aZ kind bs ++ more).take 5=kind :: fT bs.length:=by
 unfold aZ iQ fT;simp
theorem F3(kind:Nat)(bs more:List Nat)(h:bs.length < 4294967296): iG (aZ kind bs ++ more)=bs.length:=by
 unfold iG;rw[MZ];exact Hz _ h
theorem Ml(kind:Nat)(bs more:List Nat)(h:bs.length<=1048576): jf (aZ kind bs ++ more)=0/\vC (aZ kind bs ++ more)=bs.length+9:=by
 have hn:=F3 kind bs more J;have hl:(aZ kind bs ++ more).length=bs.length+9+more.length:=by rw[List.length_append,bT]
 have h1:jf (aZ kind bs ++ more)=0:=by
  unfold jf;rw[hn,hl,if_neg J,if_neg J,if_neg J]
 refine⟨h1,?_⟩;unfold vC;rw[if_pos h1,hn]
theorem Cr(kind:Nat)(bs:List Nat): (aZ kind bs).take ((aZ kind bs).length-4)=iQ kind bs:=by
 have:(aZ kind bs).length-4=(iQ kind bs).length:=by rw[bT,mH];omega
 rw[this];unfold aZ;exact List.take_left
theorem MV(kind:Nat)(bs:List Nat): (aZ kind bs).drop ((aZ kind bs).length-4)=fT (rP (iQ kind bs)):=by
 have:(aZ kind bs).length-4=(iQ kind bs).length:=by rw[bT,mH];omega
 rw[this];unfold aZ;exact List.drop_left
theorem Nf{kind:Nat}{bs:List Nat}(hk:kind < 256)(hb:∀ j,bs.getD j 0 < 256): iW (aZ kind bs)=0/\lH (aZ kind bs)=kind/\j5 (aZ kind bs)=bs:=by
 have h1:iW (aZ kind bs)=0:=by
  unfold iW sumOf;rw[List.take_length,MV,Cr,Hz _ (Am (oW hk hb)),if_pos rfl]
 refine⟨h1,?_,?_⟩
 ·unfold lH
  rw[if_pos h1];rfl
 ·unfold j5
  rw[if_pos h1,Cr];rfl
theorem MF{kind:Nat}{bs:List Nat}(hk:kind < 256)(hb:∀ j,bs.getD j 0 < 256)(h:bs.length<=1048576): jL (aZ kind bs)=0/\nT (aZ kind bs)=kind/\nS (aZ kind bs)=bs:=by
 obtain⟨g1,g2⟩:=Ml kind bs [] h;rw[List.append_nil] at g1 g2
 obtain⟨w1,w2,w3⟩:=Nf hk hb;have h1:jL (aZ kind bs)=0:=by
  unfold jL;rw[if_pos g1,g2,bT,if_pos rfl,w1]
 refine⟨h1,?_,?_⟩
 ·unfold nT;rw[if_pos h1,w2]
 ·unfold nS;rw[if_pos h1,w3]
end F
namespace F
end F
namespace D
open Go.RowKit
end D
namespace D
open Go.RowKit
end D
namespace D
open Go.RowKit
def Dp(w:World)(r:Nat)(D:Nat->Prop)(bs:List Nat)(en:Nat)(m:Nat × Int × Nat)(e:Ending)(w':World): Prop:=
 e=.returned (.tuple #[Z (m.1:Nat),Z m.2.1])/\Rd w' r D bs m.2.2 en/\Keeps (fun k=>k=r) w w'
end D
namespace D
open Go.RowKit
def TK(n:Int): Value:=Z n
def bI(n:Int): Prop:=-9223372036854775808<=n/\n<=9223372036854775807
end D
namespace D
open Go.RowKit
structure RB(w wr:World)(r:Nat)(D:Nat->Prop)(bs:List Nat)(en x:Nat)(out:List Int)(step:Int)(p:Nat)(v:Value): Prop where
 rd:Rd wr r D bs p en
 br:ay wr x 526 #[.pointer (some ⟨r,0,none⟩)]
 bo:ay wr (x+1) 62 #[v]
 bs:ay wr (x+2) 3 #[Z step]
 row:wr.ownsRow (x+3) 3 1 v out.length (out.map TK)
 keep:Keeps (fun _=>False) w wr
 ints:∀ j,bI (out.getD j 0)
 st:bI step
 old:w.heap.size<=r/\r < x
 dlt:∀ k,D k->k < x
theorem RB.next{w wr w':World}{r:Nat}{D:Nat->Prop}{bs:List Nat}{en x:Nat}{out:List Int}{step:Int}{p:Nat}{v:Value}{s':Int}{p':Nat}(h:RB w wr r D bs en x out step p v)(hr:Rd w' r D bs p' en)(hs:ay w' (x+2) 3 #[Z s'])(hk:Keeps (fun k=>k=r\/k=x+2) wr w')(hs':bI s'): RB w w' r D bs en x out s' p' v:=by
 obtain⟨h1,h2,h3,h4,h5,h6,h7,h8,h9,h10⟩:=h;refine⟨hr,h2.keeps hk J,h3.keeps hk J,hs,aG h5 hk (fun g hg=>?_),h6.trans hk (fun y hy e=>J),h7,hs',h9,h10⟩;have:=(h5.lt g hg).1;omega
end D
section
theorem Ed(bs:List Nat)(p n j:Nat)(h:j < n): gets bs p n / 2 ^ (n-1-j)%2=lC bs (p+j):=by
 induction n with
 | zero=>omega
 | succ n ih=>
  have hb:=NG bs (p+n);rcases Nat.lt_or_ge j n with hj | hj
  ·rw[show n+1-1-j=(n-1-j)+1 by omega,Nat.pow_succ,Nat.mul_comm,<-Nat.div_div_eq_div_mul,gets]
   rw[show (2*gets bs p n+lC bs (p+n)) / 2=gets bs p n by omega];exact ih hj
  ·obtain rfl:j=n:=J
   rw[show j+1-1-j=0 by omega,gets];simp only[Nat.pow_zero,Nat.div_one];omega
theorem NJ{x y:Nat}(hx:x < 256)(hy:y < 256)(h:∀ r,r < 8->x / 2 ^ (7-r)%2=y / 2 ^ (7-r)%2): x=y:=by
 have h0:=h 0 J;have h1:=h 1 J;have h2:=h 2 J;have h3:=h 3 J;have h4:=h 4 J;have h5:=h 5 J;have h6:=h 6 J;have h7:=h 7 J;simp at h0 h1 h2 h3 h4 h5 h6 h7
 omega
theorem Lb{a b:List Nat}(hl:a.length=b.length)(ha:∀ j,a.getD j 0 < 256)(hb:∀ j,b.getD j 0 < 256)(h:∀ i,i < 8*a.length->lC a i=lC b i): a=b:=by
 apply List.ext_getElem hl;intro i h1 h2;have e:a.getD i 0=b.getD i 0:=by
  refine NJ (ha i) (hb i) fun r hr=>?_
  have:=h (8*i+r) J;unfold lC at this
  rw[show (8*i+r) / 8=i by omega,show (8*i+r)%8=r by omega] at this
  exact this
 rw[List.getD_eq_getElem?_getD,List.getD_eq_getElem?_getD,List.getElem?_eq_getElem h1,List.getElem?_eq_getElem h2] at e
 exact e
structure Begins(bs L:List Nat): Prop where
 le:L.length<=8*bs.length
 eq:∀ i,i < L.length->lC bs i=L.getD i 0
namespace Begins
variable {bs L M:List Nat} {n v:Nat}
theorem nil(bs:List Nat): Begins bs []:=⟨Nat.zero_le _,fun i h=>absurd h (by simp)⟩
theorem put(h:Begins bs L)(hn:L.length+n<=8*bs.length)(hv:gets bs L.length n=v): Begins bs (L ++ fU v n n):=by
 refine⟨by rw[List.length_append,dH];exact hn,fun i hi=>?_⟩;rw[List.length_append,dH] at hi
 rcases Nat.lt_or_ge i L.length with hl | hl
 ·rw[qA _ _ _ hl];exact h.eq i hl
 ·obtain ⟨j,rfl⟩:∃ j,i=L.length+j:=⟨i-L.length,J⟩
  rw[kV,wP _ _ _ _ J,<-hv,Ed _ _ _ _ J]
theorem pre(h:Begins bs (L ++ M)): Begins bs L:=by
 refine⟨by have:=h.le;rw[List.length_append] at this;omega,fun i hi=>?_⟩;rw[h.eq i (by rw[List.length_append];omega),qA _ _ _ hi]
theorem get(h:Begins bs (L ++ fU v n n))(hv:v < 2 ^ n): gets bs L.length n=v:=by
 have:=Ja (bs:=bs) (p:=L.length) (u:=v) (n:=n) (fun j hj=>by
  rw[h.eq _ (by rw[List.length_append,dH];omega),kV,wP _ _ _ _ hj]) n (Nat.le_refl _)
 rw[this];simp[Nat.mod_eq_of_lt hv]
theorem room(h:Begins bs (L ++ M)): L.length+M.length<=8*bs.length:=by have:=h.le;rw[List.length_append] at this;exact this
theorem bit(h:Begins bs (L ++ M))(j:Nat)(hj:j < M.length): lC bs (L.length+j)=M.getD j 0:=by
 rw[h.eq _ (by rw[List.length_append];omega),kV]
theorem pack{L:List Nat}(h:∀ j,L.getD j 0 < 2): Begins (pack L) L:=
 ⟨by rw[iA];omega,fun i _=>yK h i⟩
theorem all(h:Begins bs L)(hb:∀ j,bs.getD j 0 < 256)(hL:∀ j,L.getD j 0 < 2)(hend:8*bs.length < L.length+8)(h0:gets bs L.length (8*bs.length-L.length)=0): bs=Go.Proofs.YtmffkpkgbdcnjaaGreatDoor.pack L:=by
 have hle:=h.le;refine Lb (by rw[iA];omega) hb (fun j=>by rw[oC];exact rz hL j) fun i hi=>?_
 rw[yK hL];rcases Nat.lt_or_ge i L.length with hl | hl
 ·exact h.eq i hl
 ·obtain ⟨j,rfl⟩:∃ j,i=L.length+j:=⟨i-L.length,J⟩
  rw[<-Ed bs L.length (8*bs.length-L.length) j J,h0,kK L _ J];simp
end Begins
end
namespace D
def upTo(f:Nat->Int)(k:Nat): List Int:=(List.range k).map f
theorem xL(f:Nat->Int)(k:Nat): (upTo f k).length=k:=by simp[upTo]
theorem Cx(f:Nat->Int)(k:Nat): upTo f (k+1)=upTo f k ++ [f k]:=by simp[upTo,List.range_succ]
end D
namespace D
open Go.RowKit
end D
namespace D
open Go.RowKit
end D
namespace X
open Go.RowKit
def wl(o:Option (Nat × Nat)): Int:=match o with
 | none=>-1
 | some p=>(p.1:Nat)
def wt(o:Option (Nat × Nat)): Int:=match o with
 | none=>-1
 | some p=>(p.2:Nat)
structure Tk(w wr:World)(t r:Nat)(D:Nat->Prop)(bs:List Nat)(en:Nat)(o:Option (Nat × Nat))(e:Int)(p:Nat): Prop where
 rd:Rd wr r D bs p en
 blk:ay wr t 536 #[.pointer (some ⟨r,0,none⟩),Z (wl o),Z (wt o),Z e]
 keep:Keeps (fun k=>k=r\/k=t) w wr
 ne:r≠t
 nd:¬ D t
namespace Tk
variable {w wr w':World} {t r:Nat} {D:Nat->Prop} {bs:List Nat} {en:Nat} {o:Option (Nat × Nat)} {e:Int} {p:Nat}
theorem below(h:Tk w wr t r D bs en o e p)(hb:Below wr.heap.size wr w'): Tk w w' t r D bs en o e p:=
 ⟨h.rd.below hb,h.blk.below hb h.blk.lt,h.keep.trans' (Keeps.of_below hb),h.ne,h.nd⟩
theorem drew(h:Tk w wr t r D bs en o e p): Tk w wr.drew t r D bs en o e p:=⟨h.rd.drewN 1,h.blk.drew,h.keep.drew,h.ne,h.nd⟩
theorem drewN(h:Tk w wr t r D bs en o e p)(k:Nat): Tk w (wr.drewN k) t r D bs en o e p:=⟨h.rd.drewN k,h.blk.drewN k,h.keep.drewN k,h.ne,h.nd⟩
theorem c0(h:Tk w wr t r D bs en o e p): wr.cell? ⟨t,0,none⟩=some (.pointer (some ⟨r,0,none⟩)):=by simpa using h.blk.cell 0
theorem c1(h:Tk w wr t r D bs en o e p): wr.cell? ⟨t,1,none⟩=some (Z (wl o)):=by simpa using h.blk.cell 1
theorem c2(h:Tk w wr t r D bs en o e p): wr.cell? ⟨t,2,none⟩=some (Z (wt o)):=by simpa using h.blk.cell 2
theorem c3(h:Tk w wr t r D bs en o e p): wr.cell? ⟨t,3,none⟩=some (Z e):=by simpa using h.blk.cell 3
theorem on{o':Option (Nat × Nat)}{e':Int}{p':Nat}(h:Tk w wr t r D bs en o e p)(h':Tk wr w' t r D bs en o' e' p'): Tk w w' t r D bs en o' e' p':=⟨h'.rd,h'.blk,h.keep.trans' h'.keep,h'.ne,h'.nd⟩
theorem read(h:Tk w wr t r D bs en o e p){p':Nat}(hr:Rd w' r D bs p' en)(hk:Keeps (fun k=>k=r) wr w'): Tk w w' t r D bs en o e p':=
 ⟨hr,h.blk.keeps hk (fun e=>h.ne e.symm),h.keep.trans hk (fun k _ e=>.inl e),h.ne,h.nd⟩
end Tk
end X
namespace X
open Go.RowKit
def TM(bs:List Nat)(en:Nat)(o:Option (Nat × Nat))(l m q:Nat): Option (Nat × Option (Nat × Nat) × Nat):=
 if l+m<=64 then
  if q+m<=en then
   if gets bs q m*2 ^ (64-l-m)≠0/\lead (gets bs q m*2 ^ (64-l-m))=l/\trail (gets bs q m*2 ^ (64-l-m))=64-l-m/\fits o (gets bs q m*2 ^ (64-l-m))=false
    then some (gets bs q m*2 ^ (64-l-m),some (l,64-l-m),q+m) else none
  else none
 else none
def newX(bs:List Nat)(en:Nat)(o:Option (Nat × Nat))(q:Nat): Option (Nat × Option (Nat × Nat) × Nat):=
 if q+6<=en then (if q+6+6<=en then TM bs en o (gets bs q 6) (gets bs (q+6) 6+1) (q+6+6) else none) else none
end X
section
open Go.RowKit
section
variable {P:Program} {w:World} {t e ty:TypeId} {z:Value} {bytes base n m c cap g:Nat} {xs:List Value} {D:Nat->Prop} {ad:Addr} {f:Nat->Value}
end
end
namespace X
open Go.RowKit
end X
namespace X
open Go.RowKit
def TJ(bs:List Nat)(en p:Nat): Prop:=en-p < 8/\gets bs p (en-p)=0
instance (bs:List Nat) (en p:Nat):Decidable (TJ bs en p):=inferInstanceAs (Decidable (_/\_))
theorem Tk.app{w wr w':World}{t r:Nat}{D:Nat->Prop}{bs:List Nat}{en:Nat}{o:Option (Nat × Nat)}{e:Int}{p:Nat}{S:Nat->Prop}(h:Tk w wr t r D bs en o e p)(hk:Keeps S wr w')(hS:∀ g,S g->t+1<=g)(hr:r < t)(hD:∀ k,D k->k < t)(hw:w.heap.size<=t+1): Tk w w' t r D bs en o e p:=
 ⟨h.rd.keeps hk (fun h=>by have:=hS _ h;omega) (fun k hk h=>by have:=hS _ h;have:=hD k hk;omega),h.blk.keeps hk (fun h=>by have:=hS _ h;omega),h.keep.trans hk (fun k hk h=>by have:=hS _ h;omega),h.ne,h.nd⟩
end X
namespace X
end X
namespace X
open Go.RowKit
end X
namespace X
open Go.RowKit
end X
section
open Go.RowKit
theorem KC(t ms:List Nat)(most:Int)(ht:(t.length:Int)<=most)(hn:t.length < 18446744073709551616): V.pU (V.aF t.length ++ t ++ ms) most=(t,(V.aF t.length).length+t.length,0):=by
 unfold V.pU;rw[List.append_assoc,V.iC t.length (t ++ ms) hn];rw[if_neg (by simp),if_neg (by simp;omega),if_neg (by simp)];simp
def RS(I:List Nat): Nat->Nat
 | 0=>(V.aJ I).2.1
 | j+1=>RS I j+(V.pU (I.drop (RS I j)) 1048576).2.1
def uS(I:List Nat)(j:Nat): List Nat:=(V.pU (I.drop (RS I j)) 1048576).1
theorem xW(w:World)(e:TypeId)(s:ByteArray): Keeps (fun _=>False) w (Lib.bytesWorld w e s):=
 ⟨rfl,rfl,rfl,by rw[Lib.bytesWorld_size];omega,fun k hk _=>Lib.bytesWorld_at_old w e s k hk⟩
theorem CF(w:World)(e:TypeId){p:List Nat}(hp:∀ j,p.getD j 0 < 256): Sl (Lib.bytesWorld w e (ji p)) (fun k=>k=w.heap.size) (some ⟨w.heap.size,0,none⟩) p.length (aI p):=fun _=>by
 refine⟨w.heap.size,0,rfl,rfl,fun j hj=>?_⟩;have h:=Lib.bytesWorld_cell w e (ji p) j (by rw[Cu];exact hj);rw[Nat.zero_add,h];unfold aI ji;have hpj:=hp j;simp[List.getD_eq_getElem?_getD,hj] at hpj ⊢
 omega
def yD(w:World)(y:Nat)(v:Value)(p:List Nat): Prop:=∃ A c,v=.slice A p.length c/\Sl w (fun k=>y < k) A p.length (aI p)
theorem yD.keeps{w w':World}{y:Nat}{v:Value}{p:List Nat}(h:yD w y v p)(hk:Keeps (fun k=>k=y) w w'): yD w' y v p:=by
 obtain⟨A,c,h1,h2⟩:=h;exact⟨A,c,h1,h2.keeps hk (fun k hk e=>J)⟩
theorem BM{w w':World}{y:Nat}(h:Keeps (fun _=>False) w w'): Keeps (fun k=>k=y) w w':=h.mono (fun _ _ h=>h.elim)
structure kW(w wr:World)(y:Nat)(pv:Fin 3->Value)(A:Option Addr)(I:List Nat)(j:Nat): Prop where
 blk:ay wr y 449 #[pv 0,pv 1,pv 2]
 inn:Sl wr (fun k=>y < k) A I.length (aI I)
 keep:Keeps (fun _=>False) w wr
 base:w.heap.size<=y
 part:∀ c:Fin 3,c.val < j->yD wr y (pv c) (uS I c.val)
 shp:∀ c,∃ A n c0,pv c=.slice A n c0
theorem kW.move{w wr w':World}{y j j':Nat}{pv pv':Fin 3->Value}{A:Option Addr}{I:List Nat}(h:kW w wr y pv A I j)(hk:Keeps (fun k=>k=y) wr w')(hb:ay w' y 449 #[pv' 0,pv' 1,pv' 2])(hp:∀ c:Fin 3,c.val < j'->yD w' y (pv' c) (uS I c.val))(hs:∀ c,∃ A n c0,pv' c=.slice A n c0): kW w w' y pv' A I j':=
 ⟨hb,h.inn.keeps hk (fun k hk e=>J),h.keep.trans hk (fun k hk e=>by have:=h.base;omega),h.base,hp,hs⟩
theorem kW.keeps{w wr w':World}{y j:Nat}{pv:Fin 3->Value}{A:Option Addr}{I:List Nat}(h:kW w wr y pv A I j)(hk:Keeps (fun _=>False) wr w'): kW w w' y pv A I j:=
 h.move (BM hk) (h.blk.keeps hk (fun h=>h)) (fun c hc=>(h.part c hc).keeps (BM hk)) h.shp
theorem kW.drew{w wr:World}{y j:Nat}{pv:Fin 3->Value}{A:Option Addr}{I:List Nat}(h:kW w wr y pv A I j): kW w wr.drew y pv A I j:=h.keeps ((Keeps.refl _ wr).drew)
theorem kW.same{w wr:World}{y j:Nat}{pv:Fin 3->Value}{A:Option Addr}{I:List Nat}(h:kW w wr y pv A I j)(i:Nat)(u:Value)(e:#[pv 0,pv 1,pv 2].setIfInBounds i u=#[pv 0,pv 1,pv 2]): kW w (wr.setCell ⟨y,i,none⟩ u) y pv A I j:=by
 have hk:Keeps (fun k=>k=y) wr (wr.setCell ⟨y,i,none⟩ u):=(Keeps.refl (fun k=>k=y) wr).setCell (p:=⟨y,i,none⟩) (fun _=>rfl) u;have hb:=h.blk.set i u;rw[e] at hb
 exact h.move hk hb (fun c hc=>(h.part c hc).keeps hk) h.shp
theorem kW.put{w wr:World}{y j:Nat}{pv:Fin 3->Value}{A:Option Addr}{I:List Nat}(h:kW w wr y pv A I j): kW w (setFrom wr y 0 [pv 0,pv 1,pv 2]) y pv A I j:=by
 have:=((h.same 0 (pv 0) rfl).same 1 (pv 1) rfl).same 2 (pv 2) rfl;exact this
theorem M9(pv:Fin 3->Value)(c:Fin 3)(u:Value): #[pv 0,pv 1,pv 2].setIfInBounds c.val u=#[upd pv c u 0,upd pv c u 1,upd pv c u 2]:=by
 match c with
 | 0=>rfl
 | 1=>rfl
 | 2=>rfl
theorem kW.storeAt{w wr W:World}{y:Nat}{pv:Fin 3->Value}{A:Option Addr}{I:List Nat}(c:Fin 3)(h:kW w wr y pv A I c.val)(hk0:Keeps (fun _=>False) wr W)(n k:Nat)(hn:n=(uS I c.val).length)(hs:Sl W (fun k=>k=wr.heap.size) (some ⟨wr.heap.size,0,none⟩) (uS I c.val).length (aI (uS I c.val))):
  kW w (W.setCell ⟨y,c.val,none⟩ (.slice (some ⟨wr.heap.size,0,none⟩) n k)) y (upd pv c (.slice (some ⟨wr.heap.size,0,none⟩) n k)) A I (c.val+1):=by
 subst hn;have h1:=h.keeps hk0;have hk:Keeps (fun k=>k=y) W (W.setCell ⟨y,c.val,none⟩ (.slice (some ⟨wr.heap.size,0,none⟩) (uS I c.val).length k)):=(Keeps.refl (fun k=>k=y) W).setCell (p:=⟨y,c.val,none⟩) (fun _=>rfl) _;have hylt:=h.blk.lt;have hbk:=h1.blk.set c.val (.slice (some ⟨wr.heap.size,0,none⟩) (uS I c.val).length k);rw[M9] at hbk
 refine h1.move hk hbk (fun d hd=>?_) (fun d=>?_)
 ·by_cases hdc:d=c
  ·subst hdc
   rw[upd_same];refine⟨_,k,rfl,?_⟩;have:=hs.keeps hk (fun k hk e=>J);exact this.mono (fun k hk=>J)
  ·rw[upd_ne _ _ hdc]
   exact(h1.part d (by have:d.val≠c.val:=fun e=>hdc (Fin.ext e);omega)).keeps hk
 ·by_cases hdc:d=c
  ·subst hdc
   rw[upd_same];exact⟨_,_,_,rfl⟩
  ·rw[upd_ne _ _ hdc];exact h.shp d
theorem kW.store{w wr:World}{y:Nat}{pv:Fin 3->Value}{A:Option Addr}{I:List Nat}(c:Fin 3)(h:kW w wr y pv A I c.val)(hb:∀ i,(uS I c.val).getD i 0 < 256)(k:Nat):
  kW w ((Lib.bytesWorld wr 5 (ji (uS I c.val))).setCell ⟨y,c.val,none⟩ (.slice (some ⟨wr.heap.size,0,none⟩) (ji (uS I c.val)).size k)) y (upd pv c (.slice (some ⟨wr.heap.size,0,none⟩) (ji (uS I c.val)).size k)) A I (c.val+1):=
 h.storeAt c (xW wr 5 _) _ k (Cu _) (CF wr 5 hb)
def IG(w:World)(xt xv xs n:Nat)(t:Nat->Int)(v:Nat->Nat)(s:Nat->Int): Prop:=
 0 < n->∃ bt ot ct bv ov cv bs os_ cs,w.cell? ⟨xt,0,none⟩=some (.slice (some ⟨bt,ot,none⟩) n ct)/\w.cell? ⟨xv,0,none⟩=some (.slice (some ⟨bv,ov,none⟩) n cv)/\w.cell? ⟨xs,0,none⟩=some (.slice (some ⟨bs,os_,none⟩) n cs)/\
  ∀ j,j < n->w.cell? ⟨bt,ot+j,none⟩=some (Z (t j))/\w.cell? ⟨bv,ov+j,none⟩=some (.int .u64 (v j:Nat))/\w.cell? ⟨bs,os_+j,none⟩=some (Z (s j))
theorem nI{w w':World}{a:Addr}{u:Value}(hb:Below w.heap.size w w')(h:w.cell? a=some u): w'.cell? a=some u:=(World.cell?_of_block (w:=w) (a:=a) (hb.block a.block (World.block_lt_of_cell? w _ h))).trans h
theorem IG.below{w w':World}{xt xv xs n:Nat}{t:Nat->Int}{v:Nat->Nat}{s:Nat->Int}(h:IG w xt xv xs n t v s)(hb:Below w.heap.size w w'): IG w' xt xv xs n t v s:=fun hn=>by
 obtain⟨bt,ot,ct,bv,ov,cv,bs,os_,cs,h1,h2,h3,h4⟩:=h hn;exact⟨bt,ot,ct,bv,ov,cv,bs,os_,cs,nI hb h1,nI hb h2,nI hb h3,fun j hj=>⟨nI hb (h4 j hj).1,nI hb (h4 j hj).2.1,nI hb (h4 j hj).2.2⟩⟩
structure uO(wr:World)(g n k:Nat)(f:Nat->Pt): Prop where
 blk:∃ cur,ay wr g 149 cur/\cur.size=n*3/\∀ j,j < k->cur[j*3]? = some (Z (f j).t)/\cur[j*3+1]? = some (Z (f j).v)/\cur[j*3+2]? = some (Z (f j).s)
theorem uO.below{w w':World}{g n k:Nat}{f:Nat->Pt}(h:uO w g n k f)(hb:Below w.heap.size w w'): uO w' g n k f:=by
 obtain⟨cur,h1,h2,h3⟩:=h.blk;exact⟨cur,h1.below hb h1.lt,h2,h3⟩
theorem uO.put{w:World}{g n k:Nat}{f:Nat->Pt}{p:Pt}(h:uO w g n k f)(hk:k < n)(hp:f k=p): uO (((w.setCell ⟨g,k*3,none⟩ (Z p.t)).setCell ⟨g,k*3+1,none⟩ (Z p.v)).setCell ⟨g,k*3+2,none⟩ (Z p.s)) g n (k+1) f:=by
 obtain⟨cur,h1,h2,h3⟩:=h.blk;refine⟨_,((h1.set (k*3) _).set (k*3+1) _).set (k*3+2) _,by simp[h2],fun j hj=>?_⟩;simp only[Array.getElem?_setIfInBounds,Array.size_setIfInBounds,h2];rcases Nat.lt_or_ge j k with h4 | h4
 ·rw[if_neg J,if_neg J,if_neg J,if_neg J,if_neg J,if_neg J,if_neg J,if_neg J,if_neg J]
  exact h3 j h4
 ·obtain rfl:j=k:=J
  rw[if_neg J,if_neg J,if_pos rfl,if_pos J,if_neg J,if_pos rfl,if_pos J,if_pos rfl,if_pos J,hp];exact⟨rfl,rfl,rfl⟩
end
section
open Go.RowKit Go.Maps
structure gT(D:DataW Value)(s:ByteArray->Option Value)(c:Nat): Prop where
 im:IsMap D
 ti:Tidy D
 has:∀ x,Maps.has D (fV x)=(s x).isSome
 val:∀ x v,s x=some v->∀ z,D.atKey (fV x) z=.held v
 sz:Maps.size D<=c
def aV{α:Type}(s:ByteArray->Option α)(x:ByteArray)(v:α): ByteArray->Option α:=fun y=>if y=x then some v else s y
def fQ{α:Type}(s:ByteArray->Option α)(x:ByteArray): ByteArray->Option α:=fun y=>if y=x then none else s y
theorem gT.nil: gT (.map []) (fun _=>none) 0:=⟨isMap_empty,tidy_empty,fun _=>rfl,(fun _ _ h=>by cases h),Nat.le_refl _⟩
theorem gT.put{D:DataW Value}{s:ByteArray->Option Value}{c:Nat}(h:gT D s c)(x:ByteArray)(v:Value): gT (D.put (fV x) (.held v)) (aV s x v) (c+1):=by
 refine⟨h.im.put _ _,h.ti.put (sI x) _,fun y=>?_,fun y u hu z=>?_,?_⟩
 ·unfold aV
  by_cases e:y=x
  ·subst e
   rw[if_pos rfl,has_put_same h.im (sI y)];rfl
  ·rw[if_neg e,has_put_other (fun he=>e (wF he)),h.has]
 ·unfold aV at hu
  by_cases e:y=x
  ·subst e
   rw[if_pos rfl] at hu
   injection hu with hu
   subst hu;exact atKey_put_same h.im (sI y) _ _
  ·rw[if_neg e] at hu
   rw[atKey_put_other (fun he=>e (wF he))];exact h.val y u hu z
 ·rw[size_put h.ti]
  have:=h.sz
  split<;>omega
theorem gT.del{D:DataW Value}{s:ByteArray->Option Value}{c:Nat}(h:gT D s c)(x:ByteArray): gT (D.del (fV x)) (fQ s x) c:=by
 refine⟨h.im.del _,h.ti.del _,fun y=>?_,fun y u hu z=>?_,?_⟩
 ·unfold fQ
  by_cases e:y=x
  ·subst e
   rw[if_pos rfl,has_del_same];rfl
  ·rw[if_neg e,has_del_other (fun he=>e (wF he)),h.has]
 ·unfold fQ at hu
  by_cases e:y=x
  ·rw[if_pos e] at hu;cases hu
  ·rw[if_neg e] at hu
   rw[atKey_del_other (fun he=>e (wF he))];exact h.val y u hu z
 ·have h1:=size_del (D:=D) (k:=fV x) h.ti
  have:=h.sz;omega
theorem gT.none{D:DataW Value}{s:ByteArray->Option Value}{c:Nat}(h:gT D s c){x:ByteArray}(hx:s x=none)(z:DataW Value): D.atKey (fV x) z=z:=
 atKey_of_not_has (by rw[h.has,hx];rfl) z
structure FS where
 blk: Nat
 v:Value
 bs:List Nat
 lasts:Nat
 syn:Bool
def yV(a:FS): Value:=.pointer (some ⟨a.blk,0,none⟩)
def dG(p:ByteArray->Option FS): ByteArray->Option Value:=fun s=>(p s).map yV
structure aS(w:World)(d M:Nat)(p:ByteArray->Option FS)(room:Nat)(used:Int)(ops c:Nat): Prop where
 blk:ay w d 71 #[.map (some M),Z (room:Nat),Z used,Z (-1),Z (ops:Nat)]
 map:∃ n D,w.ownsMap Tryz.prog 9 eO M n D/\n<=c/\gT D (dG p) c
 fil:∀ s a,p s=some a->ay w a.blk 114 #[a.v,Z (a.lasts:Nat),.bool a.syn]/\w.ownsRow 0 5 1 a.v a.bs.length (a.bs.map V.aR)
 dis:∀ s t a b,s≠t->p s=some a->p t=some b->a.blk≠b.blk/\∀ g,a.v.ownBlock=some g->b.v.ownBlock≠some g
def aM(d M:Nat)(p:ByteArray->Option FS)(q:Nat): Prop:=q=d\/q=M\/∃ s a,p s=some a/\(q=a.blk\/a.v.ownBlock=some q)
theorem aS.keep{S:Nat->Prop}{w w':World}{d M:Nat}{p:ByteArray->Option FS}{room:Nat}{used:Int}{ops c:Nat}(h:aS w d M p room used ops c)(hk:Keeps S w w')(hS:∀ q,aM d M p q->¬ S q): aS w' d M p room used ops c:=by
 refine⟨h.blk.keeps hk (hS _ (.inl rfl)),?_,fun s a hs=>⟨(h.fil s a hs).1.keeps hk (hS _ (.inr (.inr ⟨s,a,hs,.inl rfl⟩))),aG (h.fil s a hs).2 hk (fun g hg=>hS _ (.inr (.inr ⟨s,a,hs,.inr hg⟩)))⟩,h.dis⟩;obtain⟨n,D,h1,h2,h3⟩:=h.map;have hM:w'.heap[M]? = w.heap[M]?:=hk.block M (World.ownsMap.lt h1) (hS _ (.inr (.inl rfl)));obtain⟨es,clock,e1,e2⟩:=h1;exact⟨n,D,⟨es,clock,by rw[hM];exact e1,e2⟩,h2,h3⟩
theorem aS.call{w w':World}{d M:Nat}{p:ByteArray->Option FS}{room:Nat}{used:Int}{ops c:Nat}(h:aS w d M p room used ops c)(hb:Below w.heap.size w w'): aS w' d M p room used ops c:=
 h.keep (S:=fun _=>False) (Keeps.of_below hb) (fun _ _ h=>h)
theorem aS.dY{w:World}{d M:Nat}{p:ByteArray->Option FS}{room:Nat}{used:Int}{ops c q:Nat}(h:aS w d M p room used ops c)(hq:aM d M p q): q < w.heap.size:=by
 rcases hq with rfl | rfl | ⟨s,a,hs,rfl | hg⟩
 ·exact h.blk.lt
 ·obtain ⟨n,D,h1,-⟩:=h.map
  exact World.ownsMap.lt h1
 ·exact (h.fil s a hs).1.lt
 ·exact ((h.fil s a hs).2.lt q hg).2
structure DStep(w w':World)(d M:Nat)(p p':ByteArray->Option FS): Prop where
 keep:Keeps (aM d M p) w w'
 far:∀ q,q < w.heap.size->aM d M p' q->aM d M p q
theorem DStep.trans{w w1 w2:World}{d M:Nat}{p p1 p2:ByteArray->Option FS}(h:DStep w w1 d M p p1)(k:DStep w1 w2 d M p1 p2): DStep w w2 d M p p2:=
 ⟨h.keep.trans k.keep (fun q hq hf=>h.far q hq hf),fun q hq hf=>h.far q hq (k.far q (Nat.lt_of_lt_of_le hq h.keep.size) hf)⟩
theorem DStep.below{w w1 w2:World}{d M:Nat}{p p1:ByteArray->Option FS}(h:DStep w w1 d M p p1)(k:Below w1.heap.size w1 w2): DStep w w2 d M p p1:=
 ⟨h.keep.trans' (Keeps.of_below k),h.far⟩
theorem DStep.of_below{w w1:World}{d M:Nat}{p:ByteArray->Option FS}(k:Below w.heap.size w w1): DStep w w1 d M p p:=⟨Keeps.of_below k,fun _ _ h=>h⟩
theorem BS(a:Addr)(w:World): (binOp .eql 23 (.pointer (some a)) (.pointer none)).run Tryz.prog w=.ok (.bool false) w:=by kernel_rfl
theorem LY(M:Nat)(w:World): (binOp .eql 69 (.map (some M)) (.map none)).run Tryz.prog w=.ok (.bool false) w:=by kernel_rfl
theorem oo(w:World)(d M:Nat)(hc:w.cell? ⟨d,0,none⟩=some (.map (some M))): Calls Tryz.prog 53 #[.pointer (some ⟨d,0,none⟩)] w fun e w'=>e=.returned (.bool false)/\Below w.heap.size w w':=by
 have q2:=fun y=>BS ⟨y,0,none⟩
 have q3:=LY
 go_enter Tryz.func53,Tryz.ntmps53
 go_wp2_with fail;go_ret;exact⟨rfl,Below.refl _ _⟩
theorem Oz(w:World)(room:Nat)(hr:room<=1073741824): Calls Tryz.prog 7 #[Z (room:Nat)] w fun e w'=>∃ d M,e=.returned (.tuple #[.pointer (some ⟨d,0,none⟩),Z 0])/\w.heap.size<=M/\w.heap.size<=d/\aS w' d M (fun _=>none) room 0 0 0/\Below w.heap.size w w':=by
 have hmm:=@run_makeMap Tryz.prog;have d1:decide (1073741824 < room)=false:=by simp;omega
 go_enter Tryz.func7,Tryz.ntmps7
 go_wp2_with fail;go_ret2;refine⟨w.heap.size+1,w.heap.size,rfl,Nat.le_refl _,J,⟨?_,⟨0,_,(World.ownsMap_made w Tryz.prog 9 eO).alloc _,Nat.le_refl _,gT.nil⟩,(fun s a h=>by cases h),(fun s t a b _ h=>by cases h)⟩,((Below.refl _ _).alloc (Nat.le_refl _) _).alloc (by simp) _⟩;have:=ay.fresh (w.alloc (.map #[] 0)) 71 #[.map (some w.heap.size),Z (room:Nat),Z 0,Z (-1),Z 0]
 rw[show (w.alloc (.map #[] 0)).heap.size=w.heap.size+1 by simp] at this
 exact this
theorem L8(w:World)(s:ByteArray)(h1:1<=s.size)(h64:s.size<=64): Calls Tryz.prog 215 #[.string s] w fun e w'=>e=.returned (.bool true)/\Below w.heap.size w w':=by
 have hne:s≠ByteArray.empty:=fun h=>by rw[h] at h1;exact absurd h1 (by decide)
 have d0:s.toList.isEmpty=false:=by
  cases h:s.toList with
  | nil=>exact absurd ((toList_nil_iff_emptyBytes s).1 h) hne
  | cons a l=>rfl
 have d1:decide ((s.size:Int)<=64)=true:=by simp;omega
 have d2:decide (s.size<=64)=true:=by simp;omega
 go_enter Tryz.func215,Tryz.ntmps215
 go_wp2_with fail;go_ret;exact⟨rfl,Below.refl _ _⟩
theorem Kh(w:World): (Op.unary .not (.bool true)).run Tryz.prog w=.ok (.bool false) w:=by kernel_rfl
theorem Hw(w:World)(d M n cp ops:Nat)(room used:Value)(A:Option Addr)(nm:Nat->ByteArray)(F:FuncId)(caps:Array Value)(Post:World->Prop)(hb:ay w d 71 #[.map (some M),room,used,Z (-1),Z (ops:Nat)])(hn:Sl w (fun q=>q < w.heap.size) A n (fun j=>.string (nm j)))(hn2:n<=2)(hnm:∀ j,j < n->1<=(nm j).size/\(nm j).size<=64)(ho:ops < 4611686018427387904)(hcf:∀ w,(callFunc F caps).run Tryz.prog w=.ok (.enter F caps) w)(hF:∀ w1,Below w.heap.size w w1->Calls Tryz.prog F caps w1 fun e w2=>e=.returned (Z 0)/\Post w2)(hP:∀ w2,Post w2->∃ M' a b,ay w2 d 71 #[.map (some M'),a,b,Z (-1),Z (ops:Nat)]):
  Calls Tryz.prog 141 #[.pointer (some ⟨d,0,none⟩),.slice A n cp,.func (.func F) #[] caps] w fun e w'=>e=.returned (Z 0)/\∃ w2,Post w2/\Below w2.heap.size (w2.setCell ⟨d,4,none⟩ (Z ((ops+1:Nat)))) w':=by
 have nn:=Kh;have hd:=hb.lt;have hd0:=hb.cell 0;have HD:=zh (zN hb (zN hn (zN hnm (zN hF hP))));clear hb hn hnm hF hP
 go_enter Tryz.func141,Tryz.ntmps141
 go_wp2_with fail;refine(oo w d M (by simpa using hd0)).mono ?_;rintro e w1 ⟨rfl,hb1⟩;have H1:=zh hb1;clear hb1 hd0;go_wp2_with fail
 go_loopw [8,14] (fun s i wr=>∃ k:Nat,k<=n/\i=Z k/\Below w.heap.size w wr) (fun _ i _=>n-(intOf i).toNat)
 case atStart=>exact ⟨0,Nat.zero_le _,rfl,H1.out⟩
 case round=>
  obtain⟨k,hk,rfl,hbr⟩:=hrel;have HB:=zh hbr;clear hbr
  by_cases hlt:k < n
  ·obtain ⟨bA,off,hA,-,hc⟩:=(HD.out.2.1.below HB.out (fun _ hq _=>hq)) J
   subst hA;have z0:wr.cell? ⟨bA,off+k,none⟩=some (.string (nm k)):=hc k hlt;obtain⟨s,hs⟩:∃ s,s=nm k:=⟨_,rfl⟩
   rw[<-hs] at z0
   have hnk:=HD.out.2.2.1 k hlt;rw[<-hs] at hnk
   have HZ:=zh (zN hs hnk);clear hs hnk hc;go_wp2_with fail;refine(L8 wr s HZ.out.2.1 HZ.out.2.2).mono ?_;rintro e w3 ⟨rfl,hb3⟩;have H3:=zh (HB.out.trans (hb3.mono HB.out.size));clear hb3;go_wp2_with fail
   go_roundw
   case rel=>exact ⟨k+1,J,by go_num,H3.out⟩
   case measure=>simp[intOf];omega
  ·obtain rfl:k=n:=J
   have h3:=(HD.out.1.below HB.out HD.out.1.lt).cell 3;simp at h3
   go_wp2_with fail;refine(HD.out.2.2.2.1 wr HB.out).mono ?_;rintro e w2 ⟨rfl,hp2⟩;obtain⟨M',a,b,hb2⟩:=HD.out.2.2.2.2 w2 hp2;have h32:=hb2.cell 3;have h42:=hb2.cell 4;have hf2:=hb2.frozen;simp at h32 h42
   have H2:=zh (zN hp2 hb2);clear hp2 hb2;go_wp2_with fail;go_ret;exact⟨rfl,w2,H2.out.1,Below.refl _ _⟩
theorem Nl(w:World): (zeroValue 112).run Tryz.prog w=.ok (.pointer none) w:=by kernel_rfl
theorem BN(w:World): (binOp .eql 112 (.pointer none) (.pointer none)).run Tryz.prog w=.ok (.bool true) w:=by kernel_rfl
theorem ug(a:Addr)(w:World): (binOp .eql 112 (.pointer (some a)) (.pointer none)).run Tryz.prog w=.ok (.bool false) w:=by kernel_rfl
theorem aS.look{w:World}{d M:Nat}{p:ByteArray->Option FS}{room:Nat}{used:Int}{ops c:Nat}(h:aS w d M p room used ops c)(s:ByteArray)(hs:s.size<=maxLen): (Instr.lookup 69 (.map (some M)) (.string s) false).run Tryz.prog w=.ok ((dG p s).getD (.pointer none)) w:=by
 obtain⟨n,D,hown,hn,hF⟩:=h.map;obtain⟨v,ps,hrun,hv⟩:=World.ownsMap.lookup hown law Tryz.underlying69 (Nl w) (zd:=.held (.pointer none)) (zp:=[]) rfl (mO hs);have hv2:v=(dG p s).getD (.pointer none):=by
  unfold eO at hv
  cases hk:dG p s with
  | none=>
   rw[hF.none hk] at hv
   simp only[Option.some.injEq,Prod.mk.injEq,DataW.held.injEq] at hv
   exact hv.1
  | some u=>
   rw[hF.val s u hk] at hv
   simp only[Option.some.injEq,Prod.mk.injEq,DataW.held.injEq] at hv
   exact hv.1
 rw[hv2] at hrun
 exact hrun
theorem aS.TL{w:World}{d M:Nat}{p:ByteArray->Option FS}{room:Nat}{used:Int}{ops c:Nat}(h:aS w d M p room used ops c)(ty:TypeId): ∃ k,k<=c/\(Builtin.len_ #[69] ty #[.map (some M)]).run Tryz.prog w=.ok (Z (k:Nat)) w:=by
 obtain⟨n,D,hown,hn,hF⟩:=h.map;exact⟨Maps.size D,hF.sz,World.ownsMap.len hown Tryz.underlying69 ty⟩
theorem pz(p:ByteArray->Option FS)(s:ByteArray)(a:FS): dG (aV p s a)=aV (dG p) s (yV a):=by
 funext y
 unfold dG aV
 by_cases e:y=s
 ·simp[e]
 ·simp[e]
theorem I8(p:ByteArray->Option FS)(s:ByteArray): dG (fQ p s)=fQ (dG p) s:=by
 funext y
 unfold dG fQ
 by_cases e:y=s
 ·simp[e]
 ·simp[e]
theorem iB{α:Type}(p:ByteArray->Option α)(s:ByteArray)(a:α): aV p s a s=some a:=if_pos rfl
theorem kN{α:Type}(p:ByteArray->Option α){s t:ByteArray}(a:α)(h:t≠s): aV p s a t=p t:=if_neg h
theorem uT{α:Type}(p:ByteArray->Option α)(s:ByteArray): fQ p s s=none:=if_pos rfl
theorem jI{α:Type}(p:ByteArray->Option α){s t:ByteArray}(h:t≠s): fQ p s t=p t:=if_neg h
theorem Cq{α:Type}(p:ByteArray->Option α)(s:ByteArray)(a b:α): aV (aV p s a) s b=aV p s b:=by
 funext y
 unfold aV
 split<;>rfl
theorem iT{w:World}{M n base m size:Nat}{D:DataW Value}{e:TypeId}{v:Value}{xs:List Value}(h:w.ownsMap Tryz.prog 9 eO M n D)(ho:w.ownsRow base e size v m xs): v.ownBlock=none\/v.ownBlock≠some M:=by
 rcases ho.2 with ⟨rfl,-⟩ | ⟨g,cap,cur,rfl,_,hh,_⟩
 ·exact .inl rfl
 ·refine .inr fun e=>?_
  have e2:g=M:=by simpa [Value.ownBlock] using e
  subst e2;obtain⟨es,clock,hb,-⟩:=h;rw[hb] at hh
  cases hh
theorem aS.fresh{w w2:World}{d M:Nat}{p:ByteArray->Option FS}{room:Nat}{used:Int}{ops c n:Nat}{D:DataW Value}{s:ByteArray}(h:aS w d M p room used ops c)(hs:p s=none)(hn:n<=c)(hF:gT D (dG p) c)(hm:w2.ownsMap Tryz.prog 9 eO M (n+1) (D.put (fV s) (.held (.pointer (some ⟨w.heap.size,0,none⟩)))))(hg:(w.alloc (.cells #[.slice none 0 0,Z 0,.bool false] 114)).grownBy w2 (some M)):
  aS w2 d M (aV p s ⟨w.heap.size,.slice none 0 0,[],0,false⟩) room used ops (c+1)/\DStep w w2 d M p (aV p s ⟨w.heap.size,.slice none 0 0,[],0,false⟩):=by
 obtain⟨n0,D0,hown0,-,-⟩:=h.map;have hMd:d≠M:=by
  intro e;have:=World.ownsMap.lt hown0;obtain⟨es,clock,e1,-⟩:=hown0;have:=h.blk;unfold ay at this
  rw[e,e1] at this
  cases this
 have hnM:∀ q t cs,ay w q t cs->q≠M:=by
  intro q t cs hq e;obtain⟨es,clock,e1,-⟩:=hown0;unfold ay at hq
  rw[e,e1] at hq
  cases hq
 have hlt:=World.ownsMap.lt hown0;have hkb:∀ q t cs,ay w q t cs->ay w2 q t cs:=fun q t cs hq=>(hg.block q (hq.alloc _).lt (fun e=>hnM q t cs hq (by injection e))).trans (hq.alloc _)
 have hnb:ay w2 w.heap.size 114 #[.slice none 0 0,Z 0,.bool false]:=(hg.block _ (ay.fresh w _ _).lt (fun e=>by injection e with e;omega)).trans (ay.fresh w _ _)
 refine⟨⟨hkb _ _ _ h.blk,⟨n+1,_,hm,J,?_⟩,?_,?_⟩,⟨?_,?_⟩⟩
 ·rw[pz]
  exact hF.put s _
 ·intro t a ha
  unfold aV at ha
  split at ha
  ·injection ha with ha
   subst ha;exact⟨hnb,rfl,.inl ⟨rfl,rfl⟩⟩
  ·refine ⟨hkb _ _ _ (h.fil t a ha).1,?_⟩
   have hr:=(h.fil t a ha).2;refine(hr.kept (World.grownBy_alloc w _ none) ?_).kept hg ?_
   ·cases a.v.ownBlock with
    | none=>exact .inl rfl
    | some g=>exact .inr (by simp)
   ·exact iT hown0 hr
 ·intro t u a b htu ha hb
  unfold aV at ha hb
  split at ha<;>split at hb
  ·rename_i e1 e2
   exact absurd (e1.trans e2.symm) htu
  ·injection ha with ha
   subst ha;exact⟨fun e=>by have:=(h.fil u b hb).1.lt;simp at e;omega,fun g hg=>by simp[Value.ownBlock] at hg⟩
  ·injection hb with hb
   subst hb;exact⟨fun e=>by have:=(h.fil t a ha).1.lt;simp at e;omega,fun g hg=>by simp[Value.ownBlock]⟩
  ·exact h.dis t u a b htu ha hb
 ·have:=(Keeps.refl (aM d M p) w).alloc (.cells #[.slice none 0 0,Z 0,.bool false] 114)
  exact this.grown hg (fun k hk hlt=>by injection hk with hk;subst hk;exact .inr (.inl rfl))
 ·rintro q hq (rfl | rfl | ⟨t,a,ha,hqa⟩)
  ·exact .inl rfl
  ·exact .inr (.inl rfl)
  ·unfold aV at ha
   split at ha
   ·injection ha with ha
    subst ha;rcases hqa with rfl | hqa
    ·exact absurd hq (Nat.lt_irrefl _)
    ·simp[Value.ownBlock] at hqa
   ·exact .inr (.inr ⟨t,a,ha,hqa⟩)
theorem aS.append{w w1 w3:World}{d M:Nat}{p:ByteArray->Option FS}{room:Nat}{used:Int}{ops c:Nat}{s:ByteArray}{a:FS}{v':Value}{bs:List Nat}(h:aS w d M p room used ops c)(hs:p s=some a)(ho:w1.ownsRow 0 5 1 v' (a.bs.length+bs.length) (a.bs.map V.aR ++ bs.map V.aR))(hg:w.grownBy w1 a.v.ownBlock)(hv:v'.ownBlock=a.v.ownBlock\/v'.ownBlock=some w.heap.size)(u:Int)(k1:Keeps (fun q=>q=a.blk\/q=d) w1 w3)(b1:ay w3 a.blk 114 #[v',Z (a.lasts:Nat),.bool a.syn])(b2:ay w3 d 71 #[.map (some M),Z (room:Nat),Z u,Z (-1),Z (ops:Nat)]):
  aS w3 d M (aV p s { a with v:=v',bs:=a.bs ++ bs }) room u ops c/\DStep w w3 d M p (aV p s { a with v:=v',bs:=a.bs ++ bs }):=by
 obtain⟨n0,D0,hown0,hn0,hF0⟩:=h.map;have hfa:=h.fil s a hs;have hnM:∀ q t cs,ay w q t cs->q≠M:=by
  intro q t cs hq e;obtain⟨es,clock,e1,-⟩:=hown0;unfold ay at hq
  rw[e,e1] at hq
  cases hq
 have hnr:∀ q t cs,ay w q t cs->t≠5->some q≠a.v.ownBlock:=fun q t cs hq ht e=>own_ne hfa.2 hq (fun e'=>ht e'.symm) e.symm
 have hkb:∀ q t cs,ay w q t cs->t≠5->ay w1 q t cs:=fun q t cs hq ht=>cZ hg hq (hnr q t cs hq ht)
 have had:a.blk≠d:=fun e=>by
  have:=hfa.1.ne h.blk (by decide);exact this e
 have hvn:∀ q t cs,ay w q t cs->t≠5->v'.ownBlock≠some q:=by
  intro q t cs hq ht e;rcases hv with hv | hv
  ·exact hnr q t cs hq ht (by rw[<-e,hv])
  ·rw[hv] at e
   injection e with e
   have:=hq.lt;omega
 have hMlt:=World.ownsMap.lt hown0;have hMv:v'.ownBlock≠some M:=by
  intro e;rcases hv with hv | hv
  ·rcases iT hown0 hfa.2 with h1 | h1
   ·rw[hv,h1] at e;cases e
   ·exact h1 (by rw[<-hv];exact e)
  ·rw[hv] at e
   injection e with e
   omega
 have hMr:some M≠a.v.ownBlock:=fun e=>by
  rcases iT hown0 hfa.2 with h1 | h1
  ·rw[h1] at e;cases e
  ·exact h1 e.symm
 have hsz:=hg.size;refine⟨⟨?_,⟨n0,D0,?_,hn0,?_⟩,?_,?_⟩,⟨?_,?_⟩⟩
 ·exact b2
 ·have h1:=hown0.kept hg hMr
  obtain⟨es,clock,e1,e2⟩:=h1;exact⟨es,clock,by rw[k1.block M (Nat.lt_of_lt_of_le hMlt hsz) (fun e=>e.elim (fun e=>hnM _ _ _ hfa.1 e.symm) (fun e=>hnM _ _ _ h.blk e.symm))];exact e1,e2⟩
 ·rw[pz]
  have e:aV (dG p) s (yV { a with v:=v',bs:=a.bs ++ bs })=dG p:=by
   funext y
   unfold aV
   split
   ·rename_i e
    rw[e];unfold dG;rw[hs];rfl
   ·rfl
  rw[e];exact hF0
 ·intro t b hb
  unfold aV at hb
  split at hb
  ·injection hb with hb
   subst hb;refine⟨b1,?_⟩;have e1:(a.bs ++ bs).length=a.bs.length+bs.length:=List.length_append;show World.ownsRow _ 0 5 1 v' (a.bs ++ bs).length ((a.bs ++ bs).map V.aR)
   rw[e1,List.map_append];refine aG ho k1 ?_;rintro g hgv (rfl | rfl)
   ·exact hvn _ _ _ hfa.1 (by decide) hgv
   ·exact hvn _ _ _ h.blk (by decide) hgv
  ·rename_i hts
   have hfb:=h.fil t b hb;have hd:=h.dis t s b a hts hb hs;refine⟨(hkb _ _ _ hfb.1 (by decide)).keeps k1 (fun e=>e.elim (fun e=>hd.1 e) (fun e=>hfb.1.ne h.blk (by decide) e)),?_⟩;have hk1:w1.ownsRow 0 5 1 b.v b.bs.length (b.bs.map V.aR):=by
    refine hfb.2.kept hg ?_
    cases hbv:b.v.ownBlock with
    | none=>exact .inl rfl
    | some g=>exact .inr (fun e=>hd.2 g hbv e.symm)
   refine aG hk1 k1 ?_;rintro g hgv (rfl | rfl)
   ·exact own_ne hfb.2 hfa.1 (by decide) hgv
   ·exact own_ne hfb.2 h.blk (by decide) hgv
 ·intro t u' a' b' htu ha hb
  unfold aV at ha hb
  split at ha<;>split at hb
  ·rename_i e1 e2
   exact absurd (e1.trans e2.symm) htu
  ·injection ha with ha
   subst ha
   rename_i e1 e2
   have hd:=h.dis s u' a b' (fun e=>e2 e.symm) hs hb;refine⟨hd.1,fun g hg e=>?_⟩;rcases hv with hv | hv
   ·exact hd.2 g (by rw[<-hv];exact hg) e
   ·have:v'.ownBlock=some g:=hg
    rw[hv] at this
    injection this with this
    have:=((h.fil u' b' hb).2.lt g e).2;omega
  ·injection hb with hb
   subst hb
   rename_i e1 e2
   have hd:=h.dis t s a' a e1 ha hs;refine⟨hd.1,fun g hg e=>?_⟩;have e:v'.ownBlock=some g:=e;rcases hv with hv | hv
   ·exact hd.2 g hg (by rw[<-hv];exact e)
   ·rw[hv] at e
    injection e with e
    have:=((h.fil t a' ha).2.lt g hg).2;omega
  ·exact h.dis t u' a' b' htu ha hb
 ·have k0:Keeps (aM d M p) w w1:=(Keeps.refl _ w).grown hg (fun k hk hlt=>.inr (.inr ⟨s,a,hs,.inr hk⟩))
  exact k0.trans k1 (fun q hq e=>e.elim (fun e=>.inr (.inr ⟨s,a,hs,.inl e⟩)) (fun e=>.inl e))
 ·rintro q hq (rfl | rfl | ⟨t,b,hb,hqb⟩)
  ·exact .inl rfl
  ·exact .inr (.inl rfl)
  ·unfold aV at hb
   split at hb
   ·injection hb with hb
    subst hb;rcases hqb with rfl | hqb
    ·exact .inr (.inr ⟨s,a,hs,.inl rfl⟩)
    ·have hqb:v'.ownBlock=some q:=hqb
     rcases hv with hv | hv
     ·exact .inr (.inr ⟨s,a,hs,.inr (by rw[<-hv];exact hqb)⟩)
     ·rw[hv] at hqb
      injection hqb with hqb
      omega
   ·exact .inr (.inr ⟨t,b,hb,hqb⟩)
theorem D6: iK Tryz.prog 72 5 (.int .u8 0) 1:=.mk' Tryz.underlying72 rfl (by kernel_rfl)
structure dI(d xb xd xn n cp:Nat)(A:Option Addr)(s:ByteArray)(w:World): Prop where
 b:w.cell? ⟨xb,0,none⟩=some (.slice A n cp)
 d:w.cell? ⟨xd,0,none⟩=some (.pointer (some ⟨d,0,none⟩))
 n:w.cell? ⟨xn,0,none⟩=some (.string s)
theorem dI.keeps{S:Nat->Prop}{d xb xd xn n cp:Nat}{A:Option Addr}{s:ByteArray}{w w':World}(h:dI d xb xd xn n cp A s w)(hk:Keeps S w w')(h1:¬ S xb)(h2:¬ S xd)(h3:¬ S xn): dI d xb xd xn n cp A s w':=by
 have hc:∀ q v,w.cell? ⟨q,0,none⟩=some v->¬ S q->w'.cell? ⟨q,0,none⟩=some v:=fun q v hq hn=>(World.cell?_of_block (w:=w) (a:=⟨q,0,none⟩) (hk.block q (World.block_lt_of_cell? w _ hq) hn)).trans hq
 exact⟨hc _ _ h.b h1,hc _ _ h.d h2,hc _ _ h.n h3⟩
theorem dI.drew{d xb xd xn n cp:Nat}{A:Option Addr}{s:ByteArray}{w:World}(h:dI d xb xd xn n cp A s w): dI d xb xd xn n cp A s w.drew:=⟨h.b,h.d,h.n⟩
theorem aS.drew{w:World}{d M:Nat}{p:ByteArray->Option FS}{room:Nat}{used:Int}{ops c:Nat}(h:aS w d M p room used ops c): aS w.drew d M p room used ops c:=h.call (Below.refl _ _).drew
def gL(p:ByteArray->Option FS)(s:ByteArray): List Nat:=((p s).map FS.bs).getD []
def GK(w:World)(d M:Nat)(p:ByteArray->Option FS)(room:Nat)(used:Int)(ops c:Nat)(s:ByteArray)(bs:List Nat)(w':World): Prop:=
 ∃ a,a.bs=gL p s ++ bs/\aS w' d M (aV p s a) room (used+(bs.length:Int)) ops (c+1)/\DStep w w' d M p (aV p s a)
theorem aS.more{w:World}{d M:Nat}{p:ByteArray->Option FS}{room:Nat}{used:Int}{ops c:Nat}(h:aS w d M p room used ops c): aS w d M p room used ops (c+1):=by
 obtain⟨n,D,h1,h2,h3⟩:=h.map;exact⟨h.blk,⟨n,D,h1,J,⟨h3.im,h3.ti,h3.has,h3.val,by have:=h3.sz;omega⟩⟩,h.fil,h.dis⟩
theorem LG(w:World)(d M xb xd xn n cp:Nat)(A:Option Addr)(s:ByteArray)(bs:List Nat)(p:ByteArray->Option FS)(room:Nat)(used:Int)(ops c:Nat)(hD:aS w d M p room used ops c)(hB:dI d xb xd xn n cp A s w)(hlen:bs.length=n)(hsl:Sl w (fun q=>q < w.heap.size/\¬ aM d M p q) A n (aI bs))(h1:¬ aM d M p xb)(h2:¬ aM d M p xd)(h3:¬ aM d M p xn)(hroom:used+(n:Int)<=(room:Int))(hlow : -1099511627776<=used)(hr:room<=1073741824)(hc:c < 512)(hbig:(gL p s).length+n<=1048576)(hs:s.size<=64):
  Calls Tryz.prog 142 #[.pointer (some ⟨xb,0,none⟩),.pointer (some ⟨xd,0,none⟩),.pointer (some ⟨xn,0,none⟩)] w fun e w'=>e=.returned (Z 0)/\GK w d M p room used ops c s bs w':=by
 have k1:=BN;have k2:=ug;have hsm:s.size<=maxLen:=by unfold maxLen;omega
 have d1:decide ((room:Int)-used < (n:Int))=false:=by simp;omega
 have d2:∀ k:Nat,k<=c->decide ((512:Int)<=(k:Int))=false:=fun k hk=>by simp;omega
 have d3:decide ((1048576:Int) < (n:Int))=false:=by simp;omega
 have d4:decide (1048576 < n)=false:=by simp;omega
 have d5:∀ k:Nat,k<=c->decide (512<=k)=false:=fun k hk=>by simp;omega
 obtain⟨ol,hol⟩:∃ ol,ol=(gL p s).length:=⟨_,rfl⟩
 rw[<-hol] at hbig
 have d0:IntKind.i64.wrap ((room:Int)-used)=(room:Int)-used:=by simp only[IntKind.wrap_i64];omega
 have d7:IntKind.i64.wrap ((1048576:Int)-(ol:Int))=(1048576:Int)-(ol:Int):=by simp only[IntKind.wrap_i64];omega
 have d6:decide ((1048576:Int)-(ol:Int) < (n:Int))=false:=by simp;omega
 have d8:IntKind.i64.wrap (used+(n:Int))=used+(n:Int):=by simp only[IntKind.wrap_i64];omega
 have HD:=zh (zN hD (zN hB (zN hlen (zN hsl (zN h1 (zN h2 (zN h3 hol)))))));clear hD hB hlen hsl h1 h2 h3 hol
 go_enter Tryz.func142,Tryz.ntmps142
 go_wp2_with fail;have hS:=zN HD.out.2.1.drew HD.out.1.drew;have hS:(fun wx=>dI d xb xd xn n cp A s wx/\aS wx d M p room used ops c) (w.drew):=hS;refine aA (fun wx=>dI d xb xd xn n cp A s wx/\aS wx d M p room used ops c) (by kernel_rfl) hS ?_;refine zB [0,1,2,3,4,5,6,7,8,9,10,11] ?_;iterate 12 (refine zV ?_ ?_ hS ?_;rotate_left;(intro w' hSw;have u0:=hSw.1.b;have u1:=hSw.1.d;have u2:=hSw.2.blk.cell 1;have u3:=hSw.2.blk.cell 2;go_simp<;>with_reducible rfl);try simp only[zP])
 refine zE ?_;refine zD ?_;try simp only[zP]
 go_wp2_with fail;have hS:=zN hS.1.drew hS.2.drew;have hS:(fun wx=>dI d xb xd xn n cp A s wx/\aS wx d M p room used ops c) (w.drew.drew):=hS;refine aA (fun wx=>dI d xb xd xn n cp A s wx/\aS wx d M p room used ops c) (by kernel_rfl) hS ?_;refine zB [0,1,2,3,4,5,6] ?_;iterate 7 (refine zV ?_ ?_ hS ?_;rotate_left;(intro w' hSw;have u1:=hSw.1.d;have u2:=hSw.1.n;have u3:=hSw.2.blk.cell 0;have u4:=hSw.2.look s hsm;go_simp<;>with_reducible rfl);try simp only[zP])
 refine zE ?_;refine zD ?_;try simp only[zP]
 have HS:=zh hS;clear hS;obtain⟨w1,hw1⟩:∃ x,x=w.drew.drew:=⟨_,rfl⟩
 rw[<-hw1] at HS ⊢
 have hk1:Keeps (fun _=>False) w w1:=by rw[hw1];exact ((Keeps.refl _ w).drew).drew
 have HK1:=zh hk1;clear hk1 hw1
 cases hps:p s with
 | none=>
  have hm:(dG p s).getD (.pointer none)=.pointer none:=by unfold dG;rw[hps];rfl
  have hol0:gL p s=[]:=by unfold gL;rw[hps];rfl
  rw[hm];have HOL0:=zh hol0;clear hm hol0;obtain⟨k,hkc,hk0⟩:=HS.out.2.TL 3;have d2k:=d2 k hkc;have d5k:=d5 k hkc;have z0:=HS.out.1.d;have z1:=HS.out.2.blk.cell 0;have z2:=HS.out.1.b;simp at z1
  go_wp2_with fail;clear z0 z1 z2 hk0 d2k d5k;obtain⟨n0,D0,hown0,hn0,hF0⟩:=HS.out.2.map;obtain⟨w2,hrun2,hown2,hg2⟩:=World.ownsMap.update (hown0.alloc (.cells #[.slice none 0 0,Z 0,.bool false] 114)).drew law Tryz.underlying69 (by unfold maxLen;omega) (mO hsm) (val:=.pointer (some ⟨w1.heap.size,0,none⟩)) (d:=.held (.pointer (some ⟨w1.heap.size,0,none⟩))) (ps:=[]) rfl;have hfr:=HS.out.2.fresh hps hn0 hF0 hown2 ⟨hg2.os,hg2.tape,hg2.output,hg2.size,hg2.block⟩;have hxa:dI d xb xd xn n cp A s (w1.alloc (.cells #[.slice none 0 0,Z 0,.bool false] 114)).drew:=(HS.out.1.keeps ((Keeps.refl (fun _=>False) w1).alloc (.cells #[.slice none 0 0,Z 0,.bool false] 114)) (fun h=>h) (fun h=>h) (fun h=>h)).drew;have hba:=(HS.out.2.blk.alloc (.cells #[.slice none 0 0,Z 0,.bool false] 114)).drew;have hS:=zN hxa hba;have hx2:dI d xb xd xn n cp A s w2:=HS.out.1.keeps hfr.2.keep HD.out.2.2.2.2.1 HD.out.2.2.2.2.2.1 HD.out.2.2.2.2.2.2.1;have H2:=zh (zN hfr hx2);clear hfr hx2 hown0 hown2 hF0 hg2 hxa hba;have hb2:ay w2 d 71 #[.map (some M),Z (room:Nat),Z used,Z (-1),Z (ops:Nat)]:=H2.out.1.1.blk
  have HB2:=zh hb2;clear hb2;have hS:(fun wx=>dI d xb xd xn n cp A s wx/\ay wx d 71 #[.map (some M),Z (room:Nat),Z used,Z (-1),Z (ops:Nat)]) ((w1.alloc (.cells #[.slice none 0 0,Z 0,.bool false] 114)).drew):=hS;refine aA (fun wx=>dI d xb xd xn n cp A s wx/\ay wx d 71 #[.map (some M),Z (room:Nat),Z used,Z (-1),Z (ops:Nat)]) (by kernel_rfl) hS ?_;refine zB [0,1,2,3,4,5] ?_;iterate 6 (refine zV ?_ ?_ hS ?_;rotate_left;(intro w' hSw;have u1:=hSw.1.d;have u2:=hSw.1.n;have u3:=hSw.2.cell 0;go_simp<;>with_reducible rfl);try simp only[zP])
  refine zE ?_;refine zC 6 fun K HK=>?_
  go_simp;go_wp2_with fail;refine HK.out.zt (fun wx=>dI d xb xd xn n cp A s wx/\ay wx d 71 #[.map (some M),Z (room:Nat),Z used,Z (-1),Z (ops:Nat)]) (fun _ h=>h) (⟨H2.out.2,HB2.out⟩) ?_;clear HK hS;intro hS;try simp only[zP]
  refine zD ?_;try simp only[zP]
  clear hrun2 hS;go_wp2_with fail;obtain⟨a,ha⟩:∃ a:FS,a=⟨w1.heap.size,.slice none 0 0,[],0,false⟩:=⟨_,rfl⟩
  have hab:w1.heap.size=a.blk:=by rw[ha]
  have habs:a.bs=[]:=by rw[ha]
  have HX:=zh (show aS w2 d M (aV p s a) room used ops (c+1)/\aV p s a s=some a/\dI d xb xd xn n cp A s w2/\Sl w2 (fun q=>q < w.heap.size/\¬ aM d M p q) A n (aI bs)/\a.bs.length+n<=1048576/\¬ aM d M (aV p s a) xb/\¬ aM d M (aV p s a) xd/\¬ aM d M (aV p s a) xn from by
   have hl:=fun q (hq:¬ aM d M p q) (h:q < w.heap.size) (h2:aM d M (aV p s a) q)=>hq (H2.out.1.2.far q (Nat.lt_of_lt_of_le h HK1.out.size) (by rw[<-ha];exact h2))
   refine⟨by rw[ha];exact H2.out.1.1,iB _ _ _,H2.out.2,?_,by rw[habs];simp;omega,?_,?_,?_⟩
   ·exact (HD.out.2.2.2.1.keeps HK1.out (fun _ _ h=>h)).keeps H2.out.1.2.keep (fun _ hk=>hk.2)
   ·exact hl _ HD.out.2.2.2.2.1 (World.block_lt_of_cell? w ⟨xb,0,none⟩ HD.out.2.1.b)
   ·exact hl _ HD.out.2.2.2.2.2.1 (World.block_lt_of_cell? w ⟨xd,0,none⟩ HD.out.2.1.d)
   ·exact hl _ HD.out.2.2.2.2.2.2.1 (World.block_lt_of_cell? w ⟨xn,0,none⟩ HD.out.2.1.n))
  have HA:=zh (zN ha habs);rw[hab];have HAB:=zh hab;clear ha hab habs;have hfb:=(HX.out.1.fil s a HX.out.2.1).1;have u0:=hfb.cell 0;have hwd:=HX.out.1.blk.lt;have HFB:=zh (zN hfb u0);clear hfb u0;have hS:=HX.out.2.2.1.drew;have hS:(dI d xb xd xn n cp A s) (w2.drew):=hS;refine aA (dI d xb xd xn n cp A s) (by kernel_rfl) hS ?_;refine zB [0,1,2,3,5] ?_;iterate 5 (refine zV ?_ ?_ hS ?_;rotate_left;(intro w' hSw;have u1:=hSw.b;go_simp<;>with_reducible rfl);try simp only[zP])
  refine zE ?_;have u0:w2.drew.cell? ⟨a.blk,0,none⟩=some a.v:=HFB.out.2;refine zC 4 fun K HK=>?_
  go_simp;go_wp2_with fail;refine HK.out.zt (dI d xb xd xn n cp A s) (fun _ h=>h) (hS) ?_;clear HK hS;intro hS;try simp only[zP]
  clear u0;refine zC 6 fun K HK=>?_
  refine nJ (D:=fun q=>q < w.heap.size/\¬ aM d M p q) (f:=aI bs) (m:=n) D6 rfl _ _ rfl rfl rfl (HX.out.1.drew.fil s a HX.out.2.1).2 (HX.out.2.2.2.1.keeps ((Keeps.refl (fun _=>False) w2).drew) (fun _ _ h=>h)) (fun _ _=>rfl) (by have:=HX.out.2.2.2.2.1;unfold maxLen;omega) (by have:=HX.out.2.2.2.2.1;omega) (Nat.zero_le _) ?_;intro v' w9 ho9 hg9 hv9;obtain⟨A9,c9,hv9e,-⟩:=aH ho9;subst hv9e;have ho9':w9.ownsRow 0 5 1 (.slice A9 (a.bs.length+n) c9) (a.bs.length+bs.length) (a.bs.map V.aR ++ bs.map V.aR):=by
   rw[HD.out.2.2.1,V.jh HD.out.2.2.1];exact ho9
  have hk9:Keeps (aM d M (aV p s a)) w2 w9:=((Keeps.refl (aM d M (aV p s a)) w2).drew).grown hg9 (fun k hk hlt=>.inr (.inr ⟨s,a,HX.out.2.1,.inr hk⟩));have hx9:=HX.out.2.2.1.keeps hk9 HX.out.2.2.2.2.2.1 HX.out.2.2.2.2.2.2.1 HX.out.2.2.2.2.2.2.2;have hfb9:ay w9 a.blk 114 #[a.v,Z (a.lasts:Nat),.bool a.syn]:=cZ (w:=w2.drew) hg9 HFB.out.1.drew (fun e=>own_ne (HX.out.1.fil s a HX.out.2.1).2 HFB.out.1 (by decide) e.symm)
  have hdb9:ay w9 d 71 #[.map (some M),Z (room:Nat),Z used,Z (-1),Z (ops:Nat)]:=cZ (w:=w2.drew) hg9 HX.out.1.blk.drew (fun e=>own_ne (HX.out.1.fil s a HX.out.2.1).2 HX.out.1.blk (by decide) e.symm)
  have had:a.blk≠d:=HFB.out.1.ne HX.out.1.blk (by decide);have hx10:dI d xb xd xn n cp A s (w9.setCell ⟨a.blk,0,none⟩ (.slice A9 (a.bs.length+n) c9)):=hx9.keeps (S:=aM d M (aV p s a)) ((Keeps.refl _ w9).setCell (fun _=>.inr (.inr ⟨s,a,HX.out.2.1,.inl rfl⟩)) (.slice A9 (a.bs.length+n) c9)) HX.out.2.2.2.2.2.1 HX.out.2.2.2.2.2.2.1 HX.out.2.2.2.2.2.2.2;have H9:=zh (zN ho9' (zN hg9 (zN hv9 (zN hx9 (zN hfb9 (zN hdb9 (zN had hx10)))))));clear ho9 ho9' hg9 hv9 hk9 hx9 hfb9 hdb9 had hx10;refine HK.out.zt (dI d xb xd xn n cp A s) (fun _ h=>h) (H9.out.2.2.2.1) ?_;clear HK hS;intro hS;try simp only[zP]
  refine zB [7,8] ?_;iterate 2 (refine zv hS ?_;try simp only[zP])
  refine zE ?_;have uf:=H9.out.2.2.2.2.1.frozen;have uc:w9.cell? ⟨a.blk,0,none⟩=some a.v:=H9.out.2.2.2.2.1.cell 0;refine zC 9 fun K HK=>?_
  go_simp;go_wp2_with fail;refine HK.out.zt (dI d xb xd xn n cp A s) (fun _ h=>h) (H9.out.2.2.2.2.2.2.2) ?_;clear HK hS;intro hS;try simp only[zP]
  refine zD ?_;try simp only[zP]
  clear uf uc hS;have hdb10:=(H9.out.2.2.2.2.2.1).far (p:=⟨a.blk,0,none⟩) (fun e=>H9.out.2.2.2.2.2.2.1 e.symm) (.slice A9 (a.bs.length+n) c9);have hfb10:=(H9.out.2.2.2.2.1).set 0 (.slice A9 (a.bs.length+n) c9);have u2:(w9.setCell ⟨a.blk,0,none⟩ (.slice A9 (a.bs.length+n) c9)).drew.cell? ⟨d,2,none⟩=_:=hdb10.cell 2;have H10:=zh (zN hdb10 hfb10);clear hdb10 hfb10;obtain⟨w10,hw10⟩:∃ w10,w10=w9.setCell ⟨a.blk,0,none⟩ (.slice A9 (a.bs.length+n) c9):=⟨_,rfl⟩
  rw[<-hw10] at u2 H10 ⊢
  have HW10:=zh hw10;go_wp2_with fail;have hS:dI d xb xd xn n cp A s w10.drew:=by rw[hw10];exact H9.out.2.2.2.2.2.2.2.drew
  clear hw10;have hS:(dI d xb xd xn n cp A s) (w10.drew):=hS;refine aA (dI d xb xd xn n cp A s) (by kernel_rfl) hS ?_;refine zB [0,1,2,4,5] ?_;iterate 5 (refine zV ?_ ?_ hS ?_;rotate_left;(intro w' hSw;have u1:=hSw.b;have u3:=hSw.d;go_simp<;>with_reducible rfl);try simp only[zP])
  refine zE ?_;refine zC 3 fun K HK=>?_
  go_simp;go_wp2_with fail;refine HK.out.zt (dI d xb xd xn n cp A s) (fun _ h=>h) (hS) ?_;clear HK hS;intro hS;try simp only[zP]
  refine zB [6,7,8] ?_;iterate 3 (refine zv hS ?_;try simp only[zP])
  refine zE ?_;have uf:∀ i,w10.drew.frozen? ⟨d,i,none⟩=false:=H10.out.1.frozen
  have hx11:dI d xb xd xn n cp A s (w10.drew.setCell ⟨d,2,none⟩ (Z (used+(n:Int)))):=hS.keeps (S:=aM d M (aV p s a)) ((Keeps.refl _ w10.drew).setCell (fun _=>.inl rfl) _) HX.out.2.2.2.2.2.1 HX.out.2.2.2.2.2.2.1 HX.out.2.2.2.2.2.2.2;have HX11:=zh hx11;clear hx11;refine zC 9 fun K HK=>?_
  go_simp;go_wp2_with fail;refine HK.out.zt (dI d xb xd xn n cp A s) (fun _ h=>h) (HX11.out) ?_;clear HK hS;intro hS;try simp only[zP]
  refine zD ?_;try simp only[zP]
  clear uf hS u2;go_wp2_with fail;go_ret;have k1:Keeps (fun q=>q=a.blk\/q=d) w9 (w10.drew.setCell ⟨d,2,none⟩ (Z (used+(n:Int)))):=by
   rw[HW10.out];exact(((Keeps.refl _ w9).setCell (fun _=>.inl rfl) (.slice A9 (a.bs.length+n) c9)).drew).setCell (fun _=>.inr rfl) _
  have hap:=HX.out.1.drew.append HX.out.2.1 (v':=(.slice A9 (a.bs.length+n) c9)) (bs:=bs) (w1:=w9) H9.out.1 H9.out.2.1 H9.out.2.2.1 (used+(n:Int)) k1 (H10.out.2.drew.far (p:=⟨d,2,none⟩) H9.out.2.2.2.2.2.2.1 _) (H10.out.1.drew.set 2 _);refine⟨rfl,⟨a.blk,(.slice A9 (a.bs.length+n) c9),a.bs ++ bs,a.lasts,a.syn⟩,by rw[HA.out.2,HOL0.out],?_,?_⟩
  ·have:=hap.1
   rw[Cq] at this
   rw[HD.out.2.2.1];exact this
  ·have h1:DStep w w1 d M p p:=DStep.of_below HK1.out.fF
   have h2:=h1.trans H2.out.1.2;rw[<-HA.out.1] at h2
   have h3:=h2.trans (DStep.of_below (Below.refl _ w2).drew);have h4:=h3.trans hap.2;rw[Cq] at h4
   exact h4
 | some a=>
  have hm:(dG p s).getD (.pointer none)=.pointer (some ⟨a.blk,0,none⟩):=by unfold dG;rw[hps];rfl
  have hol1:gL p s=a.bs:=by unfold gL;rw[hps];rfl
  obtain⟨A0,c0,hav,-⟩:=aH (HS.out.2.fil s a hps).2;have hola:a.bs.length=ol:=by rw[HD.out.2.2.2.2.2.2.2,hol1]
  rw[hola] at hav
  rw[hm];have HOL:=zh (zN hol1 (zN hav hola));clear hm hol1 hav hola;go_wp2_with fail;have hS:=zN HS.out.1.drew HS.out.2.drew;have hS:(fun wx=>dI d xb xd xn n cp A s wx/\aS wx d M p room used ops c) (w1.drew):=hS;refine aA (fun wx=>dI d xb xd xn n cp A s wx/\aS wx d M p room used ops c) (by kernel_rfl) hS ?_;refine zB [0,1,2,3,4,5,6,7,8,9] ?_;iterate 10 (refine zV ?_ ?_ hS ?_;rotate_left;(intro w' hSw;have u0:=hSw.1.b;have u1:=(hSw.2.fil s a hps).1.cell 0;rw[HOL.out.2.1] at u1;go_simp<;>with_reducible rfl);try simp only[zP])
  refine zE ?_;refine zD ?_;try simp only[zP]
  go_wp2_with fail;have HX:=zh (show aS w1.drew d M p room used ops c/\p s=some a/\dI d xb xd xn n cp A s w1.drew/\Sl w1.drew (fun q=>q < w.heap.size/\¬ aM d M p q) A n (aI bs)/\a.bs.length+n<=1048576/\¬ aM d M p xb/\¬ aM d M p xd/\¬ aM d M p xn from
   ⟨hS.2,hps,hS.1,HD.out.2.2.2.1.keeps HK1.out.drew (fun _ _ h=>h),by rw[HOL.out.2.2];exact hbig,HD.out.2.2.2.2.1,HD.out.2.2.2.2.2.1,HD.out.2.2.2.2.2.2.1⟩)
  have hp1:=HOL.out.1;have HP1:=zh hp1;clear hS hp1 hps;have hfb:=(HX.out.1.fil s a HX.out.2.1).1;have u0:=hfb.cell 0;have hwd:=HX.out.1.blk.lt;have HFB:=zh (zN hfb u0);clear hfb u0;have hS:=HX.out.2.2.1.drew;have hS:(dI d xb xd xn n cp A s) (w1.drew.drew):=hS;refine aA (dI d xb xd xn n cp A s) (by kernel_rfl) hS ?_;refine zB [0,1,2,3,5] ?_;iterate 5 (refine zV ?_ ?_ hS ?_;rotate_left;(intro w' hSw;have u1:=hSw.b;go_simp<;>with_reducible rfl);try simp only[zP])
  refine zE ?_;have u0:w1.drew.drew.cell? ⟨a.blk,0,none⟩=some a.v:=HFB.out.2;refine zC 4 fun K HK=>?_
  go_simp;go_wp2_with fail;refine HK.out.zt (dI d xb xd xn n cp A s) (fun _ h=>h) (hS) ?_;clear HK hS;intro hS;try simp only[zP]
  clear u0;refine zC 6 fun K HK=>?_
  refine nJ (D:=fun q=>q < w.heap.size/\¬ aM d M p q) (f:=aI bs) (m:=n) D6 rfl _ _ rfl rfl rfl (HX.out.1.drew.fil s a HX.out.2.1).2 (HX.out.2.2.2.1.keeps ((Keeps.refl (fun _=>False) w1.drew).drew) (fun _ _ h=>h)) (fun _ _=>rfl) (by have:=HX.out.2.2.2.2.1;unfold maxLen;omega) (by have:=HX.out.2.2.2.2.1;omega) (Nat.zero_le _) ?_;intro v' w9 ho9 hg9 hv9;obtain⟨A9,c9,hv9e,-⟩:=aH ho9;subst hv9e;have ho9':w9.ownsRow 0 5 1 (.slice A9 (a.bs.length+n) c9) (a.bs.length+bs.length) (a.bs.map V.aR ++ bs.map V.aR):=by
   rw[HD.out.2.2.1,V.jh HD.out.2.2.1];exact ho9
  have hk9:Keeps (aM d M p) w1.drew w9:=((Keeps.refl (aM d M p) w1.drew).drew).grown hg9 (fun k hk hlt=>.inr (.inr ⟨s,a,HX.out.2.1,.inr hk⟩));have hx9:=HX.out.2.2.1.keeps hk9 HX.out.2.2.2.2.2.1 HX.out.2.2.2.2.2.2.1 HX.out.2.2.2.2.2.2.2;have hfb9:ay w9 a.blk 114 #[a.v,Z (a.lasts:Nat),.bool a.syn]:=cZ (w:=w1.drew.drew) hg9 HFB.out.1.drew (fun e=>own_ne (HX.out.1.fil s a HX.out.2.1).2 HFB.out.1 (by decide) e.symm)
  have hdb9:ay w9 d 71 #[.map (some M),Z (room:Nat),Z used,Z (-1),Z (ops:Nat)]:=cZ (w:=w1.drew.drew) hg9 HX.out.1.blk.drew (fun e=>own_ne (HX.out.1.fil s a HX.out.2.1).2 HX.out.1.blk (by decide) e.symm)
  have had:a.blk≠d:=HFB.out.1.ne HX.out.1.blk (by decide);have hx10:dI d xb xd xn n cp A s (w9.setCell ⟨a.blk,0,none⟩ (.slice A9 (a.bs.length+n) c9)):=hx9.keeps (S:=aM d M p) ((Keeps.refl _ w9).setCell (fun _=>.inr (.inr ⟨s,a,HX.out.2.1,.inl rfl⟩)) (.slice A9 (a.bs.length+n) c9)) HX.out.2.2.2.2.2.1 HX.out.2.2.2.2.2.2.1 HX.out.2.2.2.2.2.2.2;have H9:=zh (zN ho9' (zN hg9 (zN hv9 (zN hx9 (zN hfb9 (zN hdb9 (zN had hx10)))))));clear ho9 ho9' hg9 hv9 hk9 hx9 hfb9 hdb9 had hx10;refine HK.out.zt (dI d xb xd xn n cp A s) (fun _ h=>h) (H9.out.2.2.2.1) ?_;clear HK hS;intro hS;try simp only[zP]
  refine zB [7,8] ?_;iterate 2 (refine zv hS ?_;try simp only[zP])
  refine zE ?_;have uf:=H9.out.2.2.2.2.1.frozen;have uc:w9.cell? ⟨a.blk,0,none⟩=some a.v:=H9.out.2.2.2.2.1.cell 0;refine zC 9 fun K HK=>?_
  go_simp;go_wp2_with fail;refine HK.out.zt (dI d xb xd xn n cp A s) (fun _ h=>h) (H9.out.2.2.2.2.2.2.2) ?_;clear HK hS;intro hS;try simp only[zP]
  refine zD ?_;try simp only[zP]
  clear uf uc hS;have hdb10:=(H9.out.2.2.2.2.2.1).far (p:=⟨a.blk,0,none⟩) (fun e=>H9.out.2.2.2.2.2.2.1 e.symm) (.slice A9 (a.bs.length+n) c9);have hfb10:=(H9.out.2.2.2.2.1).set 0 (.slice A9 (a.bs.length+n) c9);have u2:(w9.setCell ⟨a.blk,0,none⟩ (.slice A9 (a.bs.length+n) c9)).drew.cell? ⟨d,2,none⟩=_:=hdb10.cell 2;have H10:=zh (zN hdb10 hfb10);clear hdb10 hfb10;obtain⟨w10,hw10⟩:∃ w10,w10=w9.setCell ⟨a.blk,0,none⟩ (.slice A9 (a.bs.length+n) c9):=⟨_,rfl⟩
  rw[<-hw10] at u2 H10 ⊢
  have HW10:=zh hw10;go_wp2_with fail;have hS:dI d xb xd xn n cp A s w10.drew:=by rw[hw10];exact H9.out.2.2.2.2.2.2.2.drew
  clear hw10;have hS:(dI d xb xd xn n cp A s) (w10.drew):=hS;refine aA (dI d xb xd xn n cp A s) (by kernel_rfl) hS ?_;refine zB [0,1,2,4,5] ?_;iterate 5 (refine zV ?_ ?_ hS ?_;rotate_left;(intro w' hSw;have u1:=hSw.b;have u3:=hSw.d;go_simp<;>with_reducible rfl);try simp only[zP])
  refine zE ?_;refine zC 3 fun K HK=>?_
  go_simp;go_wp2_with fail;refine HK.out.zt (dI d xb xd xn n cp A s) (fun _ h=>h) (hS) ?_;clear HK hS;intro hS;try simp only[zP]
  refine zB [6,7,8] ?_;iterate 3 (refine zv hS ?_;try simp only[zP])
  refine zE ?_;have uf:∀ i,w10.drew.frozen? ⟨d,i,none⟩=false:=H10.out.1.frozen
  have hx11:dI d xb xd xn n cp A s (w10.drew.setCell ⟨d,2,none⟩ (Z (used+(n:Int)))):=hS.keeps (S:=aM d M p) ((Keeps.refl _ w10.drew).setCell (fun _=>.inl rfl) _) HX.out.2.2.2.2.2.1 HX.out.2.2.2.2.2.2.1 HX.out.2.2.2.2.2.2.2;have HX11:=zh hx11;clear hx11;refine zC 9 fun K HK=>?_
  go_simp;go_wp2_with fail;refine HK.out.zt (dI d xb xd xn n cp A s) (fun _ h=>h) (HX11.out) ?_;clear HK hS;intro hS;try simp only[zP]
  refine zD ?_;try simp only[zP]
  clear uf hS u2;go_wp2_with fail;go_ret;have k1:Keeps (fun q=>q=a.blk\/q=d) w9 (w10.drew.setCell ⟨d,2,none⟩ (Z (used+(n:Int)))):=by
   rw[HW10.out];exact(((Keeps.refl _ w9).setCell (fun _=>.inl rfl) (.slice A9 (a.bs.length+n) c9)).drew).setCell (fun _=>.inr rfl) _
  have hap:=HX.out.1.drew.append HX.out.2.1 (v':=(.slice A9 (a.bs.length+n) c9)) (bs:=bs) (w1:=w9) H9.out.1 H9.out.2.1 H9.out.2.2.1 (used+(n:Int)) k1 (H10.out.2.drew.far (p:=⟨d,2,none⟩) H9.out.2.2.2.2.2.2.1 _) (H10.out.1.drew.set 2 _);refine⟨rfl,⟨a.blk,(.slice A9 (a.bs.length+n) c9),a.bs ++ bs,a.lasts,a.syn⟩,by rw[HP1.out],?_,?_⟩
  ·rw[HD.out.2.2.1]
   exact hap.1.more
  ·have h1:DStep w w1 d M p p:=DStep.of_below HK1.out.fF
   exact(h1.trans (DStep.of_below (Below.refl _ w1).drew.drew)).trans hap.2
end
end Go.Proofs.YtmffkpkgbdcnjaaGreatDoor
