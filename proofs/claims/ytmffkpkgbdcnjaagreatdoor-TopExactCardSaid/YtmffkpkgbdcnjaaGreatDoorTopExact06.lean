/-
  Texts of this proof, joined.
-/
import Derived.Test.YtmffkpkgbdcnjaaGreatDoorTopExact04
import Derived.Test.YtmffkpkgbdcnjaaGreatDoorTopExact05
set_option linter.unusedVariables false
set_option linter.unusedSimpArgs false
set_option maxRecDepth 100000
set_option maxHeartbeats 20000000
namespace Go.Proofs.YtmffkpkgbdcnjaaGreatDoor
section
open Go.RowKit Go.Maps
theorem QD(f:Nat->Pt)(n i:Nat): bO f n (i+1)=bO f n i ++ (qy (kH f (1024*i)) (jy n (1024*i))).1:=rfl
theorem Rm(pf:Nat->Nat->Pt)(pn:Nat->Nat)(i:Nat): sO pf pn (i+1)=sO pf pn i ++ bO (pf i) (pn i) (fq (pn i)):=rfl
theorem Rl(nm:Nat->ByteArray)(pf:Nat->Nat->Pt)(pn:Nat->Nat)(k i:Nat): sF nm pf pn k (i+1)=sF nm pf pn k i ++ (V.aF (fq (pn i)) ++ bF (pf i) (pn i) (fq (pn i))):=by
 show (sF nm pf pn k i ++ V.aF (fq (pn i))) ++ _=_
 rw[List.append_assoc]
def sT(nm:Nat->ByteArray)(pf:Nat->Nat->Pt)(pn:Nat->Nat)(k i:Nat): List Nat:=(sF nm pf pn k k).drop (sF nm pf pn k i).length
def I5(pf:Nat->Nat->Pt)(pn:Nat->Nat)(i m:Nat): Bk:=
 ⟨(sO pf pn i).length+(bO (pf i) (pn i) m).length,(qy (kH (pf i) (1024*m)) (jy (pn i) (1024*m))).1.length,(pf i (1024*m)).t,(pf i (1024*m+(jy (pn i) (1024*m)-1))).t,jy (pn i) (1024*m)⟩
def jZ(a b:Int)(p:Pt): Bool:=decide (a<=p.t) && decide (p.t < b)
def fK(f:Nat->Pt)(a b:Int): Nat->List Pt
 | 0=>[]
 | k+1=>if jZ a b (f k)=true then fK f a b k ++ [f k] else fK f a b k
theorem Fw(f:Nat->Pt)(a b:Int): ∀ k,(fK f a b k).length<=k
 | 0=>Nat.le_refl _
 | k+1=>by
  have:=Fw f a b k;show (if jZ a b (f k)=true then fK f a b k ++ [f k] else fK f a b k).length<=k+1
  split
  ·rw[List.length_append];simp;omega
  ·omega
structure GQ(w:World)(y z:Nat)(cz:Array Value)(l:List Nat)(wx:World): Prop where
 rd:jH wx y l
 gb:w.grownBy wx (some y)
 er:V.dh wx
 bz:ay wx z 360 cz
theorem GQ.step{w wx w':World}{y z:Nat}{cz:Array Value}{l l':List Nat}(h:GQ w y z cz l wx)(hg:wx.grownBy w' (some y))(hr:jH w' y l')(hne:some 0≠some y)(hz:y < z): GQ w y z cz l' w':=
 ⟨hr,qz h.gb hg,AA h.er hg hne,cZ hg h.bz (fun e=>by injection e with e;omega)⟩
theorem jH.far{w:World}{y g j:Nat}{l:List Nat}(h:jH w y l)(hg:y < g)(v:Value): jH (w.setCell ⟨g,j,none⟩ v) y l:=by
 obtain⟨A,c,h1,h2,h3⟩:=h;refine⟨A,c,h1.far (p:=⟨g,j,none⟩) (by show y≠g;omega) v,h2.keep (fun k hk _=>Below.heap_setCell _ _ _ _ (show k≠g by have:k < y:=hk;omega)),h3⟩
structure P7(w:World)(y z x:Nat)(cz cx:Array Value)(l:List Nat)(wx:World): Prop where
 z:GQ w y z cz l wx
 bx:ay wx x 360 cx
theorem GQ.new{w wx:World}{y z x:Nat}{cz:Array Value}{l:List Nat}(h:GQ w y z cz l wx)(cx:Array Value)(hx:x=wx.heap.size): P7 w y z x cz cx l (wx.alloc (.cells cx 360)):=by
 have hal:Below wx.heap.size wx (wx.alloc (.cells cx 360)):=(Below.refl _ _).alloc (Nat.le_refl _) _;exact⟨⟨h.rd.call hal,qz h.gb (jK hal _),h.er.below hal,h.bz.alloc _⟩,by rw[hx];exact ay.fresh _ _ _⟩
theorem P7.step{w wx w':World}{y z x:Nat}{cz cx:Array Value}{l l':List Nat}(h:P7 w y z x cz cx l wx)(hg:wx.grownBy w' (some y))(hr:jH w' y l')(hne:some 0≠some y)(hz:y < z)(hx:y < x): P7 w y z x cz cx l' w':=
 ⟨h.z.step hg hr hne hz,cZ hg h.bx (fun e=>by injection e with e;omega)⟩
theorem Bc{pf:Nat->Nat->Pt}{pn:Nat->Nat}: ∀ k,sV pf pn k=true->∀ i,i < k->bV (pf i) (pn i) (fq (pn i))=true/\0 < pn i
 | 0,_,i,hi=>J
 | k+1,h,i,hi=>by
  have h':(sV pf pn k && Kr pf pn k)=true:=h;rw[Bool.and_eq_true] at h'
  rcases Nat.lt_or_ge i k with h1 | h1
  ·exact Bc k h'.1 i h1
  ·obtain rfl:i=k:=J
   have h2:=h'.2;unfold Kr at h2
   rw[Bool.and_eq_true,decide_eq_true_eq] at h2
   exact h2
structure Built(nm:Nat->ByteArray)(pf:Nat->Nat->Pt)(pn:Nat->Nat)(k:Nat): Prop where
 k0:0 < k
 k1:k<=1024
 nms:nH nm k=true
 pts:sV pf pn k=true
 pb:∀ j,j < k->pn j<=4096
theorem Built.rise{nm:Nat->ByteArray}{pf:Nat->Nat->Pt}{pn:Nat->Nat}{k:Nat}(h:Built nm pf pn k): Dq nm k:=ER h.nms
theorem Built.name{nm:Nat->ByteArray}{pf:Nat->Nat->Pt}{pn:Nat->Nat}{k i:Nat}(h:Built nm pf pn k)(hi:i < k): fZ (nm i)=true:=EP h.nms hi
theorem Built.bv{nm:Nat->ByteArray}{pf:Nat->Nat->Pt}{pn:Nat->Nat}{k i:Nat}(h:Built nm pf pn k)(hi:i < k): bV (pf i) (pn i) (fq (pn i))=true:=(Bc k h.pts i hi).1
theorem Built.pos{nm:Nat->ByteArray}{pf:Nat->Nat->Pt}{pn:Nat->Nat}{k i:Nat}(h:Built nm pf pn k)(hi:i < k): 0 < pn i:=(Bc k h.pts i hi).2
theorem Built.nb{nm:Nat->ByteArray}{pf:Nat->Nat->Pt}{pn:Nat->Nat}{k i:Nat}(h:Built nm pf pn k)(hi:i < k): 1<=fq (pn i)/\fq (pn i)<=4:=by
 have h1:=h.pos hi;have h2:=h.pb i hi;unfold fq;omega
structure mo(L O:List Nat)(nm:Nat->ByteArray)(pf:Nat->Nat->Pt)(pn:Nat->Nat)(k:Nat): Prop where
 eq:L=O ++ F.aZ 5 (sF nm pf pn k k) ++ F.aZ 6 (four (F.aZ 5 (sF nm pf pn k k)).length)
 ol:O.length=(sO pf pn k).length
 ob:∀ x ∈ O,x < 256
 len:L.length<=1048576
theorem mo.fl{L O:List Nat}{nm:Nat->ByteArray}{pf:Nat->Nat->Pt}{pn:Nat->Nat}{k:Nat}(h:mo L O nm pf pn k): L.length=O.length+(F.aZ 5 (sF nm pf pn k k)).length+13:=by
 rw[h.eq,List.length_append,List.length_append,F.bT 6];rfl
theorem mo.byte{L O:List Nat}{nm:Nat->ByteArray}{pf:Nat->Nat->Pt}{pn:Nat->Nat}{k:Nat}(h:mo L O nm pf pn k): ∀ x ∈ L,x < 256:=by
 rw[h.eq];exact iP (iP h.ob (F.pK J (V.gG (Im nm pf pn k k)))) (F.pK J (V.gG (Ls _)))
theorem mo.take{L O:List Nat}{nm:Nat->ByteArray}{pf:Nat->Nat->Pt}{pn:Nat->Nat}{k:Nat}(h:mo L O nm pf pn k): L.take O.length=O:=by
 rw[h.eq,List.append_assoc];exact List.take_left
def xO(w:World)(v:Value)(n:Nat)(B:Nat->Bk): Prop:=∃ g c,v=.slice (some ⟨g,0,none⟩) n c/\g < w.heap.size/\n<=c/\∀ m,m < n->∀ i,i < 5->w.cell? ⟨g,m*5+i,none⟩=(G7 (B m))[i]?
theorem xO.below{w w':World}{v:Value}{n:Nat}{B:Nat->Bk}(h:xO w v n B)(hb:Below w.heap.size w w'): xO w' v n B:=by
 obtain⟨g,c,h1,h2,h3,h4⟩:=h;exact⟨g,c,h1,Nat.lt_of_lt_of_le h2 hb.size,h3,fun m hm i hi=>(hb.cell (by exact h2)).trans (h4 m hm i hi)⟩
theorem xO.of{w:World}{base n:Nat}{v:Value}{B:Nat->Bk}(h:w.ownsRow base 360 5 v n (uR B n))(hn:0 < n): xO w v n B:=by
 obtain⟨A,c,hv,hc,hp⟩:=aH h;obtain⟨g,hA,-,hg⟩:=hp hn;subst hv hA;refine⟨g,c,rfl,hg,hc,fun m hm i hi=>?_⟩;have hl:m*5+i < (uR B n).length:=by rw[Ai];omega
 have c1:=World.ownsRow.cells h (g:=g) rfl _ _ (List.getElem?_eq_getElem hl);have hadd:∀ i,(⟨g,0,none⟩:Addr).add i=⟨g,0+i,none⟩:=fun i=>by unfold Addr.add;split<;>simp_all
 rw[hadd,Nat.zero_add] at c1
 rw[c1,<-List.getElem?_eq_getElem hl];exact K8 B m i hi n hm
structure C8(w:World)(p:Nat)(O:List Nat)(nm:Nat->ByteArray)(pf:Nat->Nat->Pt)(pn:Nat->Nat)(k:Nat)(M o:Nat)(Ab:Option Addr)(cb cn:Nat)(VS:Nat->Value): Prop where
 seg:ay w p 353 #[.slice Ab O.length cb,.slice (some ⟨o,0,none⟩) k cn,.map (some M)]
 row:Sl w (fun q=>q < w.heap.size) Ab O.length (aI O)
 cap:O.length<=cb/\cb<=9223372036854775807
 nms:∃ cs,ay w o 9 cs/\cs.size=k/\∀ j,j < k->cs[j]? = some (.string (nm j))
 ncap:k<=cn/\cn<=9223372036854775807
 map:mD w M k k nm VS
 bks:∀ j,j < k->xO w (VS j) (fq (pn j)) (I5 pf pn j)
theorem C8.below{w w':World}{p:Nat}{O:List Nat}{nm:Nat->ByteArray}{pf:Nat->Nat->Pt}{pn:Nat->Nat}{k M o:Nat}{Ab:Option Addr}{cb cn:Nat}{VS:Nat->Value}(h:C8 w p O nm pf pn k M o Ab cb cn VS)(hb:Below w.heap.size w w'): C8 w' p O nm pf pn k M o Ab cb cn VS:=by
 obtain⟨cs,n1,n2⟩:=h.nms;exact⟨h.seg.below hb h.seg.lt,V.eY h.row hb,h.cap,⟨cs,n1.below hb n1.lt,n2⟩,h.ncap,h.map.call hb,fun j hj=>(h.bks j hj).below hb⟩
structure xS(B:Nat)(w:World)(p o M y:Nat)(Ab:Option Addr)(cb:Nat)(cs:Array Value)(O:List Nat)(k:Nat): Prop where
 seg:ay w p 353 #[.slice Ab O.length cb,.slice (some ⟨o,0,none⟩) k k,.map (some M)]
 row:w.ownsRow B 5 1 (.slice Ab O.length cb) O.length (O.map V.aR)
 nms:ay w o 9 cs
 py:p < y
 oy:o < y
 my:M < y
 ry:∀ g,(Value.slice Ab O.length cb).ownBlock=some g->g < y
theorem xS.gb{B:Nat}{w w':World}{p o M y:Nat}{Ab:Option Addr}{cb:Nat}{cs:Array Value}{O:List Nat}{k:Nat}(h:xS B w p o M y Ab cb cs O k)(hg:w.grownBy w' (some y)): xS B w' p o M y Ab cb cs O k:=by
 have h1:=h.py;have h2:=h.oy;refine⟨cZ hg h.seg (fun e=>by injection e with e;omega),h.row.kept hg ?_,cZ hg h.nms (fun e=>by injection e with e;omega),h.py,h.oy,h.my,h.ry⟩
 cases e:(Value.slice Ab O.length cb).ownBlock with
 | none=>exact .inl rfl
 | some g=>exact .inr fun e'=>by have:=h.ry g e;injection e' with e';omega
theorem map_cell{w:World}{M n k:Nat}{nm:Nat->ByteArray}{VS:Nat->Value}(h:mD w M n k nm VS)(j:Nat): w.cell? ⟨M,j,none⟩=none:=by
 obtain⟨es,clock,hb,-⟩:=h;simp[World.cell?,hb]
theorem AL{w:World}{M n k g:Nat}{nm:Nat->ByteArray}{VS:Nat->Value}{t:TypeId}{cs:Array Value}(h:mD w M n k nm VS)(hg:ay w g t cs): some g≠some M:=fun e=>by
 injection e with e
 obtain⟨es,clock,hb,-⟩:=h;subst e;have h1:w.heap[g]? = _:=hg;rw[hb] at h1
 cases h1
theorem AO{w:World}{M n k base m size:Nat}{nm:Nat->ByteArray}{VS:Nat->Value}{e:TypeId}{v:Value}{xs:List Value}(h:mD w M n k nm VS)(ho:w.ownsRow base e size v m xs): v.ownBlock=none\/v.ownBlock≠some M:=by
 rcases ho.2 with ⟨rfl,-⟩ | ⟨g,cap,cur,rfl,_,hh,_⟩
 ·exact .inl rfl
 ·refine .inr fun e=>?_
  have e2:g=M:=by simpa [Value.ownBlock] using e
  subst e2;obtain⟨es,clock,hb,-⟩:=h;rw[hb] at hh
  cases hh
theorem xS.Qf{B:Nat}{w w':World}{p o M y:Nat}{Ab:Option Addr}{cb:Nat}{cs:Array Value}{O:List Nat}{k n i:Nat}{nm:Nat->ByteArray}{VS:Nat->Value}(h:xS B w p o M y Ab cb cs O k)(hm:mD w M n i nm VS)(hg:w.grownBy w' (some M)): xS B w' p o M y Ab cb cs O k:=
 ⟨cZ hg h.seg (AL hm h.seg),h.row.kept hg ((AO hm h.row).imp id fun e e'=>e (by rw[<-e'])),cZ hg h.nms (AL hm h.nms),h.py,h.oy,h.my,h.ry⟩
theorem jH.Qf{w w':World}{M y n k:Nat}{l:List Nat}{nm:Nat->ByteArray}{VS:Nat->Value}(h:jH w y l)(hm:mD w M n k nm VS)(hg:w.grownBy w' (some M)): jH w' y l:=by
 obtain⟨A,c,h1,h2,h3⟩:=h;refine⟨A,c,cZ hg h1 (AL hm h1),fun hn=>?_,h3⟩;obtain⟨b,off,e,hD,hc⟩:=h2 hn;refine⟨b,off,e,hD,fun j hj=>wu hg (hc j hj) (fun e=>?_)⟩;injection e with e
 have h4:=hc 0 hn;have e2:b=M:=e;rw[e2,map_cell hm] at h4
 cases h4
theorem jH.row{w w':World}{y base size n:Nat}{l:List Nat}{e:TypeId}{v:Value}{xs:List Value}(h:jH w y l)(ho:w.ownsRow base e size v n xs)(hy:y < base)(hg:w.grownBy w' v.ownBlock): jH w' y l:=by
 obtain⟨A,c,h1,h2,h3⟩:=h;refine⟨A,c,cZ hg h1 (fun e=>by have:=(ho.lt y e.symm).1;omega),h2.keep (fun q hq hlt=>hg.block q hlt (fun e=>by have h4:=(ho.lt q e.symm).1;have h5:q < y:=hq;omega)),h3⟩
def sW(w:World)(y:Nat)(VS:Nat->Value)(pf:Nat->Nat->Pt)(pn:Nat->Nat)(i:Nat): Prop:=∀ j,j < i->w.ownsRow (y+1) 360 5 (VS j) (fq (pn j)) (uR (I5 pf pn j) (fq (pn j)))
theorem sW.gb{w w':World}{y i:Nat}{VS:Nat->Value}{pf:Nat->Nat->Pt}{pn:Nat->Nat}(h:sW w y VS pf pn i)(hg:w.grownBy w' (some y)): sW w' y VS pf pn i:=fun j hj=>by
 refine(h j hj).kept hg ?_
 cases e:(VS j).ownBlock with
 | none=>exact .inl rfl
 | some g=>exact .inr fun e'=>by have:=((h j hj).lt g e).1;injection e' with e';omega
theorem sW.Qf{w w':World}{y i M n k:Nat}{VS WS:Nat->Value}{pf:Nat->Nat->Pt}{pn:Nat->Nat}{nm:Nat->ByteArray}(h:sW w y VS pf pn i)(hm:mD w M n k nm WS)(hg:w.grownBy w' (some M)): sW w' y VS pf pn i:=fun j hj=>
 (h j hj).kept hg ((AO hm (h j hj)).imp id fun e e'=>e (by rw[<-e']))
def vC: Value->Nat
 | .slice _ n _=>n
 | _=>0
structure Bo(w0:World)(nm:Nat->ByteArray)(pf:Nat->Nat->Pt)(pn:Nat->Nat)(k p o M y:Nat)(Ab:Option Addr)(cb:Nat)(cs:Array Value)(O:List Nat)(j:Nat)(VS:Nat->Value)(w:World): Prop where
 seg:xS w0.heap.size w p o M y Ab cb cs O k
 map:mD w M j j nm VS
 row:sW w y VS pf pn j
 av:Below w0.heap.size w0 w
 y0:w0.heap.size<=y
 my:M < y
 m0:w0.heap.size<=M
theorem Bo.call{w0 w w':World}{nm:Nat->ByteArray}{pf:Nat->Nat->Pt}{pn:Nat->Nat}{k p o M y:Nat}{Ab:Option Addr}{cb:Nat}{cs:Array Value}{O:List Nat}{j:Nat}{VS:Nat->Value}(h:Bo w0 nm pf pn k p o M y Ab cb cs O j VS w)(hg:w.grownBy w' (some y)): Bo w0 nm pf pn k p o M y Ab cb cs O j VS w':=
 ⟨h.seg.gb hg,h.map.gb hg (fun e=>by injection e with e;have:=h.my;omega),h.row.gb hg,rD h.av hg h.y0,h.y0,h.my,h.m0⟩
structure RD(w1:World)(y:Nat)(T:List Nat)(l:Value)(m:Nat)(B:Nat->Bk)(g:Nat)(cs:Array Value)(w:World): Prop where
 gb:w1.grownBy w (some y)
 rd:jH w y T
 row:w.ownsRow w1.heap.size 360 5 l m (uR B m)
 bx:ay w g 360 cs
theorem RD.call{w1 w w':World}{y m g:Nat}{T:List Nat}{l:Value}{B:Nat->Bk}{cs:Array Value}(h:RD w1 y T l m B g cs w)(hb:Below w.heap.size w w'): RD w1 y T l m B g cs w':=by
 refine⟨qz h.gb (jK hb _),h.rd.call hb,h.row.kept (jK hb none) ?_,h.bx.below hb h.bx.lt⟩
 cases l.ownBlock with
 | none=>exact .inl rfl
 | some g=>exact .inr (by simp)
theorem Bo.put{w0 w w':World}{nm:Nat->ByteArray}{pf:Nat->Nat->Pt}{pn:Nat->Nat}{k p o M y:Nat}{Ab:Option Addr}{cb:Nat}{cs:Array Value}{O:List Nat}{j base:Nat}{VS:Nat->Value}{v:Value}(h:Bo w0 nm pf pn k p o M y Ab cb cs O j VS w)(hv:w.ownsRow base 360 5 v (fq (pn j)) (uR (I5 pf pn j) (fq (pn j))))(hy:y < base)(hm:w'.ownsMap Tryz.prog 9 eO M (j+1) ((DB nm VS j).put (fV (nm j)) (.held v)))(hg:w.grownBy w' (some M)):
  Bo w0 nm pf pn k p o M y Ab cb cs O (j+1) (fun i=>if i=j then v else VS i) w':=by
 refine⟨h.seg.Qf h.map hg,?_,fun i hi=>?_,rD h.av hg h.m0,h.y0,h.my,h.m0⟩
 ·show w'.ownsMap Tryz.prog 9 eO M (j+1) (DB nm _ (j+1))
  have e:DB nm (fun i=>if i=j then v else VS i) (j+1)=(DB nm VS j).put (fV (nm j)) (.held v):=by
   show (DB nm (fun i=>if i=j then v else VS i) j).put (fV (nm j)) (.held (if j=j then v else VS j))=_
   rw[Dh nm j (WS:=VS) (fun i hi=>if_neg J),if_pos rfl]
  rw[e];exact hm
 ·show w'.ownsRow (y+1) 360 5 (if i=j then v else VS i) (fq (pn i)) (uR (I5 pf pn i) (fq (pn i)))
  by_cases e:i=j
  ·subst e
   rw[if_pos rfl];exact aN (hv.kept hg ((AO h.map hv).imp id fun e e'=>e (by rw[<-e']))) hy
  ·rw[if_neg e]
   exact h.row.Qf h.map hg i J
theorem Bo.done{w0 w:World}{nm:Nat->ByteArray}{pf:Nat->Nat->Pt}{pn:Nat->Nat}{k p o M y:Nat}{Ab:Option Addr}{cb:Nat}{cs:Array Value}{O:List Nat}{VS:Nat->Value}(h:Bo w0 nm pf pn k p o M y Ab cb cs O k VS w)(hB:Built nm pf pn k)(hsz:cs.size=k)(hcs:∀ j,j < k->cs[j]? = some (.string (nm j))):
  C8 w p O nm pf pn k M o Ab cb k VS:=
 ⟨h.seg.seg,V.gI h.seg.row,V.lY h.seg.row,⟨cs,h.seg.nms,hsz,hcs⟩,⟨Nat.le_refl _,by have:=hB.k1;omega⟩,h.map,fun j hj=>xO.of (h.row j hj) (hB.nb hj).1⟩
theorem BJ{w0 w w':World}{e:TypeId}{n size:Nat}{v:Value}{xs:List Value}(hb:Below w0.heap.size w0 w)(ho:w.ownsRow w0.heap.size e size v n xs)(hg:w.grownBy w' v.ownBlock): Below w0.heap.size w0 w':=by
 have hk:Keeps (fun k=>v.ownBlock=some k) w w':=(Keeps.refl _ w).grown hg (fun k e _=>e);exact hb.trans (hk.below hb.size (fun k hlt e=>by have:=(ho.lt k e).1;omega))
def jJ(nm:Nat->ByteArray)(pn:Nat->Nat)(k:Nat): Nat->Nat
 | 0=>10*k
 | i+1=>jJ nm pn k i+pn i+(nm i).size
theorem BH(nm:Nat->ByteArray)(pn:Nat->Nat)(k i:Nat): ∀ d,jJ nm pn k i<=jJ nm pn k (i+d)
 | 0=>Nat.le_refl _
 | d+1=>by
  have:=BH nm pn k i d;show _<=jJ nm pn k (i+d)+pn (i+d)+(nm (i+d)).size
  omega
theorem wh(nm:Nat->ByteArray)(pn:Nat->Nat)(k i j:Nat)(h:i<=j): jJ nm pn k i<=jJ nm pn k j:=by
 have:=BH nm pn k i (j-i);rw[show i+(j-i)=j by omega] at this
 exact this
theorem rC(nm:Nat->ByteArray)(pn:Nat->Nat)(k j:Nat)(h:j < k): pn j+(nm j).size+10*k<=jJ nm pn k k:=by
 have h1:=wh nm pn k (j+1) k h;have h2:=wh nm pn k 0 j J;have h3:jJ nm pn k 0=10*k:=rfl;have h4:jJ nm pn k (j+1)=jJ nm pn k j+pn j+(nm j).size:=rfl;omega
theorem qH(nm:Nat->ByteArray)(n:Nat)(hn:n<=1024): ∀ k,(∀ j,j < k->(nm j).size<=2500)->(qG nm n k).length<=10+k*2510
 | 0,_=>by show (V.aF n).length<=_;have:=V.aK (u:=n) J;omega
 | k+1,h=>by
  have ih:=qH nm n hn k (fun j hj=>h j J);have h1:=h k J;have h2:=V.aK (u:=(nm k).size) J;show (qG nm n k ++ V.aF (nm k).size ++ V.txt (nm k)).length<=_
  rw[List.length_append,List.length_append,V.fD];omega
theorem Lp{nm:Nat->ByteArray}{pn:Nat->Nat}{pf:Nat->Nat->Pt}{k:Nat}(hok:∀ j i,eU (pf j i))(h:jJ nm pn k k < 2500): Small nm pf pn k:=by
 have hk:k < 250:=by
  have:=wh nm pn k 0 k J;have h3:jJ nm pn k 0=10*k:=rfl;omega
 have hp:∀ j,j < k->pn j<=2500:=fun j hj=>by have:=rC nm pn k j hj;omega
 have hn:∀ j,j < k->(nm j).size<=2500:=fun j hj=>by have:=rC nm pn k j hj;omega
 have ho:∀ i,i<=k->(sO pf pn i).length<=i*390147:=by
  intro i
  induction i with
  | zero=>intro _;simp[sO]
  | succ i ih=>
   intro hi;have h1:=ih J;have h2:=K7 (pf i) (pn i) (by have:=hp i J;omega) (fq (pn i));have h3:fq (pn i)<=3:=by have:=hp i J;unfold fq;omega
   have h4:fq (pn i)*130049<=3*130049:=Nat.mul_le_mul_right _ h3;show (sO pf pn i ++ bO (pf i) (pn i) (fq (pn i))).length<=_
   rw[List.length_append];omega
 have hf:∀ i,i<=k->(sF nm pf pn k i).length<=10+k*2510+i*130:=by
  intro i
  induction i with
  | zero=>
   intro _;have:=qH nm k J k hn;show (qG nm k k).length<=_
   omega
  | succ i ih=>
   intro hi;have h1:=ih J;have h2:=DI (pf i) (hok i) (pn i) (by have:=hp i J;omega) (fq (pn i));have h3:fq (pn i)<=3:=by have:=hp i J;unfold fq;omega
   have h5:=V.aK (u:=fq (pn i)) J;show (sF nm pf pn k i ++ V.aF (fq (pn i)) ++ bF (pf i) (pn i) (fq (pn i))).length<=_
   rw[List.length_append,List.length_append];omega
 exact⟨J,fun j hj=>by have:=hn j hj;omega,fun j hj=>by have:=hp j hj;omega,fun i hi=>by have:=ho i hi;omega,fun i hi=>by have:=hf i hi;omega⟩
end
end Go.Proofs.YtmffkpkgbdcnjaaGreatDoor
