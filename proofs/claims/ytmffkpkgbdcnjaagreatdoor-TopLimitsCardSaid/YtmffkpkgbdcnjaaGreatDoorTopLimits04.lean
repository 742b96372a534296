/-
  Texts of this proof, joined.
-/
import Derived.Test.YtmffkpkgbdcnjaaGreatDoorTopLimits02
import Derived.Test.YtmffkpkgbdcnjaaGreatDoorTopLimits01
import Derived.Test.YtmffkpkgbdcnjaaGreatDoorTopLimits03
import Derived.Lib.ConvBytes
import Derived.WalkKit
import Derived.WalkSpells
import Derived.WalkLawsBesides
import Derived.Outline
import Derived.Deep.Cut
import Derived.Laws.IdiomCopy
import Derived.Laws.OwnMore
import Derived.Deep.DeepCutAuto
import Derived.Maps.OwnSet
set_option linter.unusedVariables false
set_option linter.unusedSimpArgs false
set_option maxRecDepth 100000
set_option maxHeartbeats 20000000
namespace Go.Proofs.YtmffkpkgbdcnjaaGreatDoor
section
open Go.RowKit
theorem JE(t ms:List Nat)(most:Int)(ht:(t.length:Int)≤most)(hn:t.length < 18446744073709551616): V.dF (V.aC t.length ++ t ++ ms) most=(t,(V.aC t.length).length+t.length,0):=by
 unfold V.dF
 rw[List.append_assoc,V.iA t.length (t ++ ms) hn]
 rw[if_neg (by simp),if_neg (by simp;omega),if_neg (by simp)]
 simp
theorem mK{l:List Nat}{most:Int}(hb:∀ j,l.getD j 0 < 256)(h:(V.dF l most).2.2=0):
  (V.dF l most).2.1≤l.length∧l.take (V.dF l most).2.1=V.aC (V.dF l most).1.length ++ (V.dF l most).1∧((V.dF l most).1.length:Int)≤most:=by
 unfold V.dF at h ⊢
 by_cases h1:(V.aB l).2.2=0
 ·rw[if_neg (by simp[h1])] at h ⊢
  obtain⟨g1,g2,g3⟩:=V.yS hb h1
  by_cases h2:most < 0∨most < (V.aB l).1
  ·rw[if_pos h2] at h;cases h
  ·rw[if_neg h2] at h ⊢
   by_cases h3:l.length-(V.aB l).2.1 < (V.aB l).1
   ·rw[if_pos h3] at h;cases h
   ·rw[if_neg h3]
    have hl:((l.drop (V.aB l).2.1).take (V.aB l).1).length=(V.aB l).1:=by rw[List.length_take,List.length_drop];omega
    refine⟨by show (V.aB l).2.1+(V.aB l).1≤_;omega,?_,by show ((((l.drop (V.aB l).2.1).take (V.aB l).1).length:Nat):Int)≤most;rw[hl];omega⟩
    show l.take ((V.aB l).2.1+(V.aB l).1)=V.aC ((l.drop (V.aB l).2.1).take (V.aB l).1).length ++ _
    rw[hl,g3,List.take_add]
 ·rw[if_pos (by simpa using h1)] at h;exact absurd h h1
def iD(I:List Nat): Nat→Nat
 | 0=>(V.aB I).2.1
 | j+1=>iD I j+(V.dF (I.drop (iD I j)) 1048576).2.1
def eF(I:List Nat)(j:Nat): List Nat:=(V.dF (I.drop (iD I j)) 1048576).1
def vF(I:List Nat)(j:Nat): Nat:=(V.dF (I.drop (iD I j)) 1048576).2.2
structure Parts(b:List Nat): Prop where
 e:F.dY b=0
 k:F.fO b=3
 v:(V.aB (F.aK b)).2.2=0
 m:(V.aB (F.aK b)).1≤4096
 t:∀ j,j < 3→vF (F.aK b) j=0
 z:iD (F.aK b) 3=(F.aK b).length
def jC(n:Nat)(p:Nat→List Nat): Nat→List Nat
 | 0=>V.aC n
 | j+1=>jC n p j ++ V.aC (p j).length ++ p j
theorem qW(f:Nat→Pt)(n:Nat): ∀ j,eG f n j=jC n (bX f n) j
 | 0=>rfl
 | j+1=>by show eG f n j ++ _ ++ _=jC n (bX f n) j ++ _ ++ _;rw[qW f n j]
theorem CO{n:Nat}{p q:Nat→List Nat}: ∀ j,(∀ i,i < j→p i=q i)→jC n p j=jC n q j
 | 0,_=>rfl
 | j+1,h=>by show jC n p j ++ _ ++ _=jC n q j ++ _ ++ _;rw[CO j (fun i hi=>h i (by omega)),h j (by omega)]
theorem yj{I:List Nat}(hb:∀ j,I.getD j 0 < 256)(hv:(V.aB I).2.2=0): ∀ j,(∀ i,i < j→vF I i=0)→I.take (iD I j)=jC (V.aB I).1 (eF I) j∧iD I j≤I.length
 | 0,_=>by
  obtain⟨g1,g2,g3⟩:=V.yS hb hv
  exact⟨g3.symm,g2⟩
 | j+1,h=>by
  obtain⟨i1,i2⟩:=yj hb hv j (fun i hi=>h i (by omega))
  obtain⟨g1,g2,g3⟩:=mK (l:=I.drop (iD I j)) (most:=1048576) (V.bN hb _) (h j (by omega))
  rw[List.length_drop] at g1
  refine⟨?_,by show iD I j+_≤_;omega⟩
  show I.take (iD I j+(V.dF (I.drop (iD I j)) 1048576).2.1)=jC _ _ j ++ V.aC (eF I j).length ++ eF I j
  rw[List.take_add,i1,g2,List.append_assoc]
  rfl
theorem yg(n:Nat)(p:Nat→List Nat): ∀ j k,∃ r,jC n p (j+k)=jC n p j ++ r
 | j,0=>⟨[],by simp⟩
 | j,k+1=>by
  obtain⟨r,hr⟩:=yg n p j k
  refine⟨r ++ V.aC (p (j+k)).length ++ p (j+k),?_⟩
  show jC n p (j+k) ++ _ ++ _=_
  rw[hr]
  simp only[List.append_assoc]
  rfl
theorem PO{n:Nat}{p:Nat→List Nat}(hn:n < 18446744073709551616)(hp:∀ i,(p i).length≤1048576): (V.aB (jC n p 3)).1=n∧(V.aB (jC n p 3)).2.2=0∧∀ j,j≤3→iD (jC n p 3) j=(jC n p j).length∧∀ i,i < j→eF (jC n p 3) i=p i∧vF (jC n p 3) i=0:=by
 obtain⟨r,hr⟩:=yg n p 0 3
 have hg:V.aB (jC n p 3)=(n,(V.aC n).length,0):=by
  rw[show jC n p 3=V.aC n ++ r from by rw[show (3:Nat)=0+3 from rfl,hr];rfl]
  exact V.iA n r hn
 refine⟨by rw[hg],by rw[hg],fun j=>?_⟩
 induction j with
 | zero=>intro _;exact ⟨by show (V.aB _).2.1=_;rw[hg];rfl,fun i hi=>by omega⟩
 | succ j ih=>
  intro hj
  obtain⟨i1,i2⟩:=ih (by omega)
  obtain⟨r2,hr2⟩:=yg n p (j+1) (3-(j+1))
  rw[show j+1+(3-(j+1))=3 by omega] at hr2
  have ht:V.dF ((jC n p 3).drop (iD (jC n p 3) j)) 1048576=(p j,(V.aC (p j).length).length+(p j).length,0):=by
   rw[i1]
   have e:(jC n p 3).drop (jC n p j).length=V.aC (p j).length ++ p j ++ r2:=by
    rw[hr2]
    show (jC n p j ++ V.aC (p j).length ++ p j ++ r2).drop _=_
    rw[List.append_assoc,List.append_assoc,List.drop_left]
    simp only[List.append_assoc]
   rw[e]
   have:=hp j
   exact JE _ _ _ (by omega) (by omega)
  refine⟨?_,fun i hi=>?_⟩
  ·show iD _ j+(V.dF _ _).2.1=(jC n p j ++ V.aC (p j).length ++ p j).length
   rw[ht,i1,List.length_append,List.length_append]
   simp only[]
   omega
  ·rcases Nat.lt_or_ge i j with h1 | h1
   ·exact i2 i h1
   ·obtain rfl:i=j:=by omega
    unfold eF vF
    rw[ht]
    exact⟨rfl,rfl⟩
def gP(ts:List Int)(vs:List Nat)(ss:List Int)(j:Nat): Pt:=⟨ts.getD j 0,IntKind.i64.wrap (vs.getD j 0:Nat),ss.getD j 0⟩
theorem Fp{b:List Nat}(hb:∀ x ∈ b,x < 256)(hP:Parts b){ts:List Int}{vs:List Nat}{ss:List Int}(h0:D.jw (eF (F.aK b) 0) (V.aB (F.aK b)).1=(ts,0))(h1:X.lV (eF (F.aK b) 1) (V.aB (F.aK b)).1=some vs)(h2:D.jw (eF (F.aK b) 2) (V.aB (F.aK b)).1=(ss,0))(hvs:∀ j,vs.getD j 0 < 18446744073709551616)(hI:∀ j,(F.aK b).getD j 0 < 256):
  F.aN 3 (eG (gP ts vs ss) (V.aB (F.aK b)).1 3)=b∧ts.length=(V.aB (F.aK b)).1∧vs.length=(V.aB (F.aK b)).1∧ss.length=(V.aB (F.aK b)).1:=by
 obtain⟨g1,-,-⟩:=F.DF hb hP.e
 obtain⟨g2,-⟩:=yj hI hP.v 3 (fun i hi=>hP.t i hi)
 have hpb:∀ j,j < 3→∀ i,(eF (F.aK b) j).getD i 0 < 256:=fun j hj=>by
  obtain⟨k1,k2,-⟩:=mK (l:=(F.aK b).drop (iD (F.aK b) j)) (most:=1048576) (V.bN hI _) (hP.t j hj)
  refine V.bW (fun x hx=>?_)
  have hm:x ∈ ((F.aK b).drop (iD (F.aK b) j)).take (V.dF ((F.aK b).drop (iD (F.aK b) j)) 1048576).2.1:=by rw[k2];exact List.mem_append_right _ hx
  exact F.kP hI x (List.mem_of_mem_drop (List.mem_of_mem_take hm))
 obtain⟨n,hn⟩:∃ n,n=(V.aB (F.aK b)).1:=⟨_,rfl⟩
 obtain⟨a1,a2,a3⟩:=D.wM (hpb 0 (by omega)) h0
 obtain⟨b1,b2,b3⟩:=X.Eb (hpb 1 (by omega)) h1
 obtain⟨c1,c2,c3⟩:=D.wM (hpb 2 (by omega)) h2
 rw[←hn] at a1 b1 c1 g2 ⊢
 have ea:ts.length=n:=by omega
 have eb:vs.length=n:=by omega
 have ec:ss.length=n:=by omega
 refine⟨?_,ea,eb,ec⟩
 rw[ea] at a3
 rw[eb] at b3
 rw[ec] at c3
 have p0:bX (gP ts vs ss) n 0=eF (F.aK b) 0:=by
  rw[←a3]
  show pack (D.aY (mR (gP ts vs ss) n) n)=_
  rw[(D.nW (f:=mR (gP ts vs ss) n) (g:=fun j=>ts.getD j 0) n (fun j hj=>by unfold mR;exact (if_pos hj).trans rfl)).1]
 have p1:bX (gP ts vs ss) n 1=eF (F.aK b) 1:=by
  rw[←b3]
  show pack (X.aV (nC (gP ts vs ss) n) n)=_
  rw[(X.qy (f:=nC (gP ts vs ss) n) (g:=fun j=>vs.getD j 0) n (fun j hj=>by
   unfold nC
   rw[if_pos hj]
   show (IntKind.u64.wrap (IntKind.i64.wrap (vs.getD j 0:Nat))).toNat=vs.getD j 0
   have:=hvs j
   rw[IntKind.wrap_i64,IntKind.wrap_u64]
   omega)).1]
 have p2:bX (gP ts vs ss) n 2=eF (F.aK b) 2:=by
  rw[←c3]
  show pack (D.aY (mQ (gP ts vs ss) n) n)=_
  rw[(D.nW (f:=mQ (gP ts vs ss) n) (g:=fun j=>ss.getD j 0) n (fun j hj=>by unfold mQ;exact (if_pos hj).trans rfl)).1]
 rw[qW,CO (q:=eF (F.aK b)) 3 (fun i hi=>by
  have h3:i=0∨i=1∨i=2:=by omega
  rcases h3 with rfl | rfl | rfl
  ·exact p0
  ·exact p1
  ·exact p2),←g2,hP.z,List.take_length,←hP.k]
 exact g1.symm
theorem iH{f:Nat→Pt}{n:Nat}{b:List Nat}(hv:dX f n=true)(hb:F.aN 3 (eG f n 3)=b):
  Parts b∧(V.aB (F.aK b)).1=n∧D.jw (eF (F.aK b) 0) n=(D.upTo (mR f n) n,0)∧X.lV (eF (F.aK b) 1) n=some (X.gK (nC f n) n)∧D.jw (eF (F.aK b) 2) n=(D.upTo (mQ f n) n,0):=by
 obtain⟨-,-,hn4⟩:=oF hv
 have hlen:=oC f n hn4 3
 obtain⟨o1,o2,o3⟩:=F.vR (kind:=3) (bs:=eG f n 3) (by omega) (oW f n 3) (by omega)
 rw[hb] at o1 o2 o3
 rw[o3]
 obtain⟨u1,u2,u3⟩:=PO (n:=n) (p:=bX f n) (by omega) (fun i=>by have:=mI f n i hn4;omega)
 rw[←qW] at u1 u2 u3
 obtain⟨w1,w2⟩:=u3 3 (Nat.le_refl _)
 rw[←qW] at w1
 refine⟨⟨o1,o2,by rw[o3];exact u2,by rw[o3,u1];exact hn4,fun j hj=>by rw[o3];exact (w2 j hj).2,by rw[o3];exact w1⟩,u1,?_,?_,?_⟩
 ·rw[(w2 0 (by omega)).1]
  unfold D.jw
  rw[if_neg (by omega),if_neg (by omega)]
  exact D.Fa (Df hv) n
 ·rw[(w2 1 (by omega)).1]
  unfold X.lV
  rw[if_neg (by omega),if_neg (by omega)]
  exact X.Nf (NP f n) n
 ·rw[(w2 2 (by omega)).1]
  unfold D.jw
  rw[if_neg (by omega),if_neg (by omega)]
  exact D.Fa (CF hv) n
theorem MB{α:Type}(g:Nat→α)(n j:Nat)(d:α)(hj:j < n): ((List.range n).map g).getD j d=g j:=by simp[List.getD_eq_getElem?_getD,hj]
theorem Rn{f g:Nat→Pt}(n:Nat)(h:∀ j,j < n→(f j).t=(g j).t∧(f j).s=(g j).s): dX f n=dX g n:=by
 have ha:∀ m,m≤n→gM f m=gM g m:=by
  intro m
  induction m with
  | zero=>intro _;rfl
  | succ m ih=>
   intro hm
   show (gM f m && iy f m)=(gM g m && iy g m)
   rw[ih (by omega)]
   have e:iy f m=iy g m:=by
    have e1:sW f m=sW g m:=by
     cases m with
     | zero=>rfl
     | succ m=>exact (h m (by omega)).1
    unfold iy
    rw[e1,(h m (by omega)).1,(h m (by omega)).2]
   rw[e]
 unfold dX
 rw[ha n (Nat.le_refl _)]
theorem zk(f:Nat→Pt)(n j:Nat)(hj:j < n): (gP (D.upTo (mR f n) n) (X.gK (nC f n) n) (D.upTo (mQ f n) n) j).t=(f j).t∧(gP (D.upTo (mR f n) n) (X.gK (nC f n) n) (D.upTo (mQ f n) n) j).s=(f j).s∧
  (dS (f j).v→(gP (D.upTo (mR f n) n) (X.gK (nC f n) n) (D.upTo (mQ f n) n) j).v=(f j).v):=by
 unfold gP D.upTo X.gK
 simp only[MB _ _ _ _ hj]
 unfold mR nC mQ
 rw[if_pos hj,if_pos hj,if_pos hj]
 refine⟨rfl,rfl,fun hr=>?_⟩
 unfold dS at hr
 rw[IntKind.wrap_i64,IntKind.wrap_u64]
 omega
def kg(b:List Nat)(f:Nat→Pt)(n:Nat): Prop:=dX f n=true∧F.aN 3 (eG f n 3)=b
def iG(b:List Nat): Prop:=∀ f n,¬ kg b f n
theorem RV{b:List Nat}{f g:Nat→Pt}{n m:Nat}(hf:kg b f n)(hg:kg b g m)(vf:∀ j,j < n→dS (f j).v)(vg:∀ j,j < m→dS (g j).v): n=m∧∀ j,j < n→f j=g j:=by
 obtain⟨-,f1,f2,f3,f4⟩:=iH hf.1 hf.2
 obtain⟨-,g1,g2,g3,g4⟩:=iH hg.1 hg.2
 obtain rfl:n=m:=by omega
 rw[f2] at g2
 rw[f3] at g3
 rw[f4] at g4
 injection g2 with h2 _
 injection g3 with h3
 injection g4 with h4 _
 refine⟨rfl,fun j hj=>?_⟩
 obtain⟨a1,a2,a3⟩:=zk f n j hj
 obtain⟨b1,b2,b3⟩:=zk g n j hj
 rw[←h2,←h3,←h4] at b1 b2 b3
 have c1:=a1.symm.trans b1
 have c2:=a2.symm.trans b2
 have c3:=(a3 (vf j hj)).symm.trans (b3 (vg j hj))
 cases hfj:f j
 cases hgj:g j
 rw[hfj,hgj] at c1 c2 c3
 simp only at c1 c2 c3
 rw[c1,c2,c3]
end
section
open Go.RowKit
theorem yL(I:List Nat)(j:Nat): iD I (j+1)=iD I j+(V.dF (I.drop (iD I j)) 1048576).2.1:=rfl
theorem E9(w:World): (sizeOf 5).run Tryz.prog w=.ok 1 w:=by kernel_rfl
theorem jG(w:World)(e:TypeId)(s:ByteArray): Keeps (fun _=>False) w (Lib.bytesWorld w e s):=
 ⟨rfl,rfl,rfl,by rw[Lib.bytesWorld_size];omega,fun k hk _=>Lib.bytesWorld_at_old w e s k hk⟩
theorem Dj(w:World)(e:TypeId){p:List Nat}(hp:∀ j,p.getD j 0 < 256): Sl (Lib.bytesWorld w e (bY p)) (fun k=>k=w.heap.size) (some ⟨w.heap.size,0,none⟩) p.length (aD p):=fun _=>by
 refine⟨w.heap.size,0,rfl,rfl,fun j hj=>?_⟩
 have h:=Lib.bytesWorld_cell w e (bY p) j (by rw[mM];exact hj)
 rw[Nat.zero_add,h]
 unfold aD bY
 have hpj:=hp j
 simp[List.getD_eq_getElem?_getD,hj] at hpj ⊢
 omega
def wH(w:World)(y:Nat)(v:Value)(p:List Nat): Prop:=∃ A c,v=.slice A p.length c∧Sl w (fun k=>y < k) A p.length (aD p)
theorem wH.keeps{w w':World}{y:Nat}{v:Value}{p:List Nat}(h:wH w y v p)(hk:Keeps (fun k=>k=y) w w'): wH w' y v p:=by
 obtain⟨A,c,h1,h2⟩:=h
 exact⟨A,c,h1,h2.keeps hk (fun k hk e=>by omega)⟩
theorem Ck{w w':World}{y:Nat}(h:Keeps (fun _=>False) w w'): Keeps (fun k=>k=y) w w':=h.mono (fun _ _ h=>h.elim)
structure bQ(w wr:World)(y:Nat)(pv:Fin 3→Value)(A:Option Addr)(I:List Nat)(j:Nat): Prop where
 blk:au wr y 449 #[pv 0,pv 1,pv 2]
 inn:Sl wr (fun k=>y < k) A I.length (aD I)
 keep:Keeps (fun _=>False) w wr
 base:w.heap.size≤y
 part:∀ c:Fin 3,c.val < j→wH wr y (pv c) (eF I c.val)
 shp:∀ c,∃ A n c0,pv c=.slice A n c0
theorem bQ.move{w wr w':World}{y j j':Nat}{pv pv':Fin 3→Value}{A:Option Addr}{I:List Nat}(h:bQ w wr y pv A I j)(hk:Keeps (fun k=>k=y) wr w')(hb:au w' y 449 #[pv' 0,pv' 1,pv' 2])(hp:∀ c:Fin 3,c.val < j'→wH w' y (pv' c) (eF I c.val))(hs:∀ c,∃ A n c0,pv' c=.slice A n c0): bQ w w' y pv' A I j':=
 ⟨hb,h.inn.keeps hk (fun k hk e=>by omega),h.keep.trans hk (fun k hk e=>by have:=h.base;omega),h.base,hp,hs⟩
theorem bQ.keeps{w wr w':World}{y j:Nat}{pv:Fin 3→Value}{A:Option Addr}{I:List Nat}(h:bQ w wr y pv A I j)(hk:Keeps (fun _=>False) wr w'): bQ w w' y pv A I j:=
 h.move (Ck hk) (h.blk.keeps hk (fun h=>h)) (fun c hc=>(h.part c hc).keeps (Ck hk)) h.shp
theorem bQ.drew{w wr:World}{y j:Nat}{pv:Fin 3→Value}{A:Option Addr}{I:List Nat}(h:bQ w wr y pv A I j): bQ w wr.drew y pv A I j:=h.keeps ((Keeps.refl _ wr).drew)
theorem bQ.same{w wr:World}{y j:Nat}{pv:Fin 3→Value}{A:Option Addr}{I:List Nat}(h:bQ w wr y pv A I j)(i:Nat)(u:Value)(e:#[pv 0,pv 1,pv 2].setIfInBounds i u=#[pv 0,pv 1,pv 2]): bQ w (wr.setCell ⟨y,i,none⟩ u) y pv A I j:=by
 have hk:Keeps (fun k=>k=y) wr (wr.setCell ⟨y,i,none⟩ u):=(Keeps.refl (fun k=>k=y) wr).setCell (p:=⟨y,i,none⟩) (fun _=>rfl) u
 have hb:=h.blk.set i u
 rw[e] at hb
 exact h.move hk hb (fun c hc=>(h.part c hc).keeps hk) h.shp
theorem bQ.put{w wr:World}{y j:Nat}{pv:Fin 3→Value}{A:Option Addr}{I:List Nat}(h:bQ w wr y pv A I j): bQ w (setFrom wr y 0 [pv 0,pv 1,pv 2]) y pv A I j:=by
 have:=((h.same 0 (pv 0) rfl).same 1 (pv 1) rfl).same 2 (pv 2) rfl
 exact this
theorem Lc(pv:Fin 3→Value)(c:Fin 3)(u:Value): #[pv 0,pv 1,pv 2].setIfInBounds c.val u=#[upd pv c u 0,upd pv c u 1,upd pv c u 2]:=by
 match c with
 | 0=>rfl
 | 1=>rfl
 | 2=>rfl
theorem bQ.storeAt{w wr W:World}{y:Nat}{pv:Fin 3→Value}{A:Option Addr}{I:List Nat}(c:Fin 3)(h:bQ w wr y pv A I c.val)(hk0:Keeps (fun _=>False) wr W)(n k:Nat)(hn:n=(eF I c.val).length)(hs:Sl W (fun k=>k=wr.heap.size) (some ⟨wr.heap.size,0,none⟩) (eF I c.val).length (aD (eF I c.val))):
  bQ w (W.setCell ⟨y,c.val,none⟩ (.slice (some ⟨wr.heap.size,0,none⟩) n k)) y (upd pv c (.slice (some ⟨wr.heap.size,0,none⟩) n k)) A I (c.val+1):=by
 subst hn
 have h1:=h.keeps hk0
 have hk:Keeps (fun k=>k=y) W (W.setCell ⟨y,c.val,none⟩ (.slice (some ⟨wr.heap.size,0,none⟩) (eF I c.val).length k)):=(Keeps.refl (fun k=>k=y) W).setCell (p:=⟨y,c.val,none⟩) (fun _=>rfl) _
 have hylt:=h.blk.lt
 have hbk:=h1.blk.set c.val (.slice (some ⟨wr.heap.size,0,none⟩) (eF I c.val).length k)
 rw[Lc] at hbk
 refine h1.move hk hbk (fun d hd=>?_) (fun d=>?_)
 ·by_cases hdc:d=c
  ·subst hdc
   rw[upd_same]
   refine⟨_,k,rfl,?_⟩
   have:=hs.keeps hk (fun k hk e=>by omega)
   exact this.mono (fun k hk=>by omega)
  ·rw[upd_ne _ _ hdc]
   exact(h1.part d (by have:d.val≠c.val:=fun e=>hdc (Fin.ext e);omega)).keeps hk
 ·by_cases hdc:d=c
  ·subst hdc
   rw[upd_same]
   exact⟨_,_,_,rfl⟩
  ·rw[upd_ne _ _ hdc];exact h.shp d
theorem bQ.store{w wr:World}{y:Nat}{pv:Fin 3→Value}{A:Option Addr}{I:List Nat}(c:Fin 3)(h:bQ w wr y pv A I c.val)(hb:∀ i,(eF I c.val).getD i 0 < 256)(k:Nat):
  bQ w ((Lib.bytesWorld wr 5 (bY (eF I c.val))).setCell ⟨y,c.val,none⟩ (.slice (some ⟨wr.heap.size,0,none⟩) (bY (eF I c.val)).size k)) y (upd pv c (.slice (some ⟨wr.heap.size,0,none⟩) (bY (eF I c.val)).size k)) A I (c.val+1):=
 h.storeAt c (jG wr 5 _) _ k (mM _) (Dj wr 5 hb)
theorem bQ.DZ{w wr:World}{y:Nat}{pv:Fin 3→Value}{A:Option Addr}{I T:List Nat}(c:Fin 3)(j:Nat)(hj:c.val=j)(h:bQ w wr y pv A I j)(hT:T=eF I j)(hb:∀ i,T.getD i 0 < 256)(k:Nat):
  bQ w ((Lib.bytesWorld wr 5 (bY T)).setCell ⟨y,j,none⟩ (.slice (some ⟨wr.heap.size,0,none⟩) (bY T).size k)) y (upd pv c (.slice (some ⟨wr.heap.size,0,none⟩) (bY T).size k)) A I (j+1):=by
 subst hj
 subst hT
 exact h.store c hb k
def mk3(a b c:Value)(i:Fin 3): Value:=match i with | 0=>a | 1=>b | 2=>c
theorem TF(f:Fin 3→Value){a b c:Value}(h0:f 0=a)(h1:f 1=b)(h2:f 2=c): f=mk3 a b c:=by
 funext i
 match i with
 | 0=>exact h0
 | 1=>exact h1
 | 2=>exact h2
theorem J5{w:World}{D:Nat→Prop}{A:Option Addr}{n:Nat}{f:Nat→Value}(h:Sl w D A n f): Sl w (fun k=>k < w.heap.size) A n f:=fun hn=>by
 obtain⟨b,off,e,hd,hc⟩:=h hn
 exact⟨b,off,e,World.block_lt_of_cell? w _ (hc 0 hn),hc⟩
def vC(b:List Nat)(w:World)(e:Ending)(w':World): Prop:=
 ∃ (n:Int) (y:Nat) (pv:Fin 3→Value) (ok:Bool),e=.returned (.tuple #[.int .i64 n,.agg #[pv 0,pv 1,pv 2],.bool ok])∧Keeps (fun _=>False) w w'∧(∀ c,∃ A n c0,pv c=.slice A n c0)∧
  (ok=true→Parts b∧n=((V.aB (F.aK b)).1:Nat)∧∀ c:Fin 3,wH w' y (pv c) (eF (F.aK b) c.val))∧(ok=false→¬ Parts b)
theorem kN{b:List Nat}{w w':World}{y j:Nat}{n:Int}{pv:Fin 3→Value}{A:Option Addr}{I:List Nat}(h:bQ w w' y pv A I j)(hn:¬ Parts b): vC b w (.returned (.tuple #[.int .i64 n,.agg #[pv 0,pv 1,pv 2],.bool false])) w':=
 ⟨n,y,pv,false,rfl,h.keep,h.shp,(fun h=>absurd h (by decide)),(fun _=>hn)⟩
theorem LX{b:List Nat}{w w':World}{y M:Nat}{pv:Fin 3→Value}{A:Option Addr}{I:List Nat}(hI:I=F.aK b)(h:bQ w w' y pv A I 3)(hP:Parts b)(hM:M=(V.aB I).1): vC b w (.returned (.tuple #[.int .i64 (M:Nat),.agg #[pv 0,pv 1,pv 2],.bool true])) w':=by
 subst hI
 subst hM
 exact⟨_,y,pv,true,rfl,h.keep,h.shp,(fun _=>⟨hP,rfl,fun c=>h.part c c.isLt⟩),(fun h=>absurd h (by decide))⟩
theorem zY{b:List Nat}(hb:∀ j,b.getD j 0 < 256): ∀ j,(F.aK b).getD j 0 < 256:=by
 intro j
 unfold F.aK F.iN
 split
 ·split
  ·exact V.bN (V.getD_take_lt hb _) _ j
  ·simp
 ·simp
theorem LW(b:List Nat): (F.aK b).length≤b.length:=by
 unfold F.aK F.iN
 split
 ·split
  ·rw[List.length_drop,List.length_take];omega
  ·simp
 ·simp
theorem Nu(w:World)(A:Option Addr)(len c:Nat)(D:Nat→Prop)(b:List Nat)(hl:b.length=len)(hsl:Sl w D A len (aD b))(hb:∀ j,b.getD j 0 < 256)(hlen:len≤1048576)(hlc:len≤c)(hv:V.cu w):
  Calls Tryz.prog 366 #[.slice A len c] w (vC b w):=by
 obtain⟨y,hy⟩:∃ y,y=w.heap.size:=⟨_,rfl⟩
 have hk0:Keeps (fun _=>False) w (w.alloc (.cells #[.slice none 0 0,.slice none 0 0,.slice none 0 0] 449)):=(Keeps.refl _ w).alloc _
 have HS:=zh (zN hl (zN (hsl.keeps hk0 (fun _ _ h=>h)) (zN hb (zN hv (zN hy hk0)))))
 clear hl hsl hb hv hy hk0
 go_enter Tryz.func366,Tryz.ntmps366
 go_wp2_with fail
 refine(F.yu _ _ _ _ D b HS.out.1 HS.out.2.1 HS.out.2.2.1 (by omega) hlc).mono ?_
 rintro e w2 ⟨A1,c1,rfl,ho,hk⟩
 rw[←HS.out.2.2.2.2.1]
 obtain⟨A1',c1',hv1,hc1,-⟩:=aA ho
 injection hv1 with q1 q2 q3
 subst q1;subst q3
 clear q2
 have hcm:c1≤9223372036854775807:=by
  rcases ho.2 with ⟨h1,-⟩ | ⟨g,cap,cur,h1,-,-,-,h2,-⟩
  ·injection h1 with _ _ h1;omega
  ·injection h1 with _ _ h1;unfold maxLen at h2;omega
 obtain⟨I,hI⟩:∃ I,I=F.aK b:=⟨_,rfl⟩
 rw[←hI] at ho hc1 ⊢
 have hIb:∀ j,I.getD j 0 < 256:=by rw[hI];exact zY HS.out.2.2.1
 have hIl:I.length≤1048576:=by have:=LW b;rw[←hI,HS.out.1] at this;omega
 have hst:bQ w w2 y (fun _=>.slice none 0 0) A1 I 0:=by
  refine⟨?_,?_,HS.out.2.2.2.2.2.trans' hk,by have:=HS.out.2.2.2.2.1;omega,fun c hc=>absurd hc (Nat.not_lt_zero _),fun c=>⟨none,0,0,rfl⟩⟩
  ·rw[HS.out.2.2.2.2.1]
   exact(au.fresh w _ _).keeps hk (fun h=>h)
  ·refine (F.rD rfl ho).mono (fun k hk=>?_)
   have h1:=(ho.lt k hk).1
   have h2:=HS.out.2.2.2.2.1
   have h3:(w.alloc (.cells #[.slice none 0 0,.slice none 0 0,.slice none 0 0] 449)).heap.size=w.heap.size+1:=by simp
   omega
 have HI:=zh (zN hI (zN hIb hIl))
 have HT:=zh hst
 clear hst ho hk hI hIb hIl
 obtain⟨K,hK⟩:∃ K,K=F.fO b:=⟨_,rfl⟩
 obtain⟨E,hE⟩:∃ E,E=F.dY b:=⟨_,rfl⟩
 rw[←hK,←hE]
 have HK:=zh (zN hK hE)
 clear hK hE
 by_cases hE0:E=0
 ·by_cases hK3:K=3
  ·subst hE0
   subst hK3
   rw[show ((3:Nat):Int)=3 from rfl]
   go_wp2_with fail
   refine(V.kT _ _ _ _ _ I rfl HI.out.2.1 HT.out.inn (by have:=HI.out.2.2;omega) (HS.out.2.2.2.1.below HT.out.keep.bM)).mono ?_
   rintro e w5 ⟨rfl,hb5⟩
   have H5:=zh (HT.out.keeps (Keeps.of_below hb5))
   have hM64:=(V.nH I).1
   obtain⟨M,hM⟩:∃ M,M=(V.aB I).1:=⟨_,rfl⟩
   obtain⟨q0,hq0⟩:∃ q,q=(V.aB I).2.1:=⟨_,rfl⟩
   obtain⟨R,hR⟩:∃ R,R=(V.aB I).2.2:=⟨_,rfl⟩
   rw[←hM,←hq0,←hR]
   rw[←hM] at hM64
   have HU:=zh (zN hM (zN hq0 hR))
   clear hM hq0 hR hb5 HT
   by_cases hR0:R=0
   ·subst hR0
    by_cases hM4:M≤4096
    ·have hq10:q0≤10:=by rw[HU.out.2.1];exact (V.nH I).2.1
     have hmw:IntKind.i64.wrap (M:Int)=(M:Int):=by rw[IntKind.wrap_i64];omega
     have d4:decide ((4096:Int) < (M:Int))=false:=by simp;omega
     rw[show ((0:Nat):Int)=0 from rfl]
     go_wp2_with fail
     go_loopw [9,40] (fun at_ i wr=>∃ (j:Nat) (pv:Fin 3→Value),j≤3∧i=.int .i64 j∧at_=.int .i64 (iD I j:Nat)∧bQ w wr y pv A1 I j∧∀ i,i < j→vF I i=0) (fun _ i _=>3-(intOf i).toNat)
     case atStart=>exact ⟨0,_,Nat.zero_le _,rfl,by rw[HU.out.2.1];rfl,H5.out,fun i hi=>absurd hi (Nat.not_lt_zero _)⟩
     case round=>
      obtain⟨j,pv,hj,rfl,rfl,hP,hEr⟩:=hrel
      obtain⟨u1,u2⟩:=yj HI.out.2.1 HU.out.2.2.symm j hEr
      clear u1
      obtain⟨B0,n0,k0,e0⟩:=hP.shp 0
      obtain⟨B1,n1,k1,e1⟩:=hP.shp 1
      obtain⟨B2,n2,k2,e2⟩:=hP.shp 2
      obtain rfl:=TF pv e0 e1 e2
      clear e0 e1 e2
      have HB:=zh hP
      have HEr:=zh hEr
      clear hP hEr
      have hIl:=HI.out.2.2
      have h4:j=0∨j=1∨j=2∨j=3:=by omega
      rcases h4 with rfl | rfl | rfl | rfl
      ·
       rw[show ((0:Nat):Int)=0 from rfl]
       obtain⟨q,hq⟩:∃ q,q=iD I 0:=⟨_,rfl⟩
       rw[←hq] at u2 ⊢
       obtain⟨A2,hA1,hA2⟩:=V.gI (P:=Tryz.prog) 72 5 Tryz.underlying72 E9 A1 I.length c1 q u2 hc1
       have s2:=J5 (hA2 wr _ I HB.out.inn)
       have HQ:=zh (zN hq s2)
       clear hq s2 hA2
       go_wp2_with fail
       refine(V.lU _ _ _ _ (I.drop q) 1048576 (by rw[List.length_drop]) (V.bN HI.out.2.1 q) HQ.out.2 (by omega) (by omega) (HS.out.2.2.2.1.below HB.out.keep.bM) (by omega) (by omega)).mono ?_
       rintro e w6 ⟨rfl,hb6⟩
       have H6:=zh (HB.out.keeps (Keeps.of_below hb6))
       obtain⟨T,hT⟩:∃ T,T=(V.dF (I.drop q) 1048576).1:=⟨_,rfl⟩
       obtain⟨U,hU⟩:∃ U,U=(V.dF (I.drop q) 1048576).2.1:=⟨_,rfl⟩
       obtain⟨R2,hR2⟩:∃ R,R=(V.dF (I.drop q) 1048576).2.2:=⟨_,rfl⟩
       rw[←hT,←hU,←hR2]
       have eT:T=eF I 0:=by unfold eF;rw[←HQ.out.1];exact hT
       have eR:R2=vF I 0:=by unfold vF;rw[←HQ.out.1];exact hR2
       have eU:iD I (0+1)=q+U:=by rw[yL,←HQ.out.1,←hU]
       have hU2:R2=0→U≤1048576∧∀ i,T.getD i 0 < 256:=fun h0=>by
        obtain⟨g1,g2,g3⟩:=mK (l:=I.drop q) (most:=1048576) (V.bN HI.out.2.1 q) (by rw[←hR2];exact h0)
        rw[←hU,←hT] at g2
        rw[←hU,List.length_drop] at g1
        refine⟨by omega,V.bW (fun x hx=>?_)⟩
        have hm:x ∈ (I.drop q).take U:=by rw[g2];exact List.mem_append_right _ hx
        exact F.kP HI.out.2.1 x (List.mem_of_mem_drop (List.mem_of_mem_take hm))
       have HT2:=zh (zN eT (zN eR eU))
       clear hT hU hR2 eT eR eU hb6
       by_cases hR3:R2=0
       ·subst hR3
        obtain⟨hUb,hTb⟩:=hU2 rfl
        have HTb:=zh hTb
        clear hU2 hTb
        rw[show ((0:Nat):Int)=0 from rfl]
        have hcv:=Lib.run_convert_string_bytes (P:=Tryz.prog) w6 9 72 5 (bY T) Tryz.underlying9 Tryz.underlying72 Tryz.underlying5
        have hbk:=H6.out.blk.keeps (jG w6 5 (bY T)) (fun h=>h)
        have z0:(Lib.bytesWorld w6 5 (bY T)).cell? ⟨y,0,none⟩=some (.slice B0 n0 k0):=hbk.cell 0
        have z1:(Lib.bytesWorld w6 5 (bY T)).cell? ⟨y,1,none⟩=some (.slice B1 n1 k1):=hbk.cell 1
        have z2:(Lib.bytesWorld w6 5 (bY T)).cell? ⟨y,2,none⟩=some (.slice B2 n2 k2):=hbk.cell 2
        have zf:=hbk.frozen
        clear hbk
        go_wp2_with fail
        clear z0 z1 z2 zf hcv
        go_roundw
        case rel=>
         refine⟨0+1,upd (mk3 (.slice B0 n0 k0) (.slice B1 n1 k1) (.slice B2 n2 k2)) 0 (.slice (some ⟨w6.heap.size,0,none⟩) (bY T).size (grownCap w6 (bY T).size 0 5)),by omega,by go_num,by rw[HT2.out.2.2];go_num,?_,fun i hi=>?_⟩
         rotate_left
         ·rcases Nat.lt_or_ge i 0 with h1 | h1
          ·exact HEr.out i h1
          ·obtain rfl:i=0:=by omega
           exact HT2.out.2.1.symm
         ·exact H6.out.DZ 0 0 rfl HT2.out.1 HTb.out _
        case measure=>simp[intOf]
       ·have HN:=zh (show ¬ Parts b from fun h=>hR3 (by rw[HT2.out.2.1,HI.out.1];exact h.t 0 (by omega)))
        have d0:decide ((R2:Int)=0)=false:=by simp;omega
        have d0':¬ (R2:Int)=0:=by omega
        clear hU2
        go_wp2_with fail
        refine aH (fun w'=>bQ w w' y (mk3 (.slice B0 n0 k0) (.slice B1 n1 k1) (.slice B2 n2 k2)) A1 I 0) H6.out ?_
        clear H6
        intro w7 hS0
        have hS:(fun w'=>bQ w w' y (mk3 (.slice B0 n0 k0) (.slice B1 n1 k1) (.slice B2 n2 k2)) A1 I 0) (w7.drew):=hS0.drew
        refine av (fun w'=>bQ w w' y (mk3 (.slice B0 n0 k0) (.slice B1 n1 k1) (.slice B2 n2 k2)) A1 I 0) (by kernel_rfl) hS ?_
        refine zT 0 ?_ ?_ hS ?_
        rotate_left
        ·(intro w' hSw;have z0:w'.cell? ⟨y,0,none⟩=some (.slice B0 n0 k0):=hSw.blk.cell 0;have z1:w'.cell? ⟨y,1,none⟩=some (.slice B1 n1 k1):=hSw.blk.cell 1;have z2:w'.cell? ⟨y,2,none⟩=some (.slice B2 n2 k2):=hSw.blk.cell 2;go_simp<;>with_reducible rfl)
        try simp only[zP]
        refine zT 1 ?_ ?_ hS ?_
        rotate_left
        ·(intro w' hSw;go_simp<;>with_reducible rfl)
        try simp only[zP]
        clear hS0
        generalize w7.drew=wd at hS ⊢
        have z0:wd.cell? ⟨y,0,none⟩=some (.slice B0 n0 k0):=hS.blk.cell 0
        have z1:wd.cell? ⟨y,1,none⟩=some (.slice B1 n1 k1):=hS.blk.cell 1
        have z2:wd.cell? ⟨y,2,none⟩=some (.slice B2 n2 k2):=hS.blk.cell 2
        have zf:=hS.blk.frozen
        have HP:Hid (bQ w (setFrom wd y 0 [.slice B0 n0 k0,.slice B1 n1 k1,.slice B2 n2 k2]) y (mk3 (.slice B0 n0 k0) (.slice B1 n1 k1) (.slice B2 n2 k2)) A1 I 0):=zh hS.put
        refine zC 2 fun K HK=>?_
        go_simp
        clear z0 z1 z2 zf
        go_wp2_with fail
        refine HK.out.go (fun w'=>bQ w w' y (mk3 (.slice B0 n0 k0) (.slice B1 n1 k1) (.slice B2 n2 k2)) A1 I 0) (fun _ h=>h) (HP.out) ?_
        clear HK hS
        intro w71 hS
        try simp only[zP]
        refine zT 3 ?_ ?_ hS ?_
        rotate_left
        ·(intro w' hSw;go_simp<;>with_reducible rfl)
        try simp only[zP]
        refine zD ?_
        try simp only[zP]
        have z0:w71.cell? ⟨y,0,none⟩=some (.slice B0 n0 k0):=hS.blk.cell 0
        have z1:w71.cell? ⟨y,1,none⟩=some (.slice B1 n1 k1):=hS.blk.cell 1
        have z2:w71.cell? ⟨y,2,none⟩=some (.slice B2 n2 k2):=hS.blk.cell 2
        have HQ:=zh (zN hS HN.out)
        clear hS HP
        go_wp2_with fail
        exact bodyPost_ret (v:=.tuple #[.int .i64 0,.agg #[.slice B0 n0 k0,.slice B1 n1 k1,.slice B2 n2 k2],.bool false]) (by simp[results,Tryz.results366,go_sem,z0,z1,z2]) rfl (kN HQ.out.1 HQ.out.2)
      ·
       rw[show ((1:Nat):Int)=1 from rfl]
       obtain⟨q,hq⟩:∃ q,q=iD I 1:=⟨_,rfl⟩
       rw[←hq] at u2 ⊢
       obtain⟨A2,hA1,hA2⟩:=V.gI (P:=Tryz.prog) 72 5 Tryz.underlying72 E9 A1 I.length c1 q u2 hc1
       have s2:=J5 (hA2 wr _ I HB.out.inn)
       have HQ:=zh (zN hq s2)
       clear hq s2 hA2
       go_wp2_with fail
       refine(V.lU _ _ _ _ (I.drop q) 1048576 (by rw[List.length_drop]) (V.bN HI.out.2.1 q) HQ.out.2 (by omega) (by omega) (HS.out.2.2.2.1.below HB.out.keep.bM) (by omega) (by omega)).mono ?_
       rintro e w6 ⟨rfl,hb6⟩
       have H6:=zh (HB.out.keeps (Keeps.of_below hb6))
       obtain⟨T,hT⟩:∃ T,T=(V.dF (I.drop q) 1048576).1:=⟨_,rfl⟩
       obtain⟨U,hU⟩:∃ U,U=(V.dF (I.drop q) 1048576).2.1:=⟨_,rfl⟩
       obtain⟨R2,hR2⟩:∃ R,R=(V.dF (I.drop q) 1048576).2.2:=⟨_,rfl⟩
       rw[←hT,←hU,←hR2]
       have eT:T=eF I 1:=by unfold eF;rw[←HQ.out.1];exact hT
       have eR:R2=vF I 1:=by unfold vF;rw[←HQ.out.1];exact hR2
       have eU:iD I (1+1)=q+U:=by rw[yL,←HQ.out.1,←hU]
       have hU2:R2=0→U≤1048576∧∀ i,T.getD i 0 < 256:=fun h0=>by
        obtain⟨g1,g2,g3⟩:=mK (l:=I.drop q) (most:=1048576) (V.bN HI.out.2.1 q) (by rw[←hR2];exact h0)
        rw[←hU,←hT] at g2
        rw[←hU,List.length_drop] at g1
        refine⟨by omega,V.bW (fun x hx=>?_)⟩
        have hm:x ∈ (I.drop q).take U:=by rw[g2];exact List.mem_append_right _ hx
        exact F.kP HI.out.2.1 x (List.mem_of_mem_drop (List.mem_of_mem_take hm))
       have HT2:=zh (zN eT (zN eR eU))
       clear hT hU hR2 eT eR eU hb6
       by_cases hR3:R2=0
       ·subst hR3
        obtain⟨hUb,hTb⟩:=hU2 rfl
        have HTb:=zh hTb
        clear hU2 hTb
        rw[show ((0:Nat):Int)=0 from rfl]
        have hcv:=Lib.run_convert_string_bytes (P:=Tryz.prog) w6 9 72 5 (bY T) Tryz.underlying9 Tryz.underlying72 Tryz.underlying5
        have hbk:=H6.out.blk.keeps (jG w6 5 (bY T)) (fun h=>h)
        have z0:(Lib.bytesWorld w6 5 (bY T)).cell? ⟨y,0,none⟩=some (.slice B0 n0 k0):=hbk.cell 0
        have z1:(Lib.bytesWorld w6 5 (bY T)).cell? ⟨y,1,none⟩=some (.slice B1 n1 k1):=hbk.cell 1
        have z2:(Lib.bytesWorld w6 5 (bY T)).cell? ⟨y,2,none⟩=some (.slice B2 n2 k2):=hbk.cell 2
        have zf:=hbk.frozen
        clear hbk
        go_wp2_with fail
        clear z0 z1 z2 zf hcv
        go_roundw
        case rel=>
         refine⟨1+1,upd (mk3 (.slice B0 n0 k0) (.slice B1 n1 k1) (.slice B2 n2 k2)) 1 (.slice (some ⟨w6.heap.size,0,none⟩) (bY T).size (grownCap w6 (bY T).size 0 5)),by omega,by go_num,by rw[HT2.out.2.2];go_num,?_,fun i hi=>?_⟩
         rotate_left
         ·rcases Nat.lt_or_ge i 1 with h1 | h1
          ·exact HEr.out i h1
          ·obtain rfl:i=1:=by omega
           exact HT2.out.2.1.symm
         ·exact H6.out.DZ 1 1 rfl HT2.out.1 HTb.out _
        case measure=>simp[intOf]
       ·have HN:=zh (show ¬ Parts b from fun h=>hR3 (by rw[HT2.out.2.1,HI.out.1];exact h.t 1 (by omega)))
        have d0:decide ((R2:Int)=0)=false:=by simp;omega
        have d0':¬ (R2:Int)=0:=by omega
        clear hU2
        go_wp2_with fail
        refine aH (fun w'=>bQ w w' y (mk3 (.slice B0 n0 k0) (.slice B1 n1 k1) (.slice B2 n2 k2)) A1 I 1) H6.out ?_
        clear H6
        intro w7 hS0
        have hS:(fun w'=>bQ w w' y (mk3 (.slice B0 n0 k0) (.slice B1 n1 k1) (.slice B2 n2 k2)) A1 I 1) (w7.drew):=hS0.drew
        refine av (fun w'=>bQ w w' y (mk3 (.slice B0 n0 k0) (.slice B1 n1 k1) (.slice B2 n2 k2)) A1 I 1) (by kernel_rfl) hS ?_
        refine zT 0 ?_ ?_ hS ?_
        rotate_left
        ·(intro w' hSw;have z0:w'.cell? ⟨y,0,none⟩=some (.slice B0 n0 k0):=hSw.blk.cell 0;have z1:w'.cell? ⟨y,1,none⟩=some (.slice B1 n1 k1):=hSw.blk.cell 1;have z2:w'.cell? ⟨y,2,none⟩=some (.slice B2 n2 k2):=hSw.blk.cell 2;go_simp<;>with_reducible rfl)
        try simp only[zP]
        refine zT 1 ?_ ?_ hS ?_
        rotate_left
        ·(intro w' hSw;go_simp<;>with_reducible rfl)
        try simp only[zP]
        clear hS0
        generalize w7.drew=wd at hS ⊢
        have z0:wd.cell? ⟨y,0,none⟩=some (.slice B0 n0 k0):=hS.blk.cell 0
        have z1:wd.cell? ⟨y,1,none⟩=some (.slice B1 n1 k1):=hS.blk.cell 1
        have z2:wd.cell? ⟨y,2,none⟩=some (.slice B2 n2 k2):=hS.blk.cell 2
        have zf:=hS.blk.frozen
        have HP:Hid (bQ w (setFrom wd y 0 [.slice B0 n0 k0,.slice B1 n1 k1,.slice B2 n2 k2]) y (mk3 (.slice B0 n0 k0) (.slice B1 n1 k1) (.slice B2 n2 k2)) A1 I 1):=zh hS.put
        refine zC 2 fun K HK=>?_
        go_simp
        clear z0 z1 z2 zf
        go_wp2_with fail
        refine HK.out.go (fun w'=>bQ w w' y (mk3 (.slice B0 n0 k0) (.slice B1 n1 k1) (.slice B2 n2 k2)) A1 I 1) (fun _ h=>h) (HP.out) ?_
        clear HK hS
        intro w71 hS
        try simp only[zP]
        refine zT 3 ?_ ?_ hS ?_
        rotate_left
        ·(intro w' hSw;go_simp<;>with_reducible rfl)
        try simp only[zP]
        refine zD ?_
        try simp only[zP]
        have z0:w71.cell? ⟨y,0,none⟩=some (.slice B0 n0 k0):=hS.blk.cell 0
        have z1:w71.cell? ⟨y,1,none⟩=some (.slice B1 n1 k1):=hS.blk.cell 1
        have z2:w71.cell? ⟨y,2,none⟩=some (.slice B2 n2 k2):=hS.blk.cell 2
        have HQ:=zh (zN hS HN.out)
        clear hS HP
        go_wp2_with fail
        exact bodyPost_ret (v:=.tuple #[.int .i64 0,.agg #[.slice B0 n0 k0,.slice B1 n1 k1,.slice B2 n2 k2],.bool false]) (by simp[results,Tryz.results366,go_sem,z0,z1,z2]) rfl (kN HQ.out.1 HQ.out.2)
      ·
       rw[show ((2:Nat):Int)=2 from rfl]
       obtain⟨q,hq⟩:∃ q,q=iD I 2:=⟨_,rfl⟩
       rw[←hq] at u2 ⊢
       obtain⟨A2,hA1,hA2⟩:=V.gI (P:=Tryz.prog) 72 5 Tryz.underlying72 E9 A1 I.length c1 q u2 hc1
       have s2:=J5 (hA2 wr _ I HB.out.inn)
       have HQ:=zh (zN hq s2)
       clear hq s2 hA2
       go_wp2_with fail
       refine(V.lU _ _ _ _ (I.drop q) 1048576 (by rw[List.length_drop]) (V.bN HI.out.2.1 q) HQ.out.2 (by omega) (by omega) (HS.out.2.2.2.1.below HB.out.keep.bM) (by omega) (by omega)).mono ?_
       rintro e w6 ⟨rfl,hb6⟩
       have H6:=zh (HB.out.keeps (Keeps.of_below hb6))
       obtain⟨T,hT⟩:∃ T,T=(V.dF (I.drop q) 1048576).1:=⟨_,rfl⟩
       obtain⟨U,hU⟩:∃ U,U=(V.dF (I.drop q) 1048576).2.1:=⟨_,rfl⟩
       obtain⟨R2,hR2⟩:∃ R,R=(V.dF (I.drop q) 1048576).2.2:=⟨_,rfl⟩
       rw[←hT,←hU,←hR2]
       have eT:T=eF I 2:=by unfold eF;rw[←HQ.out.1];exact hT
       have eR:R2=vF I 2:=by unfold vF;rw[←HQ.out.1];exact hR2
       have eU:iD I (2+1)=q+U:=by rw[yL,←HQ.out.1,←hU]
       have hU2:R2=0→U≤1048576∧∀ i,T.getD i 0 < 256:=fun h0=>by
        obtain⟨g1,g2,g3⟩:=mK (l:=I.drop q) (most:=1048576) (V.bN HI.out.2.1 q) (by rw[←hR2];exact h0)
        rw[←hU,←hT] at g2
        rw[←hU,List.length_drop] at g1
        refine⟨by omega,V.bW (fun x hx=>?_)⟩
        have hm:x ∈ (I.drop q).take U:=by rw[g2];exact List.mem_append_right _ hx
        exact F.kP HI.out.2.1 x (List.mem_of_mem_drop (List.mem_of_mem_take hm))
       have HT2:=zh (zN eT (zN eR eU))
       clear hT hU hR2 eT eR eU hb6
       by_cases hR3:R2=0
       ·subst hR3
        obtain⟨hUb,hTb⟩:=hU2 rfl
        have HTb:=zh hTb
        clear hU2 hTb
        rw[show ((0:Nat):Int)=0 from rfl]
        have hcv:=Lib.run_convert_string_bytes (P:=Tryz.prog) w6 9 72 5 (bY T) Tryz.underlying9 Tryz.underlying72 Tryz.underlying5
        have hbk:=H6.out.blk.keeps (jG w6 5 (bY T)) (fun h=>h)
        have z0:(Lib.bytesWorld w6 5 (bY T)).cell? ⟨y,0,none⟩=some (.slice B0 n0 k0):=hbk.cell 0
        have z1:(Lib.bytesWorld w6 5 (bY T)).cell? ⟨y,1,none⟩=some (.slice B1 n1 k1):=hbk.cell 1
        have z2:(Lib.bytesWorld w6 5 (bY T)).cell? ⟨y,2,none⟩=some (.slice B2 n2 k2):=hbk.cell 2
        have zf:=hbk.frozen
        clear hbk
        go_wp2_with fail
        clear z0 z1 z2 zf hcv
        go_roundw
        case rel=>
         refine⟨2+1,upd (mk3 (.slice B0 n0 k0) (.slice B1 n1 k1) (.slice B2 n2 k2)) 2 (.slice (some ⟨w6.heap.size,0,none⟩) (bY T).size (grownCap w6 (bY T).size 0 5)),by omega,by go_num,by rw[HT2.out.2.2];go_num,?_,fun i hi=>?_⟩
         rotate_left
         ·rcases Nat.lt_or_ge i 2 with h1 | h1
          ·exact HEr.out i h1
          ·obtain rfl:i=2:=by omega
           exact HT2.out.2.1.symm
         ·exact H6.out.DZ 2 2 rfl HT2.out.1 HTb.out _
        case measure=>simp[intOf]
       ·have HN:=zh (show ¬ Parts b from fun h=>hR3 (by rw[HT2.out.2.1,HI.out.1];exact h.t 2 (by omega)))
        have d0:decide ((R2:Int)=0)=false:=by simp;omega
        have d0':¬ (R2:Int)=0:=by omega
        clear hU2
        go_wp2_with fail
        refine aH (fun w'=>bQ w w' y (mk3 (.slice B0 n0 k0) (.slice B1 n1 k1) (.slice B2 n2 k2)) A1 I 2) H6.out ?_
        clear H6
        intro w7 hS0
        have hS:(fun w'=>bQ w w' y (mk3 (.slice B0 n0 k0) (.slice B1 n1 k1) (.slice B2 n2 k2)) A1 I 2) (w7.drew):=hS0.drew
        refine av (fun w'=>bQ w w' y (mk3 (.slice B0 n0 k0) (.slice B1 n1 k1) (.slice B2 n2 k2)) A1 I 2) (by kernel_rfl) hS ?_
        refine zT 0 ?_ ?_ hS ?_
        rotate_left
        ·(intro w' hSw;have z0:w'.cell? ⟨y,0,none⟩=some (.slice B0 n0 k0):=hSw.blk.cell 0;have z1:w'.cell? ⟨y,1,none⟩=some (.slice B1 n1 k1):=hSw.blk.cell 1;have z2:w'.cell? ⟨y,2,none⟩=some (.slice B2 n2 k2):=hSw.blk.cell 2;go_simp<;>with_reducible rfl)
        try simp only[zP]
        refine zT 1 ?_ ?_ hS ?_
        rotate_left
        ·(intro w' hSw;go_simp<;>with_reducible rfl)
        try simp only[zP]
        clear hS0
        generalize w7.drew=wd at hS ⊢
        have z0:wd.cell? ⟨y,0,none⟩=some (.slice B0 n0 k0):=hS.blk.cell 0
        have z1:wd.cell? ⟨y,1,none⟩=some (.slice B1 n1 k1):=hS.blk.cell 1
        have z2:wd.cell? ⟨y,2,none⟩=some (.slice B2 n2 k2):=hS.blk.cell 2
        have zf:=hS.blk.frozen
        have HP:Hid (bQ w (setFrom wd y 0 [.slice B0 n0 k0,.slice B1 n1 k1,.slice B2 n2 k2]) y (mk3 (.slice B0 n0 k0) (.slice B1 n1 k1) (.slice B2 n2 k2)) A1 I 2):=zh hS.put
        refine zC 2 fun K HK=>?_
        go_simp
        clear z0 z1 z2 zf
        go_wp2_with fail
        refine HK.out.go (fun w'=>bQ w w' y (mk3 (.slice B0 n0 k0) (.slice B1 n1 k1) (.slice B2 n2 k2)) A1 I 2) (fun _ h=>h) (HP.out) ?_
        clear HK hS
        intro w71 hS
        try simp only[zP]
        refine zT 3 ?_ ?_ hS ?_
        rotate_left
        ·(intro w' hSw;go_simp<;>with_reducible rfl)
        try simp only[zP]
        refine zD ?_
        try simp only[zP]
        have z0:w71.cell? ⟨y,0,none⟩=some (.slice B0 n0 k0):=hS.blk.cell 0
        have z1:w71.cell? ⟨y,1,none⟩=some (.slice B1 n1 k1):=hS.blk.cell 1
        have z2:w71.cell? ⟨y,2,none⟩=some (.slice B2 n2 k2):=hS.blk.cell 2
        have HQ:=zh (zN hS HN.out)
        clear hS HP
        go_wp2_with fail
        exact bodyPost_ret (v:=.tuple #[.int .i64 0,.agg #[.slice B0 n0 k0,.slice B1 n1 k1,.slice B2 n2 k2],.bool false]) (by simp[results,Tryz.results366,go_sem,z0,z1,z2]) rfl (kN HQ.out.1 HQ.out.2)
      ·rw[show ((3:Nat):Int)=3 from rfl]
       obtain⟨q,hq⟩:∃ q,q=iD I 3:=⟨_,rfl⟩
       rw[←hq] at u2 ⊢
       have HQ:=zh hq
       clear hq
       by_cases hz:q=I.length
       ·have dz:decide ((q:Int)=(I.length:Int))=true:=by simp;omega
        have HPt:=zh (show Parts b from ⟨HK.out.2.symm,HK.out.1.symm,by rw[←HI.out.1];exact HU.out.2.2.symm,by rw[←HI.out.1,←HU.out.1];exact hM4,by rw[←HI.out.1];exact HEr.out,by rw[←HI.out.1,←HQ.out];exact hz⟩)
        go_wp2_with fail
        refine aH (fun w'=>bQ w w' y (mk3 (.slice B0 n0 k0) (.slice B1 n1 k1) (.slice B2 n2 k2)) A1 I 3) HB.out ?_
        clear HB
        intro w6 hS0
        have hS:(fun w'=>bQ w w' y (mk3 (.slice B0 n0 k0) (.slice B1 n1 k1) (.slice B2 n2 k2)) A1 I 3) (w6.drew):=hS0.drew
        refine av (fun w'=>bQ w w' y (mk3 (.slice B0 n0 k0) (.slice B1 n1 k1) (.slice B2 n2 k2)) A1 I 3) (by kernel_rfl) hS ?_
        refine zB [0,1,2,3,4,5,6] ?_
        iterate 7 (refine zV ?_ ?_ hS ?_;rotate_left;(intro w' hSw;have z0:w'.cell? ⟨y,0,none⟩=some (.slice B0 n0 k0):=hSw.blk.cell 0;have z1:w'.cell? ⟨y,1,none⟩=some (.slice B1 n1 k1):=hSw.blk.cell 1;have z2:w'.cell? ⟨y,2,none⟩=some (.slice B2 n2 k2):=hSw.blk.cell 2;go_simp<;>with_reducible rfl);try simp only[zP])
        refine zE ?_
        refine zT 7 ?_ ?_ hS ?_
        rotate_left
        ·(intro w' hSw;go_simp<;>with_reducible rfl)
        try simp only[zP]
        clear hS0
        generalize w6.drew=wd at hS ⊢
        have z0:wd.cell? ⟨y,0,none⟩=some (.slice B0 n0 k0):=hS.blk.cell 0
        have z1:wd.cell? ⟨y,1,none⟩=some (.slice B1 n1 k1):=hS.blk.cell 1
        have z2:wd.cell? ⟨y,2,none⟩=some (.slice B2 n2 k2):=hS.blk.cell 2
        have zf:=hS.blk.frozen
        have HP:Hid (bQ w (setFrom wd y 0 [.slice B0 n0 k0,.slice B1 n1 k1,.slice B2 n2 k2]) y (mk3 (.slice B0 n0 k0) (.slice B1 n1 k1) (.slice B2 n2 k2)) A1 I 3):=zh hS.put
        refine zC 8 fun K HK=>?_
        go_simp
        clear z0 z1 z2 zf
        go_wp2_with fail
        refine HK.out.go (fun w'=>bQ w w' y (mk3 (.slice B0 n0 k0) (.slice B1 n1 k1) (.slice B2 n2 k2)) A1 I 3) (fun _ h=>h) (HP.out) ?_
        clear HK hS
        intro w7 hS
        try simp only[zP]
        refine zT 9 ?_ ?_ hS ?_
        rotate_left
        ·(intro w' hSw;go_simp<;>with_reducible rfl)
        try simp only[zP]
        refine zD ?_
        try simp only[zP]
        have z0:w7.cell? ⟨y,0,none⟩=some (.slice B0 n0 k0):=hS.blk.cell 0
        have z1:w7.cell? ⟨y,1,none⟩=some (.slice B1 n1 k1):=hS.blk.cell 1
        have z2:w7.cell? ⟨y,2,none⟩=some (.slice B2 n2 k2):=hS.blk.cell 2
        have HQ2:=zh hS
        clear hS HP
        go_wp2_with fail
        exact bodyPost_ret (v:=.tuple #[.int .i64 M,.agg #[.slice B0 n0 k0,.slice B1 n1 k1,.slice B2 n2 k2],.bool true]) (by simp[results,Tryz.results366,go_sem,z0,z1,z2,hmw]<;>omega) rfl (LX HI.out.1 HQ2.out HPt.out HU.out.1)
       ·have dz:decide ((q:Int)=(I.length:Int))=false:=by simp;omega
        have HN:=zh (show ¬ Parts b from fun h=>hz (by rw[HQ.out,HI.out.1];exact h.z))
        go_wp2_with fail
        refine aH (fun w'=>bQ w w' y (mk3 (.slice B0 n0 k0) (.slice B1 n1 k1) (.slice B2 n2 k2)) A1 I 3) HB.out ?_
        clear HB
        intro w6 hS0
        have hS:(fun w'=>bQ w w' y (mk3 (.slice B0 n0 k0) (.slice B1 n1 k1) (.slice B2 n2 k2)) A1 I 3) (w6.drew):=hS0.drew
        refine av (fun w'=>bQ w w' y (mk3 (.slice B0 n0 k0) (.slice B1 n1 k1) (.slice B2 n2 k2)) A1 I 3) (by kernel_rfl) hS ?_
        refine zB [0,1,2,3,4,5,6] ?_
        iterate 7 (refine zV ?_ ?_ hS ?_;rotate_left;(intro w' hSw;have z0:w'.cell? ⟨y,0,none⟩=some (.slice B0 n0 k0):=hSw.blk.cell 0;have z1:w'.cell? ⟨y,1,none⟩=some (.slice B1 n1 k1):=hSw.blk.cell 1;have z2:w'.cell? ⟨y,2,none⟩=some (.slice B2 n2 k2):=hSw.blk.cell 2;go_simp<;>with_reducible rfl);try simp only[zP])
        refine zE ?_
        refine zT 7 ?_ ?_ hS ?_
        rotate_left
        ·(intro w' hSw;go_simp<;>with_reducible rfl)
        try simp only[zP]
        clear hS0
        generalize w6.drew=wd at hS ⊢
        have z0:wd.cell? ⟨y,0,none⟩=some (.slice B0 n0 k0):=hS.blk.cell 0
        have z1:wd.cell? ⟨y,1,none⟩=some (.slice B1 n1 k1):=hS.blk.cell 1
        have z2:wd.cell? ⟨y,2,none⟩=some (.slice B2 n2 k2):=hS.blk.cell 2
        have zf:=hS.blk.frozen
        have HP:Hid (bQ w (setFrom wd y 0 [.slice B0 n0 k0,.slice B1 n1 k1,.slice B2 n2 k2]) y (mk3 (.slice B0 n0 k0) (.slice B1 n1 k1) (.slice B2 n2 k2)) A1 I 3):=zh hS.put
        refine zC 8 fun K HK=>?_
        go_simp
        clear z0 z1 z2 zf
        go_wp2_with fail
        refine HK.out.go (fun w'=>bQ w w' y (mk3 (.slice B0 n0 k0) (.slice B1 n1 k1) (.slice B2 n2 k2)) A1 I 3) (fun _ h=>h) (HP.out) ?_
        clear HK hS
        intro w7 hS
        try simp only[zP]
        refine zT 9 ?_ ?_ hS ?_
        rotate_left
        ·(intro w' hSw;go_simp<;>with_reducible rfl)
        try simp only[zP]
        refine zD ?_
        try simp only[zP]
        have z0:w7.cell? ⟨y,0,none⟩=some (.slice B0 n0 k0):=hS.blk.cell 0
        have z1:w7.cell? ⟨y,1,none⟩=some (.slice B1 n1 k1):=hS.blk.cell 1
        have z2:w7.cell? ⟨y,2,none⟩=some (.slice B2 n2 k2):=hS.blk.cell 2
        have HQ2:=zh hS
        clear hS HP
        go_wp2_with fail
        exact bodyPost_ret (v:=.tuple #[.int .i64 M,.agg #[.slice B0 n0 k0,.slice B1 n1 k1,.slice B2 n2 k2],.bool false]) (by simp[results,Tryz.results366,go_sem,z0,z1,z2,hmw]<;>omega) rfl (kN HQ2.out HN.out)
    ·have HN:=zh (show ¬ Parts b from fun h=>hM4 (by rw[HU.out.1,HI.out.1];exact h.m))
     have d4:decide ((4096:Int) < (M:Int))=true:=by simp;omega
     have d4':4096 < M:=by omega
     rw[show ((0:Nat):Int)=0 from rfl]
     go_wp2_with fail
     refine aH (fun w'=>bQ w w' y (fun _=>.slice none 0 0) A1 I 0) H5.out ?_
     clear H5
     intro w6 hS0
     have hS:(fun w'=>bQ w w' y (fun _=>.slice none 0 0) A1 I 0) (w6.drew):=hS0.drew
     refine av (fun w'=>bQ w w' y (fun _=>.slice none 0 0) A1 I 0) (by kernel_rfl) hS ?_
     refine zT 0 ?_ ?_ hS ?_
     rotate_left
     ·(intro w' hSw;have z0:w'.cell? ⟨y,0,none⟩=some (.slice none 0 0):=hSw.blk.cell 0;have z1:w'.cell? ⟨y,1,none⟩=some (.slice none 0 0):=hSw.blk.cell 1;have z2:w'.cell? ⟨y,2,none⟩=some (.slice none 0 0):=hSw.blk.cell 2;go_simp<;>with_reducible rfl)
     try simp only[zP]
     refine zT 1 ?_ ?_ hS ?_
     rotate_left
     ·(intro w' hSw;go_simp<;>with_reducible rfl)
     try simp only[zP]
     clear hS0
     generalize w6.drew=wd at hS ⊢
     have z0:wd.cell? ⟨y,0,none⟩=some (.slice none 0 0):=hS.blk.cell 0
     have z1:wd.cell? ⟨y,1,none⟩=some (.slice none 0 0):=hS.blk.cell 1
     have z2:wd.cell? ⟨y,2,none⟩=some (.slice none 0 0):=hS.blk.cell 2
     have zf:=hS.blk.frozen
     have HP:Hid (bQ w (setFrom wd y 0 [.slice none 0 0,.slice none 0 0,.slice none 0 0]) y (fun _=>.slice none 0 0) A1 I 0):=zh hS.put
     refine zC 2 fun K HK=>?_
     go_simp
     clear z0 z1 z2 zf
     go_wp2_with fail
     refine HK.out.go (fun w'=>bQ w w' y (fun _=>.slice none 0 0) A1 I 0) (fun _ h=>h) (HP.out) ?_
     clear HK hS
     intro w61 hS
     try simp only[zP]
     refine zT 3 ?_ ?_ hS ?_
     rotate_left
     ·(intro w' hSw;go_simp<;>with_reducible rfl)
     try simp only[zP]
     refine zD ?_
     try simp only[zP]
     have z0:w61.cell? ⟨y,0,none⟩=some (.slice none 0 0):=hS.blk.cell 0
     have z1:w61.cell? ⟨y,1,none⟩=some (.slice none 0 0):=hS.blk.cell 1
     have z2:w61.cell? ⟨y,2,none⟩=some (.slice none 0 0):=hS.blk.cell 2
     have HQ:=zh (zN hS HN.out)
     clear hS HP
     go_wp2_with fail
     exact bodyPost_ret (v:=.tuple #[.int .i64 0,.agg #[.slice none 0 0,.slice none 0 0,.slice none 0 0],.bool false]) (by simp[results,Tryz.results366,go_sem,z0,z1,z2]) rfl (kN HQ.out.1 HQ.out.2)
   ·have HN:=zh (show ¬ Parts b from fun h=>hR0 (by rw[HU.out.2.2,HI.out.1];exact h.v))
    have d0:decide ((R:Int)=0)=false:=by simp;omega
    have d0':¬ (R:Int)=0:=by omega
    go_wp2_with fail
    refine aH (fun w'=>bQ w w' y (fun _=>.slice none 0 0) A1 I 0) H5.out ?_
    clear H5
    intro w6 hS0
    have hS:(fun w'=>bQ w w' y (fun _=>.slice none 0 0) A1 I 0) (w6.drew):=hS0.drew
    refine av (fun w'=>bQ w w' y (fun _=>.slice none 0 0) A1 I 0) (by kernel_rfl) hS ?_
    refine zT 0 ?_ ?_ hS ?_
    rotate_left
    ·(intro w' hSw;have z0:w'.cell? ⟨y,0,none⟩=some (.slice none 0 0):=hSw.blk.cell 0;have z1:w'.cell? ⟨y,1,none⟩=some (.slice none 0 0):=hSw.blk.cell 1;have z2:w'.cell? ⟨y,2,none⟩=some (.slice none 0 0):=hSw.blk.cell 2;go_simp<;>with_reducible rfl)
    try simp only[zP]
    refine zT 1 ?_ ?_ hS ?_
    rotate_left
    ·(intro w' hSw;go_simp<;>with_reducible rfl)
    try simp only[zP]
    clear hS0
    generalize w6.drew=wd at hS ⊢
    have z0:wd.cell? ⟨y,0,none⟩=some (.slice none 0 0):=hS.blk.cell 0
    have z1:wd.cell? ⟨y,1,none⟩=some (.slice none 0 0):=hS.blk.cell 1
    have z2:wd.cell? ⟨y,2,none⟩=some (.slice none 0 0):=hS.blk.cell 2
    have zf:=hS.blk.frozen
    have HP:Hid (bQ w (setFrom wd y 0 [.slice none 0 0,.slice none 0 0,.slice none 0 0]) y (fun _=>.slice none 0 0) A1 I 0):=zh hS.put
    refine zC 2 fun K HK=>?_
    go_simp
    clear z0 z1 z2 zf
    go_wp2_with fail
    refine HK.out.go (fun w'=>bQ w w' y (fun _=>.slice none 0 0) A1 I 0) (fun _ h=>h) (HP.out) ?_
    clear HK hS
    intro w61 hS
    try simp only[zP]
    refine zT 3 ?_ ?_ hS ?_
    rotate_left
    ·(intro w' hSw;go_simp<;>with_reducible rfl)
    try simp only[zP]
    refine zD ?_
    try simp only[zP]
    have z0:w61.cell? ⟨y,0,none⟩=some (.slice none 0 0):=hS.blk.cell 0
    have z1:w61.cell? ⟨y,1,none⟩=some (.slice none 0 0):=hS.blk.cell 1
    have z2:w61.cell? ⟨y,2,none⟩=some (.slice none 0 0):=hS.blk.cell 2
    have HQ:=zh (zN hS HN.out)
    clear hS HP
    go_wp2_with fail
    exact bodyPost_ret (v:=.tuple #[.int .i64 0,.agg #[.slice none 0 0,.slice none 0 0,.slice none 0 0],.bool false]) (by simp[results,Tryz.results366,go_sem,z0,z1,z2]) rfl (kN HQ.out.1 HQ.out.2)
  ·have HN:=zh (show ¬ Parts b from fun h=>hK3 (by rw[HK.out.1];exact h.k))
   subst hE0
   have d3:decide ((K:Int)=3)=false:=by simp;omega
   have d3':¬ (K:Int)=3:=by omega
   go_wp2_with fail
   refine aH (fun w'=>bQ w w' y (fun _=>.slice none 0 0) A1 I 0) HT.out ?_
   clear HT
   intro w3 hS0
   have hS:(fun w'=>bQ w w' y (fun _=>.slice none 0 0) A1 I 0) (w3.drew):=hS0.drew
   refine av (fun w'=>bQ w w' y (fun _=>.slice none 0 0) A1 I 0) (by kernel_rfl) hS ?_
   refine zT 0 ?_ ?_ hS ?_
   rotate_left
   ·(intro w' hSw;have z0:w'.cell? ⟨y,0,none⟩=some (.slice none 0 0):=hSw.blk.cell 0;have z1:w'.cell? ⟨y,1,none⟩=some (.slice none 0 0):=hSw.blk.cell 1;have z2:w'.cell? ⟨y,2,none⟩=some (.slice none 0 0):=hSw.blk.cell 2;go_simp<;>with_reducible rfl)
   try simp only[zP]
   refine zT 1 ?_ ?_ hS ?_
   rotate_left
   ·(intro w' hSw;go_simp<;>with_reducible rfl)
   try simp only[zP]
   clear hS0
   generalize w3.drew=wd at hS ⊢
   have z0:wd.cell? ⟨y,0,none⟩=some (.slice none 0 0):=hS.blk.cell 0
   have z1:wd.cell? ⟨y,1,none⟩=some (.slice none 0 0):=hS.blk.cell 1
   have z2:wd.cell? ⟨y,2,none⟩=some (.slice none 0 0):=hS.blk.cell 2
   have zf:=hS.blk.frozen
   have HP:Hid (bQ w (setFrom wd y 0 [.slice none 0 0,.slice none 0 0,.slice none 0 0]) y (fun _=>.slice none 0 0) A1 I 0):=zh hS.put
   refine zC 2 fun K HK=>?_
   go_simp
   clear z0 z1 z2 zf
   go_wp2_with fail
   refine HK.out.go (fun w'=>bQ w w' y (fun _=>.slice none 0 0) A1 I 0) (fun _ h=>h) (HP.out) ?_
   clear HK hS
   intro w31 hS
   try simp only[zP]
   refine zT 3 ?_ ?_ hS ?_
   rotate_left
   ·(intro w' hSw;go_simp<;>with_reducible rfl)
   try simp only[zP]
   refine zD ?_
   try simp only[zP]
   have z0:w31.cell? ⟨y,0,none⟩=some (.slice none 0 0):=hS.blk.cell 0
   have z1:w31.cell? ⟨y,1,none⟩=some (.slice none 0 0):=hS.blk.cell 1
   have z2:w31.cell? ⟨y,2,none⟩=some (.slice none 0 0):=hS.blk.cell 2
   have HQ:=zh (zN hS HN.out)
   clear hS HP
   go_wp2_with fail
   exact bodyPost_ret (v:=.tuple #[.int .i64 0,.agg #[.slice none 0 0,.slice none 0 0,.slice none 0 0],.bool false]) (by simp[results,Tryz.results366,go_sem,z0,z1,z2]) rfl (kN HQ.out.1 HQ.out.2)
 ·have HN:=zh (show ¬ Parts b from fun h=>hE0 (by rw[HK.out.2];exact h.e))
  go_wp2_with fail
  refine aH (fun w'=>bQ w w' y (fun _=>.slice none 0 0) A1 I 0) HT.out ?_
  clear HT
  intro w3 hS0
  have hS:(fun w'=>bQ w w' y (fun _=>.slice none 0 0) A1 I 0) (w3.drew):=hS0.drew
  refine av (fun w'=>bQ w w' y (fun _=>.slice none 0 0) A1 I 0) (by kernel_rfl) hS ?_
  refine zT 0 ?_ ?_ hS ?_
  rotate_left
  ·(intro w' hSw;have z0:w'.cell? ⟨y,0,none⟩=some (.slice none 0 0):=hSw.blk.cell 0;have z1:w'.cell? ⟨y,1,none⟩=some (.slice none 0 0):=hSw.blk.cell 1;have z2:w'.cell? ⟨y,2,none⟩=some (.slice none 0 0):=hSw.blk.cell 2;go_simp<;>with_reducible rfl)
  try simp only[zP]
  refine zT 1 ?_ ?_ hS ?_
  rotate_left
  ·(intro w' hSw;go_simp<;>with_reducible rfl)
  try simp only[zP]
  clear hS0
  generalize w3.drew=wd at hS ⊢
  have z0:wd.cell? ⟨y,0,none⟩=some (.slice none 0 0):=hS.blk.cell 0
  have z1:wd.cell? ⟨y,1,none⟩=some (.slice none 0 0):=hS.blk.cell 1
  have z2:wd.cell? ⟨y,2,none⟩=some (.slice none 0 0):=hS.blk.cell 2
  have zf:=hS.blk.frozen
  have HP:Hid (bQ w (setFrom wd y 0 [.slice none 0 0,.slice none 0 0,.slice none 0 0]) y (fun _=>.slice none 0 0) A1 I 0):=zh hS.put
  refine zC 2 fun K HK=>?_
  go_simp
  clear z0 z1 z2 zf
  go_wp2_with fail
  refine HK.out.go (fun w'=>bQ w w' y (fun _=>.slice none 0 0) A1 I 0) (fun _ h=>h) (HP.out) ?_
  clear HK hS
  intro w31 hS
  try simp only[zP]
  refine zT 3 ?_ ?_ hS ?_
  rotate_left
  ·(intro w' hSw;go_simp<;>with_reducible rfl)
  try simp only[zP]
  refine zD ?_
  try simp only[zP]
  have z0:w31.cell? ⟨y,0,none⟩=some (.slice none 0 0):=hS.blk.cell 0
  have z1:w31.cell? ⟨y,1,none⟩=some (.slice none 0 0):=hS.blk.cell 1
  have z2:w31.cell? ⟨y,2,none⟩=some (.slice none 0 0):=hS.blk.cell 2
  have HQ:=zh (zN hS HN.out)
  clear hS HP
  go_wp2_with fail
  exact bodyPost_ret (v:=.tuple #[.int .i64 0,.agg #[.slice none 0 0,.slice none 0 0,.slice none 0 0],.bool false]) (by simp[results,Tryz.results366,go_sem,z0,z1,z2]) rfl (kN HQ.out.1 HQ.out.2)
end
section
open Go.RowKit
theorem Di{P:Program}(w:World)(dT sT ty elem:TypeId)(b dLen dCap:Nat)(a:Addr)(sLen sCap size:Nat)(cs:List Value)(hu:P.underlying dT=some (.slice elem))(hs:(P.info? elem).map (·.size)=some size)(hn:cs.length=Nat.min sLen dLen*size)(hsrc:∀ j v,cs[j]? = some v→w.cell? (a.add j)=some v)(hc:∀ j,j < cs.length→(w.cell? ⟨b,0+j,none⟩).isSome=true)(hf:∀ j,j < cs.length→w.frozen? ⟨b,0+j,none⟩=false)(h1:∀ v ∈ cs,v.oneCell'=true):
  (Builtin.copy_ #[dT,sT] ty #[.slice (some ⟨b,0,none⟩) dLen dCap,.slice (some a) sLen sCap]).run P w=.ok (goInt (Nat.min sLen dLen)) (w.setCells b 0 cs):=by
 have hl:=run_loadCells_list (P:=P) w a cs hsrc
 have hst:=run_storeCells_cells (P:=P) b 0 cs 0 w (by simpa using hc) (by simpa using hf) h1
 cases hq:P.info? elem with
 | none=>simp[hq] at hs
 | some i=>
  have hi:i.size=size:=by simpa [hq] using hs
  simp[Builtin.copy_,run_underlying hu,Builtin.lenOf,Builtin.firstCells,sizeOf,typeInfo,hq,hi,←hn,hl,hst]
theorem Q0(w:World)(xt xv xs bt ot bv ov bs os_ n ct cv cs k:Nat)(t:Int)(v:Nat)(s:Int)(hk:k < n)(ht:w.cell? ⟨xt,0,none⟩=some (.slice (some ⟨bt,ot,none⟩) n ct))(hv:w.cell? ⟨xv,0,none⟩=some (.slice (some ⟨bv,ov,none⟩) n cv))(hs:w.cell? ⟨xs,0,none⟩=some (.slice (some ⟨bs,os_,none⟩) n cs))(tc:w.cell? ⟨bt,ot+k,none⟩=some (.int .i64 t))(vc:w.cell? ⟨bv,ov+k,none⟩=some (.int .u64 (v:Nat)))(sc:w.cell? ⟨bs,os_+k,none⟩=some (.int .i64 s)):
  Calls Tryz.prog 369 #[.int .i64 k,.pointer (some ⟨xt,0,none⟩),.pointer (some ⟨xv,0,none⟩),.pointer (some ⟨xs,0,none⟩)] w fun e w'=>e=.returned (.agg #[.int .i64 t,.int .i64 (IntKind.i64.wrap (v:Nat)),.int .i64 s])∧Below w.heap.size w w':=by
 have old:∀ {a:Addr} {u:Value},w.cell? a=some u→∀ w',Below w.heap.size w w'→w'.cell? a=some u:=fun {a u} h w' hb=>(World.cell?_of_block (w:=w) (a:=a) (hb.block a.block (World.block_lt_of_cell? w _ h))).trans h
 have HC:=zh (show ∀ w',Below w.heap.size w w'→w'.cell? ⟨xt,0,none⟩=some (.slice (some ⟨bt,ot,none⟩) n ct)∧w'.cell? ⟨xv,0,none⟩=some (.slice (some ⟨bv,ov,none⟩) n cv)∧w'.cell? ⟨xs,0,none⟩=some (.slice (some ⟨bs,os_,none⟩) n cs)∧
  w'.cell? ⟨bt,ot+k,none⟩=some (.int .i64 t)∧w'.cell? ⟨bv,ov+k,none⟩=some (.int .u64 (v:Nat))∧w'.cell? ⟨bs,os_+k,none⟩=some (.int .i64 s) from fun w' hb=>⟨old ht w' hb,old hv w' hb,old hs w' hb,old tc w' hb,old vc w' hb,old sc w' hb⟩)
 clear old ht hv hs tc vc sc
 obtain⟨x,hx⟩:∃ x,x=w.heap.size:=⟨_,rfl⟩
 have o0:=(Own.start w).alloc hx 149 #[.int .i64 0,.int .i64 0,.int .i64 0]
 have HO:=zh (zN hx o0)
 clear hx o0
 go_enter Tryz.func369,Tryz.ntmps369
 go_wp2_with fail
 rw[←HO.out.1]
 refine aH (Own w [(x,149,#[.int .i64 0,.int .i64 0,.int .i64 0])]) HO.out.2 ?_
 clear HO
 intro w1 hS0
 have hS:(fu w x 149 3 []) (w1.drew):=(fu.of (hS0.drewN 1) rfl)
 refine av (fu w x 149 3 []) (by kernel_rfl) hS ?_
 clear hS0
 refine zB [0,1,2,3,4,5,6,7,8,9,10,11,12,13] ?_
 iterate 14 (refine zV ?_ ?_ hS ?_;rotate_left;(intro w' hSw;obtain ⟨c0,c1,c2,c3,c4,c5⟩:=HC.out w' hSw.rest.bel;go_simp<;>with_reducible rfl);try simp only[zP])
 refine zE ?_
 generalize w1.drew=wd at hS ⊢
 obtain⟨p0,p1,p2,hO⟩:=hS.three
 have z0_0:=hO.cell 0 0 rfl rfl;have z0_1:=hO.cell 0 1 rfl rfl;have z0_2:=hO.cell 0 2 rfl rfl
 have zf0:=hO.free 0 rfl
 have HW:=zh (hS.put [.int .i64 t,.int .i64 (IntKind.i64.wrap (v:Nat)),.int .i64 s] rfl)
 clear hO
 refine zC 14 fun K HK=>?_
 go_simp
 clear z0_0 z0_1 z0_2 zf0
 go_wp2_with fail
 refine HK.out.go (Own w [(x,149,#[.int .i64 t,.int .i64 (IntKind.i64.wrap (v:Nat)),.int .i64 s])]) (fun _ h=>fu.of h rfl) (HW.out) ?_
 clear HK hS
 intro w4 hS
 try simp only[zP]
 refine zD ?_
 try simp only[zP]
 have z0_0:=hS.cell 0 0 rfl rfl;have z0_1:=hS.cell 0 1 rfl rfl;have z0_2:=hS.cell 0 2 rfl rfl
 have HS:=zh hS
 clear hS
 go_wp2_with fail
 exact bodyPost_ret (v:=.agg #[.int .i64 t,.int .i64 (IntKind.i64.wrap (v:Nat)),.int .i64 s]) (by simp[results,Tryz.results369,go_sem,z0_0,z0_1,z0_2]) rfl ⟨rfl,HS.out.bel⟩
end
section
open Go.RowKit
def wN(w:World)(xt xv xs n:Nat)(t:Nat→Int)(v:Nat→Nat)(s:Nat→Int): Prop:=
 0 < n→∃ bt ot ct bv ov cv bs os_ cs,w.cell? ⟨xt,0,none⟩=some (.slice (some ⟨bt,ot,none⟩) n ct)∧w.cell? ⟨xv,0,none⟩=some (.slice (some ⟨bv,ov,none⟩) n cv)∧w.cell? ⟨xs,0,none⟩=some (.slice (some ⟨bs,os_,none⟩) n cs)∧
  ∀ j,j < n→w.cell? ⟨bt,ot+j,none⟩=some (.int .i64 (t j))∧w.cell? ⟨bv,ov+j,none⟩=some (.int .u64 (v j:Nat))∧w.cell? ⟨bs,os_+j,none⟩=some (.int .i64 (s j))
theorem nM{w w':World}{a:Addr}{u:Value}(hb:Below w.heap.size w w')(h:w.cell? a=some u): w'.cell? a=some u:=(World.cell?_of_block (w:=w) (a:=a) (hb.block a.block (World.block_lt_of_cell? w _ h))).trans h
theorem wN.below{w w':World}{xt xv xs n:Nat}{t:Nat→Int}{v:Nat→Nat}{s:Nat→Int}(h:wN w xt xv xs n t v s)(hb:Below w.heap.size w w'): wN w' xt xv xs n t v s:=fun hn=>by
 obtain⟨bt,ot,ct,bv,ov,cv,bs,os_,cs,h1,h2,h3,h4⟩:=h hn
 exact⟨bt,ot,ct,bv,ov,cv,bs,os_,cs,nM hb h1,nM hb h2,nM hb h3,fun j hj=>⟨nM hb (h4 j hj).1,nM hb (h4 j hj).2.1,nM hb (h4 j hj).2.2⟩⟩
def rA(xt xv xs:Nat): Value:=.func (.func 369) #[] #[.pointer (some ⟨xt,0,none⟩),.pointer (some ⟨xv,0,none⟩),.pointer (some ⟨xs,0,none⟩)]
theorem Te(w:World)(xt xv xs n k:Nat)(t:Nat→Int)(v:Nat→Nat)(s:Nat→Int)(h:wN w xt xv xs n t v s)(hk:k < n):
  Calls Tryz.prog 369 #[.int .i64 k,.pointer (some ⟨xt,0,none⟩),.pointer (some ⟨xv,0,none⟩),.pointer (some ⟨xs,0,none⟩)] w fun e w'=>e=.returned (.agg #[.int .i64 (t k),.int .i64 (IntKind.i64.wrap (v k:Nat)),.int .i64 (s k)])∧Below w.heap.size w w':=by
 obtain⟨bt,ot,ct,bv,ov,cv,bs,os_,cs,h1,h2,h3,h4⟩:=h (by omega)
 exact Q0 w xt xv xs bt ot bv ov bs os_ n ct cv cs k (t k) (v k) (s k) hk h1 h2 h3 (h4 k hk).1 (h4 k hk).2.1 (h4 k hk).2.2
structure nO(wr:World)(g n k:Nat)(f:Nat→Pt): Prop where
 blk:∃ cur,au wr g 149 cur∧cur.size=n*3∧∀ j,j < k→cur[j*3]? = some (.int .i64 (f j).t)∧cur[j*3+1]? = some (.int .i64 (f j).v)∧cur[j*3+2]? = some (.int .i64 (f j).s)
theorem nO.below{w w':World}{g n k:Nat}{f:Nat→Pt}(h:nO w g n k f)(hb:Below w.heap.size w w'): nO w' g n k f:=by
 obtain⟨cur,h1,h2,h3⟩:=h.blk
 exact⟨cur,h1.below hb h1.lt,h2,h3⟩
theorem nO.put{w:World}{g n k:Nat}{f:Nat→Pt}{p:Pt}(h:nO w g n k f)(hk:k < n)(hp:f k=p): nO (((w.setCell ⟨g,k*3,none⟩ (.int .i64 p.t)).setCell ⟨g,k*3+1,none⟩ (.int .i64 p.v)).setCell ⟨g,k*3+2,none⟩ (.int .i64 p.s)) g n (k+1) f:=by
 obtain⟨cur,h1,h2,h3⟩:=h.blk
 refine⟨_,((h1.set (k*3) _).set (k*3+1) _).set (k*3+2) _,by simp[h2],fun j hj=>?_⟩
 simp only[Array.getElem?_setIfInBounds,Array.size_setIfInBounds,h2]
 rcases Nat.lt_or_ge j k with h4 | h4
 ·rw[if_neg (by omega),if_neg (by omega),if_neg (by omega),if_neg (by omega),if_neg (by omega),if_neg (by omega),if_neg (by omega),if_neg (by omega),if_neg (by omega)]
  exact h3 j h4
 ·obtain rfl:j=k:=by omega
  rw[if_neg (by omega),if_neg (by omega),if_pos rfl,if_pos (by omega),if_neg (by omega),if_pos rfl,if_pos (by omega),if_pos rfl,if_pos (by omega),hp]
  exact⟨rfl,rfl,rfl⟩
end
section
open Go.RowKit
theorem Lr: ∃ i,Tryz.prog.info? 149=some i∧i.zero=some (.agg #[.int .i64 0,.int .i64 0,.int .i64 0])∧i.size=3∧i.bytes=24:=by
 have h:(Tryz.prog.info? 149).map (fun i=>(i.zero,i.size,i.bytes))=some (some (.agg #[.int .i64 0,.int .i64 0,.int .i64 0]),3,24):=by kernel_rfl
 cases hi:Tryz.prog.info? 149 with
 | none=>rw[hi] at h;cases h
 | some i=>
  rw[hi] at h
  simp only[Option.map_some,Option.some.injEq,Prod.mk.injEq] at h
  exact⟨i,rfl,h.1,h.2.1,h.2.2⟩
theorem LP(W:World)(n:Nat)(f:Nat→Pt)(hn:n≤4096): ∃ w',(Instr.makeSlice 186 (.int .i64 (n:Nat)) (.int .i64 (n:Nat))).run Tryz.prog W=.ok (.slice (some ⟨W.heap.size,0,none⟩) n n) w'∧nO w' W.heap.size n 0 f∧Keeps (fun _=>False) W w':=by
 obtain⟨i,h1,h2,h3,h4⟩:=Lr
 obtain⟨w',hr,ho,hg⟩:=run_make_full (P:=Tryz.prog) (w:=W) W.heap.size 186 149 i _ 3 Tryz.underlying186 h1 h2 h3 .i64 .i64 n (by rw[h4];omega) (by unfold maxLen;omega) (Nat.le_refl _)
 refine⟨w',hr,?_,(Keeps.refl _ W).grown hg (fun k hk=>by cases hk)⟩
 rcases ho.2 with ⟨h5,-⟩ | ⟨g,cap,cur,h5,-,h6,-,-,h7,-⟩
 ·cases h5
 ·injection h5 with h5 h8 h9
  injection h5 with h5
  injection h5 with h5
  subst h5
  subst h9
  exact⟨cur,h6,h7,fun j hj=>absurd hj (Nat.not_lt_zero _)⟩
theorem vO{g:Nat}{t:TypeId}: ∀ (vs:List Value) (o:Nat) (w:World) (cur:Array Value),au w g t cur→o+vs.length≤cur.size→
  ∃ cur',au (w.setCells g o vs) g t cur'∧cur'.size=cur.size∧∀ i,cur'[i]? = if o≤i∧i < o+vs.length then vs[i-o]? else cur[i]?
 | [],o,w,cur,h,hl=>⟨cur,h,rfl,fun i=>by rw[if_neg (by simp)]⟩
 | v :: r,o,w,cur,h,hl=>by
  obtain⟨cur',h1,h2,h3⟩:=vO r (o+1) (w.setCell ⟨g,o,none⟩ v) _ (h.set o v) (by simp at hl ⊢;omega)
  refine⟨cur',h1,by rw[h2];simp,fun i=>?_⟩
  rw[h3 i]
  simp only[List.length_cons] at hl ⊢
  by_cases h4:i=o
  ·subst h4
   rw[if_neg (by omega),if_pos (by omega),Array.getElem?_setIfInBounds,if_pos rfl,if_pos (by omega)]
   simp
  ·by_cases h5:o+1≤i∧i < o+1+r.length
   ·rw[if_pos h5,if_pos (by omega)]
    obtain⟨d,hd⟩:∃ d,i-o=d+1:=⟨i-o-1,by omega⟩
    rw[hd,show i-(o+1)=d by omega]
    rfl
   ·rw[if_neg h5,if_neg (by omega),Array.getElem?_setIfInBounds,if_neg (by omega)]
theorem rP{g:Nat}: ∀ (vs:List Value) (o:Nat) (w:World),Keeps (fun k=>k=g) w (w.setCells g o vs)
 | [],o,w=>Keeps.refl _ _
 | v :: r,o,w=>((Keeps.refl (fun k=>k=g) w).setCell (p:=⟨g,o,none⟩) (fun _=>rfl) v).trans' (rP r (o+1) _)
theorem Oz(w:World)(g g2 n:Nat)(f f2:Nat→Pt)(h:nO w g n n f)(h2:nO w g2 n 0 f2)(ty:TypeId):
  ∃ w',(Builtin.copy_ #[186,186] ty #[.slice (some ⟨g2,0,none⟩) n n,.slice (some ⟨g,0,none⟩) n n]).run Tryz.prog w=.ok (goInt n) w'∧nO w' g2 n n f∧Keeps (fun k=>k=g2) w w':=by
 obtain⟨cur,c1,c2,c3⟩:=h.blk
 obtain⟨cur2,d1,d2,-⟩:=h2.blk
 have hl:cur.toList.length=n*3:=by simpa using c2
 obtain⟨i,h1,-,h3,-⟩:=Lr
 have hone:∀ v ∈ cur.toList,v.oneCell'=true:=fun v hv=>by
  obtain⟨j,hj,rfl⟩:=List.mem_iff_getElem.1 hv
  obtain⟨k0,k1,k2⟩:=c3 (j / 3) (by omega)
  have e:cur.toList[j]? = cur[j]?:=by simp
  have e2:cur.toList[j]? = some cur.toList[j]:=List.getElem?_eq_getElem hj
  have h4:j=j / 3*3∨j=j / 3*3+1∨j=j / 3*3+2:=by omega
  rw[e2] at e
  rcases h4 with h4 | h4 | h4
  ·have k:=(congrArg (fun x=>cur[x]?) h4).trans k0
   rw[Option.some.inj (e.trans k)];rfl
  ·have k:=(congrArg (fun x=>cur[x]?) h4).trans k1
   rw[Option.some.inj (e.trans k)];rfl
  ·have k:=(congrArg (fun x=>cur[x]?) h4).trans k2
   rw[Option.some.inj (e.trans k)];rfl
 have hadd:∀ j,(⟨g,0,none⟩:Addr).add j=⟨g,0+j,none⟩:=fun j=>by unfold Addr.add;split<;>simp_all
 have hrun:=Di (P:=Tryz.prog) w 186 186 ty 149 g2 n n ⟨g,0,none⟩ n n 3 cur.toList Tryz.underlying186 (by rw[h1];simp[h3]) (by rw[hl];simp)
  (fun j v hj=>by rw[hadd,Nat.zero_add,c1.cell j];simpa using hj) (fun j hj=>by rw[Nat.zero_add,d1.cell j];rw[Array.getElem?_eq_getElem (by omega)];rfl) (fun j hj=>d1.frozen _) hone
 rw[show Nat.min n n=n from Nat.min_self n] at hrun
 obtain⟨cur',e1,e2,e3⟩:=vO cur.toList 0 w cur2 d1 (by omega)
 refine⟨_,hrun,⟨cur',e1,by omega,fun j hj=>?_⟩,rP _ _ _⟩
 obtain⟨k0,k1,k2⟩:=c3 j hj
 rw[e3,e3,e3,if_pos (by omega),if_pos (by omega),if_pos (by omega)]
 simp only[Nat.sub_zero,Array.getElem?_toList]
 exact⟨k0,k1,k2⟩
end
section
open Go.RowKit
theorem nO.sl{w:World}{g n:Nat}{f:Nat→Pt}{D:Nat→Prop}(h:nO w g n n f)(hg:D g): dO w D (some ⟨g,0,none⟩) n f:=fun _=>by
 obtain⟨cur,h1,-,h3⟩:=h.blk
 refine⟨g,0,rfl,hg,fun j hj=>?_⟩
 rw[Nat.zero_add,h1.cell,h1.cell,h1.cell]
 exact h3 j hj
def Rj(w:World)(n:Nat)(f:Nat→Pt)(e:Ending)(w':World): Prop:=
 ∃ A c,e=.returned (.slice A n c)∧n≤c∧dO w' (fun k=>w.heap.size≤k) A n f∧Keeps (fun _=>False) w w'
theorem JJ(w:World)(xt xv xs n:Nat)(t:Nat→Int)(v:Nat→Nat)(s:Nat→Int)(hc:wN w xt xv xs n t v s)(hn:n≤4096):
  Calls Tryz.prog 370 #[.agg #[.int .i64 n,rA xt xv xs]] w (Rj w n (fun j=>⟨t j,IntKind.i64.wrap (v j:Nat),s j⟩)):=by
 obtain⟨f,hf⟩:∃ f:Nat→Pt,f=fun j=>⟨t j,IntKind.i64.wrap (v j:Nat),s j⟩:=⟨_,rfl⟩
 rw[←hf]
 obtain⟨xb,hxb⟩:∃ x,x=w.heap.size:=⟨_,rfl⟩
 obtain⟨w1,hr1,hp1,hk1⟩:=LP (w.alloc (.cells #[.int .i64 n,rA xt xv xs] 511)) n f hn
 have hb1:=(au.fresh w 511 #[.int .i64 n,rA xt xv xs]).keeps hk1 (fun h=>h)
 have hk:=((Keeps.refl (fun _=>False) w).alloc (.cells #[.int .i64 n,rA xt xv xs] 511)).trans' hk1
 obtain⟨g,hg⟩:∃ g,g=w.heap.size+1:=⟨_,rfl⟩
 have hge:(w.alloc (.cells #[.int .i64 n,rA xt xv xs] 511)).heap.size=g:=by rw[hg];simp
 rw[hge] at hp1
 have HP:=zh (zN hf (zN hxb (zN hp1 (zN hb1 (zN hk (zN hg hc))))))
 clear hf hxb hp1 hb1 hk hk1 hge hg hc
 unfold rA at hr1 HP ⊢
 go_enter Tryz.func370,Tryz.ntmps370
 go_wp2_with fail
 have HK:=HP
 go_loopw [4,11] (fun i4 i wr=>∃ k:Nat,k≤n∧i=.int .i64 k∧nO wr g n k f∧Keeps (fun _=>False) w wr∧au wr w.heap.size 511 #[.int .i64 n,.func (.func 369) #[] #[.pointer (some ⟨xt,0,none⟩),.pointer (some ⟨xv,0,none⟩),.pointer (some ⟨xs,0,none⟩)]]) (fun _ i _=>n-(intOf i).toNat)
 case atStart=>exact ⟨0,Nat.zero_le _,rfl,HP.out.2.2.1,HP.out.2.2.2.2.1,HP.out.2.2.2.1⟩
 case round=>
  obtain⟨k,hk,rfl,hrow,hkp,hbx⟩:=hrel
  by_cases hlt:k < n
  ·have z0:=hbx.cell 0
   have z1:=hbx.cell 1
   simp only[List.getElem?_toArray,List.getElem?_cons_zero,List.getElem?_cons_succ] at z0 z1
   have HB:=zh (zN hrow (zN hkp hbx))
   clear hrow hkp hbx
   go_wp2_with fail
   obtain⟨z,hz⟩:∃ z,z=IntKind.i64.wrap (v k:Nat):=⟨_,rfl⟩
   have hclo:=Te wr xt xv xs n k t v s (HP.out.2.2.2.2.2.2.below HB.out.2.1.bM) hlt
   rw[←hz] at hclo
   have HZ:=zh hz
   clear hz
   refine hclo.mono ?_
   clear hclo
   rintro e w2 ⟨rfl,hb2⟩
   obtain⟨cur,q1,q2,-⟩:=(HB.out.1.below hb2).blk
   have r0:w2.cell? ⟨g,k*3,none⟩=some cur[k*3]:=by rw[q1.cell,Array.getElem?_eq_getElem (by omega)]
   have r1:w2.cell? ⟨g,k*3+1,none⟩=some cur[k*3+1]:=by rw[q1.cell,Array.getElem?_eq_getElem (by omega)]
   have r2:w2.cell? ⟨g,k*3+2,none⟩=some cur[k*3+2]:=by rw[q1.cell,Array.getElem?_eq_getElem (by omega)]
   have rf:=q1.frozen
   rw[HP.out.2.2.2.2.2.1] at r0 r1 r2 rf
   generalize cur[k*3]=u0 at r0
   generalize cur[k*3+1]=u1 at r1
   generalize cur[k*3+2]=u2 at r2
   have H2:=zh hb2
   clear q1 q2 hb2
   go_wp2_with fail
   go_roundw
   case rel=>
    refine⟨k+1,by omega,by go_num,?_,?_,?_⟩
    ·have h:=(HB.out.1.below H2.out).put (p:=⟨t k,z,s k⟩) hlt (by rw[HP.out.1,HZ.out])
     rw[HP.out.2.2.2.2.2.1] at h ⊢
     exact h
    ·exact (((HB.out.2.1.trans' (Keeps.of_below H2.out)).setCell (fun (h:w.heap.size+1 < w.heap.size)=>absurd h (by omega)) _).setCell (fun (h:w.heap.size+1 < w.heap.size)=>absurd h (by omega)) _).setCell (fun (h:w.heap.size+1 < w.heap.size)=>absurd h (by omega)) _
    ·exact (((HB.out.2.2.below H2.out HB.out.2.2.lt).far (by simp) _).far (by simp) _).far (by simp) _
   case measure=>simp[intOf];omega
  ·obtain rfl:k=n:=by omega
   obtain⟨w3,hr3,hp3,hk3⟩:=LP wr k f hn
   obtain⟨w4,hr4,hp4,hk4⟩:=Oz w3 g wr.heap.size k f f (hrow.below hk3.bM) hp3 3
   rw[HP.out.2.2.2.2.2.1] at hr4
   have hks:=hkp.size
   have HR:=zh (zN hp4 ((hkp.trans' hk3).trans hk4 (fun x hx e=>by omega)))
   have HG:=zh hks
   clear hp3 hk3 hp4 hk4 hrow hkp hbx hks
   go_wp2_with fail
   go_ret
   exact⟨_,k,rfl,Nat.le_refl _,HR.out.1.sl HG.out,HR.out.2⟩
end
section
open Go.RowKit
def OA(b:List Nat)(w:World)(e:Ending)(w':World): Prop:=
 Keeps (fun _=>False) w w'∧
  ((∃ (A:Option Addr) (n c:Nat) (f:Nat→Pt),e=.returned (.tuple #[.slice A n c,.int .i64 0])∧n≤c∧dO w' (fun k=>w.heap.size≤k) A n f∧kg b f n∧∀ j,dS (f j).v)∨
   (e=.returned (.tuple #[.slice none 0 0,.int .i64 24])∧iG b))
theorem Mk{b:List Nat}(h:¬ Parts b): iG b:=fun f n hE=>h (iH hE.1 hE.2).1
theorem TV{b:List Nat}(h:(D.jw (eF (F.aK b) 0) ((V.aB (F.aK b)).1:Nat)).2≠0): iG b:=fun f n hE=>by
 obtain⟨-,h1,h2,-,-⟩:=iH hE.1 hE.2
 rw[h1,h2] at h
 exact h rfl
theorem TU{b:List Nat}(h:(D.jw (eF (F.aK b) 2) ((V.aB (F.aK b)).1:Nat)).2≠0): iG b:=fun f n hE=>by
 obtain⟨-,h1,-,-,h2⟩:=iH hE.1 hE.2
 rw[h1,h2] at h
 exact h rfl
theorem Ub{b:List Nat}(h:X.lV (eF (F.aK b) 1) ((V.aB (F.aK b)).1:Nat)=none): iG b:=fun f n hE=>by
 obtain⟨-,h1,-,h2,-⟩:=iH hE.1 hE.2
 rw[h1,h2] at h
 cases h
theorem LY{b:List Nat}{ts:List Int}{vs:List Nat}{ss:List Int}(h0:D.jw (eF (F.aK b) 0) ((V.aB (F.aK b)).1:Nat)=(ts,0))(h1:X.lV (eF (F.aK b) 1) ((V.aB (F.aK b)).1:Nat)=some vs)(h2:D.jw (eF (F.aK b) 2) ((V.aB (F.aK b)).1:Nat)=(ss,0))(hv:dX (gP ts vs ss) (V.aB (F.aK b)).1=false): iG b:=fun f n hE=>by
 obtain⟨-,k,e0,e1,e2⟩:=iH hE.1 hE.2
 rw[k] at h0 h1 h2 hv
 rw[e0] at h0
 rw[e1] at h1
 rw[e2] at h2
 injection h0 with h0 _
 injection h1 with h1
 injection h2 with h2 _
 subst h0
 subst h1
 subst h2
 have:=Rn (f:=gP (D.upTo (mR f n) n) (X.gK (nC f n) n) (D.upTo (mQ f n) n)) (g:=f) n (fun j hj=>⟨(zk f n j hj).1,(zk f n j hj).2.1⟩)
 rw[this,hE.1] at hv
 cases hv
end
section
open Go.RowKit
theorem sS{b:List Nat}(hIb:∀ j,(F.aK b).getD j 0 < 256)(hP:Parts b)(j:Nat)(hj:j < 3): (∀ i,(eF (F.aK b) j).getD i 0 < 256)∧(eF (F.aK b) j).length≤1048576:=by
 obtain⟨k1,k2,k3⟩:=mK (l:=(F.aK b).drop (iD (F.aK b) j)) (most:=1048576) (V.bN hIb _) (hP.t j hj)
 refine⟨V.bW (fun x hx=>?_),by unfold eF;omega⟩
 have hm:x ∈ ((F.aK b).drop (iD (F.aK b) j)).take (V.dF ((F.aK b).drop (iD (F.aK b) j)) 1048576).2.1:=by rw[k2];exact List.mem_append_right _ hx
 exact F.kP hIb x (List.mem_of_mem_drop (List.mem_of_mem_take hm))
theorem Qx{w:World}{base n c:Nat}{A:Option Addr}{l:List Int}(ho:w.ownsRow base 3 1 (.slice A n c) n (l.map D.sG))(hl:l.length=n): Sl w (fun k=>base≤k) A n (fun j=>.int .i64 (l.getD j 0)):=by
 have h:=Sl.lQ (f:=fun j=>.int .i64 (l.getD j 0)) ho (fun j u hu=>by
  rw[List.getElem?_map] at hu
  cases hj:l[j]? with
  | none=>rw[hj] at hu;cases hu
  | some x=>rw[hj] at hu;injection hu with hu;rw[List.getD_eq_getElem?_getD,hj];exact hu.symm)
 exact h.mono (fun k hk=>(ho.lt k hk).1)
theorem TM{w:World}{base n c:Nat}{A:Option Addr}{l:List Nat}(ho:w.ownsRow base 50 1 (.slice A n c) n (l.map X.sU))(hl:l.length=n): Sl w (fun k=>base≤k) A n (fun j=>.int .u64 (l.getD j 0:Nat)):=by
 have h:=Sl.lQ (f:=fun j=>.int .u64 (l.getD j 0:Nat)) ho (fun j u hu=>by
  rw[List.getElem?_map] at hu
  cases hj:l[j]? with
  | none=>rw[hj] at hu;cases hu
  | some x=>rw[hj] at hu;injection hu with hu;rw[List.getD_eq_getElem?_getD,hj];exact hu.symm)
 exact h.mono (fun k hk=>(ho.lt k hk).1)
theorem Sm{w:World}{x y z n a b c:Nat}{A B C:Option Addr}{D E F:Nat→Prop}{ts:List Int}{vs:List Nat}{ss:List Int}(h0:w.cell? ⟨x,0,none⟩=some (.slice A n a))(h1:w.cell? ⟨y,0,none⟩=some (.slice B n b))(h2:w.cell? ⟨z,0,none⟩=some (.slice C n c))(s0:Sl w D A n (fun j=>.int .i64 (ts.getD j 0)))(s1:Sl w E B n (fun j=>.int .u64 (vs.getD j 0:Nat)))(s2:Sl w F C n (fun j=>.int .i64 (ss.getD j 0))): wN w x y z n (fun j=>ts.getD j 0) (fun j=>vs.getD j 0) (fun j=>ss.getD j 0):=fun hn=>by
 obtain⟨b0,o0,rfl,-,q0⟩:=s0 hn
 obtain⟨b1,o1,rfl,-,q1⟩:=s1 hn
 obtain⟨b2,o2,rfl,-,q2⟩:=s2 hn
 exact⟨b0,o0,a,b1,o1,b,b2,o2,c,h0,h1,h2,fun j hj=>⟨q0 j hj,q1 j hj,q2 j hj⟩⟩
theorem FL(w:World)(A:Option Addr)(len c:Nat)(D0:Nat→Prop)(b:List Nat)(hl:b.length=len)(hsl:Sl w D0 A len (aD b))(hb:∀ j,b.getD j 0 < 256)(hlen:len≤1048576)(hlc:len≤c)(hv:V.cu w):
  Calls Tryz.prog 344 #[.slice A len c] w (OA b w):=by
 have HS:=zh (zN hl (zN hsl (zN hb hv)))
 clear hl hsl hb hv
 go_enter Tryz.func344,Tryz.ntmps344
 go_wp2_with fail
 refine(Nu _ _ _ _ D0 b HS.out.1 HS.out.2.1 HS.out.2.2.1 hlen hlc HS.out.2.2.2).mono ?_
 rintro e w1 ⟨n,y,pv,ok,rfl,hk,hshp,hyes,hno⟩
 cases ok with
 | false=>
  obtain⟨B0,n0,k0,e0⟩:=hshp 0
  obtain⟨B1,n1,k1,e1⟩:=hshp 1
  obtain⟨B2,n2,k2,e2⟩:=hshp 2
  rw[e0,e1,e2]
  have HN:=zh (zN hk (Mk (hno rfl)))
  clear hyes hno hk hshp e0 e1 e2
  go_wp2_with fail
  go_ret2
  exact⟨HN.out.1.alloc _,.inr ⟨rfl,HN.out.2⟩⟩
 | true=>
  obtain⟨hP,rfl,hpt⟩:=hyes rfl
  have hIb:=zY HS.out.2.2.1
  have b0:=sS hIb hP 0 (by omega)
  have b1:=sS hIb hP 1 (by omega)
  have b2:=sS hIb hP 2 (by omega)
  obtain⟨p,hp⟩:∃ p:Nat→List Nat,p=eF (F.aK b):=⟨_,rfl⟩
  rw[←hp] at b0 b1 b2 hpt
  obtain⟨B0,c0,e0,s0⟩:=hpt 0
  obtain⟨B1,c1,e1,s1⟩:=hpt 1
  obtain⟨B2,c2,e2,s2⟩:=hpt 2
  rw[e0,e1,e2]
  have s0:Sl w1 (fun k=>y < k) B0 (p 0).length (aD (p 0)):=s0
  have s1:Sl w1 (fun k=>y < k) B1 (p 1).length (aD (p 1)):=s1
  have s2:Sl w1 (fun k=>y < k) B2 (p 2).length (aD (p 2)):=s2
  obtain⟨l0,hl0⟩:∃ l,l=(p 0).length:=⟨_,rfl⟩
  obtain⟨l1,hl1⟩:∃ l,l=(p 1).length:=⟨_,rfl⟩
  obtain⟨l2,hl2⟩:∃ l,l=(p 2).length:=⟨_,rfl⟩
  rw[show (p (0:Fin 3).val).length=l0 from hl0.symm,show (p (1:Fin 3).val).length=l1 from hl1.symm,show (p (2:Fin 3).val).length=l2 from hl2.symm]
  rw[←hl0] at s0 b0
  rw[←hl1] at s1 b1
  rw[←hl2] at s2 b2
  have hM:=hP.m
  obtain⟨M,hMe⟩:∃ M,M=(V.aB (F.aK b)).1:=⟨_,rfl⟩
  rw[←hMe] at hM
  rw[←hMe]
  obtain⟨x,hx⟩:∃ x,x=w1.heap.size:=⟨_,rfl⟩
  have o1:=Own.eX w1 hx 449 #[.slice B0 l0 c0,.slice B1 l1 c1,.slice B2 l2 c2]
  have HX:=zh (zN hx o1)
  have HQ:=zh (zN hP (zN hk (zN hp (zN hIb hMe))))
  have H0:=zh (zN b0 (zN s0 hl0.symm))
  have H1:=zh (zN b1 (zN s1 hl1.symm))
  have H2:=zh (zN b2 (zN s2 hl2.symm))
  clear hx o1 hP hk hp hIb hMe b0 s0 b1 s1 b2 s2 hyes hno hshp hpt e0 e1 e2 hl0 hl1 hl2
  go_upto_region 4 with (fail)
  rw[←HX.out.1]
  refine aH (Own w1 [(x,449,#[.slice B0 l0 c0,.slice B1 l1 c1,.slice B2 l2 c2])]) HX.out.2 ?_
  intro w2 hS
  have z0_0:=hS.cell 0 0 rfl rfl;have z0_1:=hS.cell 0 1 rfl rfl;have z0_2:=hS.cell 0 2 rfl rfl
  have HS2:=zh hS
  clear hS
  go_wp2_with fail
  refine(D.zq w2 B0 _ c0 (fun k=>y < k) (p 0) M H0.out.2.2 (H0.out.2.1.keeps HS2.out.keeps (fun _ _ h=>h)) H0.out.1.1 H0.out.1.2).mono ?_
  rintro e w3 ⟨T0,d0,rfl,ho0,hk3⟩
  obtain⟨q0,hq0⟩:∃ q,q=D.jw (p 0) M:=⟨_,rfl⟩
  rw[←hq0] at ho0 ⊢
  obtain⟨ts,r0⟩:=q0
  have hts:r0=0→ts.length=M∧∀ j,dS (ts.getD j 0):=fun h=>by
   subst h
   have hd:=D.wM H0.out.1.1 hq0.symm
   have hi:=D.CZ (p 0) M
   rw[←hq0] at hi
   exact⟨by have:=hd.1;omega,hi⟩
  simp only[] at ho0 ⊢
  obtain⟨x0,hx0⟩:∃ x,x=w3.heap.size:=⟨_,rfl⟩
  have o3:=(HS2.out.call hk3.bM).alloc hx0 62 #[.slice T0 ts.length d0]
  have ho0':=aF ho0 ((Keeps.refl (fun _=>False) w3).alloc (.cells #[.slice T0 ts.length d0] 62)) (fun _ _ h=>h)
  have H3:=zh (zN hx0 (zN o3 (zN ho0' (zN hq0 hts))))
  clear hx0 o3 ho0 ho0' hq0 hts hk3 HX z0_0 z0_1 z0_2
  go_upto_region 5 with (fail)
  rw[←H3.out.1]
  refine aH (fun wz=>Own w1 [(x,449,#[.slice B0 l0 c0,.slice B1 l1 c1,.slice B2 l2 c2]),(x0,62,#[.slice T0 ts.length d0])] wz∧wz.ownsRow w2.heap.size 3 1 (.slice T0 ts.length d0) ts.length (ts.map D.sG)) ⟨H3.out.2.1,H3.out.2.2.1⟩ ?_
  rintro w4 ⟨hS,hr0⟩
  have z0_0:=hS.cell 0 0 rfl rfl;have z0_1:=hS.cell 0 1 rfl rfl;have z0_2:=hS.cell 0 2 rfl rfl;have z1_0:=hS.cell 1 0 rfl rfl
  have HS4:=zh (zN hS hr0)
  clear hS hr0
  go_wp2_with fail
  refine(X.FY w4 B1 _ c1 (fun k=>y < k) (p 1) M H1.out.2.2 (H1.out.2.1.keeps HS4.out.1.keeps (fun _ _ h=>h)) H1.out.1.1 H1.out.1.2).mono ?_
  rintro e w5 ⟨vs,r1,T1,d1,rfl,ho1,hk5,hvs,hc1⟩
  have hvl:r1=0→X.lV (p 1) M=some vs∧vs.length=M:=fun h=>by
   subst h
   rcases hc1 with ⟨-,h⟩ | ⟨⟨h,-⟩,-⟩
   ·have:=(X.Eb H1.out.1.1 h).1
    exact⟨h,by omega⟩
   ·exact absurd rfl h
  have hvn:r1≠0→X.lV (p 1) M=none:=fun h=>by
   rcases hc1 with ⟨h',-⟩ | ⟨-,h'⟩
   ·exact absurd h' h
   ·exact h'
  obtain⟨x1,hx1⟩:∃ x,x=w5.heap.size:=⟨_,rfl⟩
  have o5:=(HS4.out.1.call hk5.bM).alloc hx1 446 #[.slice T1 vs.length d1]
  have hkk:=(hk5.alloc (.cells #[.slice T1 vs.length d1] 446))
  have ho1':=aF ho1 ((Keeps.refl (fun _=>False) w5).alloc (.cells #[.slice T1 vs.length d1] 446)) (fun _ _ h=>h)
  have hr0':=aF HS4.out.2 hkk (fun _ _ h=>h)
  have H5:=zh (zN hx1 (zN o5 (zN ho1' (zN hr0' (zN hvs (zN hvl hvn))))))
  clear hx1 o5 ho1 ho1' hr0' hvs hvl hvn hc1 hk5 hkk z0_0 z0_1 z0_2 z1_0
  go_upto_region 6 with (fail)
  rw[←H5.out.1]
  refine aH (fun wz=>Own w1 [(x,449,#[.slice B0 l0 c0,.slice B1 l1 c1,.slice B2 l2 c2]),(x0,62,#[.slice T0 ts.length d0]),(x1,446,#[.slice T1 vs.length d1])] wz∧wz.ownsRow w2.heap.size 3 1 (.slice T0 ts.length d0) ts.length (ts.map D.sG)∧wz.ownsRow w4.heap.size 50 1 (.slice T1 vs.length d1) vs.length (vs.map X.sU)) ⟨H5.out.2.1,H5.out.2.2.2.1,H5.out.2.2.1⟩ ?_
  rintro w6 ⟨hS,hr0,hr1⟩
  have z0_0:=hS.cell 0 0 rfl rfl;have z0_1:=hS.cell 0 1 rfl rfl;have z0_2:=hS.cell 0 2 rfl rfl;have z1_0:=hS.cell 1 0 rfl rfl;have z2_0:=hS.cell 2 0 rfl rfl
  have HS6:=zh (zN hS (zN hr0 hr1))
  clear hS hr0 hr1
  go_wp2_with fail
  refine(D.zq w6 B2 _ c2 (fun k=>y < k) (p 2) M H2.out.2.2 (H2.out.2.1.keeps HS6.out.1.keeps (fun _ _ h=>h)) H2.out.1.1 H2.out.1.2).mono ?_
  rintro e w7 ⟨T2,d2,rfl,ho2,hk7⟩
  obtain⟨q2,hq2⟩:∃ q,q=D.jw (p 2) M:=⟨_,rfl⟩
  rw[←hq2] at ho2 ⊢
  obtain⟨ss,r2⟩:=q2
  have hss:r2=0→ss.length=M∧∀ j,dS (ss.getD j 0):=fun h=>by
   subst h
   have hd:=D.wM H2.out.1.1 hq2.symm
   have hi:=D.CZ (p 2) M
   rw[←hq2] at hi
   exact⟨by have:=hd.1;omega,hi⟩
  simp only[] at ho2 ⊢
  obtain⟨x2,hx2⟩:∃ x,x=w7.heap.size:=⟨_,rfl⟩
  have o7:=(HS6.out.1.call hk7.bM).alloc hx2 62 #[.slice T2 ss.length d2]
  have hkk:=(hk7.alloc (.cells #[.slice T2 ss.length d2] 62))
  have ho2':=aF ho2 ((Keeps.refl (fun _=>False) w7).alloc (.cells #[.slice T2 ss.length d2] 62)) (fun _ _ h=>h)
  have hr0':=aF HS6.out.2.1 hkk (fun _ _ h=>h)
  have hr1':=aF HS6.out.2.2 hkk (fun _ _ h=>h)
  have H7:=zh (zN hx2 (zN o7 (zN ho2' (zN hr0' (zN hr1' (zN hq2 hss))))))
  clear hx2 o7 ho2 ho2' hr0' hr1' hq2 hss hk7 hkk z0_0 z0_1 z0_2 z1_0 z2_0
  have HNt:Hid (r0≠0→iG b):=zh (fun h=>TV (by rw[←HQ.out.2.2.1,←HQ.out.2.2.2.2,←H3.out.2.2.2.1];exact h))
  have HNv:Hid (r1≠0→iG b):=zh (fun h=>Ub (by rw[←HQ.out.2.2.1,←HQ.out.2.2.2.2];exact H5.out.2.2.2.2.2.2 h))
  have HNs:Hid (r2≠0→iG b):=zh (fun h=>TU (by rw[←HQ.out.2.2.1,←HQ.out.2.2.2.2,←H7.out.2.2.2.2.2.1];exact h))
  have HK7:=zh (HQ.out.2.1.trans' H7.out.2.1.keeps)
  by_cases z0:r0=0
  ·by_cases z1:r1=0
   ·by_cases z2:r2=0
    ·subst z0
     subst z1
     subst z2
     have hts:=H3.out.2.2.2.2 rfl
     have hvl:=H5.out.2.2.2.2.2.1 rfl
     have hss:=H7.out.2.2.2.2.2.2 rfl
     have k7:=(Keeps.refl (fun _=>False) (w7.alloc (.cells #[.slice T2 ss.length d2] 62))).alloc (.cells #[.int .i64 (M:Nat),rA x0 x1 x2] 511)
     obtain⟨x3,hx3⟩:∃ x,x=w7.heap.size+1:=⟨_,rfl⟩
     have o8:=H7.out.2.1.alloc (g:=x3) (by rw[hx3];simp) 511 #[.int .i64 (M:Nat),rA x0 x1 x2]
     have s0':=Qx (aF H7.out.2.2.2.1 k7 (fun _ _ h=>h)) rfl
     have s1':=TM (aF H7.out.2.2.2.2.1 k7 (fun _ _ h=>h)) rfl
     have s2':=Qx (aF H7.out.2.2.1 k7 (fun _ _ h=>h)) rfl
     rw[hts.1] at o8 s0' ⊢
     rw[hvl.2] at o8 s1' ⊢
     rw[hss.1] at o8 s0' s1' s2' k7 ⊢
     have hgp:(D.jw (eF (F.aK b) 0) ((V.aB (F.aK b)).1:Nat)=(ts,0)∧X.lV (eF (F.aK b) 1) ((V.aB (F.aK b)).1:Nat)=some vs)∧D.jw (eF (F.aK b) 2) ((V.aB (F.aK b)).1:Nat)=(ss,0):=by
      rw[←HQ.out.2.2.1,←HQ.out.2.2.2.2]
      exact⟨⟨H3.out.2.2.2.1.symm,hvl.1⟩,H7.out.2.2.2.2.2.1.symm⟩
     have H8:=zh (zN hx3 (zN o8 (zN s0' (zN s1' (zN s2' (zN hgp H5.out.2.2.2.2.1))))))
     have H9:=zh H7.out.1
     clear hx3 o8 s0' s1' s2' hgp k7 hts hvl hss H3 H5 H7 HNt HNv HNs HS2 HS4 HS6 H0 H1 H2 s0 s1 s2
     go_upto_region 10 with (fail)
     rw[←H8.out.1,←H9.out]
     refine aH (fun wz=>Own w1 [(x,449,#[.slice B0 l0 c0,.slice B1 l1 c1,.slice B2 l2 c2]),(x0,62,#[.slice T0 M d0]),(x1,446,#[.slice T1 M d1]),(x2,62,#[.slice T2 M d2]),(x3,511,#[.int .i64 (M:Nat),rA x0 x1 x2])] wz∧
      Sl wz (fun k=>w2.heap.size≤k) T0 M (fun j=>.int .i64 (ts.getD j 0))∧Sl wz (fun k=>w4.heap.size≤k) T1 M (fun j=>.int .u64 (vs.getD j 0:Nat))∧Sl wz (fun k=>w6.heap.size≤k) T2 M (fun j=>.int .i64 (ss.getD j 0))) ⟨H8.out.2.1,H8.out.2.2.1,H8.out.2.2.2.1,H8.out.2.2.2.2.1⟩ ?_
     rintro w8 ⟨hS,hr0,hr1,hr2⟩
     have hcap:=Sm (hS.cell 1 0 rfl rfl) (hS.cell 2 0 rfl rfl) (hS.cell 3 0 rfl rfl) hr0 hr1 hr2
     have y0:=hS.cell 4 0 rfl rfl
     have y1:=hS.cell 4 1 rfl rfl
     have HS8:=zh (zN hcap (HQ.out.2.1.trans' hS.keeps))
     clear hS hr0 hr1 hr2 hcap HK7
     unfold rA at y1
     go_wp2_with fail
     refine(JJ w8 x0 x1 x2 M _ _ _ HS8.out.1 hM).mono ?_
     rintro e w9 ⟨A9,c9,rfl,hc9,hsl9,hk9⟩
     have hgf:(fun j=>(⟨ts.getD j 0,IntKind.i64.wrap (vs.getD j 0:Nat),ss.getD j 0⟩:Pt))=gP ts vs ss:=rfl
     rw[hgf] at hsl9
     have hsl9:dO w9 (fun k=>w.heap.size≤k) A9 M (gP ts vs ss):=hsl9.mono (fun k hk=>Nat.le_trans HS8.out.2.size hk)
     have H10:=zh (zN hsl9 (HS8.out.2.trans' hk9))
     clear hsl9 hk9 hgf y0 y1
     go_wp2_with fail
     refine(sH A9 M c9 (gP ts vs ss) _ w9 H10.out.1 (by omega)).mono ?_
     rintro e w10 ⟨rfl,hb10⟩
     have HK7:=zh (H10.out.2.trans' (Keeps.of_below hb10))
     cases hv:dX (gP ts vs ss) M with
     | false=>
      have HN:=zh (LY H8.out.2.2.2.2.2.1.1.1 H8.out.2.2.2.2.2.1.1.2 H8.out.2.2.2.2.2.1.2 (by rw[←HQ.out.2.2.2.2];exact hv))
      clear hv hb10
      go_wp2_with fail
      go_ret2
      exact⟨HK7.out,.inr ⟨rfl,HN.out⟩⟩
     | true=>
      have henc:=Fp (fun x hx=>F.kP HS.out.2.2.1 x hx) HQ.out.1 H8.out.2.2.2.2.2.1.1.1 H8.out.2.2.2.2.2.1.1.2 H8.out.2.2.2.2.2.1.2 H8.out.2.2.2.2.2.2 HQ.out.2.2.2.1
      have HG:=zh (zN (H10.out.1.below hb10) (show kg b (gP ts vs ss) M from ⟨hv,by have:=henc.1;rw[←HQ.out.2.2.2.2] at this;exact this⟩))
      clear hv hb10 henc
      go_wp2_with fail
      go_ret2
      exact⟨HK7.out,.inl ⟨A9,M,c9,gP ts vs ss,rfl,hc9,HG.out.1,HG.out.2,fun j=>by show dS (IntKind.i64.wrap _);unfold dS;rw[IntKind.wrap_i64];omega⟩⟩
    ·subst z0
     subst z1
     have HN:=zh (HNs.out z2)
     have e2:(r2 != 0)=true:=by simp[z2]
     go_wp2_with fail
     go_ret2
     exact⟨HK7.out,.inr ⟨rfl,HN.out⟩⟩
   ·subst z0
    have HN:=zh (HNv.out z1)
    have e1:(r1 != 0)=true:=by simp[z1]
    go_wp2_with fail
    go_ret2
    exact⟨HK7.out,.inr ⟨rfl,HN.out⟩⟩
  ·have HN:=zh (HNt.out z0)
   have e0:(r0 != 0)=true:=by simp[z0]
   go_wp2_with fail
   go_ret2
   exact⟨HK7.out,.inr ⟨rfl,HN.out⟩⟩
end
section
end
section
open Go.RowKit
end
section
open Go.RowKit
theorem G9(f:Nat→Pt)(n:Nat): (dX f n=true∧dU f n=(F.aN 3 (eG f n 3),0)∧kg (F.aN 3 (eG f n 3)) f n)∨(dX f n=false∧dU f n=([],2)):=by
 unfold dU
 cases hv:dX f n with
 | true=>exact .inl ⟨rfl,by rw[if_pos rfl],hv,rfl⟩
 | false=>exact .inr ⟨rfl,by rw[if_neg (by simp)]⟩
theorem Ud{f:Nat→Pt}{n:Nat}{b:List Nat}(h:kg b f n): 0 < n∧n≤4096:=(oF h.1).2
theorem RU{f:Nat→Pt}{n:Nat}{b:List Nat}(h:kg b f n): 9≤b.length∧b.length≤120060:=by
 rw[←h.2,F.bB]
 have:=oC f n (Ud h).2 3
 omega
end
section
open Go.RowKit Go.Maps
theorem Dy{g s:Nat→List Nat}(h:∀ i,g (i+1)=g i ++ s i)(i:Nat): ∀ d,∃ r,g (i+d)=g i ++ r
 | 0=>⟨[],by simp⟩
 | d+1=>by
  obtain⟨r,hr⟩:=Dy h i d
  exact⟨r ++ s (i+d),by rw[show i+(d+1)=(i+d)+1 by omega,h,hr,List.append_assoc]⟩
theorem rE{g s:Nat→List Nat}(h:∀ i,g (i+1)=g i ++ s i){i k:Nat}(hi:i≤k): ∃ r,g k=g i ++ r:=by
 obtain⟨r,hr⟩:=Dy h i (k-i)
 exact⟨r,by rw[←hr,show i+(k-i)=k by omega]⟩
theorem vQ{g s:Nat→List Nat}(h:∀ i,g (i+1)=g i ++ s i){i k:Nat}(hi:i < k): (g k).drop (g i).length=s i ++ (g k).drop (g (i+1)).length:=by
 obtain⟨r,hr⟩:=rE h (show i+1≤k from hi)
 have e1:(g k).drop (g (i+1)).length=r:=by rw[hr,List.drop_left]
 rw[e1,hr,h,List.append_assoc,List.drop_left]
theorem wo(f:Nat→Pt)(n i:Nat): bO f n (i+1)=bO f n i ++ (dU (aZ f (1024*i)) (bn n (1024*i))).1:=rfl
theorem QL(f:Nat→Pt)(n i:Nat): bF f n (i+1)=bF f n i ++ lC (aZ f (1024*i)) (bn n (1024*i)):=rfl
theorem wG(pf:Nat→Nat→Pt)(pn:Nat→Nat)(i:Nat): sO pf pn (i+1)=sO pf pn i ++ bO (pf i) (pn i) (aT (pn i)):=rfl
theorem Bn(nm:Nat→ByteArray)(pf:Nat→Nat→Pt)(pn:Nat→Nat)(k i:Nat): sF nm pf pn k (i+1)=sF nm pf pn k i ++ (V.aC (aT (pn i)) ++ bF (pf i) (pn i) (aT (pn i))):=by
 show (sF nm pf pn k i ++ V.aC (aT (pn i))) ++ _=_
 rw[List.append_assoc]
def sT(nm:Nat→ByteArray)(pf:Nat→Nat→Pt)(pn:Nat→Nat)(k i:Nat): List Nat:=(sF nm pf pn k k).drop (sF nm pf pn k i).length
theorem Il(nm:Nat→ByteArray)(pf:Nat→Nat→Pt)(pn:Nat→Nat){k i:Nat}(hi:i < k): sT nm pf pn k i=V.aC (aT (pn i)) ++ (bF (pf i) (pn i) (aT (pn i)) ++ sT nm pf pn k (i+1)):=by
 unfold sT
 rw[vQ (Bn nm pf pn k) hi,List.append_assoc]
theorem Sd(nm:Nat→ByteArray)(pf:Nat→Nat→Pt)(pn:Nat→Nat)(k:Nat): sT nm pf pn k k=[]:=by unfold sT;exact List.drop_eq_nil_of_le (Nat.le_refl _)
theorem O6(nm:Nat→ByteArray)(pf:Nat→Nat→Pt)(pn:Nat→Nat)(k:Nat): sF nm pf pn k k=dx nm k k ++ sT nm pf pn k 0:=by
 obtain⟨r,hr⟩:=rE (Bn nm pf pn k) (Nat.zero_le k)
 unfold sT
 have e:sF nm pf pn k 0=dx nm k k:=rfl
 rw[e] at hr ⊢
 rw[hr,List.drop_left]
def bT(f:Nat→Pt)(n m:Nat): List Nat:=(bF f n (aT n)).drop (bF f n m).length
theorem GR(f:Nat→Pt)(n:Nat): bT f n 0=bF f n (aT n):=rfl
theorem LZ(f:Nat→Pt)(n:Nat): bT f n (aT n)=[]:=by unfold bT;exact List.drop_eq_nil_of_le (Nat.le_refl _)
theorem GQ(f:Nat→Pt)(n:Nat){m:Nat}(hm:m < aT n): bT f n m=lC (aZ f (1024*m)) (bn n (1024*m)) ++ bT f n (m+1):=by
 unfold bT
 exact vQ (QL f n) hm
def bG(pf:Nat→Nat→Pt)(pn:Nat→Nat)(i m:Nat): Bk:=
 ⟨(sO pf pn i).length+(bO (pf i) (pn i) m).length,(dU (aZ (pf i) (1024*m)) (bn (pn i) (1024*m))).1.length,(pf i (1024*m)).t,(pf i (1024*m+(bn (pn i) (1024*m)-1))).t,bn (pn i) (1024*m)⟩
theorem vX(pf:Nat→Nat→Pt)(pn:Nat→Nat)(i m:Nat): (bG pf pn i (m+1)).a=(bG pf pn i m).a+(bG pf pn i m).b:=by
 show (sO pf pn i).length+(bO (pf i) (pn i) (m+1)).length=(sO pf pn i).length+(bO (pf i) (pn i) m).length+_
 rw[wo,List.length_append,Nat.add_assoc]
 rfl
theorem Fw(pf:Nat→Nat→Pt)(pn:Nat→Nat)(i:Nat): (bG pf pn i 0).a=(sO pf pn i).length:=by show (sO pf pn i).length+([]:List Nat).length=_;simp
theorem Hz(pf:Nat→Nat→Pt)(pn:Nat→Nat)(i:Nat): (bG pf pn i (aT (pn i))).a=(sO pf pn (i+1)).length:=by
 show (sO pf pn i).length+(bO (pf i) (pn i) (aT (pn i))).length=_
 rw[wG,List.length_append]
theorem Fq(pf:Nat→Nat→Pt)(pn:Nat→Nat){k i m:Nat}(hi:i < k)(hm:m < aT (pn i)): ∃ l r,sO pf pn k=l ++ ((dU (aZ (pf i) (1024*m)) (bn (pn i) (1024*m))).1 ++ r)∧l.length=(bG pf pn i m).a:=by
 obtain⟨r1,h1⟩:=rE (wG pf pn) (show i+1≤k from hi)
 obtain⟨r2,h2⟩:=rE (wo (pf i) (pn i)) (show m+1≤aT (pn i) from hm)
 refine⟨sO pf pn i ++ bO (pf i) (pn i) m,r2 ++ r1,?_,by rw[List.length_append];rfl⟩
 rw[h1,wG,h2,wo]
 simp only[List.append_assoc]
theorem Ja(pf:Nat→Nat→Pt)(pn:Nat→Nat){k i m:Nat}(hi:i < k)(hm:m < aT (pn i)): (bG pf pn i m).a+(bG pf pn i m).b≤(sO pf pn k).length:=by
 obtain⟨l,r,h1,h2⟩:=Fq pf pn hi hm
 rw[h1,List.length_append,List.length_append,h2]
 show _+(dU (aZ (pf i) (1024*m)) (bn (pn i) (1024*m))).1.length≤_
 omega
theorem O4(pf:Nat→Nat→Pt)(pn:Nat→Nat){k i m:Nat}(hi:i < k)(hm:m < aT (pn i)): ((sO pf pn k).drop (bG pf pn i m).a).take (bG pf pn i m).b=(dU (aZ (pf i) (1024*m)) (bn (pn i) (1024*m))).1:=by
 obtain⟨l,r,h1,h2⟩:=Fq pf pn hi hm
 rw[h1,←h2,List.drop_left]
 exact List.take_left
theorem IG{f:Nat→Pt}{n:Nat}: ∀ k,bV f n k=true→∀ m,m < k→jP f n m=true
 | 0,_,m,hm=>by omega
 | k+1,h,m,hm=>by
  have h':(bV f n k && jP f n k)=true:=h
  rw[Bool.and_eq_true] at h'
  rcases Nat.lt_or_ge m k with h1 | h1
  ·exact IG k h'.1 m h1
  ·rw[show m=k by omega];exact h'.2
structure vN(f:Nat→Pt)(n m:Nat): Prop where
 v:dX (aZ f (1024*m)) (bn n (1024*m))=true
 up:m≠0→(f (1024*m-1)).t < (f (1024*m)).t
 n0:1≤bn n (1024*m)
 n1:bn n (1024*m)≤1024
 le:1024*m+bn n (1024*m)≤n
 full:m+1 < aT n→bn n (1024*m)=1024
 last:m+1=aT n→1024*m+bn n (1024*m)=n
 b0:9≤(dU (aZ f (1024*m)) (bn n (1024*m))).1.length
 b1:(dU (aZ f (1024*m)) (bn n (1024*m))).1.length≤120060
theorem ny{f:Nat→Pt}{n m:Nat}(h:bV f n (aT n)=true)(hm:m < aT n): vN f n m:=by
 have hs:=IG _ h m hm
 unfold jP at hs
 simp only[Bool.and_eq_true,Bool.or_eq_true,beq_iff_eq,decide_eq_true_eq] at hs
 have hE:kg (dU (aZ f (1024*m)) (bn n (1024*m))).1 (aZ f (1024*m)) (bn n (1024*m)):=by
  rcases G9 (aZ f (1024*m)) (bn n (1024*m)) with ⟨_,h2,h3⟩ | ⟨h1,_⟩
  ·rw[h2];exact h3
  ·rw[h1] at hs;cases hs.1
 have hl:=RU hE
 unfold aT at hm
 refine⟨hs.1,fun h0=>hs.2.resolve_left h0,?_,?_,?_,fun h1=>?_,fun h1=>?_,hl.1,hl.2⟩<;>(try unfold aT at h1)<;>unfold bn<;>omega
theorem SK{f:Nat→Pt}{n m:Nat}(h:vN f n m): kg (dU (aZ f (1024*m)) (bn n (1024*m))).1 (aZ f (1024*m)) (bn n (1024*m)):=by
 rcases G9 (aZ f (1024*m)) (bn n (1024*m)) with ⟨_,h2,h3⟩ | ⟨h1,_⟩
 ·rw[h2];exact h3
 ·have:=h.v;rw[h1] at this;cases this
theorem IW{f:Nat→Pt}{n m:Nat}(h:vN f n m){j:Nat}(hj:j < bn n (1024*m)): iy (aZ f (1024*m)) j=true:=qH _ (oF h.v).1 j hj
theorem RB{f:Nat→Pt}{n m:Nat}(h:vN f n m){j:Nat}(hj:j+1 < bn n (1024*m)): (f (1024*m+j)).t < (f (1024*m+(j+1))).t:=((kH _ _).1 (IW h hj)).1
theorem C9{f:Nat→Pt}{n:Nat}(h:bV f n (aT n)=true){j:Nat}(hj:j+1 < n): (f j).t < (f (j+1)).t:=by
 have hm:(j+1) / 1024 < aT n:=by unfold aT;omega
 have hb:=ny h hm
 rcases Nat.eq_zero_or_pos ((j+1)%1024) with h0 | h0
 ·have:=hb.up (by omega)
  rw[show 1024*((j+1) / 1024)=j+1 by omega] at this
  simpa using this
 ·have:=RB hb (j:=(j+1)%1024-1) (by unfold bn;omega)
  rw[show 1024*((j+1) / 1024)+((j+1)%1024-1)=j by omega,show 1024*((j+1) / 1024)+((j+1)%1024-1+1)=j+1 by omega] at this
  exact this
theorem CG{f:Nat→Pt}{n:Nat}(h:bV f n (aT n)=true)(i:Nat): ∀ d,i+(d+1) < n→(f i).t < (f (i+(d+1))).t
 | 0,hd=>C9 h hd
 | d+1,hd=>by
  have h1:=CG h i d (by omega)
  have h2:=C9 h (j:=i+(d+1)) (by omega)
  rw[show i+(d+1+1)=i+(d+1)+1 by omega]
  omega
theorem rJ{f:Nat→Pt}{n:Nat}(h:bV f n (aT n)=true){i j:Nat}(hij:i < j)(hj:j < n): (f i).t < (f j).t:=by
 have:=CG h i (j-i-1) (by omega)
 rw[show i+(j-i-1+1)=j by omega] at this
 exact this
theorem Ak{f:Nat→Pt}{n:Nat}(h:bV f n (aT n)=true){j:Nat}(hj:j < n): -1152921504606846976≤(f j).t∧(f j).t≤1152921504606846976:=by
 have hm:j / 1024 < aT n:=by unfold aT;omega
 have hb:=ny h hm
 have h1:=(kH _ _).1 (IW hb (j:=j%1024) (by unfold bn;omega))
 have h2:aZ f (1024*(j / 1024)) (j%1024)=f j:=by unfold aZ;rw[show 1024*(j / 1024)+j%1024=j by omega]
 rw[h2] at h1
 refine⟨?_,h1.2.1⟩
 have h3:∀ i,i < n→-1152921504606846976≤(f 0).t:=fun i _=>by
  have hb0:=ny h (m:=0) (by omega)
  have:=((kH _ _).1 (IW hb0 (j:=0) (by have:=hb0.n0;omega))).1
  have e:aZ f (1024*0) 0=f 0:=by unfold aZ;rfl
  rw[e] at this
  show _≤_
  have e2:sW (aZ f (1024*0)) 0 = -1152921504606846977:=rfl
  rw[e2] at this
  omega
 rcases Nat.eq_zero_or_pos j with h0 | h0
 ·subst h0;exact h3 0 hj
 ·have:=rJ h h0 hj;have:=h3 j hj;omega
theorem QA{f:Nat→Pt}{n m:Nat}(hm:m+1 < aT n)(h:vN f n m): (f (1024*m+(bn n (1024*m)-1))).t=(f (1024*(m+1)-1)).t:=by
 rw[h.full hm,show 1024*m+(1024-1)=1024*(m+1)-1 by omega]
def jf(a b:Int)(p:Pt): Bool:=decide (a≤p.t) && decide (p.t < b)
def eD(f:Nat→Pt)(a b:Int): Nat→List Pt
 | 0=>[]
 | k+1=>if jf a b (f k)=true then eD f a b k ++ [f k] else eD f a b k
theorem yP(f:Nat→Pt)(a b:Int): ∀ k,(eD f a b k).length≤k
 | 0=>Nat.le_refl _
 | k+1=>by
  have:=yP f a b k
  show (if jf a b (f k)=true then eD f a b k ++ [f k] else eD f a b k).length≤k+1
  split
  ·rw[List.length_append];simp;omega
  ·omega
theorem CS{f:Nat→Pt}{a b:Int}{i:Nat}: ∀ d,(∀ j,i≤j→j < i+d→jf a b (f j)=false)→eD f a b (i+d)=eD f a b i
 | 0,_=>rfl
 | d+1,h=>by
  show (if jf a b (f (i+d))=true then _ else eD f a b (i+d))=_
  rw[h (i+d) (by omega) (by omega)]
  exact CS d (fun j h1 h2=>h j h1 (by omega))
theorem RN{f:Nat→Pt}{n m:Nat}{a b:Int}(hv:bV f n (aT n)=true)(hm:m < aT n)(h:b≤a∨(f (1024*m+(bn n (1024*m)-1))).t < a∨b≤(f (1024*m)).t): eD f a b (1024*m+bn n (1024*m))=eD f a b (1024*m):=by
 have hb:=ny hv hm
 refine CS _ fun j h1 h2=>?_
 have hle:=hb.le
 have h3:(f (1024*m)).t≤(f j).t:=by
  rcases Nat.lt_or_ge (1024*m) j with h4 | h4
  ·exact Int.le_of_lt (rJ hv h4 (by omega))
  ·rw[show j=1024*m by omega];exact Int.le_refl _
 have h4:(f j).t≤(f (1024*m+(bn n (1024*m)-1))).t:=by
  rcases Nat.lt_or_ge j (1024*m+(bn n (1024*m)-1)) with h5 | h5
  ·exact Int.le_of_lt (rJ hv h5 (by omega))
  ·rw[show j=1024*m+(bn n (1024*m)-1) by omega];exact Int.le_refl _
 unfold jf
 rw[Bool.and_eq_false_iff,decide_eq_false_iff_not,decide_eq_false_iff_not]
 omega
theorem Lp{f:Nat→Pt}{n m:Nat}(h:vN f n m)(hm:m+1≤aT n): 1024*m+bn n (1024*m)=min (1024*(m+1)) n:=by
 have:=h.le
 rcases Nat.lt_or_ge (m+1) (aT n) with h1 | h1
 ·have:=h.full h1;omega
 ·have:=h.last (by omega);have:=h.n1;omega
end
section
open Go.RowKit Go.Maps
theorem KS(w:World): (sizeOf 5).run Tryz.prog w=.ok 1 w:=by kernel_rfl
theorem J6(w:World): (binOp .neq 223 .nilIface .nilIface).run Tryz.prog w=.ok (.bool false) w:=by kernel_rfl
theorem zX(w:World): (binOp .eql 223 .nilIface .nilIface).run Tryz.prog w=.ok (.bool true) w:=by kernel_rfl
theorem je(w:World)(y:Nat): Calls Tryz.prog 231 #[.pointer (some ⟨y,0,none⟩),.bool false] w fun e w'=>e=.returned (.tuple #[])∧Below w.heap.size w w':=by
 go_enter Tryz.func231,Tryz.ntmps231
 go_wp2_with fail
 exact bodyPost_end (v:=.tuple #[]) (by simp[results,Tryz.results231,go_sem]) rfl ⟨rfl,Below.refl _ _⟩
def ow(w:World)(y:Nat)(v:Value)(l:List Nat)(e:Ending)(w':World): Prop:=e=.returned v∧w.grownBy w' (some y)∧eH w' y l
theorem CJ{u:Nat}{rest:List Nat}(hu:u < 18446744073709551616): (V.aB (V.aC u ++ rest))=(u,(V.aC u).length,0):=V.iA u rest hu
theorem zm(w:World)(y u most:Nat)(rest:List Nat)(h:eH w y (V.aC u ++ rest))(hu:1≤u)(hm:u≤most)(hmo:most≤1048576)(hv:V.cu w):
  Calls Tryz.prog 232 #[.pointer (some ⟨y,0,none⟩),.int .u64 (most:Nat)] w (ow w y (.int .i64 (u:Nat)) rest):=by
 have q1:=J6
 have hg:=CJ (u:=u) (rest:=rest) (by omega)
 obtain⟨l,hl⟩:∃ l,l=V.aC u ++ rest:=⟨_,rfl⟩
 obtain⟨n,hn⟩:∃ n,n=(V.aC u).length:=⟨_,rfl⟩
 have hdr:l.drop n=rest:=by rw[hl,hn,List.drop_left]
 have hle:n≤l.length:=by rw[hl,hn,List.length_append];omega
 rw[←hl] at h hg
 rw[←hn] at hg
 obtain⟨A,c,hb,hsl,hlc,hcm,hby⟩:=id h
 obtain⟨len,hlen⟩:∃ len,len=l.length:=⟨_,rfl⟩
 rw[←hlen] at hb hsl hlc hle
 obtain⟨A2,hA1,hA2⟩:=V.gI (P:=Tryz.prog) 72 5 Tryz.underlying72 KS A len c n hle hlc
 have zc:=hb.cell 0
 have HS:=zh (zN h (zN hb (zN hsl (zN hby (zN hlen.symm (zN hdr (zN hg (zN hv hA2))))))))
 clear h hb hsl hby hlen hdr hg hv hA2 hl hn
 go_enter Tryz.func232,Tryz.ntmps232
 go_wp2_with fail
 refine(V.kT _ _ A len c l HS.out.2.2.2.2.1 HS.out.2.2.2.1 HS.out.2.2.1 (by omega) HS.out.2.2.2.2.2.2.2.1).mono ?_
 rintro e w1 ⟨rfl,hb1⟩
 rw[HS.out.2.2.2.2.2.2.1]
 have h1:=HS.out.1.call hb1
 have hk1:=HS.out.2.1.below hb1 HS.out.2.1.lt
 have zc1:=hk1.cell 0
 have zf1:=hk1.frozen
 have hs2:=HS.out.2.2.2.2.2.2.2.2 w1 _ l (HS.out.2.2.1.below hb1 (fun q _ hq=>hq))
 have h2:=h1.next (n:=n) (A':=A2) (c':=c-n) (by rw[HS.out.2.2.2.2.1];exact hs2) (by rw[HS.out.2.2.2.2.1];omega) (by omega) (by rw[HS.out.2.2.2.2.1];exact hle)
 rw[HS.out.2.2.2.2.1,HS.out.2.2.2.2.2.1] at h2
 have hg2:w.grownBy (w1.setCell ⟨y,0,none⟩ (.slice A2 (len-n) (c-n))) (some y):=fA (dn hb1 _) (mJ w1 y 0 _)
 have HT:=zh (zN h2 hg2)
 clear zc h1 hk1 hs2 h2 hg2 hb1
 go_upto_region 3 with (fail)
 clear zc1 zf1 hA1
 refine aH (fun wx=>eH wx y rest∧w.grownBy wx (some y)) HT.out ?_
 rintro w3 ⟨h3,hg3⟩
 have d1:decide ((u:Int)=0)=false:=by simp;omega
 have d2:decide (most < u)=false:=by simp;omega
 have d3:((u:Int) == 0)=false:=by simp;omega
 have H3:=zh (zN h3 hg3)
 clear h3 hg3
 go_wp2_with fail
 refine(je w3 y).mono ?_
 rintro e w4 ⟨rfl,hb4⟩
 have h4:=H3.out.1.call hb4
 obtain⟨A4,c4,hb4',-⟩:=id h4
 have zc4:=hb4'.cell 1
 have ku:IntKind.i64.wrap (u:Int)=(u:Int):=IntWalk.i64_in _ (by omega)
 have H4:=zh (zN h4 (fA H3.out.2 (dn hb4 _)))
 clear h4 hb4 hb4'
 go_wp2_with fail
 go_ret
 exact⟨rfl,H4.out.2,H4.out.1⟩
theorem Iq(w:World)(y:Nat)(t:Int)(rest:List Nat)(h:eH w y (V.aC (zig t) ++ rest))(h0 : -1152921504606846976≤t)(h1:t≤1152921504606846976)(hv:V.cu w):
  Calls Tryz.prog 309 #[.pointer (some ⟨y,0,none⟩)] w (ow w y (.int .i64 t) rest):=by
 have hg:=CJ (u:=zig t) (rest:=rest) (jc (by omega) (by omega))
 obtain⟨l,hl⟩:∃ l,l=V.aC (zig t) ++ rest:=⟨_,rfl⟩
 obtain⟨n,hn⟩:∃ n,n=(V.aC (zig t)).length:=⟨_,rfl⟩
 have hdr:l.drop n=rest:=by rw[hl,hn,List.drop_left]
 have hle:n≤l.length:=by rw[hl,hn,List.length_append];omega
 rw[←hl] at h hg
 rw[←hn] at hg
 obtain⟨A,c,hb,hsl,hlc,hcm,hby⟩:=id h
 obtain⟨len,hlen⟩:∃ len,len=l.length:=⟨_,rfl⟩
 rw[←hlen] at hb hsl hlc hle
 obtain⟨A2,hA1,hA2⟩:=V.gI (P:=Tryz.prog) 72 5 Tryz.underlying72 KS A len c n hle hlc
 have zc:=hb.cell 0
 have HS:=zh (zN h (zN hb (zN hsl (zN hby (zN hlen.symm (zN hdr (zN hg (zN hv hA2))))))))
 clear h hb hsl hby hlen hdr hg hv hA2 hl hn
 go_enter Tryz.func309,Tryz.ntmps309
 go_wp2_with fail
 refine(V.vS _ _ A len c l HS.out.2.2.2.2.1 HS.out.2.2.2.1 HS.out.2.2.1 (by omega) HS.out.2.2.2.2.2.2.2.1).mono ?_
 rintro e w1 ⟨rfl,hb1⟩
 rw[HS.out.2.2.2.2.2.2.1,AX]
 have h1:=HS.out.1.call hb1
 have hk1:=HS.out.2.1.below hb1 HS.out.2.1.lt
 have zc1:=hk1.cell 0
 have zf1:=hk1.frozen
 have hs2:=HS.out.2.2.2.2.2.2.2.2 w1 _ l (HS.out.2.2.1.below hb1 (fun q _ hq=>hq))
 have h2:=h1.next (n:=n) (A':=A2) (c':=c-n) (by rw[HS.out.2.2.2.2.1];exact hs2) (by rw[HS.out.2.2.2.2.1];omega) (by omega) (by rw[HS.out.2.2.2.2.1];exact hle)
 rw[HS.out.2.2.2.2.1,HS.out.2.2.2.2.2.1] at h2
 have hg2:w.grownBy (w1.setCell ⟨y,0,none⟩ (.slice A2 (len-n) (c-n))) (some y):=fA (dn hb1 _) (mJ w1 y 0 _)
 have HT:=zh (zN h2 hg2)
 clear zc h1 hk1 hs2 h2 hg2 hb1
 go_upto_region 3 with (fail)
 clear zc1 zf1 hA1
 refine aH (fun wx=>eH wx y rest∧w.grownBy wx (some y)) HT.out ?_
 rintro w3 ⟨h3,hg3⟩
 have d1:decide (t < -1152921504606846976)=false:=by simp;omega
 have d2:decide ((1152921504606846976:Int) < t)=false:=by simp;omega
 have H3:=zh (zN h3 hg3)
 clear h3 hg3
 go_wp2_with fail
 refine(je w3 y).mono ?_
 rintro e w4 ⟨rfl,hb4⟩
 have H4:=zh (zN (H3.out.1.call hb4) (fA H3.out.2 (dn hb4 _)))
 clear hb4
 go_wp2_with fail
 go_ret
 exact⟨rfl,H4.out.2,H4.out.1⟩
def Ai(x:Bk): List Nat:=V.aC x.b ++ V.aC (zig x.f) ++ V.aC (zig x.t) ++ V.aC x.n
structure uN(w:World)(y z:Nat)(cz:Array Value)(l:List Nat)(wx:World): Prop where
 rd:eH wx y l
 gb:w.grownBy wx (some y)
 er:V.cu wx
 bz:au wx z 360 cz
theorem uN.step{w wx w':World}{y z:Nat}{cz:Array Value}{l l':List Nat}(h:uN w y z cz l wx)(hg:wx.grownBy w' (some y))(hr:eH w' y l')(hne:some 0≠some y)(hz:y < z): uN w y z cz l' w':=
 ⟨hr,fA h.gb hg,Rq h.er hg hne,dK hg h.bz (fun e=>by injection e with e;omega)⟩
theorem eH.far{w:World}{y g j:Nat}{l:List Nat}(h:eH w y l)(hg:y < g)(v:Value): eH (w.setCell ⟨g,j,none⟩ v) y l:=by
 obtain⟨A,c,h1,h2,h3⟩:=h
 refine⟨A,c,h1.far (p:=⟨g,j,none⟩) (by show y≠g;omega) v,h2.keep (fun k hk _=>Below.heap_setCell _ _ _ _ (show k≠g by have:k < y:=hk;omega)),h3⟩
theorem KY{w w':World}{row:Option Nat}{g:Nat}(h:w.grownBy w' row)(hg:w.heap.size≤g)(j:Nat)(v:Value): w.grownBy (w'.setCell ⟨g,j,none⟩ v) row:=
 have k:=mJ w' g j v
 ⟨k.os.trans h.os,k.tape.trans h.tape,k.output.trans h.output,Nat.le_trans h.size k.size,fun q hq hn=>(k.block q (Nat.lt_of_lt_of_le hq h.size) (fun e=>by injection e with e;omega)).trans (h.block q hq hn)⟩
theorem Fg{w:World}{g:Nat}(h:V.cu w)(hg:0≠g)(j:Nat)(v:Value): V.cu (w.setCell ⟨g,j,none⟩ v):=rF (mJ w g j v) h (fun e=>by injection e with e;exact hg e)
structure xP(w:World)(y z x:Nat)(cz cx:Array Value)(l:List Nat)(wx:World): Prop where
 z:uN w y z cz l wx
 bx:au wx x 360 cx
theorem uN.new{w wx:World}{y z x:Nat}{cz:Array Value}{l:List Nat}(h:uN w y z cz l wx)(cx:Array Value)(hx:x=wx.heap.size): xP w y z x cz cx l (wx.alloc (.cells cx 360)):=by
 have hal:Below wx.heap.size wx (wx.alloc (.cells cx 360)):=(Below.refl _ _).alloc (Nat.le_refl _) _
 exact⟨⟨h.rd.call hal,fA h.gb (dn hal _),h.er.below hal,h.bz.alloc _⟩,by rw[hx];exact au.fresh _ _ _⟩
theorem xP.step{w wx w':World}{y z x:Nat}{cz cx:Array Value}{l l':List Nat}(h:xP w y z x cz cx l wx)(hg:wx.grownBy w' (some y))(hr:eH w' y l')(hne:some 0≠some y)(hz:y < z)(hx:y < x): xP w y z x cz cx l' w':=
 ⟨h.z.step hg hr hne hz,dK hg h.bx (fun e=>by injection e with e;omega)⟩
theorem uN.Fj{w wx:World}{y z:Nat}{cz:Array Value}{l:List Nat}(h:uN w y z cz l wx)(hz:y < z)(hw:w.heap.size≤z)(hg:0 < w.heap.size)(j:Nat)(v:Value): uN w y z (cz.setIfInBounds j v) l (wx.setCell ⟨z,j,none⟩ v):=
 ⟨h.rd.far hz v,KY h.gb hw j v,Fg h.er (fun e=>by omega) j v,h.bz.set j v⟩
theorem Dp{P:Program}{fn:Func}{R:Ending→World→Prop}{a:Act}{w:World}(S:World→Prop)(hS:S w)(h:∀ w,S w→bodyPost P fn R .ret a w): bodyPost P fn R .ret a w:=h w hS
theorem xP.Uj{w wx:World}{y z x:Nat}{cz cx:Array Value}{l:List Nat}(h:xP w y z x cz cx l wx)(hz:y < z)(hx:z < x)(hw:w.heap.size≤z)(hg:0 < w.heap.size)(j:Nat)(v:Value): xP w y z x cz (cx.setIfInBounds j v) l (wx.setCell ⟨x,j,none⟩ v):=
 ⟨⟨h.z.rd.far (by omega) v,KY h.z.gb (by omega) j v,Fg h.z.er (fun e=>by omega) j v,h.z.bz.far (p:=⟨x,j,none⟩) (by show z≠x;omega) v⟩,h.bx.set j v⟩
theorem En(w:World)(y:Nat)(x:Bk)(rest:List Nat)(h:eH w y (Ai x ++ rest))(hb:1≤x.b)(hb1:x.b≤1048576)(hf : -1152921504606846976≤x.f)(hft:x.f≤x.t)(ht:x.t≤1152921504606846976)(hn:1≤x.n)(hn1:x.n≤4096)(hv:V.cu w):
  Calls Tryz.prog 233 #[.pointer (some ⟨y,0,none⟩),.int .i64 (x.a:Nat)] w (ow w y (.agg (qx x).toArray) rest):=by
 obtain⟨a,b,f,t,n⟩:=x
 have hb:1≤b:=hb
 have hb1:b≤1048576:=hb1
 have hf : -1152921504606846976≤f:=hf
 have hft:f≤t:=hft
 have ht:t≤1152921504606846976:=ht
 have hn:1≤n:=hn
 have hn1:n≤4096:=hn1
 have h:eH w y (V.aC b ++ (V.aC (zig f) ++ (V.aC (zig t) ++ (V.aC n ++ rest)))):=by
  have e:Ai ⟨a,b,f,t,n⟩ ++ rest=V.aC b ++ (V.aC (zig f) ++ (V.aC (zig t) ++ (V.aC n ++ rest))):=by unfold Ai;simp only[List.append_assoc]
  rw[e] at h;exact h
 show Calls _ _ #[_,.int .i64 (a:Nat)] w (ow w y (.agg #[.int .i64 (a:Nat),.int .i64 (b:Nat),.int .i64 f,.int .i64 t,.int .i64 (n:Nat)]) rest)
 have hne:=TT h hv
 have hylt:y < w.heap.size:=by obtain ⟨_,_,hk,-⟩:=h;exact hk.lt
 have H0:=zh (zN h (zN hv (zN hne hylt)))
 clear h hv hne hylt
 go_enter Tryz.func233,Tryz.ntmps233
 go_upto_region 1 with (fail)
 obtain⟨z,hz⟩:∃ z,z=w.heap.size:=⟨_,rfl⟩
 rw[←hz]
 have hal:Below w.heap.size w (w.alloc (.cells #[.int .i64 0,.int .i64 0,.int .i64 0,.int .i64 0,.int .i64 0] 360)):=(Below.refl _ _).alloc (Nat.le_refl _) _
 have hbz:au (w.alloc (.cells #[.int .i64 0,.int .i64 0,.int .i64 0,.int .i64 0,.int .i64 0] 360)) z 360 #[.int .i64 0,.int .i64 0,.int .i64 0,.int .i64 0,.int .i64 0]:=by rw[hz];exact au.fresh _ _ _
 have hyz:y < z:=by rw[hz];exact H0.out.2.2.2
 refine aH (uN w y z #[.int .i64 0,.int .i64 0,.int .i64 0,.int .i64 0,.int .i64 0] (V.aC b ++ (V.aC (zig f) ++ (V.aC (zig t) ++ (V.aC n ++ rest))))) ⟨H0.out.1.call hal,dn hal _,H0.out.2.1.below hal,hbz⟩ ?_
 intro w1 h1
 have HZ:=zh (zN hyz (show w.heap.size≤z by omega))
 have H1:=zh h1
 clear h1 hal hbz hyz hz
 go_wp2_with fail
 refine(zm w1 y b 1048576 _ H1.out.rd hb hb1 (by omega) H1.out.er).mono ?_
 rintro e w2 ⟨rfl,hg2,h2⟩
 have H2:=zh (H1.out.step hg2 h2 H0.out.2.2.1 HZ.out.1)
 clear h2 hg2
 go_wp2_with fail
 refine(Iq w2 y f _ H2.out.rd hf (by omega) H2.out.er).mono ?_
 rintro e w3 ⟨rfl,hg3,h3⟩
 have H3:=zh (H2.out.step hg3 h3 H0.out.2.2.1 HZ.out.1)
 clear h3 hg3
 go_wp2_with fail
 refine(Iq w3 y t _ H3.out.rd (by omega) ht H3.out.er).mono ?_
 rintro e w4 ⟨rfl,hg4,h4⟩
 have H4:=zh (H3.out.step hg4 h4 H0.out.2.2.1 HZ.out.1)
 clear h4 hg4
 obtain⟨x,hx⟩:∃ x,x=w4.heap.size:=⟨_,rfl⟩
 have hzx:z < x:=by rw[hx];exact H4.out.bz.lt
 have hnew:=H4.out.new #[.int .i64 (a:Nat),.int .i64 (b:Nat),.int .i64 f,.int .i64 t,.int .i64 0] hx
 go_upto_region 2 with (fail)
 rw[←hx]
 refine aH (xP w y z x #[.int .i64 0,.int .i64 0,.int .i64 0,.int .i64 0,.int .i64 0] #[.int .i64 (a:Nat),.int .i64 (b:Nat),.int .i64 f,.int .i64 t,.int .i64 0] (V.aC n ++ rest)) hnew ?_
 intro w5 h5
 have HX:=zh hzx
 have H5:=zh h5
 clear h5 hnew hx hzx
 go_wp2_with fail
 refine(zm w5 y n 4096 _ H5.out.z.rd hn hn1 (by omega) H5.out.z.er).mono ?_
 rintro e w6 ⟨rfl,hg6,h6⟩
 have h6':=H5.out.step hg6 h6 H0.out.2.2.1 HZ.out.1 (by have:=HZ.out.1;have:=HX.out;omega)
 have zf:=h6'.bx.frozen
 have zc:=h6'.bx.cell 4
 have h7:=h6'.Uj HZ.out.1 HX.out HZ.out.2 (H0.out.2.1.lt) 4 (.int .i64 (n:Nat))
 have H7:=zh h7
 clear h7 h6' h6 hg6
 go_upto_region 3 with (fail)
 clear zf zc
 refine aH (xP w y z x #[.int .i64 0,.int .i64 0,.int .i64 0,.int .i64 0,.int .i64 0] #[.int .i64 (a:Nat),.int .i64 (b:Nat),.int .i64 f,.int .i64 t,.int .i64 (n:Nat)] rest) H7.out ?_
 intro w8 h8
 have z2:=h8.bx.cell 2
 have z3:=h8.bx.cell 3
 have d1:decide (t < f)=false:=by simp;omega
 have H8:=zh h8
 clear h8
 go_wp2_with fail
 refine(je w8 y).mono ?_
 rintro e w9 ⟨rfl,hb9⟩
 clear z2 z3
 have h9:xP w y z x #[.int .i64 0,.int .i64 0,.int .i64 0,.int .i64 0,.int .i64 0] #[.int .i64 (a:Nat),.int .i64 (b:Nat),.int .i64 f,.int .i64 t,.int .i64 (n:Nat)] rest w9:=
  ⟨⟨H8.out.z.rd.call hb9,fA H8.out.z.gb (dn hb9 _),H8.out.z.er.below hb9,H8.out.z.bz.below hb9 H8.out.z.bz.lt⟩,H8.out.bx.below hb9 H8.out.bx.lt⟩
 have y0:=h9.bx.cell 0
 have y1:=h9.bx.cell 1
 have y2:=h9.bx.cell 2
 have y3:=h9.bx.cell 3
 have y4:=h9.bx.cell 4
 have v0:=h9.z.bz.cell 0
 have v1:=h9.z.bz.cell 1
 have v2:=h9.z.bz.cell 2
 have v3:=h9.z.bz.cell 3
 have v4:=h9.z.bz.cell 4
 have zf:=h9.z.bz.frozen
 have H9:=zh h9
 clear h9 hb9
 go_wp2_with fail
 have hset:=(((((H9.out.z.Fj HZ.out.1 HZ.out.2 H0.out.2.1.lt 0 (.int .i64 (a:Nat))).Fj HZ.out.1 HZ.out.2 H0.out.2.1.lt 1 (.int .i64 (b:Nat))).Fj HZ.out.1 HZ.out.2 H0.out.2.1.lt 2 (.int .i64 f)).Fj HZ.out.1 HZ.out.2 H0.out.2.1.lt 3 (.int .i64 t)).Fj HZ.out.1 HZ.out.2 H0.out.2.1.lt 4 (.int .i64 (n:Nat)))
 refine Dp (uN w y z #[.int .i64 (a:Nat),.int .i64 (b:Nat),.int .i64 f,.int .i64 t,.int .i64 (n:Nat)] rest) hset ?_
 intro wz hwz
 have y0:=hwz.bz.cell 0
 have y1:=hwz.bz.cell 1
 have y2:=hwz.bz.cell 2
 have y3:=hwz.bz.cell 3
 have y4:=hwz.bz.cell 4
 exact bodyPost_ret (v:=.agg #[.int .i64 (a:Nat),.int .i64 (b:Nat),.int .i64 f,.int .i64 t,.int .i64 (n:Nat)]) (by simp[results,Tryz.results233,go_sem,y0,y1,y2,y3,y4]) rfl ⟨rfl,hwz.gb,hwz.rd⟩
end
section
open Go.RowKit Go.Maps
theorem EA(w:World): (sizeOf 5).run Tryz.prog w=.ok 1 w:=by kernel_rfl
theorem CU{P:Program}(t e:TypeId)(ht:P.underlying t=some (.slice e))(hs:∀ w:World,(sizeOf e).run P w=.ok 1 w)(A:Option Addr)(len c m n:Nat)(hmn:m≤n)(hn:n≤len)(hlc:len≤c):
  ∃ A',(∀ w:World,(Instr.slice t (.slice A len c) (some (.int .i64 (m:Nat))) (some (.int .i64 (n:Nat))) none).run P w=.ok (.slice A' (n-m) (c-m)) w)∧
   (∀ (w:World) (D:Nat→Prop) (l:List Nat),Sl w D A len (aD l)→Sl w D A' (n-m) (aD ((l.drop m).take (n-m)))):=by
 have he:P.elem t=e:=by simp[Program.elem,ht]
 have ht':P.underlying t=some (.slice (P.elem t)):=by rw[he];exact ht
 refine⟨if c=m then A else A.map (·.add (m*1)),fun w=>?_,fun w D l h=>?_⟩
 ·rw[run_slice_lh w t A len c ht' .i64 .i64 (m:Nat) (n:Nat) (by omega) (by omega) (by omega),he,hs]
  simp[Result.andThen,sliced]
 ·intro hlt
  rw[if_neg (by omega)]
  obtain⟨b,off,rfl,-,-⟩:=h (by omega)
  have:=V.pY (V.qc h (show m≤len by omega)) (show n-m≤len-m by omega) hlt
  rw[show (some (⟨b,off,none⟩:Addr)).map (·.add (m*1))=some ⟨b,off+m,none⟩ by simp[Addr.add]]
  exact this
structure QE(l:List Nat)(last q:Nat): Prop where
 len:l.length=last+13
 e:F.dY (l.drop last)=0
 k:F.fO (l.drop last)=6
 i:F.aK (l.drop last)=four q
 q32:q < 4294967296
 le:q≤last
def AV(l:List Nat)(last q:Nat)(w:World)(e:Ending)(w':World): Prop:=
 ∃ A c,e=.returned (.tuple #[.slice A (F.aK ((l.drop (last-q)).take q)).length c,.int .i64 ((last-q:Nat)),.bool true])∧w'.ownsRow w.heap.size 5 1 (.slice A (F.aK ((l.drop (last-q)).take q)).length c) (F.aK ((l.drop (last-q)).take q)).length ((F.aK ((l.drop (last-q)).take q)).map V.aI)∧Below w.heap.size w w'
def DJ(w:World)(e:Ending)(w':World): Prop:=∃ A c x,e=.returned (.tuple #[.slice A 0 c,x,.bool false])∧Below w.heap.size w w'
def Fy(er:Int)(ki:Nat)(I:List Nat)(n:Nat)(w:World)(e:Ending)(w':World): Prop:=
 (er=0→ki=5→∃ A c,e=.returned (.tuple #[.slice A I.length c,.int .i64 (n:Nat),.bool true])∧w'.ownsRow w.heap.size 5 1 (.slice A I.length c) I.length (I.map V.aI)∧Below w.heap.size w w')∧(er≠0→DJ w e w')
theorem OJ(w:World)(A:Option Addr)(len c last q:Nat)(D:Nat→Prop)(l:List Nat)(hE:QE l last q)(hl:l.length=len)(hsl:Sl w D A len (aD l))(hb:∀ j,l.getD j 0 < 256)(h20:len≤1048576)(hlc:len≤c)(hcm:c≤9223372036854775807):
  Calls Tryz.prog 227 #[.slice A len c] w fun e w'=>(F.dY ((l.drop (last-q)).take q)=0→F.fO ((l.drop (last-q)).take q)=5→AV l last q w e w')∧(F.dY ((l.drop (last-q)).take q)≠0→DJ w e w'):=by
 have hlen:len=last+13:=by rw[←hl];exact hE.len
 have hq:=hE.le
 have hq32:=hE.q32
 obtain⟨A1,hA1,hA2⟩:=V.gI (P:=Tryz.prog) 72 5 Tryz.underlying72 EA A len c last (by omega) hlc
 obtain⟨A3,hA3,hA4⟩:=CU (P:=Tryz.prog) 72 5 Tryz.underlying72 EA A len c (last-q) last (by omega) (by omega) hlc
 have hs1:=hA2 w D l hsl
 have hs3:=hA4 w D l hsl
 rw[show len-last=13 by omega] at hs1 hA1
 rw[show last-(last-q)=q by omega] at hs3 hA3
 obtain⟨m,hm⟩:∃ m,m=(l.drop (last-q)).take q:=⟨_,rfl⟩
 have hml:m.length=q:=by rw[hm,List.length_take,List.length_drop];omega
 have hmb:∀ j,m.getD j 0 < 256:=by rw[hm];exact V.getD_take_lt (V.bN hb _) _
 rw[←hm] at hs3 ⊢
 have hP:=F.yu w A1 13 (c-last) D (l.drop last) (by rw[List.length_drop,hl];omega) hs1 (V.bN hb last) (by omega) (by omega)
 rw[hE.e,hE.k,hE.i] at hP
 obtain⟨fq,hfq⟩:∃ fq,fq=four q:=⟨_,rfl⟩
 have e4:fq.length=4:=by rw[hfq];rfl
 have hfb:∀ j,fq.getD j 0 < 256:=by rw[hfq];exact V.bW (qK q)
 have ele:F.le (fq.take 8)=q:=by rw[hfq];exact F.Bf q hq32
 rw[←hfq] at hP
 obtain⟨er,her⟩:∃ er,er=F.dY m:=⟨_,rfl⟩
 obtain⟨ki,hki⟩:∃ ki,ki=F.fO m:=⟨_,rfl⟩
 obtain⟨I,hI⟩:∃ I,I=F.aK m:=⟨_,rfl⟩
 have hP3:∀ w3,Below w.heap.size w w3→Calls Tryz.prog 192 #[.slice A3 q (c-(last-q))] w3 (F.mF w3 ki I er):=fun w3 hb3=>by
  rw[hki,hI,her]
  exact F.yu w3 A3 q (c-(last-q)) D m hml (hs3.keep (fun k _ hlt=>hb3.block k hlt)) hmb (by omega) (by omega)
 have hP2:∀ w1 A2 c2,Sl w1 (fun k=>k < w1.heap.size) A2 fq.length (aD fq)→Calls Tryz.prog 293 #[.slice A2 4 c2] w1 (F.jr w1 q):=fun w1 A2 c2 h=>by
  rw[e4] at h
  have:=F.r9 w1 A2 4 c2 _ fq e4 h hfb (by omega)
  rw[ele] at this
  exact this
 have hI0:er≠0→I=[]:=fun h=>by rw[hI];exact (F.OI (by rw[←her];exact h)).2
 have HP:=zh (zN hP (zN hP2 (zN hP3 (zN hI0 e4))))
 have HE:=zh (zN her (zN hki hI))
 have hQ:(Fy er ki I (last-q) w)=fun e w'=>(F.dY m=0→F.fO m=5→AV l last q w e w')∧(F.dY m≠0→DJ w e w'):=by
  funext e w'
  unfold Fy AV
  rw[her,hki,hI,hm]
 rw[←hQ]
 clear hl hsl hb hE hA2 hA4 hs1 hs3 hml hmb hP hP2 hP3 hI0 e4 hfb ele hfq her hki hI hm hQ
 have kw:IntKind.i64.wrap ((len:Int)-13)=(last:Int):=by rw[IntWalk.i64_in _ (by omega)];omega
 have d0:decide ((len:Int) < 13)=false:=by simp;omega
 have HL:=zh hlen
 clear hlen
 go_enter Tryz.func227,Tryz.ntmps227
 go_wp2_with fail
 refine HP.out.1.mono ?_
 rintro e w1 ⟨A2,c2,rfl,ho,hk⟩
 have hs2:=V.dN ho
 have H2:=zh (zN hs2 hk.bM)
 clear ho hk hs2
 rw[HP.out.2.2.2.2]
 go_wp2_with fail
 refine(HP.out.2.1 w1 A2 c2 H2.out.1).mono ?_
 rintro e w3 ⟨rfl,hk3⟩
 have kq:IntKind.i64.wrap (q:Int)=(q:Int):=IntWalk.i64_in _ (by have:=HL.out;omega)
 have kd:IntKind.i64.wrap ((last:Int)-(q:Int))=((last-q:Nat):Int):=by have:=HL.out;rw[IntWalk.i64_in _ (by omega)];omega
 have d3:decide ((last:Int) < (q:Int))=false:=by simp;omega
 have H3:=zh (H2.out.2.trans (hk3.bM.mono H2.out.2.size))
 clear hk3
 go_wp2_with fail
 refine(HP.out.2.2.1 w3 H3.out).mono ?_
 rintro e w4 ⟨A5,c5,rfl,ho5,hk5⟩
 have H5:=zh (zN (aU ho5 H3.out.size) (H3.out.trans (hk5.bM.mono H3.out.size)))
 clear ho5 hk5
 by_cases h0:er=0
 ·subst h0
  by_cases h5:ki=5
  ·subst h5
   go_wp2_with fail
   go_ret3
   exact⟨fun _ _=>⟨A5,c5,rfl,H5.out.1,H5.out.2⟩,fun h=>absurd rfl h⟩
  ·have d5:((ki:Int) == 5)=false:=by simp;omega
   have d6:decide ((ki:Int)=5)=false:=by simp;omega
   go_wp2_with fail
   go_ret3
   exact⟨fun _ h=>absurd h h5,fun h=>absurd rfl h⟩
 ·have d5:(er == 0)=false:=by simpa using h0
  have d6:decide (er=0)=false:=by simpa using h0
  obtain rfl:=HP.out.2.2.2.1 h0
  go_wp2_with fail
  go_ret3
  exact⟨fun h=>absurd h h0,fun _=>⟨A5,c5,_,rfl,H5.out.2⟩⟩
end
section
open Go.RowKit Go.Maps
theorem Td(w:World): (sizeOf 5).run Tryz.prog w=.ok 1 w:=by kernel_rfl
theorem oh(nm:Nat→ByteArray)(n i:Nat): dx nm n (i+1)=dx nm n i ++ (V.aC (nm i).size ++ V.txt (nm i)):=by
 show dx nm n i ++ V.aC (nm i).size ++ V.txt (nm i)=_
 rw[List.append_assoc]
theorem KN(s:ByteArray)(r:List Nat)(most:Int)(h:(s.size:Int)≤most)(hs:s.size < 18446744073709551616): V.dF (V.aC s.size ++ V.txt s ++ r) most=(V.txt s,(V.aC s.size).length+s.size,0):=by
 have e:=V.iA s.size (V.txt s ++ r) hs
 unfold V.dF
 rw[List.append_assoc,e]
 rw[if_neg (by simp),if_neg (by show ¬ (most < 0∨most < ((s.size:Nat):Int));omega),if_neg (by
  show ¬ (V.aC s.size ++ (V.txt s ++ r)).length-(V.aC s.size).length < s.size
  rw[List.length_append,List.length_append,V.iZ];omega)]
 show (((V.aC s.size ++ (V.txt s ++ r)).drop (V.aC s.size).length).take s.size,_,_)=_
 rw[List.drop_left,←V.iZ s,List.take_left]
theorem nV{s:ByteArray}(h:dI s=true): 1≤s.size∧s.size≤64:=by
 unfold dI at h
 simp only[Bool.and_eq_true,decide_eq_true_eq] at h
 exact h.2
theorem PS(w0 w:World)(L:List (Nat × TypeId × Array Value))(d m k:Nat)(nm:Nat→ByteArray)(h:dA w0 L d m k nm w)(hap:Apart nm k):
  Calls Tryz.prog 229 #[.pointer (some ⟨d,0,none⟩)] w fun e w'=>e=.returned (.int .i64 (k:Nat))∧Below w.heap.size w w':=by
 have hz:=rH nm k hap
 have H0:=zh h
 clear h
 go_enter Tryz.func229,Tryz.ntmps229
 go_wp2_with fail
 refine(qD _ d m (H0.out.own.cell 0 0 rfl rfl)).mono ?_
 rintro e w1 ⟨rfl,hb⟩
 have h1:=H0.out.call hb
 have hc:=h1.own.cell 0 0 rfl rfl
 have hown:World.ownsMap w1 Tryz.prog 9 (plainElem (H:=Unit) Tryz.prog 3) m k (Dn nm k):=h1.map
 have HB:=zh hb
 clear hb h1
 go_wp2_with (at_len;refine wpList_len_own _ rfl _ 443 rfl 9 3 Tryz.underlying443 _ m k _ rfl hown ?_;rw[hz])
 go_ret
 exact⟨rfl,HB.out⟩
def Cc(k:Nat)(nm:Nat→ByteArray)(w:World)(e:Ending)(w':World): Prop:=
 ∃ d m,e=.returned (.tuple #[.pointer (some ⟨d,0,none⟩),.int .i64 ((dx nm k k).length:Nat),.int .i64 0])∧dA w [] d m k nm w'
theorem Oo(w:World)(A:Option Addr)(len c k:Nat)(nm:Nat→ByteArray)(rest:List Nat)(hl:(dx nm k k ++ rest).length=len)(hsl:Sl w (fun q=>q < w.heap.size) A len (aD (dx nm k k ++ rest)))(hb:∀ j,(dx nm k k ++ rest).getD j 0 < 256)(hlc:len≤c)(hcm:c≤9223372036854775807)(h20:len≤1048576)(hk:k≤1024)(hap:Apart nm k)(hok:∀ j,j < k→dI (nm j)=true)(hv:V.cu w):
  Calls Tryz.prog 228 #[.slice A len c] w (Cc k nm w):=by
 obtain⟨l,hld⟩:∃ l,l=dx nm k k ++ rest:=⟨_,rfl⟩
 rw[←hld] at hl hsl hb
 have hget:V.aB l=(k,(V.aC k).length,0):=by
  obtain⟨r,hr⟩:=rE (oh nm k) (Nat.zero_le k)
  rw[hld,hr,List.append_assoc]
  exact V.iA k _ (by omega)
 have HS:=zh (zN hld (zN hl (zN hsl (zN hb (zN hap (zN hok (zN hv hget)))))))
 clear hld hl hsl hb hap hok hv hget
 go_enter Tryz.func228,Tryz.ntmps228
 go_wp2_with fail
 refine(V.kT _ _ A len c l HS.out.2.1 HS.out.2.2.2.1 HS.out.2.2.1 (by omega) HS.out.2.2.2.2.2.2.1).mono ?_
 rintro e w1 ⟨rfl,hb1⟩
 rw[HS.out.2.2.2.2.2.2.2]
 have HB1:=zh hb1
 clear hb1
 have d1:decide ((1024:Int) < (k:Int))=false:=by simp;omega
 go_wp2_with fail
 refine(DK w1 nm).mono ?_
 rintro e w2 ⟨rfl,hd⟩
 obtain⟨d,hde⟩:∃ d,d=w1.heap.size+1:=⟨_,rfl⟩
 obtain⟨m,hme⟩:∃ m,m=w1.heap.size:=⟨_,rfl⟩
 rw[←hde,←hme] at hd
 rw[←hde]
 have hd':dA w [] d m 0 nm w2:=by
  refine⟨⟨HB1.out.trans (hd.own.bel.mono HB1.out.size),fun b hb=>⟨Nat.le_trans HB1.out.size (hd.own.blk b hb).1,(hd.own.blk b hb).2⟩,hd.own.nd⟩,hd.map,Nat.le_trans HB1.out.size hd.ge,hd.ne⟩
 have HD:=zh hd'
 clear hd hd' hde hme
 have kk:IntKind.i64.wrap (k:Int)=(k:Int):=IntWalk.i64_in _ (by omega)
 go_wp2_with fail
 go_loopw [2,6,30] (fun dd a i wr=>∃ j:Nat,j≤k∧i=.int .i64 (j:Nat)∧a=.int .i64 ((dx nm k j).length:Nat)∧dd=.pointer (some ⟨d,0,none⟩)∧dA w [] d m j nm wr) (fun _ _ i _=>k-(intOf i).toNat)
 case atStart=>exact ⟨0,by omega,rfl,rfl,rfl,HD.out⟩
 case round=>
  obtain⟨j,hj,rfl,rfl,rfl,hS⟩:=hrel
  obtain⟨n,hn⟩:∃ n,n=(dx nm k j).length:=⟨_,rfl⟩
  rw[←hn]
  by_cases hlt:j < k
  ·have hjk:(j:Int) < (k:Int):=by omega
   obtain⟨r0,hr0⟩:=rE (oh nm k) (show j≤k by omega)
   have hnl:n≤len:=by rw[hn,←HS.out.2.1,HS.out.1,hr0,List.length_append,List.length_append];omega
   obtain⟨A1,hA1,hA2⟩:=V.gI (P:=Tryz.prog) 72 5 Tryz.underlying72 Td A len c n hnl hlc
   have hsz:=nV (HS.out.2.2.2.2.2.1 j hlt)
   have hdr:∃ r,l.drop n=V.aC (nm j).size ++ V.txt (nm j) ++ r:=by
    refine⟨(dx nm k k).drop (dx nm k (j+1)).length ++ rest,?_⟩
    rw[HS.out.1,hn,List.drop_append_of_le_length (by rw[hr0,List.length_append];omega),vQ (oh nm k) hlt,List.append_assoc]
   have hvt:V.dF (l.drop n) 64=(V.txt (nm j),(V.aC (nm j).size).length+(nm j).size,0):=by
    obtain⟨r,hr⟩:=hdr
    rw[hr];exact KN (nm j) r 64 (by omega) (by omega)
   have hs1:=hA2 wr _ l ((HS.out.2.2.1.below hS.own.bel (fun _ hq _=>hq)).mono (fun _ hq=>Nat.lt_of_lt_of_le hq hS.own.bel.size))
   have hv1:=HS.out.2.2.2.2.2.2.1.below hS.own.bel
   have H1:=zh (zN hS (zN hs1 (zN hv1 (zN hvt (zN hn hsz)))))
   clear hS hs1 hv1 hvt hsz hdr hr0 hA2 hn
   go_wp2_with fail
   refine(V.lU _ A1 (len-n) (c-n) (l.drop n) 64 (by rw[List.length_drop,HS.out.2.1]) (V.bN HS.out.2.2.2.1 n) H1.out.2.1 (by omega) (by omega) H1.out.2.2.1 (by omega) (by omega)).mono ?_
   rintro e w3 ⟨rfl,hb3⟩
   rw[H1.out.2.2.2.1,V.Qn]
   have h3:=H1.out.1.call hb3
   obtain⟨s,hs⟩:∃ s,s=nm j:=⟨_,rfl⟩
   obtain⟨u,hu⟩:∃ u,u=(V.aC s.size).length+s.size:=⟨_,rfl⟩
   have hule:u≤74:=by have h6:=H1.out.2.2.2.2.2;rw[←hs] at h6;have:=V.aR (u:=s.size) (by omega);omega
   have hnx:n+u=(dx nm k (j+1)).length:=by rw[oh,List.length_append,List.length_append,V.iZ,←H1.out.2.2.2.2.1,hu,hs]
   rw[←hs,←hu]
   have H3:=zh (zN h3 (zN hs hnx))
   clear hb3 h3 hA1 hs hu hnx
   have kn:IntKind.i64.wrap ((n:Int)+(u:Int))=((n+u:Nat):Int):=by rw[IntWalk.i64_in _ (by omega)];omega
   go_upto_region 14 with (fail)
   have hput:=DT w w3 [] d m j nm H3.out.1 (by omega) (fun a b h1 h2=>HS.out.2.2.2.2.1 a b h1 (by omega)) (by have:=H1.out.2.2.2.2.2;unfold maxLen;omega)
   rw[←H3.out.2.1] at hput
   go_wp2_with fail
   refine hput.mono ?_
   clear hput
   rintro e w4 (⟨hno,-,-⟩ | ⟨-,⟨i,hi,hie⟩,-⟩ | ⟨-,-,rfl,h4⟩)
   ·exact absurd (HS.out.2.2.2.2.2.1 j hlt) (by rw[hno];simp)
   ·exact absurd hie (HS.out.2.2.2.2.1 i j hi hlt)
   ·have H4:=zh h4
    clear h4 kn
    go_wp2_with fail
    go_roundw
    case rel=>exact ⟨j+1,by omega,by go_num,by rw[←H3.out.2.2,Int.natCast_add],rfl,H4.out⟩
    case measure=>simp[intOf]<;>omega
  ·obtain rfl:j=k:=by omega
   have HF:=zh (zN hn hS)
   clear hS hn
   go_wp2_with fail
   go_ret3
   exact⟨d,m,by rw[←HF.out.1];rfl,HF.out.2⟩
end
section
open Go.RowKit Go.Maps
theorem BI{pf:Nat→Nat→Pt}{pn:Nat→Nat}: ∀ k,sV pf pn k=true→∀ i,i < k→bV (pf i) (pn i) (aT (pn i))=true∧0 < pn i
 | 0,_,i,hi=>by omega
 | k+1,h,i,hi=>by
  have h':(sV pf pn k && pI pf pn k)=true:=h
  rw[Bool.and_eq_true] at h'
  rcases Nat.lt_or_ge i k with h1 | h1
  ·exact BI k h'.1 i h1
  ·obtain rfl:i=k:=by omega
   have h2:=h'.2
   unfold pI at h2
   rw[Bool.and_eq_true,decide_eq_true_eq] at h2
   exact h2
structure Built(nm:Nat→ByteArray)(pf:Nat→Nat→Pt)(pn:Nat→Nat)(k:Nat): Prop where
 k0:0 < k
 k1:k≤1024
 nms:dP nm k=true
 pts:sV pf pn k=true
 pb:∀ j,j < k→pn j≤4096
theorem Built.rise{nm:Nat→ByteArray}{pf:Nat→Nat→Pt}{pn:Nat→Nat}{k:Nat}(h:Built nm pf pn k): rX nm k:=qz h.nms
theorem Built.apart{nm:Nat→ByteArray}{pf:Nat→Nat→Pt}{pn:Nat→Nat}{k:Nat}(h:Built nm pf pn k): Apart nm k:=h.rise.apart
theorem Built.name{nm:Nat→ByteArray}{pf:Nat→Nat→Pt}{pn:Nat→Nat}{k i:Nat}(h:Built nm pf pn k)(hi:i < k): dI (nm i)=true:=Ee h.nms hi
theorem Built.bv{nm:Nat→ByteArray}{pf:Nat→Nat→Pt}{pn:Nat→Nat}{k i:Nat}(h:Built nm pf pn k)(hi:i < k): bV (pf i) (pn i) (aT (pn i))=true:=(BI k h.pts i hi).1
theorem Built.pos{nm:Nat→ByteArray}{pf:Nat→Nat→Pt}{pn:Nat→Nat}{k i:Nat}(h:Built nm pf pn k)(hi:i < k): 0 < pn i:=(BI k h.pts i hi).2
theorem Built.nb{nm:Nat→ByteArray}{pf:Nat→Nat→Pt}{pn:Nat→Nat}{k i:Nat}(h:Built nm pf pn k)(hi:i < k): 1≤aT (pn i)∧aT (pn i)≤4:=by
 have h1:=h.pos hi
 have h2:=h.pb i hi
 unfold aT;omega
structure ig(L O:List Nat)(nm:Nat→ByteArray)(pf:Nat→Nat→Pt)(pn:Nat→Nat)(k:Nat): Prop where
 eq:L=O ++ F.aN 5 (sF nm pf pn k k) ++ F.aN 6 (four (F.aN 5 (sF nm pf pn k k)).length)
 ol:O.length=(sO pf pn k).length
 ob:∀ x ∈ O,x < 256
 len:L.length≤1048576
theorem ig.fl{L O:List Nat}{nm:Nat→ByteArray}{pf:Nat→Nat→Pt}{pn:Nat→Nat}{k:Nat}(h:ig L O nm pf pn k): L.length=O.length+(F.aN 5 (sF nm pf pn k k)).length+13:=by
 rw[h.eq,List.length_append,List.length_append,F.bB 6]
 rfl
theorem ig.byte{L O:List Nat}{nm:Nat→ByteArray}{pf:Nat→Nat→Pt}{pn:Nat→Nat}{k:Nat}(h:ig L O nm pf pn k): ∀ x ∈ L,x < 256:=by
 rw[h.eq]
 exact iR (iR h.ob (F.sM (by omega) (V.bW (pK nm pf pn k k)))) (F.sM (by omega) (V.bW (qK _)))
theorem ig.last{L O:List Nat}{nm:Nat→ByteArray}{pf:Nat→Nat→Pt}{pn:Nat→Nat}{k:Nat}(h:ig L O nm pf pn k): QE L (O.length+(F.aN 5 (sF nm pf pn k k)).length) (F.aN 5 (sF nm pf pn k k)).length:=by
 have hl:=h.fl
 have hlen:=h.len
 have e:L.drop (O.length+(F.aN 5 (sF nm pf pn k k)).length)=F.aN 6 (four (F.aN 5 (sF nm pf pn k k)).length):=by
  rw[h.eq,←List.length_append,List.drop_left]
 obtain⟨o1,o2,o3⟩:=F.vR (kind:=6) (bs:=four (F.aN 5 (sF nm pf pn k k)).length) (by omega) (V.bW (qK _)) (by show 4≤_;omega)
 refine⟨hl,?_,?_,?_,by omega,by omega⟩
 ·rw[e];exact o1
 ·rw[e];exact o2
 ·rw[e];exact o3
theorem ig.mid{L O:List Nat}{nm:Nat→ByteArray}{pf:Nat→Nat→Pt}{pn:Nat→Nat}{k:Nat}(h:ig L O nm pf pn k): (L.drop (O.length+(F.aN 5 (sF nm pf pn k k)).length-(F.aN 5 (sF nm pf pn k k)).length)).take (F.aN 5 (sF nm pf pn k k)).length=F.aN 5 (sF nm pf pn k k):=by
 rw[Nat.add_sub_cancel,h.eq,List.append_assoc,List.drop_left]
 exact List.take_left
theorem ig.foot{L O:List Nat}{nm:Nat→ByteArray}{pf:Nat→Nat→Pt}{pn:Nat→Nat}{k:Nat}(h:ig L O nm pf pn k): F.dY (F.aN 5 (sF nm pf pn k k))=0∧F.fO (F.aN 5 (sF nm pf pn k k))=5∧F.aK (F.aN 5 (sF nm pf pn k k))=sF nm pf pn k k:=by
 have h1:=h.fl
 have h2:=h.len
 have h3:=F.bB 5 (sF nm pf pn k k)
 exact F.vR (by omega) (V.bW (pK nm pf pn k k)) (by omega)
theorem ig.take{L O:List Nat}{nm:Nat→ByteArray}{pf:Nat→Nat→Pt}{pn:Nat→Nat}{k:Nat}(h:ig L O nm pf pn k): L.take O.length=O:=by
 rw[h.eq,List.append_assoc];exact List.take_left
def yO(w:World)(v:Value)(n:Nat)(B:Nat→Bk): Prop:=∃ g c,v=.slice (some ⟨g,0,none⟩) n c∧g < w.heap.size∧n≤c∧∀ m,m < n→∀ i,i < 5→w.cell? ⟨g,m*5+i,none⟩=(qx (B m))[i]?
theorem yO.below{w w':World}{v:Value}{n:Nat}{B:Nat→Bk}(h:yO w v n B)(hb:Below w.heap.size w w'): yO w' v n B:=by
 obtain⟨g,c,h1,h2,h3,h4⟩:=h
 exact⟨g,c,h1,Nat.lt_of_lt_of_le h2 hb.size,h3,fun m hm i hi=>(hb.cell (by exact h2)).trans (h4 m hm i hi)⟩
theorem yO.of{w:World}{base n:Nat}{v:Value}{B:Nat→Bk}(h:w.ownsRow base 360 5 v n (nD B n))(hn:0 < n): yO w v n B:=by
 obtain⟨A,c,hv,hc,hp⟩:=aA h
 obtain⟨g,hA,-,hg⟩:=hp hn
 subst hv hA
 refine⟨g,c,rfl,hg,hc,fun m hm i hi=>?_⟩
 have hl:m*5+i < (nD B n).length:=by rw[AY];omega
 have c1:=World.ownsRow.cells h (g:=g) rfl _ _ (List.getElem?_eq_getElem hl)
 have hadd:∀ i,(⟨g,0,none⟩:Addr).add i=⟨g,0+i,none⟩:=fun i=>by unfold Addr.add;split<;>simp_all
 rw[hadd,Nat.zero_add] at c1
 rw[c1,←List.getElem?_eq_getElem hl]
 exact EP B m i hi n hm
structure mZ(w:World)(p:Nat)(O:List Nat)(nm:Nat→ByteArray)(pf:Nat→Nat→Pt)(pn:Nat→Nat)(k:Nat)(M o:Nat)(Ab:Option Addr)(cb cn:Nat)(VS:Nat→Value): Prop where
 seg:au w p 353 #[.slice Ab O.length cb,.slice (some ⟨o,0,none⟩) k cn,.map (some M)]
 row:Sl w (fun q=>q < w.heap.size) Ab O.length (aD O)
 cap:O.length≤cb∧cb≤9223372036854775807
 nms:∃ cs,au w o 9 cs∧cs.size=k∧∀ j,j < k→cs[j]? = some (.string (nm j))
 ncap:k≤cn∧cn≤9223372036854775807
 map:mH w M k k nm VS
 bks:∀ j,j < k→yO w (VS j) (aT (pn j)) (bG pf pn j)
theorem mZ.below{w w':World}{p:Nat}{O:List Nat}{nm:Nat→ByteArray}{pf:Nat→Nat→Pt}{pn:Nat→Nat}{k M o:Nat}{Ab:Option Addr}{cb cn:Nat}{VS:Nat→Value}(h:mZ w p O nm pf pn k M o Ab cb cn VS)(hb:Below w.heap.size w w'): mZ w' p O nm pf pn k M o Ab cb cn VS:=by
 obtain⟨cs,n1,n2⟩:=h.nms
 exact⟨h.seg.below hb h.seg.lt,V.iF h.row hb,h.cap,⟨cs,n1.below hb n1.lt,n2⟩,h.ncap,h.map.call hb,fun j hj=>(h.bks j hj).below hb⟩
structure yQ(B:Nat)(w:World)(p o M y:Nat)(Ab:Option Addr)(cb:Nat)(cs:Array Value)(O:List Nat)(k:Nat): Prop where
 seg:au w p 353 #[.slice Ab O.length cb,.slice (some ⟨o,0,none⟩) k k,.map (some M)]
 row:w.ownsRow B 5 1 (.slice Ab O.length cb) O.length (O.map V.aI)
 nms:au w o 9 cs
 py:p < y
 oy:o < y
 my:M < y
 ry:∀ g,(Value.slice Ab O.length cb).ownBlock=some g→g < y
theorem yQ.gb{B:Nat}{w w':World}{p o M y:Nat}{Ab:Option Addr}{cb:Nat}{cs:Array Value}{O:List Nat}{k:Nat}(h:yQ B w p o M y Ab cb cs O k)(hg:w.grownBy w' (some y)): yQ B w' p o M y Ab cb cs O k:=by
 have h1:=h.py
 have h2:=h.oy
 refine⟨dK hg h.seg (fun e=>by injection e with e;omega),h.row.kept hg ?_,dK hg h.nms (fun e=>by injection e with e;omega),h.py,h.oy,h.my,h.ry⟩
 cases e:(Value.slice Ab O.length cb).ownBlock with
 | none=>exact .inl rfl
 | some g=>exact .inr fun e'=>by have:=h.ry g e;injection e' with e';omega
theorem map_cell{w:World}{M n k:Nat}{nm:Nat→ByteArray}{VS:Nat→Value}(h:mH w M n k nm VS)(j:Nat): w.cell? ⟨M,j,none⟩=none:=by
 obtain⟨es,clock,hb,-⟩:=h
 simp[World.cell?,hb]
theorem Bc{w:World}{M n k g:Nat}{nm:Nat→ByteArray}{VS:Nat→Value}{t:TypeId}{cs:Array Value}(h:mH w M n k nm VS)(hg:au w g t cs): some g≠some M:=fun e=>by
 injection e with e
 obtain⟨es,clock,hb,-⟩:=h
 subst e
 have h1:w.heap[g]? = _:=hg
 rw[hb] at h1
 cases h1
theorem AZ{w:World}{M n k base m size:Nat}{nm:Nat→ByteArray}{VS:Nat→Value}{e:TypeId}{v:Value}{xs:List Value}(h:mH w M n k nm VS)(ho:w.ownsRow base e size v m xs): v.ownBlock=none∨v.ownBlock≠some M:=by
 rcases ho.2 with ⟨rfl,-⟩ | ⟨g,cap,cur,rfl,_,hh,_⟩
 ·exact .inl rfl
 ·refine .inr fun e=>?_
  have e2:g=M:=by simpa [Value.ownBlock] using e
  subst e2
  obtain⟨es,clock,hb,-⟩:=h
  rw[hb] at hh
  cases hh
theorem yQ.Ir{B:Nat}{w w':World}{p o M y:Nat}{Ab:Option Addr}{cb:Nat}{cs:Array Value}{O:List Nat}{k n i:Nat}{nm:Nat→ByteArray}{VS:Nat→Value}(h:yQ B w p o M y Ab cb cs O k)(hm:mH w M n i nm VS)(hg:w.grownBy w' (some M)): yQ B w' p o M y Ab cb cs O k:=
 ⟨dK hg h.seg (Bc hm h.seg),h.row.kept hg ((AZ hm h.row).imp id fun e e'=>e (by rw[←e'])),dK hg h.nms (Bc hm h.nms),h.py,h.oy,h.my,h.ry⟩
theorem eH.Ir{w w':World}{M y n k:Nat}{l:List Nat}{nm:Nat→ByteArray}{VS:Nat→Value}(h:eH w y l)(hm:mH w M n k nm VS)(hg:w.grownBy w' (some M)): eH w' y l:=by
 obtain⟨A,c,h1,h2,h3⟩:=h
 refine⟨A,c,dK hg h1 (Bc hm h1),fun hn=>?_,h3⟩
 obtain⟨b,off,e,hD,hc⟩:=h2 hn
 refine⟨b,off,e,hD,fun j hj=>rF hg (hc j hj) (fun e=>?_)⟩
 injection e with e
 have h4:=hc 0 hn
 have e2:b=M:=e
 rw[e2,map_cell hm] at h4
 cases h4
theorem eH.row{w w':World}{y base size n:Nat}{l:List Nat}{e:TypeId}{v:Value}{xs:List Value}(h:eH w y l)(ho:w.ownsRow base e size v n xs)(hy:y < base)(hg:w.grownBy w' v.ownBlock): eH w' y l:=by
 obtain⟨A,c,h1,h2,h3⟩:=h
 refine⟨A,c,dK hg h1 (fun e=>by have:=(ho.lt y e.symm).1;omega),h2.keep (fun q hq hlt=>hg.block q hlt (fun e=>by have h4:=(ho.lt q e.symm).1;have h5:q < y:=hq;omega)),h3⟩
theorem zO{w1 w w':World}{row:Option Nat}{e:TypeId}{size n:Nat}{v:Value}{xs:List Value}(h:w1.grownBy w row)(ho:w.ownsRow w1.heap.size e size v n xs)(hg:w.grownBy w' v.ownBlock): w1.grownBy w' row:=
 ⟨hg.os.trans h.os,hg.tape.trans h.tape,hg.output.trans h.output,Nat.le_trans h.size hg.size,fun q hq hn=>(hg.block q (Nat.lt_of_lt_of_le hq h.size) (fun e=>by have:=(ho.lt q e.symm).1;omega)).trans (h.block q hq hn)⟩
def rZ(w:World)(y:Nat)(VS:Nat→Value)(pf:Nat→Nat→Pt)(pn:Nat→Nat)(i:Nat): Prop:=∀ j,j < i→w.ownsRow (y+1) 360 5 (VS j) (aT (pn j)) (nD (bG pf pn j) (aT (pn j)))
theorem rZ.gb{w w':World}{y i:Nat}{VS:Nat→Value}{pf:Nat→Nat→Pt}{pn:Nat→Nat}(h:rZ w y VS pf pn i)(hg:w.grownBy w' (some y)): rZ w' y VS pf pn i:=fun j hj=>by
 refine(h j hj).kept hg ?_
 cases e:(VS j).ownBlock with
 | none=>exact .inl rfl
 | some g=>exact .inr fun e'=>by have:=((h j hj).lt g e).1;injection e' with e';omega
theorem rZ.Ir{w w':World}{y i M n k:Nat}{VS WS:Nat→Value}{pf:Nat→Nat→Pt}{pn:Nat→Nat}{nm:Nat→ByteArray}(h:rZ w y VS pf pn i)(hm:mH w M n k nm WS)(hg:w.grownBy w' (some M)): rZ w' y VS pf pn i:=fun j hj=>
 (h j hj).kept hg ((AZ hm (h j hj)).imp id fun e e'=>e (by rw[←e']))
end
section
open Go.RowKit
end
section
open Go.RowKit Go.Maps
theorem KM(a:Addr)(w:World): (binOp .eql 256 (.pointer (some a)) (.pointer none)).run Tryz.prog w=.ok (.bool false) w:=by kernel_rfl
theorem NI(M:Nat)(w:World): (binOp .eql 351 (.map (some M)) (.map none)).run Tryz.prog w=.ok (.bool false) w:=by kernel_rfl
theorem uL(w:World)(p M:Nat)(hc:w.cell? ⟨p,2,none⟩=some (.map (some M))): Calls Tryz.prog 234 #[.pointer (some ⟨p,0,none⟩)] w fun e w'=>e=.returned (.bool false)∧Below w.heap.size w w':=by
 have q2:=fun y=>KM ⟨y,0,none⟩
 have q3:=NI
 go_enter Tryz.func234,Tryz.ntmps234
 go_wp2_with fail
 go_ret
 exact⟨rfl,Below.refl _ _⟩
def oO(O:List Nat)(x:Bk): List Nat:=(O.drop x.a).take x.b
def EI(w:World)(b:List Nat)(f:Nat→Pt)(n:Nat)(e:Ending)(w':World): Prop:=
 Below w.heap.size w w'∧((∃ A c,e=.returned (.tuple #[.slice A n c,.int .i64 0])∧n≤c∧dO w' (fun q=>w.heap.size≤q∧q < w'.heap.size) A n f)∨(iG b∧e=.returned (.tuple #[.slice none 0 0,.int .i64 24])))
structure Cg(w0 w:World)(g:Nat)(cs:Array Value)(p:Nat)(v:Value): Prop where
 bel:Below w0.heap.size w0 w
 bx:au w g 360 cs
 seg:w.cell? ⟨p,0,none⟩=some v
theorem FR(w:World)(p:Nat)(O:List Nat)(nm:Nat→ByteArray)(pf:Nat→Nat→Pt)(pn:Nat→Nat)(k M o:Nat)(Ab:Option Addr)(cb cn:Nat)(VS:Nat→Value)(h:mZ w p O nm pf pn k M o Ab cb cn VS)(f:Nat→Pt)(x:Bk)(hO:∀ z ∈ O,z < 256)(hO20:O.length≤1048576)(hx:x.a+x.b≤O.length)(hn0:0 < x.n)(hn1:x.n≤4096)(hf:x.f=(f 0).t)(ht:x.t=(f (x.n-1)).t)(hok:∀ j,oM (f j))(hG:kg (oO O x) f x.n∨iG (oO O x))(hv:V.cu w):
  Calls Tryz.prog 302 #[.pointer (some ⟨p,0,none⟩),.agg (qx x).toArray] w (EI w (oO O x) f x.n):=by
 obtain⟨xa,xb,xf,xt,xn⟩:=x
 obtain⟨B,hBd⟩:∃ B,B=oO O ⟨xa,xb,xf,xt,xn⟩:=⟨_,rfl⟩
 rw[←hBd] at hG ⊢
 replace hx:xa+xb≤O.length:=hx
 replace hn0:0 < xn:=hn0
 replace hn1:xn≤4096:=hn1
 replace hf:xf=(f 0).t:=hf
 replace ht:xt=(f (xn-1)).t:=ht
 show Calls _ _ #[_,.agg #[.int .i64 (xa:Nat),.int .i64 (xb:Nat),.int .i64 xf,.int .i64 xt,.int .i64 (xn:Nat)]] w _
 obtain⟨ol,hol⟩:∃ ol,ol=O.length:=⟨_,rfl⟩
 have hseg:=h.seg
 have hrow:=h.row
 have hcap:=h.cap
 rw[←hol] at hseg hrow hcap hx hO20
 obtain⟨xe,hxe⟩:∃ xe,xe=xa+xb:=⟨_,rfl⟩
 obtain⟨A1,hA1,hA2⟩:=CU (P:=Tryz.prog) 72 5 Tryz.underlying72 EA Ab ol cb xa xe (by omega) (by omega) hcap.1
 have hs1:=hA2 w _ O hrow
 rw[show xe-xa=xb by omega] at hs1 hA1
 have hBl:B.length=xb:=by rw[hBd];show ((O.drop xa).take xb).length=xb;rw[List.length_take,List.length_drop];omega
 have hs1:Sl w (fun q=>q < w.heap.size) A1 xb (aD B):=by rw[hBd];exact hs1
 have hBb:∀ j,B.getD j 0 < 256:=by rw[hBd];exact V.getD_take_lt (V.bN (V.bW hO) _) _
 have HS:=zh (zN hseg (zN hs1 (zN hBl (zN hBb (zN hG (zN hv (zN hf (zN ht hok))))))))
 clear hseg hs1 hBl hBb hG hv hf ht hok h hrow hA2 hO hBd hol
 have ka:IntKind.i64.wrap ((xa:Int)+(xb:Int))=(xe:Int):=by rw[IntWalk.i64_in _ (by omega)];omega
 have HXE:=zh hxe
 clear hxe
 go_enter Tryz.func302,Tryz.ntmps302
 go_upto_region 1 with (fail)
 obtain⟨g,hg⟩:∃ g,g=w.heap.size:=⟨_,rfl⟩
 rw[←hg]
 have hal:Below w.heap.size w (w.alloc (.cells #[.int .i64 (xa:Nat),.int .i64 (xb:Nat),.int .i64 xf,.int .i64 xt,.int .i64 (xn:Nat)] 360)):=(Below.refl _ _).alloc (Nat.le_refl _) _
 have h1:Cg w (w.alloc (.cells #[.int .i64 (xa:Nat),.int .i64 (xb:Nat),.int .i64 xf,.int .i64 xt,.int .i64 (xn:Nat)] 360)) g #[.int .i64 (xa:Nat),.int .i64 (xb:Nat),.int .i64 xf,.int .i64 xt,.int .i64 (xn:Nat)] p (.slice Ab ol cb):=
  ⟨hal,by rw[hg];exact au.fresh _ _ _,(HS.out.1.alloc _).cell 0⟩
 refine aH (fun wx=>Cg w wx g #[.int .i64 (xa:Nat),.int .i64 (xb:Nat),.int .i64 xf,.int .i64 xt,.int .i64 (xn:Nat)] p (.slice Ab ol cb)) h1 ?_
 intro w1 h1
 clear hal hg
 have hS:Cg w w1.drew g #[.int .i64 (xa:Nat),.int .i64 (xb:Nat),.int .i64 xf,.int .i64 xt,.int .i64 (xn:Nat)] p (.slice Ab ol cb):=⟨h1.bel.drew,h1.bx.drew,h1.seg⟩
 have hS:(fun wx=>Cg w wx g #[.int .i64 (xa:Nat),.int .i64 (xb:Nat),.int .i64 xf,.int .i64 xt,.int .i64 (xn:Nat)] p (.slice Ab ol cb)) (w1.drew):=hS
 refine av (fun wx=>Cg w wx g #[.int .i64 (xa:Nat),.int .i64 (xb:Nat),.int .i64 xf,.int .i64 xt,.int .i64 (xn:Nat)] p (.slice Ab ol cb)) (by kernel_rfl) hS ?_
 generalize w1.drew=wd at hS ⊢
 clear h1
 have HD:=zh hS
 refine zB [0,1,2,3,4,5,6,7,8,9,10,11] ?_
 iterate 12 (refine zV ?_ ?_ hS ?_;rotate_left;(intro w' hSw;have u0:=hSw.seg;have u1:=hSw.bx.cell 0;have u2:=hSw.bx.cell 1;go_simp<;>with_reducible rfl);try simp only[zP])
 refine zE ?_
 refine zC 12 fun K HK=>?_
 go_simp
 refine(FL wd A1 xb (cb-xa) _ B HS.out.2.2.1 (HS.out.2.1.below HD.out.bel (fun _ hq _=>hq)) HS.out.2.2.2.1 (by omega) (by omega) (HS.out.2.2.2.2.2.1.below HD.out.bel)).mono ?_
 rintro e w2 ⟨hk2,hcase⟩
 have h2:Cg w w2 g #[.int .i64 (xa:Nat),.int .i64 (xb:Nat),.int .i64 xf,.int .i64 xt,.int .i64 (xn:Nat)] p (.slice Ab ol cb):=
  ⟨HD.out.bel.trans (hk2.bM.mono HD.out.bel.size),HD.out.bx.below hk2.bM HD.out.bx.lt,(hk2.bM.cell (World.block_lt_of_cell? wd _ HD.out.seg)).trans HD.out.seg⟩
 have H2:=zh h2
 clear h2
 rcases hcase with ⟨A2,n2,c2,f2,rfl,hnc,hsl,hE,hv2⟩ | ⟨rfl,hN⟩
 ·have hG1:kg B f xn:=HS.out.2.2.2.2.1.resolve_right fun h=>h f2 n2 hE
  obtain⟨rfl,hff⟩:=RV hE hG1 (fun j _=>hv2 j) (fun j _=>(HS.out.2.2.2.2.2.2.2.2 j).v)
  have hsl2:dO w2 (fun q=>w.heap.size≤q∧q < w2.heap.size) A2 n2 f:=fun hn=>by
   obtain⟨b,off,e1,hD1,hc1⟩:=(hsl.congr hff) hn
   exact⟨b,off,e1,⟨Nat.le_trans HD.out.bel.size hD1,World.block_lt_of_cell? w2 _ (hc1 0 hn).1⟩,hc1⟩
  obtain⟨b,off,hA2,hbl,hcell⟩:=id (hsl2 hn0)
  subst hA2
  obtain⟨m,hm⟩:∃ m,n2=m+1:=⟨n2-1,by omega⟩
  have hc2:w2.cell? ⟨b,off,none⟩=some (.int .i64 xf)∧w2.cell? ⟨b,off+m*3,none⟩=some (.int .i64 xt):=by
   have c1:=(hcell 0 hn0).1
   have c2:=(hcell m (by omega)).1
   rw[HS.out.2.2.2.2.2.2.1,HS.out.2.2.2.2.2.2.2.1,show n2-1=m by omega]
   exact⟨by simpa using c1,c2⟩
  have HC:=zh (zN hc2 (zN hsl2 (zN hnc hm)))
  have hm1:(m:Int) < (n2:Int):=by omega
  have h01:(0:Int) < (n2:Int):=by omega
  have kw:IntKind.i64.wrap ((n2:Int)-1)=(m:Int):=by rw[IntWalk.i64_in _ (by omega)];omega
  clear hsl hE hv2 hff hG1 hsl2 hcell hc2 hnc hm
  go_wp2_with fail
  refine HK.out.zt (fun wx=>Cg w wx g #[.int .i64 (xa:Nat),.int .i64 (xb:Nat),.int .i64 xf,.int .i64 xt,.int .i64 (n2:Nat)] p (.slice Ab ol cb)) (fun _ h=>h) (H2.out) ?_
  clear HK hS
  intro hS
  try simp only[zP]
  refine zB [13,14,15,16,17] ?_
  iterate 5 (refine zV ?_ ?_ hS ?_;rotate_left;(intro w' hSw;go_simp<;>with_reducible rfl);try simp only[zP])
  refine zE ?_
  refine zD ?_
  try simp only[zP]
  clear hS
  go_upto_region 2 with (fail)
  have hS:(fun wx=>wx=w2.drew) w2.drew:=rfl
  have hS:(fun wx=>wx=w2.drew) (w2.drew):=hS
  refine av (fun wx=>wx=w2.drew) (by kernel_rfl) hS ?_
  refine zB [0,1,2,3,4,5,6,7,8,9,10,11,12,13,14,15,16,17,18,19,20,21,22,23,24,25,26,27,28,29] ?_
  iterate 30 (refine zV ?_ ?_ hS ?_;rotate_left;(intro w' hSw;obtain rfl:=hSw;have u0:w2.drew.cell? ⟨b,off,none⟩=some (.int .i64 xf):=HC.out.1.1;have u1:w2.drew.cell? ⟨b,off+m*3,none⟩=some (.int .i64 xt):=HC.out.1.2;have u2:=H2.out.bx.drew.cell 2;have u3:=H2.out.bx.drew.cell 3;have u4:=H2.out.bx.drew.cell 4;go_simp<;>with_reducible rfl);try simp only[zP])
  refine zE ?_
  refine zD ?_
  try simp only[zP]
  clear hS
  go_wp2_with fail
  go_ret2
  exact⟨H2.out.bel.drew,.inl ⟨_,c2,rfl,HC.out.2.2.1,HC.out.2.1⟩⟩
 ·have HN:=zh hN
  clear hN
  go_wp2_with fail
  refine HK.out.zt (fun wx=>Cg w wx g #[.int .i64 (xa:Nat),.int .i64 (xb:Nat),.int .i64 xf,.int .i64 xt,.int .i64 (xn:Nat)] p (.slice Ab ol cb)) (fun _ h=>h) (H2.out) ?_
  clear HK hS
  intro hS
  try simp only[zP]
  refine zB [13,14,15,16,17] ?_
  iterate 5 (refine zV ?_ ?_ hS ?_;rotate_left;(intro w' hSw;go_simp<;>with_reducible rfl);try simp only[zP])
  refine zE ?_
  refine zD ?_
  try simp only[zP]
  clear hS
  go_upto_region 2 with (fail)
  have hS:(fun wx=>wx=w2.drew) w2.drew:=rfl
  have hS:(fun wx=>wx=w2.drew) (w2.drew):=hS
  refine av (fun wx=>wx=w2.drew) (by kernel_rfl) hS ?_
  refine zB [0,1,2] ?_
  iterate 3 (refine zV ?_ ?_ hS ?_;rotate_left;(intro w' hSw;go_simp<;>with_reducible rfl);try simp only[zP])
  refine zE ?_
  refine zB [3,4,5,6,7] ?_
  iterate 5 (refine zW hS ?_;try simp only[zP])
  refine zE ?_
  refine zB [8,9] ?_
  iterate 2 (refine zV ?_ ?_ hS ?_;rotate_left;(intro w' hSw;go_simp<;>with_reducible rfl);try simp only[zP])
  refine zE ?_
  refine zB [10,11,12,13,14,15,16] ?_
  iterate 7 (refine zW hS ?_;try simp only[zP])
  refine zE ?_
  refine zB [17,18] ?_
  iterate 2 (refine zV ?_ ?_ hS ?_;rotate_left;(intro w' hSw;go_simp<;>with_reducible rfl);try simp only[zP])
  refine zE ?_
  refine zB [19,20,21,22,23,24,25,26,27,28] ?_
  iterate 10 (refine zW hS ?_;try simp only[zP])
  refine zE ?_
  refine zT 29 ?_ ?_ hS ?_
  rotate_left
  ·(intro w' hSw;go_simp<;>with_reducible rfl)
  try simp only[zP]
  refine zD ?_
  try simp only[zP]
  clear hS
  go_wp2_with fail
  go_ret2
  exact⟨H2.out.bel.drew,.inr ⟨HN.out,rfl⟩⟩
end
section
open Go.RowKit Go.Maps
theorem Dc{w0 w w':World}{e:TypeId}{n size:Nat}{v:Value}{xs:List Value}(hb:Below w0.heap.size w0 w)(ho:w.ownsRow w0.heap.size e size v n xs)(hg:w.grownBy w' v.ownBlock): Below w0.heap.size w0 w':=by
 have hk:Keeps (fun k=>v.ownBlock=some k) w w':=(Keeps.refl _ w).grown hg (fun k e _=>e)
 exact hb.trans (hk.below hb.size (fun k hlt e=>by have:=(ho.lt k e).1;omega))
def jL(nm:Nat→ByteArray)(pn:Nat→Nat)(k:Nat): Nat→Nat
 | 0=>10*k
 | i+1=>jL nm pn k i+pn i+(nm i).size
theorem Cw(nm:Nat→ByteArray)(pn:Nat→Nat)(k i:Nat): ∀ d,jL nm pn k i≤jL nm pn k (i+d)
 | 0=>Nat.le_refl _
 | d+1=>by
  have:=Cw nm pn k i d
  show _≤jL nm pn k (i+d)+pn (i+d)+(nm (i+d)).size
  omega
theorem wO(nm:Nat→ByteArray)(pn:Nat→Nat)(k i j:Nat)(h:i≤j): jL nm pn k i≤jL nm pn k j:=by
 have:=Cw nm pn k i (j-i)
 rw[show i+(j-i)=j by omega] at this
 exact this
theorem qL(nm:Nat→ByteArray)(pn:Nat→Nat)(k j:Nat)(h:j < k): pn j+(nm j).size+10*k≤jL nm pn k k:=by
 have h1:=wO nm pn k (j+1) k h
 have h2:=wO nm pn k 0 j (by omega)
 have h3:jL nm pn k 0=10*k:=rfl
 have h4:jL nm pn k (j+1)=jL nm pn k j+pn j+(nm j).size:=rfl
 omega
theorem qp(nm:Nat→ByteArray)(n:Nat)(hn:n≤1024): ∀ k,(∀ j,j < k→(nm j).size≤2500)→(dx nm n k).length≤10+k*2510
 | 0,_=>by show (V.aC n).length≤_;have:=V.aR (u:=n) (by omega);omega
 | k+1,h=>by
  have ih:=qp nm n hn k (fun j hj=>h j (by omega))
  have h1:=h k (by omega)
  have h2:=V.aR (u:=(nm k).size) (by omega)
  show (dx nm n k ++ V.aC (nm k).size ++ V.txt (nm k)).length≤_
  rw[List.length_append,List.length_append,V.iZ]
  omega
theorem NH{nm:Nat→ByteArray}{pn:Nat→Nat}{pf:Nat→Nat→Pt}{k:Nat}(hok:∀ j i,oM (pf j i))(h:jL nm pn k k < 2500): Small nm pf pn k:=by
 have hk:k < 250:=by
  have:=wO nm pn k 0 k (by omega)
  have h3:jL nm pn k 0=10*k:=rfl
  omega
 have hp:∀ j,j < k→pn j≤2500:=fun j hj=>by have:=qL nm pn k j hj;omega
 have hn:∀ j,j < k→(nm j).size≤2500:=fun j hj=>by have:=qL nm pn k j hj;omega
 have ho:∀ i,i≤k→(sO pf pn i).length≤i*390147:=by
  intro i
  induction i with
  | zero=>intro _;simp[sO]
  | succ i ih=>
   intro hi
   have h1:=ih (by omega)
   have h2:=yY (pf i) (pn i) (by have:=hp i (by omega);omega) (aT (pn i))
   have h3:aT (pn i)≤3:=by have:=hp i (by omega);unfold aT;omega
   have h4:aT (pn i)*130049≤3*130049:=Nat.mul_le_mul_right _ h3
   show (sO pf pn i ++ bO (pf i) (pn i) (aT (pn i))).length≤_
   rw[List.length_append]
   omega
 have hf:∀ i,i≤k→(sF nm pf pn k i).length≤10+k*2510+i*130:=by
  intro i
  induction i with
  | zero=>
   intro _
   have:=qp nm k (by omega) k hn
   show (dx nm k k).length≤_
   omega
  | succ i ih=>
   intro hi
   have h1:=ih (by omega)
   have h2:=vI (pf i) (hok i) (pn i) (by have:=hp i (by omega);omega) (aT (pn i))
   have h3:aT (pn i)≤3:=by have:=hp i (by omega);unfold aT;omega
   have h5:=V.aR (u:=aT (pn i)) (by omega)
   show (sF nm pf pn k i ++ V.aC (aT (pn i)) ++ bF (pf i) (pn i) (aT (pn i))).length≤_
   rw[List.length_append,List.length_append]
   omega
 exact⟨by omega,fun j hj=>by have:=hn j hj;omega,fun j hj=>by have:=hp j hj;omega,fun i hi=>by have:=ho i hi;omega,fun i hi=>by have:=hf i hi;omega⟩
end
section
open Go.RowKit Go.Maps
def yN(w:World)(l:List Pt)(Bad:Prop)(e:Ending)(w':World): Prop:=
 Below w.heap.size w w'∧((∃ v,e=.returned (.tuple #[v,.int .i64 0])∧aX w' w.heap.size v l)∨(Bad∧e=.returned (.tuple #[.slice none 0 0,.int .i64 24])))
structure zL(w0 w1 w2:World)(A:Option Addr)(n:Nat)(f:Nat→Pt)(v:Value)(l:List Pt)(w:World): Prop where
 row:aX w w0.heap.size v l
 bel:Below w0.heap.size w0 w
 sl:dO w (fun q=>w1.heap.size≤q∧q < w2.heap.size) A n f
 far:∀ g,v.ownBlock=some g→g < w1.heap.size∨w2.heap.size≤g
 sz:w2.heap.size≤w.heap.size
theorem zL.call{w0 w1 w2 w w':World}{A:Option Addr}{n:Nat}{f:Nat→Pt}{v:Value}{l:List Pt}(h:zL w0 w1 w2 A n f v l w)(hb:Below w.heap.size w w'): zL w0 w1 w2 A n f v l w':=
 ⟨h.row.below hb,h.bel.trans (hb.mono h.bel.size),h.sl.below hb,h.far,Nat.le_trans h.sz hb.size⟩
theorem zL.app{w0 w1 w2 w w':World}{A:Option Addr}{n:Nat}{f:Nat→Pt}{v v':Value}{l l':List Pt}(h:zL w0 w1 w2 A n f v l w)(hr:aX w' w0.heap.size v' l')(hg:w.grownBy w' v.ownBlock)(hx:v'.ownBlock=v.ownBlock∨v'.ownBlock=some w.heap.size): zL w0 w1 w2 A n f v' l' w':=by
 refine⟨hr,Dc h.bel h.row hg,h.sl.keep (fun q hq hlt=>hg.block q hlt (fun e=>?_)),fun g hgq=>?_,Nat.le_trans h.sz hg.size⟩
 ·rcases h.far q e.symm with h1 | h1
  ·have:=hq.1;omega
  ·have:=hq.2;omega
 ·rcases hx with hx | hx
  ·exact h.far g (by rw[←hx];exact hgq)
  ·rw[hx] at hgq
   injection hgq with hgq
   right
   have:=h.sz
   omega
theorem Ny{f:Nat→Pt}{n m:Nat}(hm:m < aT n): min (1024*m) n=1024*m:=by unfold aT at hm;omega
theorem Br(n:Nat): min (1024*aT n) n=n:=by unfold aT;omega
theorem Gf(w:World)(p:Nat)(O:List Nat)(nm:Nat→ByteArray)(pf:Nat→Nat→Pt)(pn:Nat→Nat)(k M o:Nat)(Ab:Option Addr)(cb cn:Nat)(VS:Nat→Value)(h:mZ w p O nm pf pn k M o Ab cb cn VS)(hB:Built nm pf pn k)(hO:∀ z ∈ O,z < 256)(hO20:O.length≤1048576)(hOl:O.length=(sO pf pn k).length)(hok:∀ j i,oM (pf j i))(i:Nat)(hi:i < k)(hG:∀ m,m < aT (pn i)→kg (oO O (bG pf pn i m)) (aZ (pf i) (1024*m)) (bn (pn i) (1024*m))∨iG (oO O (bG pf pn i m)))(a b:Int)(hv:V.cu w):
  Calls Tryz.prog 221 #[.pointer (some ⟨p,0,none⟩),.string (nm i),.int .i64 a,.int .i64 b] w (yN w (eD (pf i) a b (pn i)) (∃ m,m < aT (pn i)∧iG (oO O (bG pf pn i m)))):=by
 have hap:=hB.apart
 have hns:(nm i).size≤maxLen:=by have:=(nV (hB.name hi)).2;unfold maxLen;omega
 have hbv:=hB.bv hi
 have hnb:=hB.nb hi
 have hpb:=hB.pb i hi
 obtain⟨s,hs⟩:∃ s,s=nm i:=⟨_,rfl⟩
 obtain⟨f,hf⟩:∃ f,f=pf i:=⟨_,rfl⟩
 obtain⟨n,hn⟩:∃ n,n=pn i:=⟨_,rfl⟩
 obtain⟨nb,hnbe⟩:∃ nb,nb=aT n:=⟨_,rfl⟩
 obtain⟨g,c,hvs,hgl,hnc,hcell⟩:=h.bks i hi
 rw[←hn,←hnbe] at hvs hnc hcell hnb
 rw[←hf,←hn] at hbv
 rw[←hn] at hpb
 have hseg:=h.seg
 have HS:=zh (zN h (zN hB (zN hO (zN hok (zN hG (zN hv (zN hcell (zN hgl (zN hbv (zN hs (zN hf (zN hn (zN hnbe (zN hap hns))))))))))))))
 have HO:=zh (zN hOl hO20)
 have HVS:=zh hvs
 have hPost:yN w (eD (pf i) a b (pn i)) (∃ m,m < aT (pn i)∧iG (oO O (bG pf pn i m)))=yN w (eD f a b n) (∃ m,m < nb∧iG (oO O (bG pf pn i m))):=by rw[hnbe,hn,hf]
 rw[hPost,←hs]
 clear h hB hO hok hG hv hcell hgl hbv hap hns hPost hvs hs hf hn hnbe hOl hO20
 go_enter Tryz.func221,Tryz.ntmps221
 go_wp2_with fail
 refine(uL w p M (hseg.cell 2)).mono ?_
 rintro e w1 ⟨rfl,hb1⟩
 have h1:=HS.out.1.below hb1
 have hown:=h1.map
 have zs2:=h1.seg.cell 2
 have HB1:=zh hb1
 clear hb1 h1 hseg
 go_wp2_with (at_lookup;refine yD _ rfl _ _ rfl M k k i nm VS rfl hown HS.out.2.2.2.2.2.2.2.2.2.2.2.2.2.1 hi HS.out.2.2.2.2.2.2.2.2.2.2.2.2.2.2 (by show Value.string s=_;rw[HS.out.2.2.2.2.2.2.2.2.2.1]) ?_;rw[HVS.out])
 clear hown zs2
 go_loopw [10,26] (fun out ii wr=>∃ m,m≤nb∧ii=.int .i64 (m:Nat)∧aX wr w.heap.size out (eD f a b (min (1024*m) n))∧Below w.heap.size w wr) (fun _ ii _=>nb-(intOf ii).toNat)
 case atStart=>exact ⟨0,by omega,rfl,by rw[show min (1024*0) n=0 by omega];exact aX.nil _ _,HB1.out⟩
 case round=>
  obtain⟨m,hm,rfl,hrow,hbel⟩:=hrel
  obtain⟨Ao,co,hvo,hco⟩:=hrow.form
  subst hvo
  obtain⟨l,hl⟩:∃ l,l=eD f a b (min (1024*m) n):=⟨_,rfl⟩
  rw[←hl] at hrow hco ⊢
  by_cases hlt:m < nb
  ·have hmk:(m:Int) < (nb:Int):=by omega
   obtain⟨x,hx⟩:∃ x,x=bG pf pn i m:=⟨_,rfl⟩
   have hce:∀ j,j < 5→wr.cell? ⟨g,m*5+j,none⟩=(qx x)[j]?:=fun j hj=>by
    rw[hx];exact (hbel.cell (by exact HS.out.2.2.2.2.2.2.2.1)).trans (HS.out.2.2.2.2.2.2.1 m hlt j hj)
   obtain⟨xa,xb,xf,xt,xn⟩:=x
   have c0:wr.cell? ⟨g,m*5,none⟩=some (.int .i64 (xa:Nat)):=hce 0 (by omega)
   have c1:wr.cell? ⟨g,m*5+1,none⟩=some (.int .i64 (xb:Nat)):=hce 1 (by omega)
   have c2:wr.cell? ⟨g,m*5+2,none⟩=some (.int .i64 xf):=hce 2 (by omega)
   have c3:wr.cell? ⟨g,m*5+3,none⟩=some (.int .i64 xt):=hce 3 (by omega)
   have c4:wr.cell? ⟨g,m*5+4,none⟩=some (.int .i64 (xn:Nat)):=hce 4 (by omega)
   have hbo:vN f n m:=ny HS.out.2.2.2.2.2.2.2.2.1 (by rw[←HS.out.2.2.2.2.2.2.2.2.2.2.2.2.1];exact hlt)
   have e2:xf=(f (1024*m)).t:=by rw[HS.out.2.2.2.2.2.2.2.2.2.2.1];exact congrArg Bk.f hx
   have e3:xt=(f (1024*m+(bn n (1024*m)-1))).t:=by rw[HS.out.2.2.2.2.2.2.2.2.2.2.1,HS.out.2.2.2.2.2.2.2.2.2.2.2.1];exact congrArg Bk.t hx
   have e4:xn=bn n (1024*m):=by rw[HS.out.2.2.2.2.2.2.2.2.2.2.2.1];exact congrArg Bk.n hx
   have hmin:min (1024*m) n=1024*m:=Ny (f:=f) (by rw[←HS.out.2.2.2.2.2.2.2.2.2.2.2.2.1];exact hlt)
   have hend:min (1024*(m+1)) n=1024*m+xn:=by rw[e4];exact (Lp hbo (by rw[←HS.out.2.2.2.2.2.2.2.2.2.2.2.2.1];omega)).symm
   have hskip:b≤a∨xt < a∨b≤xf→eD f a b (min (1024*(m+1)) n)=l:=fun h=>by
    rw[hl,hmin,hend,e4]
    refine RN HS.out.2.2.2.2.2.2.2.2.1 (by rw[←HS.out.2.2.2.2.2.2.2.2.2.2.2.2.1];exact hlt) ?_
    rw[←e2,←e3];exact h
   have hn1:xn≤1024:=by rw[e4];exact hbo.n1
   have hn0:0 < xn:=by rw[e4];exact hbo.n0
   rw[hmin] at hl
   have HX:=zh (zN hx (zN hskip (zN hl (zN hend (zN e2 (zN e3 e4))))))
   have HR:=zh (zN hrow (zN hbel hbo))
   clear hx hskip hl hend e2 e3 e4 hrow hbel hbo hmin hce
   go_upto_region 7 with (fail)
   obtain⟨gx,hgx⟩:∃ gx,gx=wr.heap.size:=⟨_,rfl⟩
   rw[←hgx]
   have hal:Below wr.heap.size wr (wr.alloc (.cells #[.int .i64 (xa:Nat),.int .i64 (xb:Nat),.int .i64 xf,.int .i64 xt,.int .i64 (xn:Nat)] 360)):=(Below.refl _ _).alloc (Nat.le_refl _) _
   refine aH (fun wx=>aX wx w.heap.size (.slice Ao l.length co) l∧Below w.heap.size w wx∧au wx gx 360 #[.int .i64 (xa:Nat),.int .i64 (xb:Nat),.int .i64 xf,.int .i64 xt,.int .i64 (xn:Nat)]) ⟨HR.out.1.below hal,HR.out.2.1.trans (hal.mono HR.out.2.1.size),by rw[hgx];exact au.fresh _ _ _⟩ ?_
   rintro w7 ⟨h7,b7,g7⟩
   have u0:=g7.cell 0
   have u1:=g7.cell 1
   have u2:=g7.cell 2
   have u3:=g7.cell 3
   have u4:=g7.cell 4
   have H7:=zh (zN h7 (zN b7 g7))
   clear h7 b7 g7 hal hgx c0 c1 c2 c3 c4
   by_cases k1:b≤a
   ·have d1:decide (b≤a)=true:=by simp;omega
    go_wp2_with fail
    go_roundw
    case rel=>exact ⟨m+1,by omega,by go_num,by rw[HX.out.2.1 (.inl k1)];exact H7.out.1,H7.out.2.1⟩
    case measure=>simp[intOf]<;>omega
   ·have d1:decide (b≤a)=false:=by simp;omega
    by_cases k2:xt < a
    ·have d2:decide (xt < a)=true:=by simp;omega
     go_wp2_with fail
     go_roundw
     case rel=>exact ⟨m+1,by omega,by go_num,by rw[HX.out.2.1 (.inr (.inl k2))];exact H7.out.1,H7.out.2.1⟩
     case measure=>simp[intOf]<;>omega
    ·have d2:decide (xt < a)=false:=by simp;omega
     by_cases k3:b≤xf
     ·have d3:decide (b≤xf)=true:=by simp;omega
      go_wp2_with fail
      go_roundw
      case rel=>exact ⟨m+1,by omega,by go_num,by rw[HX.out.2.1 (.inr (.inr k3))];exact H7.out.1,H7.out.2.1⟩
      case measure=>simp[intOf]<;>omega
     ·have d3:decide (b≤xf)=false:=by simp;omega
      clear k1 k2 k3
      obtain⟨fs,hfs⟩:∃ fs,fs=aZ f (1024*m):=⟨_,rfl⟩
      obtain⟨B,hBe⟩:∃ B,B=oO O (bG pf pn i m):=⟨_,rfl⟩
      have hdec:Calls Tryz.prog 302 #[.pointer (some ⟨p,0,none⟩),.agg #[.int .i64 (xa:Nat),.int .i64 (xb:Nat),.int .i64 xf,.int .i64 xt,.int .i64 (xn:Nat)]] w7 (EI w7 B fs xn):=by
       have h1:=Ja pf pn (k:=k) hi (m:=m) (by rw[←HS.out.2.2.2.2.2.2.2.2.2.2.2.1,←HS.out.2.2.2.2.2.2.2.2.2.2.2.2.1];exact hlt)
       rw[←HX.out.1,←HO.out.1] at h1
       have h2:=HS.out.2.2.2.2.1 m (by rw[←HS.out.2.2.2.2.2.2.2.2.2.2.2.1,←HS.out.2.2.2.2.2.2.2.2.2.2.2.2.1];exact hlt)
       rw[←HS.out.2.2.2.2.2.2.2.2.2.2.2.1,←HS.out.2.2.2.2.2.2.2.2.2.2.1,←hfs,←HX.out.2.2.2.2.2.2,←HX.out.1] at h2
       rw[hBe,←HX.out.1]
       refine FR w7 p O nm pf pn k M o Ab cb cn VS (HS.out.1.below H7.out.2.1) fs ⟨xa,xb,xf,xt,xn⟩ HS.out.2.2.1 HO.out.2 h1 hn0 (by show xn≤4096;omega) ?_ ?_ (fun j=>?_) h2 (HS.out.2.2.2.2.2.1.below H7.out.2.1)
       ·show xf=(fs 0).t
        rw[HX.out.2.2.2.2.1,hfs];rfl
       ·show xt=(fs (xn-1)).t
        rw[HX.out.2.2.2.2.2.1,←HX.out.2.2.2.2.2.2,hfs];rfl
       ·rw[hfs,HS.out.2.2.2.2.2.2.2.2.2.2.1];exact HS.out.2.2.2.1 i _
      have HD:=zh (zN hdec (zN hBe hfs))
      clear hdec hBe hfs
      go_wp2_with fail
      refine HD.out.1.mono ?_
      rintro e w8 ⟨hb8,(⟨A8,c8,rfl,hnc8,hsl8⟩ | ⟨hN,rfl⟩)⟩
      ·obtain ⟨bb,off,hA8,-,-⟩:=id (hsl8 hn0)
       subst hA8
       have h8:zL w w7 w8 (some ⟨bb,off,none⟩) xn fs (.slice Ao l.length co) l w8:=
        ⟨H7.out.1.below hb8,H7.out.2.1.trans (hb8.mono H7.out.2.1.size),hsl8,fun g hg=>.inl (H7.out.1.fC g hg).2,Nat.le_refl _⟩
       have H8:=zh (zN h8 hnc8)
       clear h8 hsl8 hb8 hnc8 u0 u1 u2 u3 u4
       go_wp2_with fail
       go_loopw [10,56] (fun out jj wq=>∃ j,j≤xn∧jj=.int .i64 (j:Nat)∧zL w w7 w8 (some ⟨bb,off,none⟩) xn fs out (eD f a b (1024*m+j)) wq) (fun _ jj _=>xn-(intOf jj).toNat)
       case atStart=>exact ⟨0,by omega,rfl,by rw[Nat.add_zero,←HX.out.2.2.1];exact H8.out.1⟩
       case round=>
        obtain⟨j,hj,rfl,hq⟩:=hrel
        obtain⟨Aq,cq,hvq,hcq⟩:=hq.row.form
        subst hvq
        obtain⟨lj,hlj⟩:∃ lj,lj=eD f a b (1024*m+j):=⟨_,rfl⟩
        rw[←hlj] at hq hcq ⊢
        by_cases hjx:j < xn
        ·have hjk:(j:Int) < (xn:Int):=by omega
         obtain⟨b',o',e,-,hc⟩:=id (hq.sl hn0)
         simp only[Option.some.injEq,Addr.mk.injEq] at e
         obtain⟨rfl,rfl,-⟩:=e
         obtain⟨P0,hP0⟩:∃ P0,P0=fs j:=⟨_,rfl⟩
         obtain⟨tt,vv,ss⟩:=P0
         have hcj:=hc j hjx
         rw[←hP0] at hcj
         have c0:wr.cell? ⟨bb,off+j*3,none⟩=some (.int .i64 tt):=hcj.1
         have c1:wr.cell? ⟨bb,off+j*3+1,none⟩=some (.int .i64 vv):=hcj.2.1
         have c2:wr.cell? ⟨bb,off+j*3+2,none⟩=some (.int .i64 ss):=hcj.2.2
         have hfj:f (1024*m+j)=⟨tt,vv,ss⟩:=by rw[hP0,HD.out.2.2];rfl
         have hs1:jf a b ⟨tt,vv,ss⟩=true→eD f a b (1024*m+(j+1))=lj ++ [⟨tt,vv,ss⟩]:=fun h=>by
          show (if jf a b (f (1024*m+j))=true then eD f a b (1024*m+j) ++ [f (1024*m+j)] else _)=_
          rw[hfj,if_pos h,hlj]
         have hs2:jf a b ⟨tt,vv,ss⟩=false→eD f a b (1024*m+(j+1))=lj:=fun h=>by
          show (if jf a b (f (1024*m+j))=true then _ else eD f a b (1024*m+j))=_
          rw[hfj,if_neg (by rw[h];simp),hlj]
         have hll:lj.length≤1024*m+j:=by rw[hlj];exact yP _ _ _ _
         have HQ:=zh (zN hq (zN hs1 hs2))
         clear hq hs1 hs2 hc hcj hP0 hfj hlj
         go_upto_region 14 with (fail)
         obtain⟨gp,hgp⟩:∃ gp,gp=wr.heap.size:=⟨_,rfl⟩
         rw[←hgp]
         have hal:Below wr.heap.size wr (wr.alloc (.cells #[.int .i64 tt,.int .i64 vv,.int .i64 ss] 149)):=(Below.refl _ _).alloc (Nat.le_refl _) _
         refine aH (fun wx=>zL w w7 w8 (some ⟨bb,off,none⟩) xn fs (.slice Aq lj.length cq) lj wx∧au wx gp 149 #[.int .i64 tt,.int .i64 vv,.int .i64 ss]) ⟨HQ.out.1.call hal,by rw[hgp];exact au.fresh _ _ _⟩ ?_
         rintro w9 ⟨h9,g9⟩
         have v0:=g9.cell 0
         have v1:=g9.cell 1
         have v2:=g9.cell 2
         have H9:=zh h9
         clear h9 g9 hal hgp c0 c1 c2
         by_cases k1:a≤tt
         ·have d4:decide (a≤tt)=true:=by simp;omega
          by_cases k2:tt < b
          ·have d5:decide (tt < b)=true:=by simp;omega
           have HI:=zh (show jf a b ⟨tt,vv,ss⟩=true by unfold jf;rw[d4,d5];rfl)
           clear k1 k2
           go_wp2_with (at_builtin;refine jM (base:=w.heap.size) (p:=⟨tt,vv,ss⟩) (l:=lj) rfl (.tmp 70) (.tmp 72) rfl rfl rfl ?hown ?hg ?h63 ?hbase ?_)
           case hown=>exact H9.out.row.below ((Below.refl _ _).alloc (Nat.le_refl _) _)
           case hg=>exact au.fresh _ _ _
           case h63=>omega
           case hbase=>have:=H9.out.bel.size;simp;omega
           intro v10 w10 hr10 hg10 hx10
           have h10:=(H9.out.call ((Below.refl w9.heap.size w9).alloc (Nat.le_refl _) (.cells #[.int .i64 tt,.int .i64 vv,.int .i64 ss] 149))).app hr10 hg10 (by simpa using hx10)
           have H10:=zh h10
           clear h10 hr10 hg10 hx10 v0 v1 v2
           go_wp2_with fail
           go_roundw
           case rel=>exact ⟨j+1,by omega,by go_num,by rw[HQ.out.2.1 HI.out];exact H10.out⟩
           case measure=>simp[intOf]<;>omega
          ·have d5:decide (tt < b)=false:=by simp;omega
           have HI:=zh (show jf a b ⟨tt,vv,ss⟩=false by unfold jf;rw[d4,d5];rfl)
           clear k1 k2
           go_wp2_with fail
           go_roundw
           case rel=>exact ⟨j+1,by omega,by go_num,by rw[HQ.out.2.2 HI.out];exact H9.out⟩
           case measure=>simp[intOf]<;>omega
         ·have d4:decide (a≤tt)=false:=by simp;omega
          have HI:=zh (show jf a b ⟨tt,vv,ss⟩=false by unfold jf;rw[d4];rfl)
          clear k1
          go_wp2_with fail
          go_roundw
          case rel=>exact ⟨j+1,by omega,by go_num,by rw[HQ.out.2.2 HI.out];exact H9.out⟩
          case measure=>simp[intOf]<;>omega
        ·obtain rfl:j=xn:=by omega
         have HQ:=zh (zN hq hlj)
         clear hq hlj
         go_wp2_with fail
         go_roundw
         case rel=>exact ⟨m+1,by omega,by go_num,by rw[HX.out.2.2.2.1,←HQ.out.2];exact HQ.out.1.row,HQ.out.1.bel⟩
         case measure=>simp[intOf]<;>omega
      ·have HN:=zh (zN hN hb8)
       clear hN hb8 u0 u1 u2 u3 u4
       go_wp2_with fail
       go_ret2
       exact⟨H7.out.2.1.trans (HN.out.2.mono H7.out.2.1.size),.inr ⟨⟨m,hlt,by rw[←HD.out.2.1];exact HN.out.1⟩,rfl⟩⟩
  ·obtain rfl:m=nb:=by omega
   have hln:l=eD f a b n:=by rw[hl,HS.out.2.2.2.2.2.2.2.2.2.2.2.2.1,Br]
   have HR:=zh (zN hrow (zN hbel hln))
   clear hrow hbel hl hln
   go_wp2_with fail
   go_ret2
   exact⟨HR.out.2.1,.inl ⟨_,rfl,by rw[←HR.out.2.2];exact HR.out.1⟩⟩
end
section
open Go.RowKit
theorem nR{w:World}{base c n:Nat}{v:Value}{l l2:List Pt}{A:Option Addr}{D:Nat→Prop}{ty:TypeId}(hown:aX w base v l)(hl2:l2.length=n)(hr:dO w D A n (fun j=>l2.getD j ⟨0,0,0⟩))(h63:l.length+n < 4294967296)(hbase:base≤w.heap.size):
  ∃ v' w',(Builtin.append_ #[186,186] ty #[v,.slice A n c]).run Tryz.prog w=.ok v' w'∧aX w' base v' (l ++ l2)∧w.grownBy w' v.ownBlock∧(v'.ownBlock=v.ownBlock∨v'.ownBlock=some w.heap.size):=by
 subst hl2
 obtain⟨i,hi,hz,hs,hb⟩:=info_parts xK
 rcases A with _ | ad
 ·have hm:l2=[]:=by
   cases l2 with
   | nil=>rfl
   | cons p l2=>
    obtain⟨b,off,h,_⟩:=hr (by simp)
    cases h
  subst hm
  refine⟨v,w,?_,by simpa using hown,World.grownBy.refl w _,.inl rfl⟩
  rcases hown.2 with ⟨rfl,h0⟩ | ⟨g,cap,cur,rfl,_,_,hnc,_⟩
  ·simp[Builtin.append_,run_underlying Tryz.underlying186,sizeOf,typeInfo,hi,Builtin.lenOf,Builtin.firstCells]
  ·simp[Builtin.append_,run_underlying Tryz.underlying186,sizeOf,typeInfo,hi,Builtin.lenOf,Builtin.firstCells,hnc,storeCells]
 ·have hcells:∀ j u,(dW l2)[j]? = some u→w.cell? (ad.add j)=some u:=by
   intro j u hu
   obtain⟨p,hp,he⟩:=xq l2 j u hu
   have hjl:j / 3 < l2.length:=(List.getElem?_eq_some_iff.1 hp).1
   obtain⟨b,off,h,_,hc⟩:=hr (by omega)
   injection h with h
   subst h
   have hadd:(⟨b,off,none⟩:Addr).add j=⟨b,off+j,none⟩:=by unfold Addr.add;split<;>simp_all
   rw[hadd]
   obtain⟨c0,c1,c2⟩:=hc (j / 3) hjl
   have e:(fun j=>l2.getD j (⟨0,0,0⟩:Pt)) (j / 3)=p:=by
    show l2.getD (j / 3) _=p
    rw[List.getD_eq_getElem?_getD,hp];rfl
   rw[e] at c0 c1 c2
   rcases(show j%3=0∨j%3=1∨j%3=2 by omega) with h3 | h3 | h3
   ·rw[show off+j=off+j / 3*3 by omega,he,if_pos h3];exact c0
   ·rw[show off+j=off+j / 3*3+1 by omega,he,if_neg (by omega),if_pos h3];exact c1
   ·rw[show off+j=off+j / 3*3+2 by omega,he,if_neg (by omega),if_neg (by omega)];exact c2
  obtain⟨v',w',h1,h2,h3,_,h4⟩:=run_append_own_at (P:=Tryz.prog) w base 186 ty 149 i _ 3 24 Tryz.underlying186 hi hz hs hb rfl (by decide) v l.length (dW l) hown ad l2.length c (dW l2) (BA l2) hcells (FI l2) (by unfold maxLen;omega) (by omega) hbase
  refine⟨v',w',h1,?_,h3,h4⟩
  unfold aX
  rw[rT,List.length_append]
  exact h2
theorem wQ{w:World}{base c n:Nat}{v:Value}{l l2:List Pt}{A:Option Addr}{D:Nat→Prop}{ops:Array Oper}{rest:List Oper}{o:Oper}{a:Act}{Q:Exit→Act→World→Prop}(hg:o.guard=none)(s x:Operand)(ho:o.op=.call { callee:=.builtin .append,args:=#[s,x],argTypes:=#[186,186] })(hs:a.eval s=v)(hx:a.eval x=.slice A n c)(hown:aX w base v l)(hl2:l2.length=n)(hr:dO w D A n (fun j=>l2.getD j ⟨0,0,0⟩))(h63:l.length+n < 4294967296)(hbase:base≤w.heap.size)(h:∀ v' w',aX w' base v' (l ++ l2)→w.grownBy w' v.ownBlock→(v'.ownBlock=v.ownBlock∨v'.ownBlock=some w.heap.size)→wpList Tryz.prog ops Q rest (a.put o.dst v') w'): wpList Tryz.prog ops Q (o :: rest) a w:=by
 refine wpList_plain hg fun K hK=>?_
 obtain⟨v',w',hrun,h2,h3,h4⟩:=nR (ty:=o.type) (c:=c) hown hl2 hr h63 hbase
 unfold Oper.wp execOp
 simp only[ho,resolve,invoke,builtin,Sem.run_bind,Sem.run_pure,Result.andThen_ok,List.map_toArray,List.map_cons,List.map_nil,hs,hx,hrun]
 exact hK _ _ (h v' w' h2 h3 h4)
theorem dB{P:Program}{t:TypeId}{w w':World}{v u v':Value}{ops:Array Oper}{o:Oper}{a:Act}{K:Act→World→Prop}{Q:Exit→Act→World→Prop}{E:Prop}(hgd:o.guard=none)(s x:Operand)(ho:o.op=.call { callee:=.builtin .append,args:=#[s,x],argTypes:=#[t,t] })(hs:a.eval s=v)(hx:a.eval x=u)(hrun:(Builtin.append_ #[t,t] o.type #[v,u]).run P w=.ok v' w')(h:K (a.put o.dst v') w'):
  if Region.wanted o (yielded ops a.tmps)=true then Oper.wp P o a w K Q else E:=by
 have hw:Region.wanted o (yielded ops a.tmps)=true:=by simp[Region.wanted,hgd]
 rw[if_pos hw]
 unfold Oper.wp execOp
 simp only[ho,resolve,invoke,builtin,Sem.run_bind,Sem.run_pure,Result.andThen_ok,List.map_toArray,List.map_cons,List.map_nil,hs,hx,hrun]
 exact h
theorem lN{w:World}{D:Nat→Prop}{bb off n j:Nat}{f:Nat→Pt}(h:dO w D (some ⟨bb,off,none⟩) n f)(hj:j < n): w.cell? ⟨bb,off+j*3,none⟩=some (.int .i64 (f j).t)∧w.cell? ⟨bb,off+j*3+1,none⟩=some (.int .i64 (f j).v)∧w.cell? ⟨bb,off+j*3+2,none⟩=some (.int .i64 (f j).s):=by
 obtain⟨b,o,e,-,hc⟩:=h (by omega)
 simp only[Option.some.injEq,Addr.mk.injEq] at e
 obtain⟨rfl,rfl,-⟩:=e
 exact hc j hj
theorem Gj(w:World): (Op.unary .not (.bool false)).run Tryz.prog w=.ok (.bool true) w:=by kernel_rfl
theorem xg(w:World)(n:Nat)(F:FuncId)(caps:Array Value)(hn:n≤1048576)(hcf:∀ (i:Int) (w:World),(callFunc F (#[.int .i64 i] ++ caps)).run Tryz.prog w=.ok (.enter F (#[.int .i64 i] ++ caps)) w)(hF:∀ w1,Below w.heap.size w w1→∀ i:Nat,i < n→Calls Tryz.prog F (#[.int .i64 (i:Nat)] ++ caps) w1 fun e w2=>e=.returned (.bool false)∧Below w1.heap.size w1 w2):
  Calls Tryz.prog 209 #[.int .i64 (n:Nat),.func (.func F) #[] caps] w fun e w'=>e=.returned (.int .i64 (n:Nat))∧Below w.heap.size w w':=by
 have nf:=Gj
 have HF:=zh hF
 clear hF
 go_enter Tryz.func209,Tryz.ntmps209
 go_wp2_with fail
 go_loopw [5,6] (fun s5 s6 wr=>∃ lo:Nat,lo≤n∧s5=.int .i64 (lo:Nat)∧s6=.int .i64 (n:Nat)∧Below w.heap.size w wr) (fun s5 _ _=>n-(intOf s5).toNat)
 case atStart=>exact ⟨0,by omega,rfl,rfl,Below.refl _ _⟩
 case round=>
  obtain⟨lo,hlo,rfl,rfl,hb⟩:=hrel
  have HB:=zh hb
  clear hb
  by_cases hlt:lo < n
  ·have hc:=HF.out wr HB.out ((lo+n) / 2) (by omega)
   rw[show (((lo+n) / 2:Nat):Int)=((lo:Int)+(n:Int)) / 2 by omega] at hc
   have HC:=zh hc
   clear hc
   go_wp2_with fail
   refine HC.out.mono ?_
   rintro e w2 ⟨rfl,hb2⟩
   have HB2:=zh (HB.out.trans (hb2.mono HB.out.size))
   clear hb2
   go_wp2_with fail
   go_roundw
   case rel=>exact ⟨(lo+n) / 2+1,by omega,by go_num,rfl,HB2.out⟩
   case measure=>simp[intOf];omega
  ·obtain rfl:lo=n:=by omega
   go_wp2_with fail
   go_ret
   exact⟨rfl,HB.out⟩
theorem wX(w:World)(A:Option Addr)(n c:Nat)(f:Nat→Pt)(hsl:dO w (fun q=>q < w.heap.size) A n f)(hn:n≤1048576)(hrise:∀ j,j+1 < n→(f j).t < (f (j+1)).t):
  Calls Tryz.prog 211 #[.slice A n c] w fun e w'=>e=.returned (.bool true)∧Below w.heap.size w w':=by
 have HS:=zh (zN hsl hrise)
 clear hsl hrise
 go_enter Tryz.func211,Tryz.ntmps211
 go_wp2_with fail
 go_loopw [7] (fun i wr=>∃ k:Nat,k≤n∧i=.int .i64 (k:Nat)∧Below w.heap.size w wr) (fun i _=>n-(intOf i).toNat)
 case atStart=>exact ⟨0,by omega,rfl,Below.refl _ _⟩
 case round=>
  obtain⟨k,hk,rfl,hb⟩:=hrel
  by_cases hlt:k < n
  ·have hki:(k:Int) < (n:Int):=by omega
   obtain⟨bb,off,rfl,-,hc⟩:=(HS.out.1.below hb) (by omega)
   obtain⟨P0,hP0⟩:∃ P0,P0=f k:=⟨_,rfl⟩
   have hcj:=hc k hlt
   rw[←hP0] at hcj
   have c0:=hcj.1
   have c1:=hcj.2.1
   have c2:=hcj.2.2
   have HB:=zh (zN hb hP0)
   clear hb hP0 hc hcj
   go_upto_region 4 with (fail)
   obtain⟨gp,hgp⟩:∃ gp,gp=wr.heap.size:=⟨_,rfl⟩
   rw[←hgp]
   have hal:Below wr.heap.size wr (wr.alloc (.cells #[.int .i64 P0.t,.int .i64 P0.v,.int .i64 P0.s] 149)):=(Below.refl _ _).alloc (Nat.le_refl _) _
   refine aH (fun wx=>Below w.heap.size w wx∧au wx gp 149 #[.int .i64 P0.t,.int .i64 P0.v,.int .i64 P0.s]) ⟨HB.out.1.trans (hal.mono HB.out.1.size),by rw[hgp];exact au.fresh _ _ _⟩ ?_
   rintro w9 ⟨h9,g9⟩
   clear c0 c1 c2 hal hgp
   have hS:=zN (V.ay h9 (Below.refl _ _).drew) g9.drew
   clear h9 g9
   cases k with
   | zero=>
    have hS:(fun wx=>Below w.heap.size w wx∧au wx gp 149 #[.int .i64 P0.t,.int .i64 P0.v,.int .i64 P0.s]) (w9.drew):=hS
    refine av (fun wx=>Below w.heap.size w wx∧au wx gp 149 #[.int .i64 P0.t,.int .i64 P0.v,.int .i64 P0.s]) (by kernel_rfl) hS ?_
    refine zB [0,1,2] ?_
    iterate 3 (refine zV ?_ ?_ hS ?_;rotate_left;(intro w' hSw;go_simp<;>with_reducible rfl);try simp only[zP])
    refine zE ?_
    refine zB [3,4,5,6,7,8,9,10,11] ?_
    iterate 9 (refine zW hS ?_;try simp only[zP])
    refine zE ?_
    refine zT 12 ?_ ?_ hS ?_
    rotate_left
    ·(intro w' hSw;go_simp<;>with_reducible rfl)
    try simp only[zP]
    refine zD ?_
    try simp only[zP]
    have HS2:=zh hS.1
    clear hS
    go_wp2_with fail
    go_roundw
    case rel=>exact ⟨1,by omega,by go_num,HS2.out⟩
    case measure=>simp[intOf]<;>omega
   | succ k=>
    have d1:decide (P0.t≤(f k).t)=false:=by
     have:=HS.out.2 k hlt
     rw[HB.out.2]
     simp
     omega
    have d2:decide ((0:Int) < ((k+1:Nat):Int))=true:=by simp<;>omega
    have d3:decide ((0:Int) < (k:Int)+1)=true:=by simp<;>omega
    have e1:IntKind.i64.wrap (k:Int)=(k:Int):=by simp only[IntKind.wrap_i64];omega
    have e2:(k:Int) < (n:Int):=by omega
    have e3:(0:Int) < (k:Int)+1:=by omega
    have hS:(fun wx=>Below w.heap.size w wx∧au wx gp 149 #[.int .i64 P0.t,.int .i64 P0.v,.int .i64 P0.s]) (w9.drew):=hS
    refine av (fun wx=>Below w.heap.size w wx∧au wx gp 149 #[.int .i64 P0.t,.int .i64 P0.v,.int .i64 P0.s]) (by kernel_rfl) hS ?_
    refine zB [0,1,2,3,4,5,6,7,8,9,10,11,12] ?_
    iterate 13 (refine zV ?_ ?_ hS ?_;rotate_left;(intro w' hSw;have u0:=hSw.2.cell 0;have u1:=(lN (HS.out.1.below hSw.1) (j:=k) (by omega)).1;go_simp<;>with_reducible rfl);try simp only[zP])
    refine zE ?_
    refine zD ?_
    try simp only[zP]
    have HS2:=zh hS.1
    clear hS d1 d2 d3 e1 e2 e3
    go_wp2_with fail
    go_roundw
    case rel=>exact ⟨k+1+1,by omega,by go_num,HS2.out⟩
    case measure=>simp[intOf]<;>omega
  ·obtain rfl:k=n:=by omega
   have HB:=zh hb
   clear hb
   go_wp2_with fail
   go_ret
   exact⟨rfl,HB.out⟩
end
section
open Go.RowKit Go.Maps
structure iE(D:DataW Value)(s:ByteArray→Option Value)(c:Nat): Prop where
 im:IsMap D
 ti:Tidy D
 has:∀ x,Maps.has D (bP x)=(s x).isSome
 val:∀ x v,s x=some v→∀ z,D.atKey (bP x) z=.held v
 sz:Maps.size D≤c
def aS{α:Type}(s:ByteArray→Option α)(x:ByteArray)(v:α): ByteArray→Option α:=fun y=>if y=x then some v else s y
def gq{α:Type}(s:ByteArray→Option α)(x:ByteArray): ByteArray→Option α:=fun y=>if y=x then none else s y
theorem iE.nil: iE (.map []) (fun _=>none) 0:=⟨isMap_empty,tidy_empty,fun _=>rfl,(fun _ _ h=>by cases h),Nat.le_refl _⟩
theorem iE.put{D:DataW Value}{s:ByteArray→Option Value}{c:Nat}(h:iE D s c)(x:ByteArray)(v:Value): iE (D.put (bP x) (.held v)) (aS s x v) (c+1):=by
 refine⟨h.im.put _ _,h.ti.put (jo x) _,fun y=>?_,fun y u hu z=>?_,?_⟩
 ·unfold aS
  by_cases e:y=x
  ·subst e
   rw[if_pos rfl,has_put_same h.im (jo y)];rfl
  ·rw[if_neg e,has_put_other (fun he=>e (iQ he)),h.has]
 ·unfold aS at hu
  by_cases e:y=x
  ·subst e
   rw[if_pos rfl] at hu
   injection hu with hu
   subst hu
   exact atKey_put_same h.im (jo y) _ _
  ·rw[if_neg e] at hu
   rw[atKey_put_other (fun he=>e (iQ he))]
   exact h.val y u hu z
 ·rw[size_put h.ti]
  have:=h.sz
  split<;>omega
theorem iE.del{D:DataW Value}{s:ByteArray→Option Value}{c:Nat}(h:iE D s c)(x:ByteArray): iE (D.del (bP x)) (gq s x) c:=by
 refine⟨h.im.del _,h.ti.del _,fun y=>?_,fun y u hu z=>?_,?_⟩
 ·unfold gq
  by_cases e:y=x
  ·subst e
   rw[if_pos rfl,has_del_same];rfl
  ·rw[if_neg e,has_del_other (fun he=>e (iQ he)),h.has]
 ·unfold gq at hu
  by_cases e:y=x
  ·rw[if_pos e] at hu;cases hu
  ·rw[if_neg e] at hu
   rw[atKey_del_other (fun he=>e (iQ he))]
   exact h.val y u hu z
 ·have h1:=size_del (D:=D) (k:=bP x) h.ti
  have:=h.sz
  omega
theorem iE.none{D:DataW Value}{s:ByteArray→Option Value}{c:Nat}(h:iE D s c){x:ByteArray}(hx:s x=none)(z:DataW Value): D.atKey (bP x) z=z:=
 atKey_of_not_has (by rw[h.has,hx];rfl) z
end
section
open Go.RowKit Go.Maps
structure FS where
 blk: Nat
 v:Value
 bs:List Nat
 lasts:Nat
 syn:Bool
def Ay(a:FS): Value:=.pointer (some ⟨a.blk,0,none⟩)
def dJ(p:ByteArray→Option FS): ByteArray→Option Value:=fun s=>(p s).map Ay
structure aO(w:World)(d M:Nat)(p:ByteArray→Option FS)(room:Nat)(used:Int)(ops c:Nat): Prop where
 blk:au w d 71 #[.map (some M),.int .i64 (room:Nat),.int .i64 used,.int .i64 (-1),.int .i64 (ops:Nat)]
 map:∃ n D,w.ownsMap Tryz.prog 9 eP M n D∧n≤c∧iE D (dJ p) c
 fil:∀ s a,p s=some a→au w a.blk 114 #[a.v,.int .i64 (a.lasts:Nat),.bool a.syn]∧w.ownsRow 0 5 1 a.v a.bs.length (a.bs.map V.aI)
 dis:∀ s t a b,s≠t→p s=some a→p t=some b→a.blk≠b.blk∧∀ g,a.v.ownBlock=some g→b.v.ownBlock≠some g
def aL(d M:Nat)(p:ByteArray→Option FS)(q:Nat): Prop:=q=d∨q=M∨∃ s a,p s=some a∧(q=a.blk∨a.v.ownBlock=some q)
theorem aO.keep{S:Nat→Prop}{w w':World}{d M:Nat}{p:ByteArray→Option FS}{room:Nat}{used:Int}{ops c:Nat}(h:aO w d M p room used ops c)(hk:Keeps S w w')(hS:∀ q,aL d M p q→¬ S q): aO w' d M p room used ops c:=by
 refine⟨h.blk.keeps hk (hS _ (.inl rfl)),?_,fun s a hs=>⟨(h.fil s a hs).1.keeps hk (hS _ (.inr (.inr ⟨s,a,hs,.inl rfl⟩))),aF (h.fil s a hs).2 hk (fun g hg=>hS _ (.inr (.inr ⟨s,a,hs,.inr hg⟩)))⟩,h.dis⟩
 obtain⟨n,D,h1,h2,h3⟩:=h.map
 have hM:w'.heap[M]? = w.heap[M]?:=hk.block M (World.ownsMap.lt h1) (hS _ (.inr (.inl rfl)))
 obtain⟨es,clock,e1,e2⟩:=h1
 exact⟨n,D,⟨es,clock,by rw[hM];exact e1,e2⟩,h2,h3⟩
theorem aO.call{w w':World}{d M:Nat}{p:ByteArray→Option FS}{room:Nat}{used:Int}{ops c:Nat}(h:aO w d M p room used ops c)(hb:Below w.heap.size w w'): aO w' d M p room used ops c:=
 h.keep (S:=fun _=>False) (Keeps.of_below hb) (fun _ _ h=>h)
theorem aO.dH{w:World}{d M:Nat}{p:ByteArray→Option FS}{room:Nat}{used:Int}{ops c q:Nat}(h:aO w d M p room used ops c)(hq:aL d M p q): q < w.heap.size:=by
 rcases hq with rfl | rfl | ⟨s,a,hs,rfl | hg⟩
 ·exact h.blk.lt
 ·obtain ⟨n,D,h1,-⟩:=h.map
  exact World.ownsMap.lt h1
 ·exact (h.fil s a hs).1.lt
 ·exact ((h.fil s a hs).2.lt q hg).2
structure DStep(w w':World)(d M:Nat)(p p':ByteArray→Option FS): Prop where
 keep:Keeps (aL d M p) w w'
 far:∀ q,q < w.heap.size→aL d M p' q→aL d M p q
theorem DStep.trans{w w1 w2:World}{d M:Nat}{p p1 p2:ByteArray→Option FS}(h:DStep w w1 d M p p1)(k:DStep w1 w2 d M p1 p2): DStep w w2 d M p p2:=
 ⟨h.keep.trans k.keep (fun q hq hf=>h.far q hq hf),fun q hq hf=>h.far q hq (k.far q (Nat.lt_of_lt_of_le hq h.keep.size) hf)⟩
theorem DStep.below{w w1 w2:World}{d M:Nat}{p p1:ByteArray→Option FS}(h:DStep w w1 d M p p1)(k:Below w1.heap.size w1 w2): DStep w w2 d M p p1:=
 ⟨h.keep.trans' (Keeps.of_below k),h.far⟩
theorem DStep.of_below{w w1:World}{d M:Nat}{p:ByteArray→Option FS}(k:Below w.heap.size w w1): DStep w w1 d M p p:=⟨Keeps.of_below k,fun _ _ h=>h⟩
end
section
open Go.RowKit Go.Maps
theorem Da(a:Addr)(w:World): (binOp .eql 23 (.pointer (some a)) (.pointer none)).run Tryz.prog w=.ok (.bool false) w:=by kernel_rfl
theorem NJ(M:Nat)(w:World): (binOp .eql 69 (.map (some M)) (.map none)).run Tryz.prog w=.ok (.bool false) w:=by kernel_rfl
theorem qR(w:World)(d M:Nat)(hc:w.cell? ⟨d,0,none⟩=some (.map (some M))): Calls Tryz.prog 53 #[.pointer (some ⟨d,0,none⟩)] w fun e w'=>e=.returned (.bool false)∧Below w.heap.size w w':=by
 have q2:=fun y=>Da ⟨y,0,none⟩
 have q3:=NJ
 go_enter Tryz.func53,Tryz.ntmps53
 go_wp2_with fail
 go_ret
 exact⟨rfl,Below.refl _ _⟩
theorem Qe(w:World)(room:Nat)(hr:room≤1073741824): Calls Tryz.prog 7 #[.int .i64 (room:Nat)] w fun e w'=>∃ d M,e=.returned (.tuple #[.pointer (some ⟨d,0,none⟩),.int .i64 0])∧w.heap.size≤M∧w.heap.size≤d∧aO w' d M (fun _=>none) room 0 0 0∧Below w.heap.size w w':=by
 have hmm:=@run_makeMap Tryz.prog
 have d1:decide (1073741824 < room)=false:=by simp;omega
 go_enter Tryz.func7,Tryz.ntmps7
 go_wp2_with fail
 go_ret2
 refine⟨w.heap.size+1,w.heap.size,rfl,Nat.le_refl _,by omega,⟨?_,⟨0,_,(World.ownsMap_made w Tryz.prog 9 eP).alloc _,Nat.le_refl _,iE.nil⟩,(fun s a h=>by cases h),(fun s t a b _ h=>by cases h)⟩,((Below.refl _ _).alloc (Nat.le_refl _) _).alloc (by simp) _⟩
 have:=au.fresh (w.alloc (.map #[] 0)) 71 #[.map (some w.heap.size),.int .i64 (room:Nat),.int .i64 0,.int .i64 (-1),.int .i64 0]
 rw[show (w.alloc (.map #[] 0)).heap.size=w.heap.size+1 by simp] at this
 exact this
theorem KX(w:World)(s:ByteArray)(h1:1≤s.size)(h64:s.size≤64): Calls Tryz.prog 215 #[.string s] w fun e w'=>e=.returned (.bool true)∧Below w.heap.size w w':=by
 have hne:s≠ByteArray.empty:=fun h=>by rw[h] at h1;exact absurd h1 (by decide)
 have d0:s.toList.isEmpty=false:=by
  cases h:s.toList with
  | nil=>exact absurd ((toList_nil_iff_emptyBytes s).1 h) hne
  | cons a l=>rfl
 have d1:decide ((s.size:Int)≤64)=true:=by simp;omega
 have d2:decide (s.size≤64)=true:=by simp;omega
 go_enter Tryz.func215,Tryz.ntmps215
 go_wp2_with fail
 go_ret
 exact⟨rfl,Below.refl _ _⟩
end
section
open Go.RowKit Go.Maps
theorem J3(w:World): (Op.unary .not (.bool true)).run Tryz.prog w=.ok (.bool false) w:=by kernel_rfl
theorem GY(w:World)(d M n cp ops:Nat)(room used:Value)(A:Option Addr)(nm:Nat→ByteArray)(F:FuncId)(caps:Array Value)(Post:World→Prop)(hb:au w d 71 #[.map (some M),room,used,.int .i64 (-1),.int .i64 (ops:Nat)])(hn:Sl w (fun q=>q < w.heap.size) A n (fun j=>.string (nm j)))(hn2:n≤2)(hnm:∀ j,j < n→1≤(nm j).size∧(nm j).size≤64)(ho:ops < 4611686018427387904)(hcf:∀ w,(callFunc F caps).run Tryz.prog w=.ok (.enter F caps) w)(hF:∀ w1,Below w.heap.size w w1→Calls Tryz.prog F caps w1 fun e w2=>e=.returned (.int .i64 0)∧Post w2)(hP:∀ w2,Post w2→∃ M' a b,au w2 d 71 #[.map (some M'),a,b,.int .i64 (-1),.int .i64 (ops:Nat)]):
  Calls Tryz.prog 141 #[.pointer (some ⟨d,0,none⟩),.slice A n cp,.func (.func F) #[] caps] w fun e w'=>e=.returned (.int .i64 0)∧∃ w2,Post w2∧Below w2.heap.size (w2.setCell ⟨d,4,none⟩ (.int .i64 ((ops+1:Nat)))) w':=by
 have nn:=J3
 have hd:=hb.lt
 have hd0:=hb.cell 0
 have HD:=zh (zN hb (zN hn (zN hnm (zN hF hP))))
 clear hb hn hnm hF hP
 go_enter Tryz.func141,Tryz.ntmps141
 go_wp2_with fail
 refine(qR w d M (by simpa using hd0)).mono ?_
 rintro e w1 ⟨rfl,hb1⟩
 have H1:=zh hb1
 clear hb1 hd0
 go_wp2_with fail
 go_loopw [8,14] (fun s i wr=>∃ k:Nat,k≤n∧i=.int .i64 k∧Below w.heap.size w wr) (fun _ i _=>n-(intOf i).toNat)
 case atStart=>exact ⟨0,Nat.zero_le _,rfl,H1.out⟩
 case round=>
  obtain⟨k,hk,rfl,hbr⟩:=hrel
  have HB:=zh hbr
  clear hbr
  by_cases hlt:k < n
  ·obtain ⟨bA,off,hA,-,hc⟩:=(HD.out.2.1.below HB.out (fun _ hq _=>hq)) (by omega)
   subst hA
   have z0:wr.cell? ⟨bA,off+k,none⟩=some (.string (nm k)):=hc k hlt
   obtain⟨s,hs⟩:∃ s,s=nm k:=⟨_,rfl⟩
   rw[←hs] at z0
   have hnk:=HD.out.2.2.1 k hlt
   rw[←hs] at hnk
   have HZ:=zh (zN hs hnk)
   clear hs hnk hc
   go_wp2_with fail
   refine(KX wr s HZ.out.2.1 HZ.out.2.2).mono ?_
   rintro e w3 ⟨rfl,hb3⟩
   have H3:=zh (HB.out.trans (hb3.mono HB.out.size))
   clear hb3
   go_wp2_with fail
   go_roundw
   case rel=>exact ⟨k+1,by omega,by go_num,H3.out⟩
   case measure=>simp[intOf];omega
  ·obtain rfl:k=n:=by omega
   have h3:=(HD.out.1.below HB.out HD.out.1.lt).cell 3
   simp at h3
   go_wp2_with fail
   refine(HD.out.2.2.2.1 wr HB.out).mono ?_
   rintro e w2 ⟨rfl,hp2⟩
   obtain⟨M',a,b,hb2⟩:=HD.out.2.2.2.2 w2 hp2
   have h32:=hb2.cell 3
   have h42:=hb2.cell 4
   have hf2:=hb2.frozen
   simp at h32 h42
   have H2:=zh (zN hp2 hb2)
   clear hp2 hb2
   go_wp2_with fail
   go_ret
   exact⟨rfl,w2,H2.out.1,Below.refl _ _⟩
end
section
open Go.RowKit Go.Maps
theorem LA(w:World): (zeroValue 112).run Tryz.prog w=.ok (.pointer none) w:=by kernel_rfl
theorem BP(w:World): (binOp .eql 112 (.pointer none) (.pointer none)).run Tryz.prog w=.ok (.bool true) w:=by kernel_rfl
theorem tq(a:Addr)(w:World): (binOp .eql 112 (.pointer (some a)) (.pointer none)).run Tryz.prog w=.ok (.bool false) w:=by kernel_rfl
theorem aO.look{w:World}{d M:Nat}{p:ByteArray→Option FS}{room:Nat}{used:Int}{ops c:Nat}(h:aO w d M p room used ops c)(s:ByteArray)(hs:s.size≤maxLen): (Instr.lookup 69 (.map (some M)) (.string s) false).run Tryz.prog w=.ok ((dJ p s).getD (.pointer none)) w:=by
 obtain⟨n,D,hown,hn,hF⟩:=h.map
 obtain⟨v,ps,hrun,hv⟩:=World.ownsMap.lookup hown law Tryz.underlying69 (LA w) (zd:=.held (.pointer none)) (zp:=[]) rfl (kD hs)
 have hv2:v=(dJ p s).getD (.pointer none):=by
  unfold eP at hv
  cases hk:dJ p s with
  | none=>
   rw[hF.none hk] at hv
   simp only[Option.some.injEq,Prod.mk.injEq,DataW.held.injEq] at hv
   exact hv.1
  | some u=>
   rw[hF.val s u hk] at hv
   simp only[Option.some.injEq,Prod.mk.injEq,DataW.held.injEq] at hv
   exact hv.1
 rw[hv2] at hrun
 exact hrun
theorem aO.Uk{w:World}{d M:Nat}{p:ByteArray→Option FS}{room:Nat}{used:Int}{ops c:Nat}(h:aO w d M p room used ops c)(ty:TypeId): ∃ k,k≤c∧(Builtin.len_ #[69] ty #[.map (some M)]).run Tryz.prog w=.ok (.int .i64 (k:Nat)) w:=by
 obtain⟨n,D,hown,hn,hF⟩:=h.map
 exact⟨Maps.size D,hF.sz,World.ownsMap.len hown Tryz.underlying69 ty⟩
theorem pE(p:ByteArray→Option FS)(s:ByteArray)(a:FS): dJ (aS p s a)=aS (dJ p) s (Ay a):=by
 funext y
 unfold dJ aS
 by_cases e:y=s
 ·simp[e]
 ·simp[e]
theorem JB(p:ByteArray→Option FS)(s:ByteArray): dJ (gq p s)=gq (dJ p) s:=by
 funext y
 unfold dJ gq
 by_cases e:y=s
 ·simp[e]
 ·simp[e]
theorem gQ{α:Type}(p:ByteArray→Option α)(s:ByteArray)(a:α): aS p s a s=some a:=if_pos rfl
theorem fP{α:Type}(p:ByteArray→Option α){s t:ByteArray}(a:α)(h:t≠s): aS p s a t=p t:=if_neg h
theorem uJ{α:Type}(p:ByteArray→Option α)(s:ByteArray): gq p s s=none:=if_pos rfl
theorem jS{α:Type}(p:ByteArray→Option α){s t:ByteArray}(h:t≠s): gq p s t=p t:=if_neg h
theorem CV{α:Type}(p:ByteArray→Option α)(s:ByteArray)(a b:α): aS (aS p s a) s b=aS p s b:=by
 funext y
 unfold aS
 split<;>rfl
theorem iU{w:World}{M n base m size:Nat}{D:DataW Value}{e:TypeId}{v:Value}{xs:List Value}(h:w.ownsMap Tryz.prog 9 eP M n D)(ho:w.ownsRow base e size v m xs): v.ownBlock=none∨v.ownBlock≠some M:=by
 rcases ho.2 with ⟨rfl,-⟩ | ⟨g,cap,cur,rfl,_,hh,_⟩
 ·exact .inl rfl
 ·refine .inr fun e=>?_
  have e2:g=M:=by simpa [Value.ownBlock] using e
  subst e2
  obtain⟨es,clock,hb,-⟩:=h
  rw[hb] at hh
  cases hh
theorem aO.fresh{w w2:World}{d M:Nat}{p:ByteArray→Option FS}{room:Nat}{used:Int}{ops c n:Nat}{D:DataW Value}{s:ByteArray}(h:aO w d M p room used ops c)(hs:p s=none)(hn:n≤c)(hF:iE D (dJ p) c)(hm:w2.ownsMap Tryz.prog 9 eP M (n+1) (D.put (bP s) (.held (.pointer (some ⟨w.heap.size,0,none⟩)))))(hg:(w.alloc (.cells #[.slice none 0 0,.int .i64 0,.bool false] 114)).grownBy w2 (some M)):
  aO w2 d M (aS p s ⟨w.heap.size,.slice none 0 0,[],0,false⟩) room used ops (c+1)∧DStep w w2 d M p (aS p s ⟨w.heap.size,.slice none 0 0,[],0,false⟩):=by
 obtain⟨n0,D0,hown0,-,-⟩:=h.map
 have hMd:d≠M:=by
  intro e
  have:=World.ownsMap.lt hown0
  obtain⟨es,clock,e1,-⟩:=hown0
  have:=h.blk
  unfold au at this
  rw[e,e1] at this
  cases this
 have hnM:∀ q t cs,au w q t cs→q≠M:=by
  intro q t cs hq e
  obtain⟨es,clock,e1,-⟩:=hown0
  unfold au at hq
  rw[e,e1] at hq
  cases hq
 have hlt:=World.ownsMap.lt hown0
 have hkb:∀ q t cs,au w q t cs→au w2 q t cs:=fun q t cs hq=>(hg.block q (hq.alloc _).lt (fun e=>hnM q t cs hq (by injection e))).trans (hq.alloc _)
 have hnb:au w2 w.heap.size 114 #[.slice none 0 0,.int .i64 0,.bool false]:=(hg.block _ (au.fresh w _ _).lt (fun e=>by injection e with e;omega)).trans (au.fresh w _ _)
 refine⟨⟨hkb _ _ _ h.blk,⟨n+1,_,hm,by omega,?_⟩,?_,?_⟩,⟨?_,?_⟩⟩
 ·rw[pE]
  exact hF.put s _
 ·intro t a ha
  unfold aS at ha
  split at ha
  ·injection ha with ha
   subst ha
   exact⟨hnb,rfl,.inl ⟨rfl,rfl⟩⟩
  ·refine ⟨hkb _ _ _ (h.fil t a ha).1,?_⟩
   have hr:=(h.fil t a ha).2
   refine(hr.kept (World.grownBy_alloc w _ none) ?_).kept hg ?_
   ·cases a.v.ownBlock with
    | none=>exact .inl rfl
    | some g=>exact .inr (by simp)
   ·exact iU hown0 hr
 ·intro t u a b htu ha hb
  unfold aS at ha hb
  split at ha<;>split at hb
  ·rename_i e1 e2
   exact absurd (e1.trans e2.symm) htu
  ·injection ha with ha
   subst ha
   exact⟨fun e=>by have:=(h.fil u b hb).1.lt;simp at e;omega,fun g hg=>by simp[Value.ownBlock] at hg⟩
  ·injection hb with hb
   subst hb
   exact⟨fun e=>by have:=(h.fil t a ha).1.lt;simp at e;omega,fun g hg=>by simp[Value.ownBlock]⟩
  ·exact h.dis t u a b htu ha hb
 ·have:=(Keeps.refl (aL d M p) w).alloc (.cells #[.slice none 0 0,.int .i64 0,.bool false] 114)
  exact this.grown hg (fun k hk hlt=>by injection hk with hk;subst hk;exact .inr (.inl rfl))
 ·rintro q hq (rfl | rfl | ⟨t,a,ha,hqa⟩)
  ·exact .inl rfl
  ·exact .inr (.inl rfl)
  ·unfold aS at ha
   split at ha
   ·injection ha with ha
    subst ha
    rcases hqa with rfl | hqa
    ·exact absurd hq (Nat.lt_irrefl _)
    ·simp[Value.ownBlock] at hqa
   ·exact .inr (.inr ⟨t,a,ha,hqa⟩)
theorem aO.append{w w1 w3:World}{d M:Nat}{p:ByteArray→Option FS}{room:Nat}{used:Int}{ops c:Nat}{s:ByteArray}{a:FS}{v':Value}{bs:List Nat}(h:aO w d M p room used ops c)(hs:p s=some a)(ho:w1.ownsRow 0 5 1 v' (a.bs.length+bs.length) (a.bs.map V.aI ++ bs.map V.aI))(hg:w.grownBy w1 a.v.ownBlock)(hv:v'.ownBlock=a.v.ownBlock∨v'.ownBlock=some w.heap.size)(u:Int)(k1:Keeps (fun q=>q=a.blk∨q=d) w1 w3)(b1:au w3 a.blk 114 #[v',.int .i64 (a.lasts:Nat),.bool a.syn])(b2:au w3 d 71 #[.map (some M),.int .i64 (room:Nat),.int .i64 u,.int .i64 (-1),.int .i64 (ops:Nat)]):
  aO w3 d M (aS p s { a with v:=v',bs:=a.bs ++ bs }) room u ops c∧DStep w w3 d M p (aS p s { a with v:=v',bs:=a.bs ++ bs }):=by
 obtain⟨n0,D0,hown0,hn0,hF0⟩:=h.map
 have hfa:=h.fil s a hs
 have hnM:∀ q t cs,au w q t cs→q≠M:=by
  intro q t cs hq e
  obtain⟨es,clock,e1,-⟩:=hown0
  unfold au at hq
  rw[e,e1] at hq
  cases hq
 have hnr:∀ q t cs,au w q t cs→t≠5→some q≠a.v.ownBlock:=fun q t cs hq ht e=>own_ne hfa.2 hq (fun e'=>ht e'.symm) e.symm
 have hkb:∀ q t cs,au w q t cs→t≠5→au w1 q t cs:=fun q t cs hq ht=>dK hg hq (hnr q t cs hq ht)
 have had:a.blk≠d:=fun e=>by
  have:=hfa.1.ne h.blk (by decide)
  exact this e
 have hvn:∀ q t cs,au w q t cs→t≠5→v'.ownBlock≠some q:=by
  intro q t cs hq ht e
  rcases hv with hv | hv
  ·exact hnr q t cs hq ht (by rw[←e,hv])
  ·rw[hv] at e
   injection e with e
   have:=hq.lt
   omega
 have hMlt:=World.ownsMap.lt hown0
 have hMv:v'.ownBlock≠some M:=by
  intro e
  rcases hv with hv | hv
  ·rcases iU hown0 hfa.2 with h1 | h1
   ·rw[hv,h1] at e;cases e
   ·exact h1 (by rw[←hv];exact e)
  ·rw[hv] at e
   injection e with e
   omega
 have hMr:some M≠a.v.ownBlock:=fun e=>by
  rcases iU hown0 hfa.2 with h1 | h1
  ·rw[h1] at e;cases e
  ·exact h1 e.symm
 have hsz:=hg.size
 refine⟨⟨?_,⟨n0,D0,?_,hn0,?_⟩,?_,?_⟩,⟨?_,?_⟩⟩
 ·exact b2
 ·have h1:=hown0.kept hg hMr
  obtain⟨es,clock,e1,e2⟩:=h1
  exact⟨es,clock,by rw[k1.block M (Nat.lt_of_lt_of_le hMlt hsz) (fun e=>e.elim (fun e=>hnM _ _ _ hfa.1 e.symm) (fun e=>hnM _ _ _ h.blk e.symm))];exact e1,e2⟩
 ·rw[pE]
  have e:aS (dJ p) s (Ay { a with v:=v',bs:=a.bs ++ bs })=dJ p:=by
   funext y
   unfold aS
   split
   ·rename_i e
    rw[e]
    unfold dJ
    rw[hs]
    rfl
   ·rfl
  rw[e]
  exact hF0
 ·intro t b hb
  unfold aS at hb
  split at hb
  ·injection hb with hb
   subst hb
   refine⟨b1,?_⟩
   have e1:(a.bs ++ bs).length=a.bs.length+bs.length:=List.length_append
   show World.ownsRow _ 0 5 1 v' (a.bs ++ bs).length ((a.bs ++ bs).map V.aI)
   rw[e1,List.map_append]
   refine aF ho k1 ?_
   rintro g hgv (rfl | rfl)
   ·exact hvn _ _ _ hfa.1 (by decide) hgv
   ·exact hvn _ _ _ h.blk (by decide) hgv
  ·rename_i hts
   have hfb:=h.fil t b hb
   have hd:=h.dis t s b a hts hb hs
   refine⟨(hkb _ _ _ hfb.1 (by decide)).keeps k1 (fun e=>e.elim (fun e=>hd.1 e) (fun e=>hfb.1.ne h.blk (by decide) e)),?_⟩
   have hk1:w1.ownsRow 0 5 1 b.v b.bs.length (b.bs.map V.aI):=by
    refine hfb.2.kept hg ?_
    cases hbv:b.v.ownBlock with
    | none=>exact .inl rfl
    | some g=>exact .inr (fun e=>hd.2 g hbv e.symm)
   refine aF hk1 k1 ?_
   rintro g hgv (rfl | rfl)
   ·exact own_ne hfb.2 hfa.1 (by decide) hgv
   ·exact own_ne hfb.2 h.blk (by decide) hgv
 ·intro t u' a' b' htu ha hb
  unfold aS at ha hb
  split at ha<;>split at hb
  ·rename_i e1 e2
   exact absurd (e1.trans e2.symm) htu
  ·injection ha with ha
   subst ha
   rename_i e1 e2
   have hd:=h.dis s u' a b' (fun e=>e2 e.symm) hs hb
   refine⟨hd.1,fun g hg e=>?_⟩
   rcases hv with hv | hv
   ·exact hd.2 g (by rw[←hv];exact hg) e
   ·have:v'.ownBlock=some g:=hg
    rw[hv] at this
    injection this with this
    have:=((h.fil u' b' hb).2.lt g e).2
    omega
  ·injection hb with hb
   subst hb
   rename_i e1 e2
   have hd:=h.dis t s a' a e1 ha hs
   refine⟨hd.1,fun g hg e=>?_⟩
   have e:v'.ownBlock=some g:=e
   rcases hv with hv | hv
   ·exact hd.2 g hg (by rw[←hv];exact e)
   ·rw[hv] at e
    injection e with e
    have:=((h.fil t a' ha).2.lt g hg).2
    omega
  ·exact h.dis t u' a' b' htu ha hb
 ·have k0:Keeps (aL d M p) w w1:=(Keeps.refl _ w).grown hg (fun k hk hlt=>.inr (.inr ⟨s,a,hs,.inr hk⟩))
  exact k0.trans k1 (fun q hq e=>e.elim (fun e=>.inr (.inr ⟨s,a,hs,.inl e⟩)) (fun e=>.inl e))
 ·rintro q hq (rfl | rfl | ⟨t,b,hb,hqb⟩)
  ·exact .inl rfl
  ·exact .inr (.inl rfl)
  ·unfold aS at hb
   split at hb
   ·injection hb with hb
    subst hb
    rcases hqb with rfl | hqb
    ·exact .inr (.inr ⟨s,a,hs,.inl rfl⟩)
    ·have hqb:v'.ownBlock=some q:=hqb
     rcases hv with hv | hv
     ·exact .inr (.inr ⟨s,a,hs,.inr (by rw[←hv];exact hqb)⟩)
     ·rw[hv] at hqb
      injection hqb with hqb
      omega
   ·exact .inr (.inr ⟨t,b,hb,hqb⟩)
end
end Go.Proofs.YtmffkpkgbdcnjaaGreatDoor
