/-
  Texts of this proof, joined.
-/
import Derived.Test.YtmffkpkgbdcnjaaGreatDoorTopExact02
import Derived.Lib.MinMaxS
import Derived.Laws.Cover1
import Derived.Laws.MakeOwn
import Derived.Deep.CutBlock
set_option linter.unusedVariables false
set_option linter.unusedSimpArgs false
set_option maxRecDepth 100000
set_option maxHeartbeats 20000000
namespace Go.Proofs.YtmffkpkgbdcnjaaGreatDoor
section
open Go.RowKit Go.Maps
def kH(f:Nat->Pt)(a:Nat)(j:Nat): Pt:=f (a+j)
def jy(n a:Nat): Nat:=min (a+1024) n-a
def bO(f:Nat->Pt)(n:Nat): Nat->List Nat
 | 0=>[]
 | k+1=>bO f n k ++ (qy (kH f (1024*k)) (jy n (1024*k))).1
def bF(f:Nat->Pt)(n:Nat): Nat->List Nat
 | 0=>[]
 | k+1=>bF f n k ++ Db (kH f (1024*k)) (jy n (1024*k))
def Ky(f:Nat->Pt)(n k:Nat): Bool:=NP (kH f (1024*k)) (jy n (1024*k)) && (k == 0 || decide ((f (1024*k-1)).t < (f (1024*k)).t))
def bV(f:Nat->Pt)(n:Nat): Nat->Bool
 | 0=>true
 | k+1=>bV f n k && Ky f n k
theorem DV(f:Nat->Pt)(n:Nat)(hn:n<=4096): (qy f n).1.length<=130049:=by
 unfold qy;have:=BF f n hn 3
 split
 ·show (F.aZ 3 _).length<=_
  rw[F.bT];omega
 ·show ([]:List Nat).length<=_;simp
theorem K7(f:Nat->Pt)(n:Nat)(hn:n<=4096): ∀ k,(bO f n k).length<=k*130049
 | 0=>by simp[bO]
 | k+1=>by
  have ih:=K7 f n hn k;have h:=DV (kH f (1024*k)) (jy n (1024*k)) (by unfold jy;omega);show (bO f n k ++ _).length<=_
  rw[List.length_append];omega
theorem Lr(f:Nat->Pt)(hok:∀ j,eU (f j))(n:Nat)(hn:n<=4096): (Db f n).length<=40:=by
 unfold Db;have h0:=DV f n hn;have h1:=V.aK (u:=(qy f n).1.length) J;have h2:=V.aK (u:=zig (f 0).t) (dJ (hok 0).1.1 (hok 0).1.2);have h3:=V.aK (u:=zig (f (n-1)).t) (dJ (hok _).1.1 (hok _).1.2);have h4:=V.aK (u:=n) J;simp only[List.length_append];omega
theorem DI(f:Nat->Pt)(hok:∀ j,eU (f j))(n:Nat)(hn:n<=4096): ∀ k,(bF f n k).length<=k*40
 | 0=>by simp[bF]
 | k+1=>by
  have ih:=DI f hok n hn k;have h:=Lr (kH f (1024*k)) (fun j=>hok _) (jy n (1024*k)) (by unfold jy;omega);show (bF f n k ++ _).length<=_
  rw[List.length_append];omega
def fq(n:Nat): Nat:=(n+1023) / 1024
def EJ(s t:ByteArray): Bool:=Op.bytesLess s.toList t.toList || s.toList == t.toList
theorem Mk{s t:ByteArray}(h:EJ s t=false): t.toList < s.toList:=by
 unfold EJ at h
 rw[Bool.or_eq_false_iff,Proofs.bytesLess_eq] at h
 obtain⟨h1,h2⟩:=h;have h1':¬ s.toList < t.toList:=by simpa using h1
 have h2':s.toList≠t.toList:=by simpa using h2
 exact Classical.byContradiction fun h3=>h2' (List.le_antisymm (List.not_lt.1 h3) (List.not_lt.1 h1'))
def Dq(nm:Nat->ByteArray)(k:Nat): Prop:=∀ i,0 < i->i < k->EJ (nm i) (nm (i-1))=false
theorem Dq.lt{nm:Nat->ByteArray}{k:Nat}(h:Dq nm k)(i:Nat): ∀ d,0 < d->i+d < k->(nm i).toList < (nm (i+d)).toList
 | 0,h0,_=>absurd h0 J
 | d+1,_,hk=>by
  have h1:=Mk (h (i+(d+1)) J hk);rw[show i+(d+1)-1=i+d by omega] at h1
  rcases Nat.eq_zero_or_pos d with h0 | h0
  ·subst h0;exact h1
  ·exact List.lt_trans (Dq.lt h i d h0 J) h1
def FD(nm:Nat->ByteArray)(i:Nat): Bool:=fZ (nm i) && (i == 0 || !EJ (nm i) (nm (i-1)))
def nH(nm:Nat->ByteArray)(k:Nat): Bool:=(List.range k).all (FD nm)
theorem ER{nm:Nat->ByteArray}{k:Nat}(h:nH nm k=true): Dq nm k:=fun i h0 hi=>by
 have:=List.all_eq_true.1 h i (List.mem_range.2 hi);unfold FD at this
 simp only[Bool.and_eq_true,Bool.or_eq_true,beq_iff_eq] at this
 rcases this.2 with h1 | h1
 ·omega
 ·simpa using h1
theorem EP{nm:Nat->ByteArray}{k i:Nat}(h:nH nm k=true)(hi:i < k): fZ (nm i)=true:=by
 have:=List.all_eq_true.1 h i (List.mem_range.2 hi);unfold FD at this
 simp only[Bool.and_eq_true] at this
 exact this.1
structure PartsAt(w:World)(A:Option Addr)(k:Nat)(nm:Nat->ByteArray)(pa:Nat->Option Addr)(pn pc:Nat->Nat)(pf:Nat->Nat->Pt): Prop where
 row:0 < k->∃ b off,A=some ⟨b,off,none⟩/\b < w.heap.size/\∀ j,j < k->w.cell? ⟨b,off+j*2,none⟩=some (.string (nm j))/\w.cell? ⟨b,off+j*2+1,none⟩=some (.slice (pa j) (pn j) (pc j))
 pts:∀ j,j < k->dN w (fun q=>q < w.heap.size) (pa j) (pn j) (pf j)
 le:∀ j,j < k->pn j<=pc j/\pc j<=9223372036854775807
 ok:∀ j i,eU (pf j i)
 nsz:∀ j,j < k->(nm j).size<=9223372036854775807
theorem PartsAt.below{w w':World}{A:Option Addr}{k:Nat}{nm:Nat->ByteArray}{pa:Nat->Option Addr}{pn pc:Nat->Nat}{pf:Nat->Nat->Pt}(h:PartsAt w A k nm pa pn pc pf)(hb:Below w.heap.size w w'): PartsAt w' A k nm pa pn pc pf:=by
 refine⟨fun hk=>?_,fun j hj=>?_,h.le,h.ok,h.nsz⟩
 ·obtain ⟨b,off,e,hlt,hc⟩:=h.row hk
  exact⟨b,off,e,Nat.lt_of_lt_of_le hlt hb.size,fun j hj=>⟨(hb.cell (by exact hlt)).trans (hc j hj).1,(hb.cell (by exact hlt)).trans (hc j hj).2⟩⟩
 ·exact ((h.pts j hj).below hb).mono (fun _ hq=>Nat.lt_of_lt_of_le hq hb.size)
theorem vT.alloc{w0 w:World}{d m k y:Nat}{nm:Nat->ByteArray}(h:vT w0 [] d m k nm w)(hy:y=w.heap.size)(ty:TypeId)(cs:Array Value): vT w0 [(y,ty,cs)] d m k nm (w.alloc (.cells cs ty)):=by
 refine⟨h.own.alloc hy ty cs,World.ownsMap.alloc h.map _,h.ge,fun b hb=>?_⟩;rcases List.mem_cons.1 hb with rfl | hb
 ·exact h.ne _ List.mem_cons_self
 ·obtain rfl:=List.mem_singleton.1 hb
  have:=World.ownsMap.lt h.map;show y≠m
  omega
def sO(pf:Nat->Nat->Pt)(pn:Nat->Nat): Nat->List Nat
 | 0=>[]
 | i+1=>sO pf pn i ++ bO (pf i) (pn i) (fq (pn i))
def sF(nm:Nat->ByteArray)(pf:Nat->Nat->Pt)(pn:Nat->Nat)(k:Nat): Nat->List Nat
 | 0=>qG nm k k
 | i+1=>(sF nm pf pn k i ++ V.aF (fq (pn i))) ++ bF (pf i) (pn i) (fq (pn i))
def Kr(pf:Nat->Nat->Pt)(pn:Nat->Nat)(i:Nat): Bool:=bV (pf i) (pn i) (fq (pn i)) && decide (0 < pn i)
def sV(pf:Nat->Nat->Pt)(pn:Nat->Nat): Nat->Bool
 | 0=>true
 | i+1=>sV pf pn i && Kr pf pn i
theorem iP{l m:List Nat}(hl:∀ x ∈ l,x < 256)(hm:∀ x ∈ m,x < 256): ∀ x ∈ l ++ m,x < 256:=fun x hx=>(List.mem_append.1 hx).elim (hl x) (hm x)
theorem nL(s:ByteArray): ∀ x ∈ V.txt s,x < 256:=fun x hx=>by
 unfold V.txt at hx
 obtain⟨b,_,rfl⟩:=List.mem_map.1 hx;exact UInt8.toNat_lt _
theorem xA(nm:Nat->ByteArray)(n:Nat): ∀ k,∀ x ∈ qG nm n k,x < 256
 | 0=>V.bH n
 | k+1=>iP (iP (xA nm n k) (V.bH _)) (nL _)
theorem I7(f:Nat->Pt)(n:Nat): ∀ x ∈ Db f n,x < 256:=iP (iP (iP (V.bH _) (V.bH _)) (V.bH _)) (V.bH _)
theorem GZ(f:Nat->Pt)(n:Nat): ∀ k,∀ x ∈ bF f n k,x < 256
 | 0=>fun x hx=>by simp[bF] at hx
 | k+1=>iP (GZ f n k) (I7 _ _)
theorem Im(nm:Nat->ByteArray)(pf:Nat->Nat->Pt)(pn:Nat->Nat)(k:Nat): ∀ i,∀ x ∈ sF nm pf pn k i,x < 256
 | 0=>xA nm k k
 | i+1=>iP (iP (Im nm pf pn k i) (V.bH _)) (GZ _ _ _)
def four(n:Nat): List Nat:=[n%256,n / 256%256,n / 65536%256,n / 16777216%256]
theorem Ls(n:Nat): ∀ x ∈ four n,x < 256:=fun x hx=>by
 unfold four at hx
 simp only[List.mem_cons,List.not_mem_nil,or_false] at hx
 rcases hx with rfl | rfl | rfl | rfl<;>exact Nat.mod_lt _ J
def sB(nm:Nat->ByteArray)(pf:Nat->Nat->Pt)(pn:Nat->Nat)(k:Nat): List Nat × Int:=
 if (nH nm k && (decide (0 < k) && sV pf pn k))=true then
  (if 1048563 < (F.aZ 5 (sF nm pf pn k k)).length+(sO pf pn k).length then ([],3)
   else (sO pf pn k ++ F.aZ 5 (sF nm pf pn k k) ++ F.aZ 6 (four (F.aZ 5 (sF nm pf pn k k)).length),0))
 else ([],2)
structure Small(nm:Nat->ByteArray)(pf:Nat->Nat->Pt)(pn:Nat->Nat)(k:Nat): Prop where
 kb:k<=1024
 nb:∀ j,j < k->(nm j).size<=1048576
 pb:∀ j,j < k->pn j<=4096
 ob:∀ i,i<=k->(sO pf pn i).length<=268435456
 fb:∀ i,i<=k->(sF nm pf pn k i).length<=1048000
theorem aS.jR{w:World}{d M:Nat}{p:ByteArray->Option FS}{room:Nat}{used:Int}{ops c:Nat}(h:aS w d M p room used ops c): ∀ q t cs,ay w q t cs->q≠M:=by
 intro q t cs hq e;obtain⟨n0,D0,hown0,hn0,hF0⟩:=h.map;obtain⟨es,clock,e1,-⟩:=hown0;unfold ay at hq
 rw[e,e1] at hq
 cases hq
theorem aS.EU{w:World}{d M:Nat}{p:ByteArray->Option FS}{room:Nat}{used:Int}{ops c q:Nat}(h:aS w d M p room used ops c){v:Value}(hq:w.cell? ⟨q,0,none⟩=some v): q≠M:=by
 intro e;obtain⟨n0,D0,hown0,hn0,hF0⟩:=h.map;obtain⟨es,clock,e1,-⟩:=hown0;subst e;simp[World.cell?,e1] at hq
theorem aS.kd{w w':World}{d M:Nat}{p:ByteArray->Option FS}{room:Nat}{used:Int}{ops c:Nat}(h:aS w d M p room used ops c){used':Int}{ops':Nat}(hk:Keeps (fun q=>q=d) w w')(hb:ay w' d 71 #[.map (some M),Z (room:Nat),Z used',Z (-1),Z (ops':Nat)]): aS w' d M p room used' ops' c/\DStep w w' d M p p:=by
 refine⟨⟨hb,?_,fun s a hs=>⟨(h.fil s a hs).1.keeps hk ((h.fil s a hs).1.ne h.blk (by decide)),aG (h.fil s a hs).2 hk ?_⟩,h.dis⟩,hk.mono (fun q _ hq=>.inl hq),fun q _ hq=>hq⟩
 ·obtain ⟨n,D,h1,h2,h3⟩:=h.map
  have hM:w'.heap[M]? = w.heap[M]?:=hk.block M (World.ownsMap.lt h1) (fun e=>h.jR _ _ _ h.blk e.symm);obtain⟨es,clock,e1,e2⟩:=h1;exact⟨n,D,⟨es,clock,by rw[hM];exact e1,e2⟩,h2,h3⟩
 ·rintro g hg rfl
  exact own_ne (h.fil s a hs).2 h.blk (by decide) hg
theorem aS.Kl{w w':World}{d M:Nat}{p:ByteArray->Option FS}{room:Nat}{used:Int}{ops c:Nat}(h:aS w d M p room used ops c)(hb:Below w.heap.size (w.setCell ⟨d,4,none⟩ (Z ((ops+1:Nat)))) w'):
  aS w' d M p room used (ops+1) c/\DStep w w' d M p p:=by
 have h1:=h.kd (used':=used) (ops':=ops+1) (((Keeps.refl (fun q=>q=d) w)).setCell (p:=⟨d,4,none⟩) (fun _=>rfl) (Z ((ops+1:Nat)))) (h.blk.set 4 _);exact⟨h1.1.call (by simpa using hb),h1.2.below (by simpa using hb)⟩
theorem aS.kf{w w':World}{d M:Nat}{p:ByteArray->Option FS}{room:Nat}{used:Int}{ops c:Nat}{s:ByteArray}{a:FS}(h:aS w d M p room used ops c)(hs:p s=some a)(hk:Keeps (fun q=>q=a.blk) w w')(l:Nat)(b:Bool)(hb:ay w' a.blk 114 #[a.v,Z (l:Nat),.bool b]): aS w' d M (aV p s { a with lasts:=l,syn:=b }) room used ops c/\DStep w w' d M p (aV p s { a with lasts:=l,syn:=b }):=by
 have hfa:=h.fil s a hs;obtain⟨n,D,h1,h2,h3⟩:=h.map;refine⟨⟨h.blk.keeps hk (fun e=>hfa.1.ne h.blk (by decide) e.symm),?_,?_,?_⟩,⟨hk.mono (fun q _ hq=>.inr (.inr ⟨s,a,hs,.inl hq⟩)),?_⟩⟩
 ·have hM:w'.heap[M]? = w.heap[M]?:=hk.block M (World.ownsMap.lt h1) (fun e=>h.jR _ _ _ hfa.1 e.symm)
  obtain⟨es,clock,e1,e2⟩:=h1;refine⟨n,D,⟨es,clock,by rw[hM];exact e1,e2⟩,h2,?_⟩;rw[pz];have e:aV (dG p) s (yV { a with lasts:=l,syn:=b })=dG p:=by
   funext y
   unfold aV
   split
   ·rename_i e
    rw[e];unfold dG;rw[hs];rfl
   ·rfl
  rw[e];exact h3
 ·intro t x hx
  unfold aV at hx
  split at hx
  ·injection hx with hx
   subst hx;exact⟨hb,aG hfa.2 hk (fun g hg e=>by subst e;exact own_ne hfa.2 hfa.1 (by decide) hg)⟩
  ·rename_i hts
   have hd:=h.dis t s x a hts hx hs;exact⟨(h.fil t x hx).1.keeps hk hd.1,aG (h.fil t x hx).2 hk (fun g hg e=>by subst e;exact own_ne (h.fil t x hx).2 hfa.1 (by decide) hg)⟩
 ·intro t u x y htu hx hy
  unfold aV at hx hy
  split at hx<;>split at hy
  ·rename_i e1 e2
   exact absurd (e1.trans e2.symm) htu
  ·injection hx with hx
   subst hx
   rename_i e1 e2
   exact h.dis s u a y (fun e=>e2 e.symm) hs hy
  ·injection hy with hy
   subst hy
   rename_i e1 e2
   exact h.dis t s x a e1 hx hs
  ·exact h.dis t u x y htu hx hy
 ·rintro q hq (rfl | rfl | ⟨t,x,hx,hqx⟩)
  ·exact .inl rfl
  ·exact .inr (.inl rfl)
  ·unfold aV at hx
   split at hx
   ·injection hx with hx
    subst hx;exact .inr (.inr ⟨s,a,hs,hqx⟩)
   ·exact .inr (.inr ⟨t,x,hx,hqx⟩)
theorem aS.RX{w w':World}{d M:Nat}{p:ByteArray->Option FS}{room:Nat}{used:Int}{ops c n:Nat}{D:DataW Value}(h:aS w d M p room used ops c)(s:ByteArray)(hn:n<=c)(hF:gT D (dG p) c)(hm:w'.ownsMap Tryz.prog 9 eO M n (D.del (fV s)))(hg:w.grownBy w' (some M)): aS w' d M (fQ p s) room used ops c/\DStep w w' d M p (fQ p s):=by
 have hsub:∀ t x,fQ p s t=some x->p t=some x:=fun t x hx=>by
  unfold fQ at hx
  split at hx
  ·cases hx
  ·exact hx
 refine⟨⟨cZ hg h.blk (fun e=>h.jR _ _ _ h.blk (by injection e)),⟨n,_,hm,hn,?_⟩,?_,fun t u x y htu hx hy=>h.dis t u x y htu (hsub t x hx) (hsub u y hy)⟩,⟨(Keeps.refl _ w).grown hg (fun k hk hlt=>.inr (.inl (by injection hk with hk;exact hk.symm))),?_⟩⟩
 ·rw[I8]
  exact hF.del s
 ·intro t x hx
  have hf:=h.fil t x (hsub t x hx);refine⟨cZ hg hf.1 (fun e=>h.jR _ _ _ hf.1 (by injection e)),hf.2.kept hg ?_⟩;obtain⟨n1,D1,h1,-,-⟩:=h.map;exact iT h1 hf.2
 ·rintro q hq (rfl | rfl | ⟨t,x,hx,hqx⟩)
  ·exact .inl rfl
  ·exact .inr (.inl rfl)
  ·exact .inr (.inr ⟨t,x,hsub t x hx,hqx⟩)
theorem aS.TN{w w':World}{d M:Nat}{p:ByteArray->Option FS}{room:Nat}{used:Int}{ops c n:Nat}{D:DataW Value}(h:aS w d M p room used ops c)(s:ByteArray)(a:FS)(hfa:ay w a.blk 114 #[a.v,Z (a.lasts:Nat),.bool a.syn]/\w.ownsRow 0 5 1 a.v a.bs.length (a.bs.map V.aR))(hdis:∀ t b,t≠s->p t=some b->a.blk≠b.blk/\∀ g,a.v.ownBlock=some g->b.v.ownBlock≠some g)(hn:n<=c)(hF:gT D (dG p) c)(hm:w'.ownsMap Tryz.prog 9 eO M (n+1) (D.put (fV s) (.held (yV a))))(hg:w.grownBy w' (some M)): aS w' d M (aV p s a) room used ops (c+1)/\Keeps (fun q=>q=M) w w':=by
 obtain⟨n1,D1,h1,-,-⟩:=h.map;refine⟨⟨cZ hg h.blk (fun e=>h.jR _ _ _ h.blk (by injection e)),⟨n+1,_,hm,J,?_⟩,?_,?_⟩,(Keeps.refl _ w).grown hg (fun k hk hlt=>by injection hk with hk;exact hk.symm)⟩
 ·rw[pz]
  exact hF.put s _
 ·intro t x hx
  unfold aV at hx
  split at hx
  ·injection hx with hx
   subst hx;exact⟨cZ hg hfa.1 (fun e=>h.jR _ _ _ hfa.1 (by injection e)),hfa.2.kept hg (iT h1 hfa.2)⟩
  ·have hf:=h.fil t x hx
   exact⟨cZ hg hf.1 (fun e=>h.jR _ _ _ hf.1 (by injection e)),hf.2.kept hg (iT h1 hf.2)⟩
 ·intro t u x y htu hx hy
  unfold aV at hx hy
  split at hx<;>split at hy
  ·rename_i e1 e2
   exact absurd (e1.trans e2.symm) htu
  ·injection hx with hx
   subst hx
   rename_i e1 e2
   exact hdis u y e2 hy
  ·injection hy with hy
   subst hy
   rename_i e1 e2
   have:=hdis t x e1 hx;exact⟨fun e=>this.1 e.symm,fun g hg e=>this.2 g e hg⟩
  ·exact h.dis t u x y htu hx hy
theorem DStep.refl(w:World)(d M:Nat)(p:ByteArray->Option FS): DStep w w d M p p:=⟨Keeps.refl _ _,fun _ _ h=>h⟩
theorem DStep.size{w w':World}{d M:Nat}{p p':ByteArray->Option FS}(h:DStep w w' d M p p'): w.heap.size<=w'.heap.size:=h.keep.size
theorem kJ{w:World}{d M:Nat}{p:ByteArray->Option FS}{room:Nat}{used:Int}{ops c q:Nat}(h:aS w d M p room used ops c)(hq:w.heap.size<=q): ¬ aM d M p q:=fun hf=>by
 have:=h.dY hf;omega
theorem bQ{P:Program}{F:FuncId}{args:Array Value}{w:World}{Q:Ending->World->Prop}(S:World->Prop)(hS:S w)(h:∀ w',S w'->Calls P F args w' Q): Calls P F args w Q:=h w hS
theorem F4(w:World)(d M n cp:Nat)(A:Option Addr)(s:ByteArray)(bs:List Nat)(p:ByteArray->Option FS)(room:Nat)(used:Int)(ops c:Nat)(hD:aS w d M p room used ops c)(hlen:bs.length=n)(hsl:Sl w (fun q=>q < w.heap.size/\¬ aM d M p q) A n (aI bs))(hroom:used+(n:Int)<=(room:Int))(hlow : -1099511627776<=used)(hr:room<=1073741824)(hc:c < 512)(hbig:(gL p s).length+n<=1048576)(hs1:1<=s.size)(hs:s.size<=64)(ho:ops < 4611686018427387904):
  Calls Tryz.prog 79 #[.pointer (some ⟨d,0,none⟩),.string s,.slice A n cp] w fun e w'=>e=.returned (Z 0)/\∃ a,a.bs=gL p s ++ bs/\aS w' d M (aV p s a) room (used+(bs.length:Int)) (ops+1) (c+1)/\DStep w w' d M p (aV p s a):=by
 obtain⟨x,hx⟩:∃ x,x=w.heap.size:=⟨_,rfl⟩
 have o0:=Own.SN w hx 23 #[.pointer (some ⟨d,0,none⟩)] 9 #[.string s] 72 #[.slice A n cp] 9 #[.string s]
 have HD:=zh (zN hD (zN hlen (zN hsl (zN hx o0))));clear hD hlen hsl o0
 go_enter Tryz.func79,Tryz.ntmps79
 go_wp2_with fail;rw[<-hx];refine bQ (Own w [(x,23,#[.pointer (some ⟨d,0,none⟩)]),(x+1,9,#[.string s]),(x+1+1,72,#[.slice A n cp]),(x+1+1+1,9,#[.string s])]) HD.out.2.2.2.2 ?_;intro w1 h1;have H1:=zh h1;clear h1;have hb1:=H1.out.av;refine(Hw w1 d M 1 1 ops (Z (room:Nat)) (Z used) (some ⟨x+1+1+1,0,none⟩) (fun _=>s) 142 #[.pointer (some ⟨x+1+1,0,none⟩),.pointer (some ⟨x,0,none⟩),.pointer (some ⟨x+1,0,none⟩)] (GK w d M p room used ops c s bs) (HD.out.1.call hb1).blk ?_ J (fun _ _=>⟨hs1,hs⟩) ho (fun _=>by kernel_rfl) ?_ ?_).mono ?_
 ·intro _
  exact⟨x+1+1+1,0,rfl,(H1.out.get 3 rfl).lt,fun j hj=>by obtain rfl:j=0:=(J);exact H1.out.cell 3 0 rfl rfl⟩
 ·intro w2 hb2
  have hb3:Below w.heap.size w w2:=V.aB hb1 hb2;have o2:=H1.out.call hb2;refine(LG w2 d M (x+1+1) x (x+1) n cp A s bs p room used ops c (HD.out.1.call hb3) ⟨o2.cell 2 0 rfl rfl,o2.cell 0 0 rfl rfl,o2.cell 1 0 rfl rfl⟩ HD.out.2.1 ?_ (kJ HD.out.1 J) (kJ HD.out.1 J) (kJ HD.out.1 J) hroom hlow hr hc hbig hs).mono ?_
  ·exact (HD.out.2.2.1.below hb3 (fun q hq _=>hq.1)).mono (fun q hq=>⟨Nat.lt_of_lt_of_le hq.1 hb3.size,hq.2⟩)
  ·rintro e w3 ⟨rfl,a,ha,h3,h4⟩
   exact⟨rfl,a,ha,h3,(DStep.of_below hb3).trans h4⟩
 ·rintro w2 ⟨a,-,h2,-⟩
  exact⟨M,_,_,h2.blk⟩
 ·rintro e w2 ⟨rfl,w3,⟨a,ha,h3,h4⟩,hb2⟩
  have HR:=zh (zN ha (zN h3 (zN h4 hb2)));clear ha h3 h4 hb2;go_wp2_with fail;go_ret;have h5:=HR.out.2.1.Kl HR.out.2.2.2;exact⟨rfl,a,HR.out.1,h5.1,HR.out.2.2.1.trans h5.2⟩
end
section
open Go.RowKit
def DX(n m:Nat): Nat:=48+n / 10 ^ (11-m)%10
def jX(n m:Nat): List Nat:=(List.range 12).map (fun j=>if j < m then 0 else DX n j)
def RY(n:Nat): List Nat:=jX n 0
def aW(pre n:Nat): ByteArray:=ji (pre :: RY n)
theorem qp(n m:Nat): (jX n m).length=12:=by unfold jX;simp
theorem cu(pre n:Nat): (aW pre n).size=13:=by unfold aW ji RY jX;simp[ByteArray.size]
theorem Ah(n m i:Nat): (jX n m)[i]? = if i < 12 then some (if i < m then 0 else DX n i) else none:=by
 unfold jX;rw[List.getElem?_map]
 by_cases h:i < 12
 ·rw[List.getElem?_range h,if_pos h];rfl
 ·rw[List.getElem?_eq_none (by simp;omega),if_neg h];rfl
theorem Dz(n m i:Nat)(hi:i < 12): ∃ b:Nat,(((jX n m).map V.aR).toArray)[i]? = some (.int .u8 (b:Nat)):=by
 rw[List.getElem?_toArray,List.getElem?_map,Ah,if_pos hi];exact⟨_,rfl⟩
theorem qY(n:Nat): ((jX n 12).map V.aR).toArray=#[.int .u8 0,.int .u8 0,.int .u8 0,.int .u8 0,.int .u8 0,.int .u8 0,.int .u8 0,.int .u8 0,.int .u8 0,.int .u8 0,.int .u8 0,.int .u8 0]:=by rfl
theorem GX(n m:Nat)(hm:m < 12)(v:Value)(hv:v=.int .u8 (DX n m:Nat)): (((jX n (m+1)).map V.aR).toArray).setIfInBounds m v=((jX n m).map V.aR).toArray:=by
 subst hv;apply Array.ext_getElem?;intro i;rw[Array.getElem?_setIfInBounds,List.getElem?_toArray,List.getElem?_toArray,List.getElem?_map,List.getElem?_map,Ah,Ah]
 by_cases e:m=i
 ·subst e
  rw[if_pos rfl,if_pos (by simp[qp];omega),if_pos hm,if_neg J];rfl
 ·rw[if_neg e]
  by_cases h12:i < 12
  ·rw[if_pos h12,if_pos h12]
   by_cases e2:i < m
   ·rw[if_pos J,if_pos e2]
   ·rw[if_neg J,if_neg e2]
  ·rw[if_neg h12,if_neg h12]
theorem DY(n m:Nat)(hm:m < 12): n / 10 ^ (12-(m+1)) / 10=n / 10 ^ (12-m):=by
 rw[Nat.div_div_eq_div_mul,show 12-m=12-(m+1)+1 by omega,Nat.pow_succ]
theorem FE(p:Nat)(l:List Nat)(hp:p < 256): (⟨#[UInt8.ofNat p]⟩:ByteArray) ++ ji l=ji (p :: l):=by
 apply ByteArray.ext;simp[ji,ByteArray.data_append]
theorem pI(w:World)(n:Nat)(hn:n < 1000000): Calls Tryz.prog 80 #[Z (n:Nat)] w fun e w'=>e=.returned (.string (aW 119 n))/\Below w.heap.size w w':=by
 obtain⟨x,hx⟩:∃ x,x=w.heap.size:=⟨_,rfl⟩
 have o0:=Own.bn w hx 244 ((jX n 12).map V.aR).toArray;rw[qY] at o0
 have HO:=zh (zN hx o0);clear o0
 go_enter Tryz.func80,Tryz.ntmps80
 go_wp2_with fail;rw[<-hx];clear hx
 go_loopw [0,4] (fun s0 i wr=>∃ m cur:Nat,m<=12/\i=Z ((m:Int)-1)/\s0=Z (cur:Nat)/\cur < 1000000/\cur=n / 10 ^ (12-m)/\Own w [(x,244,((jX n m).map V.aR).toArray)] wr) (fun _ i _=>(intOf i+1).toNat)
 case atStart=>exact ⟨12,n,J,rfl,rfl,hn,by simp,by rw[qY];exact HO.out.2⟩
 case round=>
  obtain⟨m,cur,hm,rfl,rfl,hcl,hcur,hbel⟩:=hrel;have HC:=zh hcur;clear hcur;rcases Nat.eq_zero_or_pos m with hm0 | hm0
  ·subst hm0
   have hsl:=V.DN (hbel.get 0 rfl);rw[qp] at hsl
   have hcv:=vY (P:=Tryz.prog) (c:=12) 72 5 9 Tryz.underlying72 Tryz.underlying5 Tryz.underlying9 (bs:=jX n 0) (qp n 0) hsl;have HB:=zh hbel;clear hbel hsl;go_wp2_with fail;go_ret;exact⟨congrArg (fun b=>Ending.returned (.string b)) (FE 119 (jX n 0) J),HB.out.av⟩
  ·obtain ⟨m,rfl⟩:∃ m',m=m'+1:=⟨m-1,J⟩
   have e0:(((m+1:Nat):Int)-1)=(m:Int):=J;have hlt:m < 12:=J;rw[e0];obtain⟨b0,hb0⟩:=Dz n (m+1) m hlt;have z0:wr.cell? ⟨x,m,none⟩=some (.int .u8 (b0:Nat)):=((hbel.get 0 rfl).cell m).trans hb0;clear hb0;have zf:=hbel.free 0 rfl;have HB:=zh hbel;clear hbel e0;go_wp2_with fail
   go_roundw
   case rel=>
    refine⟨m,cur / 10,J,rfl,by go_num,J,?_,?_⟩
    ·rw[HC.out];exact DY n m hlt
    ·have h1:=HB.out.set 0 m rfl (.int .u8 (48+(cur:Int)%10))
     have h2:(48+(cur:Int)%10)=((DX n m:Nat):Int):=by
      unfold DX;rw[show 11-m=12-(m+1) by omega,<-HC.out];omega
     rw[GX n m hlt _ (by rw[h2])] at h1
     exact h1
   case measure=>simp[intOf]
end
namespace V
open Go.RowKit
def fu(t:Int): Bool:=decide (-1152921504606846976<=t) && decide (t<=1152921504606846976)
def dx(s:Bool)(l g:Int): Bool:=decide (0<=g) && (fu g && (fu l && (s || decide (l=0))))
theorem tY(t:Int)(w:World): Calls Tryz.prog 139 #[Z t] w fun e w'=>e=.returned (.bool (fu t))/\w=w':=by
 by_cases h1 : -1152921504606846976<=t
 ·by_cases h2:t<=1152921504606846976
  ·have e:fu t=true:=by unfold fu;simp[h1,h2]
   rw[e];clear e
   go_enter Tryz.func139,Tryz.ntmps139
   go_wp2
   go_ret;exact⟨rfl,rfl⟩
  ·have e:fu t=false:=by unfold fu;simp[h2]
   rw[e];clear e
   go_enter Tryz.func139,Tryz.ntmps139
   go_wp2
   go_ret;exact⟨rfl,rfl⟩
 ·have e:fu t=false:=by unfold fu;simp[h1]
  rw[e];clear e
  go_enter Tryz.func139,Tryz.ntmps139
  go_wp2
  go_ret;exact⟨rfl,rfl⟩
theorem iU(s:Bool)(l g:Int)(w:World): Calls Tryz.prog 119 #[.agg #[.bool s,Z l,Z g]] w fun e w'=>e=.returned (.bool (dx s l g))/\Below w.heap.size w w':=by
 have av:=(((Below.refl w.heap.size w).alloc (Nat.le_refl _) (.cells #[.bool s,Z l,Z g] 79)).alloc (by simp) (.cells #[.bool false,Z 0,Z g] 79))
 have HB:=zh av;clear av
 by_cases hg:0<=g
 ·obtain ⟨b1,h1⟩:∃ b,b=fu g:=⟨_,rfl⟩
  obtain⟨b2,h2⟩:∃ b,b=fu l:=⟨_,rfl⟩
  have hr:dx s l g=(b1 && (b2 && (s || decide (l=0)))):=by unfold dx;rw[<-h1,<-h2];simp[hg]
  rw[hr];have H1:=zh h1;have H2:=zh h2;clear hr h1 h2
  go_enter Tryz.func119,Tryz.ntmps119
  go_wp2_with fail;refine(tY _ _).mono ?_;rintro e w1 ⟨rfl,rfl⟩;rw[<-H1.out]
  cases b1
  ·go_wp2_with fail
   go_ret;exact⟨rfl,HB.out⟩
  ·go_wp2_with fail
   refine(tY _ _).mono ?_;rintro e w1 ⟨rfl,rfl⟩;rw[<-H2.out]
   cases b2
   ·go_wp2_with fail
    go_ret;exact⟨rfl,HB.out⟩
   ·cases s
    ·by_cases h0:l=0
     ·subst h0
      go_wp2_with fail;go_ret;exact⟨rfl,HB.out⟩
     ·have e:(l == 0)=false:=by simp[h0]
      have e2:decide (l=0)=false:=by simp[h0]
      clear h0;go_wp2_with fail;go_ret;exact⟨by rw[e2];rfl,HB.out⟩
    ·go_wp2_with fail
     go_ret;exact⟨rfl,HB.out⟩
 ·have hr:dx s l g=false:=by unfold dx;simp[hg]
  rw[hr];clear hr
  go_enter Tryz.func119,Tryz.ntmps119
  go_wp2_with fail;go_ret;exact⟨rfl,HB.out⟩
def Dp(w:World)(s:Bool)(l g:Int)(er:Int)(e:Ending)(w':World): Prop:=
 e=.returned (.tuple #[.agg #[.bool s,Z l,Z g],Z er])/\Below w.heap.size w w'
theorem _root_.Go.Proofs.YtmffkpkgbdcnjaaGreatDoor.ay.Pw{w:World}{g:Nat}{t:TypeId}{a b c:Value}(h:ay w g t #[a,b,c])(x y z:Value): ay (((w.setCell ⟨g,0,none⟩ x).setCell ⟨g,1,none⟩ y).setCell ⟨g,2,none⟩ z) g t #[x,y,z]:=by
 simpa using ((h.set 0 x).set 1 y).set 2 z
theorem tH{B:Nat}{w w':World}{g:Nat}(h:Below B w w')(hg:B<=g)(x y z:Value): Below B w (((w'.setCell ⟨g,0,none⟩ x).setCell ⟨g,1,none⟩ y).setCell ⟨g,2,none⟩ z):=
 ((h.setCell (by simpa using hg) _).setCell (by simpa using hg) _).setCell (by simpa using hg) _
theorem Sz(g:Int)(w:World)(h:dx false 0 g=true): Calls Tryz.prog 55 #[Z g] w (Dp w false 0 g 0):=by
 have HR:=zh h;clear h;obtain⟨x,hx⟩:∃ x,x=w.heap.size:=⟨_,rfl⟩
 have HX:=zh hx
 go_enter Tryz.func55,Tryz.ntmps55
 go_wp2_with fail;refine(iU _ _ _ _).mono ?_;rintro e w1 ⟨rfl,hb⟩;rw[HR.out];have b0:ay w1 x 79 #[.bool false,Z 0,Z 0]:=by
  rw[hx];exact ((ay.fresh w _ _).alloc _).below hb (by simp;omega)
 have b1:ay w1 (x+1) 79 #[.bool false,Z 0,Z g]:=by
  rw[hx];have h:=ay.fresh (w.alloc (.cells #[.bool false,Z 0,Z 0] 79)) 79 #[.bool false,Z 0,Z g]
  have h':=h.below hb (by simp)
  simpa using h'
 have av:Below w.heap.size w w1:=(((Below.refl w.heap.size w).alloc (Nat.le_refl _) _).alloc (by simp) _).trans (hb.mono (by simp;omega));have f0:=b0.frozen;have p0:=b0.cell 0;have p1:=b0.cell 1;have p2:=b0.cell 2;have q0:=b1.cell 0;have q1:=b1.cell 1;have q2:=b1.cell 2;simp at p0 p1 p2 q0 q1 q2
 rw[<-hx];have HB:=zh (zN b0 (zN av hx));clear hb b0 b1 av hx;go_wp2_with fail;have b2:=HB.out.1.Pw (.bool false) (Z 0) (Z g);have bel2:=tH (g:=x) HB.out.2.1 (by have:=HB.out.2.2;omega) (.bool false) (Z 0) (Z g);generalize (((w1.setCell ⟨x,0,none⟩ (.bool false)).setCell ⟨x,1,none⟩ (Z 0)).setCell ⟨x,2,none⟩ (Z g))=w2 at b2 bel2 ⊢
 have r0:=b2.cell 0;have r1:=b2.cell 1;have r2:=b2.cell 2;simp at r0 r1 r2
 exact bodyPost_ret (v:=.tuple #[.agg #[.bool false,Z 0,Z g],Z 0]) (by simp[results,Tryz.results55,go_sem,r0,r1,r2]) rfl ⟨rfl,bel2⟩
theorem nW{s:Bool}{l g:Int}(h:dx s l g=true): 0<=g/\g<=1152921504606846976/\-1152921504606846976<=l/\l<=1152921504606846976/\(s=true\/l=0):=by
 unfold dx fu at h
 simp only[Bool.and_eq_true,Bool.or_eq_true,decide_eq_true_eq] at h
 obtain⟨h1,⟨h2,h3⟩,⟨h4,h5⟩,h6⟩:=h;exact⟨h1,h3,h4,h5,h6⟩
def kX(s:Bool)(l g:Int): Int:=if (dx s l g && s)=true then max (l-g) (-1152921504606846976) else 0
def oO(s:Bool)(l g:Int): Bool:=dx s l g && s
def Ry(w:World)(s:Bool)(l g:Int)(e:Ending)(w':World): Prop:=
 e=.returned (.tuple #[Z (kX s l g),.bool (oO s l g)])/\Below w.heap.size w w'
theorem ru{w w1:World}{t:TypeId}{cs:Array Value}(hb:Below (w.alloc (.cells cs t)).heap.size (w.alloc (.cells cs t)) w1): ay w1 w.heap.size t cs/\Below w.heap.size w w1:=
 ⟨(ay.fresh w t cs).below hb (by simp),((Below.refl w.heap.size w).alloc (Nat.le_refl _) _).trans (hb.mono (by simp))⟩
theorem DF(s:Bool)(l g:Int)(w:World): Calls Tryz.prog 52 #[.agg #[.bool s,Z l,Z g]] w (Ry w s l g):=by
 cases hr:dx s l g with
 | false=>
  have e1:kX s l g=0:=by unfold kX;rw[hr];rfl
  have e2:oO s l g=false:=by unfold oO;rw[hr];rfl
  have HR:=zh (zN hr (zN e1 e2));clear hr e1 e2
  go_enter Tryz.func52,Tryz.ntmps52
  go_wp2_with fail;refine(iU _ _ _ _).mono ?_;rintro e w1 ⟨rfl,hb⟩;rw[HR.out.1];have HB:=zh (ru hb).2;clear hb;go_wp2_with fail;go_ret2;exact⟨by rw[HR.out.2.1,HR.out.2.2];rfl,HB.out⟩
 | true=>
  obtain⟨g0,g1,l0,l1,-⟩:=nW hr
  cases s with
  | false=>
   have e1:kX false l g=0:=by unfold kX;rw[hr];rfl
   have e2:oO false l g=false:=by unfold oO;rw[hr];rfl
   have HR:=zh (zN hr (zN e1 e2));clear hr e1 e2
   go_enter Tryz.func52,Tryz.ntmps52
   go_wp2_with fail;refine(iU _ _ _ _).mono ?_;rintro e w1 ⟨rfl,hb⟩;rw[HR.out.1];obtain⟨b0,av⟩:=ru hb;have p0:=b0.cell 0;simp at p0
   have HB:=zh av;clear hb av b0;go_wp2_with fail;go_ret2;exact⟨by rw[HR.out.2.1,HR.out.2.2];rfl,HB.out⟩
  | true=>
   have e1:kX true l g=max (l-g) (-1152921504606846976):=by unfold kX;rw[hr];rfl
   have e2:oO true l g=true:=by unfold oO;rw[hr];rfl
   have HR:=zh (zN hr (zN e1 e2));clear hr e1 e2
   go_enter Tryz.func52,Tryz.ntmps52
   go_wp2_with fail;refine(iU _ _ _ _).mono ?_;rintro e w1 ⟨rfl,hb⟩;rw[HR.out.1];obtain⟨b0,av⟩:=ru hb;have p0:=b0.cell 0;have p1:=b0.cell 1;have p2:=b0.cell 2;simp at p0 p1 p2
   have HB:=zh av;clear hb av b0;go_wp2_with fail
   all_goals
    go_ret2;refine⟨?_,HB.out⟩;rw[HR.out.2.1,HR.out.2.2]
    first
    | rfl
    | (rw[show max (l-g) (-1152921504606846976) = -1152921504606846976 by omega];rfl)
    | (rw[show max (l-g) (-1152921504606846976)=l-g by omega];rfl)
def pJ(ok:Bool)(wm:Int)(f:Nat->Int): Nat->Nat->Int
 | 0,_=>-1
 | m+1,k=>if (ok && decide (f k < wm))=true then (k:Int) else pJ ok wm f m (k+1)
def Np(w:World)(r:Int)(e:Ending)(w':World): Prop:=e=.returned (Z r)/\Below w.heap.size w w'
theorem OI(s:Bool)(l g:Int)(w:World)(A:Option Addr)(len c:Nat)(f:Nat->Int)(hsl:Sl w (fun k=>k < w.heap.size) A len (fun j=>Z (f j)))(hlen:len<=1048576):
  Calls Tryz.prog 73 #[.agg #[.bool s,Z l,Z g],.slice A len c] w (Np w (pJ (oO s l g) (kX s l g) f len 0)):=by
 have HS:=zh hsl;clear hsl
 go_enter Tryz.func73,Tryz.ntmps73
 go_wp2_with fail;refine(DF _ _ _ _).mono ?_;rintro e w1 ⟨rfl,hb⟩;have av:=(ru hb).2;obtain⟨ok,hok⟩:∃ b,b=oO s l g:=⟨_,rfl⟩
 obtain⟨wm,hwm⟩:∃ b,b=kX s l g:=⟨_,rfl⟩
 rw[<-hok,<-hwm];have H1:=zh (zN av (zN hok hwm));clear hb av hok hwm;go_wp2_with fail
 go_loopw [16] (fun i wr=>∃ k:Nat,k<=len/\i=Z k/\wr=w1/\pJ ok wm f len 0=pJ ok wm f (len-k) k) (fun i _=>len-(intOf i).toNat)
 case atStart=>exact ⟨0,Nat.zero_le _,rfl,rfl,rfl⟩
 case round=>
  obtain⟨k,hk,rfl,rfl,hlr⟩:=hrel
  by_cases hlt:k < len
  ·obtain ⟨m,hm⟩:∃ m,len-k=m+1:=⟨len-k-1,J⟩
   rw[hm] at hlr
   obtain⟨b,off,hA,-,hc⟩:=(HS.out.below H1.out.1 (fun _ h _=>h)) J;have ck:wr.cell? ⟨b,off+k,none⟩=some (Z (f k)):=hc k hlt;subst hA;obtain⟨t,ht⟩:∃ t,t=f k:=⟨_,rfl⟩
   rw[<-ht] at ck
   have HL:=zh (zN hlr (zN hm ht));clear hlr hm hc ht
   cases ok with
   | false=>
    go_wp2_with fail
    go_roundw
    case rel=>
     obtain⟨h1,h2,h3⟩:=HL.out;refine⟨k+1,J,by go_num,by trivial,?_⟩;rw[h1,show len-(k+1)=m by omega];rfl
    case measure=>simp[intOf];omega
   | true=>
    by_cases hlw:t < wm
    ·have d:decide (t < wm)=true:=by simp[hlw]
     go_wp2_with fail;go_ret;obtain⟨h1,h2,h3⟩:=HL.out;obtain⟨g1,g2,g3⟩:=H1.out;refine⟨?_,g1⟩;rw[<-g2,<-g3,h1];unfold pJ;rw[if_pos (by rw[<-h3,d];rfl)];rfl
    ·have d:decide (t < wm)=false:=by simp;omega
     go_wp2_with fail
     go_roundw
     case rel=>
      obtain⟨h1,h2,h3⟩:=HL.out;refine⟨k+1,J,by go_num,by trivial,?_⟩;rw[h1,show len-(k+1)=m by omega];show (if _ then _ else _)=_
      rw[<-h3,d,if_neg (by decide)]
     case measure=>simp[intOf];omega
  ·have hk':k=len:=J
   have HL:=zh (zN hlr hk');clear hlr hk';go_wp2_with fail;go_ret;obtain⟨h1,h2⟩:=HL.out;obtain⟨g1,g2,g3⟩:=H1.out;refine⟨?_,g1⟩;rw[<-g2,<-g3,h1,h2,Nat.sub_self];rfl
def iL(s:Bool)(l:Int)(f:Nat->Int): Nat->Bool × Int
 | 0=>(s,l)
 | k+1=>if (!(iL s l f k).1 || decide ((iL s l f k).2 < f k))=true then (true,f k) else iL s l f k
def kF(ok:Bool)(f:Nat->Int): Nat->Bool
 | 0=>ok
 | k+1=>kF ok f k && fu (f k)
def Nr(w:World)(s:Bool)(l g:Int)(f:Nat->Int)(n:Nat)(e:Ending)(w':World): Prop:=
 (if kF (dx s l g) f n=true then e=.returned (.tuple #[.agg #[.bool (iL s l f n).1,Z (iL s l f n).2,Z g],Z 0])
  else e=.returned (.tuple #[.agg #[.bool false,Z 0,Z 0],Z 2]))/\Below w.heap.size w w'
theorem EZ(s:Bool)(l g:Int)(w:World)(A:Option Addr)(len c:Nat)(f:Nat->Int)(hsl:Sl w (fun k=>k < w.heap.size) A len (fun j=>Z (f j)))(hlen:len<=1048576):
  Calls Tryz.prog 77 #[.agg #[.bool s,Z l,Z g],.slice A len c] w (Nr w s l g f len):=by
 have HS:=zh hsl;clear hsl;obtain⟨x,hx⟩:∃ x,x=w.heap.size:=⟨_,rfl⟩
 have HX:=zh hx
 go_enter Tryz.func77,Tryz.ntmps77
 go_wp2_with fail;refine(iU _ _ _ _).mono ?_;rintro e w1 ⟨rfl,hb⟩;have b0:ay w1 x 79 #[.bool s,Z l,Z g]:=by
  rw[hx];exact ((ay.fresh w _ _).alloc _).below hb (by simp;omega)
 have b1:ay w1 (x+1) 79 #[.bool false,Z 0,Z 0]:=by
  rw[hx];have h:=ay.fresh (w.alloc (.cells #[.bool s,Z l,Z g] 79)) 79 #[.bool false,Z 0,Z 0]
  have h':=h.below hb (by simp)
  simpa using h'
 have av:Below w.heap.size w w1:=(((Below.refl w.heap.size w).alloc (Nat.le_refl _) _).alloc (by simp) _).trans (hb.mono (by simp;omega));rw[<-hx];obtain⟨ok,hok⟩:∃ b,b=dx s l g:=⟨_,rfl⟩
 rw[<-hok];have HB:=zh (zN b0 (zN b1 (zN av (zN hx hok))));clear hb b0 b1 av hx hok;go_wp2_with fail
 go_loopw [6,13] (fun o i wr=>∃ k:Nat,k<=len/\i=Z k/\o=.bool (kF ok f k)/\ay wr x 79 #[.bool (iL s l f k).1,Z (iL s l f k).2,Z g]/\ay wr (x+1) 79 #[.bool false,Z 0,Z 0]/\Below w.heap.size w wr) (fun _ i _=>len-(intOf i).toNat)
 case atStart=>exact ⟨0,Nat.zero_le _,rfl,rfl,HB.out.1,HB.out.2.1,HB.out.2.2.1⟩
 case round=>
  obtain⟨k,hk,rfl,rfl,hb0,hb1,hbel⟩:=hrel;have ho:kF ok f (k+1)=(kF ok f k && fu (f k)):=rfl;have hn:iL s l f (k+1)=if (!(iL s l f k).1 || decide ((iL s l f k).2 < f k))=true then (true,f k) else iL s l f k:=rfl
  obtain⟨o,hoo⟩:∃ b,b=kF ok f k:=⟨_,rfl⟩
  obtain⟨st,hst⟩:∃ b,b=iL s l f k:=⟨_,rfl⟩
  obtain⟨s',l'⟩:=st;rw[<-hst] at hn hb0
  rw[<-hoo] at ho
  rw[<-hoo];simp only[] at hn hb0
  by_cases hlt:k < len
  ·obtain ⟨b,off,hA,-,hc⟩:=(HS.out.below hbel (fun _ h _=>h)) J
   have ck:wr.cell? ⟨b,off+k,none⟩=some (Z (f k)):=hc k hlt;subst hA;obtain⟨t,ht⟩:∃ t,t=f k:=⟨_,rfl⟩
   rw[<-ht] at ck ho hn
   obtain⟨it,hit⟩:∃ t',t'=fu t:=⟨_,rfl⟩
   rw[<-hit] at ho
   have f0:=hb0.frozen;have p0:=hb0.cell 0;have p1:=hb0.cell 1;simp at p0 p1
   have HR:=zh (zN hb0 (zN hb1 (zN hbel (zN ho (zN hn hit)))));clear hb0 hb1 hbel ho hn hit hc ht hst hoo;have fin1:∀ wz o' st',kF ok f (k+1)=o'->iL s l f (k+1)=st'->ay wz x 79 #[.bool st'.1,Z st'.2,Z g]->ay wz (x+1) 79 #[.bool false,Z 0,Z 0]->Below w.heap.size w wz->
     ∃ j:Nat,j<=len/\Z ((k:Int)+1)=Z j/\Value.bool o'=.bool (kF ok f j)/\ay wz x 79 #[.bool (iL s l f j).1,Z (iL s l f j).2,Z g]/\ay wz (x+1) 79 #[.bool false,Z 0,Z 0]/\Below w.heap.size w wz:=by
    intro wz o' st' e1 e2 h1 h2 h3;exact⟨k+1,J,by go_num,by rw[e1],by rw[e2];exact h1,h2,h3⟩
   have F1:=zh fin1;clear fin1;have belset:Below w.heap.size w ((wr.setCell ⟨x,0,none⟩ (.bool true)).setCell ⟨x,1,none⟩ (Z t)):=(HR.out.2.2.1.setCell (by have:=HX.out;show _<=x;omega) _).setCell (by have:=HX.out;show _<=x;omega) _;have b0set:ay ((wr.setCell ⟨x,0,none⟩ (.bool true)).setCell ⟨x,1,none⟩ (Z t)) x 79 #[.bool true,Z t,Z g]:=by simpa using (HR.out.1.set 0 (.bool true)).set 1 (Z t)
   have b1set:ay ((wr.setCell ⟨x,0,none⟩ (.bool true)).setCell ⟨x,1,none⟩ (Z t)) (x+1) 79 #[.bool false,Z 0,Z 0]:=(HR.out.2.1.far (by show x+1≠x;omega) _).far (by show x+1≠x;omega) _
   have HW:=zh (zN belset (zN b0set b1set));clear belset b0set b1set
   cases o with
   | false=>
    cases s' with
    | false=>
     go_wp2_with fail
     go_roundw
     case rel=>exact F1.out _ false (true,t) (by rw[HR.out.2.2.2.1];rfl) (by rw[HR.out.2.2.2.2.1];rfl) HW.out.2.1 HW.out.2.2 HW.out.1
     case measure=>simp[intOf];omega
    | true=>
     by_cases hgt:l' < t
     ·have d:decide (l' < t)=true:=by simp[hgt]
      go_wp2_with fail
      go_roundw
      case rel=>exact F1.out _ false (true,t) (by rw[HR.out.2.2.2.1];rfl) (by rw[HR.out.2.2.2.2.1,d];rfl) HW.out.2.1 HW.out.2.2 HW.out.1
      case measure=>simp[intOf];omega
     ·have d:decide (l' < t)=false:=by simp;omega
      go_wp2_with fail
      go_roundw
      case rel=>exact F1.out _ false (true,l') (by rw[HR.out.2.2.2.1];rfl) (by rw[HR.out.2.2.2.2.1,d];rfl) HR.out.1 HR.out.2.1 HR.out.2.2.1
      case measure=>simp[intOf];omega
   | true=>
    go_wp2_with fail;refine(tY _ _).mono ?_;rintro e w2 ⟨rfl,rfl⟩;rw[<-HR.out.2.2.2.2.2]
    cases s' with
    | false=>
     go_wp2_with fail
     go_roundw
     case rel=>exact F1.out _ it (true,t) (by rw[HR.out.2.2.2.1];rfl) (by rw[HR.out.2.2.2.2.1];rfl) HW.out.2.1 HW.out.2.2 HW.out.1
     case measure=>simp[intOf];omega
    | true=>
     by_cases hgt:l' < t
     ·have d:decide (l' < t)=true:=by simp[hgt]
      go_wp2_with fail
      go_roundw
      case rel=>exact F1.out _ it (true,t) (by rw[HR.out.2.2.2.1];rfl) (by rw[HR.out.2.2.2.2.1,d];rfl) HW.out.2.1 HW.out.2.2 HW.out.1
      case measure=>simp[intOf];omega
     ·have d:decide (l' < t)=false:=by simp;omega
      go_wp2_with fail
      go_roundw
      case rel=>exact F1.out _ it (true,l') (by rw[HR.out.2.2.2.1];rfl) (by rw[HR.out.2.2.2.2.1,d];rfl) HR.out.1 HR.out.2.1 HR.out.2.2.1
      case measure=>simp[intOf];omega
  ·obtain rfl:k=len:=J
   have p0:=hb0.cell 0;have p1:=hb0.cell 1;have p2:=hb0.cell 2;have q0:=hb1.cell 0;have q1:=hb1.cell 1;have q2:=hb1.cell 2;have f1:=hb1.frozen;simp at p0 p1 p2 q0 q1 q2
   have HR:=zh (zN hb1 (zN hbel (zN hoo hst)));clear hb0 hb1 hbel ho hn hoo hst
   cases o with
   | false=>
    go_wp2_with fail;have b2:=HR.out.1.Pw (.bool false) (Z 0) (Z 0);have bel2:=tH (g:=x+1) HR.out.2.1 (by have:=HX.out;omega) (.bool false) (Z 0) (Z 0);generalize (((wr.setCell ⟨x+1,0,none⟩ (.bool false)).setCell ⟨x+1,1,none⟩ (Z 0)).setCell ⟨x+1,2,none⟩ (Z 0))=w2 at b2 bel2 ⊢
    have r0:=b2.cell 0;have r1:=b2.cell 1;have r2:=b2.cell 2;simp at r0 r1 r2
    refine bodyPost_ret (v:=.tuple #[.agg #[.bool false,Z 0,Z 0],Z 2]) (by simp[results,Tryz.results77,go_sem,r0,r1,r2]) rfl ⟨?_,bel2⟩;rw[<-HB.out.2.2.2.2,<-HR.out.2.2.1,if_neg (by simp)]
   | true=>
    go_wp2_with fail;have b2:=HR.out.1.Pw (.bool s') (Z l') (Z g);have bel2:=tH (g:=x+1) HR.out.2.1 (by have:=HX.out;omega) (.bool s') (Z l') (Z g);generalize (((wr.setCell ⟨x+1,0,none⟩ (.bool s')).setCell ⟨x+1,1,none⟩ (Z l')).setCell ⟨x+1,2,none⟩ (Z g))=w2 at b2 bel2 ⊢
    have r0:=b2.cell 0;have r1:=b2.cell 1;have r2:=b2.cell 2;simp at r0 r1 r2
    refine bodyPost_ret (v:=.tuple #[.agg #[.bool s',Z l',Z g],Z 0]) (by simp[results,Tryz.results77,go_sem,r0,r1,r2]) rfl ⟨?_,bel2⟩;rw[<-HB.out.2.2.2.2,<-HR.out.2.2.1,<-HR.out.2.2.2,if_pos rfl]
end V
namespace V
theorem Cc(wm t:Int): pJ false wm (fun _=>t) 1 0 = -1:=rfl
end V
namespace V
open Go.RowKit
structure Dm where
 s: Bool
 l:Int
 g:Int
 n:Nat
 e:Nat
def oL(e:Nat): Dm:=⟨false,0,0,0,e⟩
def Ke(lag:Int)(n:Nat)(k:List Nat): Dm:=
 if (aJ k).2.2≠0 then oL (aJ k).2.2
 else if dx true (zag (aJ k).1) lag=true then ⟨true,zag (aJ k).1,lag,n+(aJ k).2.1,0⟩ else oL 11
def Kc(lag:Int)(n:Nat)(m:List Nat): Dm:=
 if (aJ m).2.2≠0 then oL (aJ m).2.2
 else if 1 < (aJ m).1 then oL 11
 else if (aJ m).1=1 then Ke lag (n+(aJ m).2.1) (m.drop (aJ m).2.1)
 else if dx false 0 lag=true then ⟨false,0,lag,n+(aJ m).2.1,0⟩ else oL 11
def yh(l:List Nat): Dm:=
 if (aJ l).2.2≠0 then oL (aJ l).2.2 else Kc (IntKind.i64.wrap (aJ l).1) (aJ l).2.1 (l.drop (aJ l).2.1)
theorem yj(l:List Nat): yh l=if (aJ l).2.2≠0 then oL (aJ l).2.2 else Kc (IntKind.i64.wrap (aJ l).1) (aJ l).2.1 (l.drop (aJ l).2.1):=rfl
theorem vF(lag:Int)(n:Nat)(m:List Nat): Kc lag n m=if (aJ m).2.2≠0 then oL (aJ m).2.2
 else if 1 < (aJ m).1 then oL 11
 else if (aJ m).1=1 then Ke lag (n+(aJ m).2.1) (m.drop (aJ m).2.1)
 else if dx false 0 lag=true then ⟨false,0,lag,n+(aJ m).2.1,0⟩ else oL 11:=rfl
theorem Ci(lag:Int)(n:Nat)(k:List Nat): Ke lag n k=if (aJ k).2.2≠0 then oL (aJ k).2.2
 else if dx true (zag (aJ k).1) lag=true then ⟨true,zag (aJ k).1,lag,n+(aJ k).2.1,0⟩ else oL 11:=rfl
def KJ(l:List Nat)(w:World)(e:Ending)(w':World): Prop:=
 e=.returned (.tuple #[.agg #[.bool (yh l).s,Z (yh l).l,Z (yh l).g],Z ((yh l).n:Nat),Z ((yh l).e:Nat)])/\Below w.heap.size w w'
theorem kE{s:Bool}{l g:Int}{n e:Nat}{r:Dm}(h:r=⟨s,l,g,n,e⟩):
  Ending.returned (.tuple #[.agg #[.bool s,Z l,Z g],Z (n:Nat),Z (e:Nat)])=.returned (.tuple #[.agg #[.bool r.s,Z r.l,Z r.g],Z (r.n:Nat),Z (r.e:Nat)]):=by subst h;rfl
theorem Qh(w:World): (sizeOf 5).run Tryz.prog w=.ok 1 w:=by kernel_rfl
theorem Mw(w:World)(A:Option Addr)(len c:Nat)(l:List Nat)(hl:l.length=len)(hb:∀ j,l.getD j 0 < 256)(hsl:Sl w (fun q=>q < w.heap.size) A len (aI l))(hlc:len<=c)(hcm:c<=9223372036854775807)(hv:dh w):
  Calls Tryz.prog 286 #[.slice A len c] w (KJ l w):=by
 obtain⟨x,hx⟩:∃ x,x=w.heap.size:=⟨_,rfl⟩
 have o0:=Own.bn w hx 79 #[.bool false,Z 0,Z 0]
 have s0:=eY hsl o0.av;have hv0:=hv.below o0.av;have HS:=zh (zN hl (zN hb (zN hsl hv)));have HO:=zh (zN hx (zN o0 (zN s0 hv0)));clear hl hb hsl hv hx o0 s0 hv0
 go_enter Tryz.func286,Tryz.ntmps286
 go_wp2_with fail;refine(mg _ _ A len c l HS.out.1 HS.out.2.1 HO.out.2.2.1 J HO.out.2.2.2).mono ?_;rintro e w1 ⟨rfl,hb1⟩;have hM:=yj l;have hvl:=kQ l;rw[HS.out.1] at hvl
 obtain⟨u,hu⟩:∃ u,u=(aJ l).1:=⟨_,rfl⟩
 obtain⟨n,hn⟩:∃ n,n=(aJ l).2.1:=⟨_,rfl⟩
 obtain⟨k,hk⟩:∃ k,k=(aJ l).2.2:=⟨_,rfl⟩
 rw[<-hu,<-hn,<-hk] at hM
 rw[<-hu,<-hn] at hvl
 rw[<-hu,<-hn,<-hk,<-HO.out.1];obtain⟨hu64,hn10,hnl⟩:=hvl;have hS:=HO.out.2.1.call hb1;clear hu hn hk hb1
 by_cases h0:k=0
 ·subst h0
  rw[if_neg J] at hM
  obtain⟨A1,hA1,hA2⟩:=ni (P:=Tryz.prog) 72 5 Tryz.underlying72 Qh A len c n hnl hlc;have s1:=hA2 w1 _ l (eY HS.out.2.2.1 hS.av);have hv1:=HS.out.2.2.2.below hS.av;have hm1:(l.drop n).length=len-n:=by rw[List.length_drop,HS.out.1]
  have hmb:=jB HS.out.2.1 n;have HM1:=zh (zN hM (zN s1 (zN hv1 (zN hm1 (zN hmb hS)))));clear hM s1 hv1 hm1 hmb hS hA2;obtain⟨lg,hlg⟩:∃ lg,lg=IntKind.i64.wrap (u:Int):=⟨_,rfl⟩
  have klg:IntKind.i64.wrap (u:Int)=lg:=hlg.symm;rw[klg] at HM1
  clear hlg;go_wp2_with fail;refine(mg _ _ A1 (len-n) (c-n) (l.drop n) HM1.out.2.2.2.1 HM1.out.2.2.2.2.1 HM1.out.2.1 J HM1.out.2.2.1).mono ?_;rintro e w2 ⟨rfl,hb2⟩;have hM:=HM1.out.1;rw[vF] at hM
  obtain⟨m,hm⟩:∃ m,m=l.drop n:=⟨_,rfl⟩
  rw[<-hm] at hM ⊢
  have hvl:=kQ m;rw[hm,HM1.out.2.2.2.1,<-hm] at hvl
  have hve:=vP m;obtain⟨sn,hsn⟩:∃ u,u=(aJ m).1:=⟨_,rfl⟩
  obtain⟨n2,hn2⟩:∃ n,n=(aJ m).2.1:=⟨_,rfl⟩
  obtain⟨k2,hk2⟩:∃ k,k=(aJ m).2.2:=⟨_,rfl⟩
  rw[<-hsn,<-hn2,<-hk2] at hM hve
  rw[<-hsn,<-hn2] at hvl
  rw[<-hsn,<-hn2,<-hk2];obtain⟨hs64,hn210,hn2l⟩:=hvl;have hS:=HM1.out.2.2.2.2.2.call hb2;have hmm:m.drop n2=l.drop (n+n2):=by rw[hm,List.drop_drop]
  rw[hmm] at hM
  clear hsn hn2 hk2 hb2 hm hmm hA1 HM1
  by_cases h2:k2=0
  ·subst h2
   clear hve;rw[if_neg J] at hM
   by_cases h3:sn=1
   ·subst h3
    rw[if_neg J,if_pos rfl] at hM
    have d1:decide ((1:Int) < (1:Int))=false:=rfl;have z0_0:=hS.c3 0;have zf0:=hS.free 0 rfl;have HT:=zh hS;clear hS;have hSa:=HT.out;have hSb:=(aU.of HT.out rfl).put [.bool true,Z 0,Z lg] rfl;have HB:=zh (zN hSb hM);clear hSa hSb hM;go_upto_region 7 with (fail)
    refine aC (Own w [(x,79,#[.bool true,Z 0,Z lg])]) HB.out.1 ?_;clear z0_0 zf0 HT;intro w3 hS;have hM:=HB.out.2;obtain⟨A2,hA1,hA2⟩:=ni (P:=Tryz.prog) 72 5 Tryz.underlying72 Qh A len c (n+n2) J hlc;have s1:=hA2 w3 _ l (eY HS.out.2.2.1 hS.av);have hv1:=HS.out.2.2.2.below hS.av;have hm1:(l.drop (n+n2)).length=len-(n+n2):=by rw[List.length_drop,HS.out.1]
    have hmb:=jB HS.out.2.1 (n+n2);rw[show ((n+n2:Nat):Int)=(n:Int)+(n2:Int) by omega] at hA1
    have z0_0:=hS.c3 0;have HM2:=zh (zN hM (zN s1 (zN hv1 (zN hm1 (zN hmb hS)))));clear hM s1 hv1 hm1 hmb hS hA2 HB;go_wp2_with fail;refine(qN _ _ A2 (len-(n+n2)) (c-(n+n2)) (l.drop (n+n2)) HM2.out.2.2.2.1 HM2.out.2.2.2.2.1 HM2.out.2.1 J HM2.out.2.2.1).mono ?_;rintro e w4 ⟨rfl,hb4⟩;have hM:=HM2.out.1;rw[Ci] at hM
    obtain⟨q,hq⟩:∃ q,q=l.drop (n+n2):=⟨_,rfl⟩
    rw[<-hq] at hM ⊢
    have hvl:=kQ q;obtain⟨t,ht⟩:∃ t,t=zag (aJ q).1:=⟨_,rfl⟩
    obtain⟨n3,hn3⟩:∃ n,n=(aJ q).2.1:=⟨_,rfl⟩
    obtain⟨k3,hk3⟩:∃ k,k=(aJ q).2.2:=⟨_,rfl⟩
    rw[<-ht,<-hn3,<-hk3] at hM
    rw[<-hn3] at hvl
    rw[<-ht,<-hn3,<-hk3];have hn310:=hvl.2.1;have hS:=HM2.out.2.2.2.2.2.call hb4;clear hvl ht hn3 hk3 hb4 hq z0_0 hA1 HM2;have hSb:=(aU.of hS rfl).put [.bool true,Z t,Z lg] rfl;have hS0:=hS.set 0 1 rfl (Z t);have z0_0:=hS.c3 0;have zf0:=hS.free 0 rfl;have HB:=zh (zN hS0 hM);clear hS hSb hS0 hM;go_upto_region 9 with (fail)
    refine aC (Own w [(x,79,#[.bool true,Z t,Z lg])]) HB.out.1 ?_;clear z0_0 zf0;intro w5 hS;have hM:=HB.out.2;clear HB
    by_cases h4:k3=0
    ·subst h4
     rw[if_neg J] at hM
     have z0_0:=hS.c3 0;have HT:=zh hS;clear hS
     by_cases hr:dx true t lg=true
     ·rw[if_pos hr] at hM
      have HM:=zh (zN hM hr);clear hM hr;go_wp2_with fail;refine(iU true t lg _).mono ?_;rintro e w6 ⟨rfl,hb6⟩;rw[HM.out.2];have hS:=HT.out.call hb6;clear z0_0 hb6 HT;have z0_0:=hS.c3 0;have zf0:=hS.free 0 rfl;have HT:=zh hS;clear hS;have HP:=zh (((aU.of HT.out rfl).put [.bool true,Z t,Z lg] rfl).av);go_wp2_with fail;exact bodyPost_ret (v:=.tuple #[.agg #[.bool true,Z t,Z lg],Z ((n+n2+n3:Nat):Int),Z 0]) (by simp[results,Tryz.results286,go_sem,z0_0]) rfl ⟨kE (e:=0) HM.out.1,HP.out⟩
     ·rw[if_neg hr] at hM
      have HM:=zh hM;have HR:=zh (show dx true t lg=false by simpa using hr);clear hM hr;go_wp2_with fail;refine(iU true t lg _).mono ?_;rintro e w6 ⟨rfl,hb6⟩;rw[HR.out];have hS:=HT.out.call hb6;clear z0_0 hb6 HT;have z0_0:=hS.c3 0;have zf0:=hS.free 0 rfl;have HT:=zh hS;clear hS;have HP:=zh (((aU.of HT.out rfl).put [.bool false,Z 0,Z 0] rfl).av);go_wp2_with fail;exact bodyPost_ret (v:=.tuple #[.agg #[.bool false,Z 0,Z 0],Z 0,Z 11]) (by simp[results,Tryz.results286,go_sem,z0_0]) rfl ⟨kE (e:=11) (n:=0) HM.out,HP.out⟩
    ·rw[if_pos h4] at hM
     have HM:=zh hM;have d2:((k3:Int) != 0)=true:=by simp;omega
     clear hM h4;have z0_0:=hS.c3 0;have zf0:=hS.free 0 rfl;have HT:=zh hS;clear hS;have HP:=zh (((aU.of HT.out rfl).put [.bool false,Z 0,Z 0] rfl).av);go_wp2_with fail;exact bodyPost_ret (v:=.tuple #[.agg #[.bool false,Z 0,Z 0],Z 0,Z k3]) (by simp[results,Tryz.results286,go_sem,z0_0]) rfl ⟨kE (e:=k3) (n:=0) HM.out,HP.out⟩
   ·have d1:((sn:Int) == 1)=false:=by simp;omega
    by_cases h4:1 < sn
    ·rw[if_pos h4] at hM
     have HM:=zh hM;have d2:decide ((1:Int) < (sn:Int))=true:=by simp;omega
     clear hM h3 h4;have z0_0:=hS.c3 0;have zf0:=hS.free 0 rfl;have HT:=zh hS;clear hS;have HB:=zh ((aU.of HT.out rfl).put [.bool false,Z 0,Z lg] rfl);go_upto_region 7 with (fail)
     refine aC (Own w [(x,79,#[.bool false,Z 0,Z lg])]) HB.out ?_;clear z0_0 zf0 HT HB;intro w3 hS;have z0_0:=hS.c3 0;have zf0:=hS.free 0 rfl;have HT:=zh hS;clear hS;have HP:=zh (((aU.of HT.out rfl).put [.bool false,Z 0,Z 0] rfl).av);go_wp2_with fail;exact bodyPost_ret (v:=.tuple #[.agg #[.bool false,Z 0,Z 0],Z 0,Z 11]) (by simp[results,Tryz.results286,go_sem,z0_0]) rfl ⟨kE (e:=11) (n:=0) HM.out,HP.out⟩
    ·obtain rfl:sn=0:=J
     rw[if_neg J,if_neg J] at hM
     clear d1 h3 h4;have z0_0:=hS.c3 0;have zf0:=hS.free 0 rfl;have HT:=zh hS;clear hS;have hSb:=(aU.of HT.out rfl).put [.bool false,Z 0,Z lg] rfl;have HB:=zh (zN hSb hM);clear hSb hM;go_upto_region 7 with (fail)
     refine aC (Own w [(x,79,#[.bool false,Z 0,Z lg])]) HB.out.1 ?_;clear z0_0 zf0 HT;intro w3 hS;have hM:=HB.out.2;clear HB;have z0_0:=hS.c3 0;have HT:=zh hS;clear hS
     by_cases hr:dx false 0 lg=true
     ·rw[if_pos hr] at hM
      have HM:=zh (zN hM hr);clear hM hr;go_wp2_with fail;refine(iU false 0 lg _).mono ?_;rintro e w6 ⟨rfl,hb6⟩;rw[HM.out.2];have hS:=HT.out.call hb6;clear z0_0 hb6 HT;have z0_0:=hS.c3 0;have zf0:=hS.free 0 rfl;have HT:=zh hS;clear hS;have HP:=zh (((aU.of HT.out rfl).put [.bool false,Z 0,Z lg] rfl).av);go_wp2_with fail;exact bodyPost_ret (v:=.tuple #[.agg #[.bool false,Z 0,Z lg],Z ((n+n2:Nat):Int),Z 0]) (by simp[results,Tryz.results286,go_sem,z0_0]) rfl ⟨kE (e:=0) HM.out.1,HP.out⟩
     ·rw[if_neg hr] at hM
      have HM:=zh hM;have HR:=zh (show dx false 0 lg=false by simpa using hr);clear hM hr;go_wp2_with fail;refine(iU false 0 lg _).mono ?_;rintro e w6 ⟨rfl,hb6⟩;rw[HR.out];have hS:=HT.out.call hb6;clear z0_0 hb6 HT;have z0_0:=hS.c3 0;have zf0:=hS.free 0 rfl;have HT:=zh hS;clear hS;have HP:=zh (((aU.of HT.out rfl).put [.bool false,Z 0,Z 0] rfl).av);go_wp2_with fail;exact bodyPost_ret (v:=.tuple #[.agg #[.bool false,Z 0,Z 0],Z 0,Z 11]) (by simp[results,Tryz.results286,go_sem,z0_0]) rfl ⟨kE (e:=11) (n:=0) HM.out,HP.out⟩
  ·rw[if_pos h2] at hM
   have HM:=zh hM;have d2:((k2:Int) != 0)=true:=by simp;omega
   have d3:((k2:Int) == 0)=false:=by simp;omega
   obtain rfl:sn=0:=J;clear hM h2 hve;have z0_0:=hS.c3 0;have zf0:=hS.free 0 rfl;have HT:=zh hS;clear hS;have HB:=zh ((aU.of HT.out rfl).put [.bool false,Z 0,Z lg] rfl);go_upto_region 7 with (fail)
   refine aC (Own w [(x,79,#[.bool false,Z 0,Z lg])]) HB.out ?_;clear z0_0 zf0 HT HB;intro w3 hS;have z0_0:=hS.c3 0;have zf0:=hS.free 0 rfl;have HT:=zh hS;clear hS;have HP:=zh (((aU.of HT.out rfl).put [.bool false,Z 0,Z 0] rfl).av);go_wp2_with fail;exact bodyPost_ret (v:=.tuple #[.agg #[.bool false,Z 0,Z 0],Z 0,Z k2]) (by simp[results,Tryz.results286,go_sem,z0_0]) rfl ⟨kE (e:=k2) (n:=0) HM.out,HP.out⟩
 ·rw[if_pos h0] at hM
  have HM:=zh hM;have d0:((k:Int) != 0)=true:=by simp;omega
  clear hM h0;have z0_0:=hS.c3 0;have zf0:=hS.free 0 rfl;have HT:=zh hS;clear hS;have HP:=zh (((aU.of HT.out rfl).put [.bool false,Z 0,Z 0] rfl).av);go_wp2_with fail;exact bodyPost_ret (v:=.tuple #[.agg #[.bool false,Z 0,Z 0],Z 0,Z k]) (by simp[results,Tryz.results286,go_sem,z0_0]) rfl ⟨kE (e:=k) (n:=0) HM.out,HP.out⟩
end V
namespace V
open Go.RowKit
end V
namespace V
open Go.RowKit
end V
namespace V
open Go.RowKit
def lN(s:Bool)(l g:Int): List Nat:=aF (g%18446744073709551616).toNat ++ (if s=true then aF 1 ++ aF (zig l) else aF 0)
theorem FR(w:World)(A:Option Addr)(len c:Nat)(bs:List Nat)(s:Bool)(l g:Int)(hl:bs.length=len)(hsl:Sl w (fun k=>k < w.heap.size) A len (aI bs))(hlc:len<=c)(hsm:len<=1099511627000)(h0 : -9223372036854775808<=l)(h1:l<=9223372036854775807):
  Calls Tryz.prog 289 #[.slice A len c,.agg #[.bool s,Z l,Z g]] w (qj w (bs ++ lN s l g)):=by
 obtain⟨x,hx⟩:∃ x,x=w.heap.size:=⟨_,rfl⟩
 have o0:=Own.bn w hx 79 #[.bool s,Z l,Z g]
 obtain⟨u,hu⟩:∃ u,u=(g%18446744073709551616).toNat:=⟨_,rfl⟩
 have ku:IntKind.u64.wrap g=(u:Int):=by rw[IntKind.wrap_u64];omega
 have hu64:u < 18446744073709551616:=J;have HO:=zh (zN hx (zN o0 (zN (eY hsl o0.av) (zN hl hu))));have HZ:=zh (zN h0 h1);clear hx o0 hsl hl hu h0 h1
 go_enter Tryz.func289,Tryz.ntmps289
 go_wp2_with fail;refine(iJ _ A len c bs (u:Int) HO.out.2.2.2.1 HO.out.2.2.1 hlc J J J).mono ?_;rintro e w1 ⟨v,rfl,ho,hb⟩;rw[Int.toNat_natCast] at ho
 have hlen:(bs ++ aF u).length<=len+10:=by
  have:=aK hu64;rw[List.length_append,HO.out.2.2.2.1];omega
 obtain⟨B,hB⟩:∃ B,B=bs ++ aF u:=⟨_,rfl⟩
 rw[<-hB] at ho hlen
 obtain⟨n1,hn1⟩:∃ n,n=B.length:=⟨_,rfl⟩
 rw[<-hn1] at ho hlen
 obtain⟨A1,c1,hv1,hc1,-⟩:=aH ho;subst hv1;have hS:=HO.out.2.1.call hb;have HB:=zh (zN hB (zN hn1.symm (zN (gI ho) hS)));clear hb hB hn1 ho;rw[<-HO.out.1];have z0_0:=hS.c3 0;clear hS
 cases s with
 | false=>
  go_wp2_with fail;refine(iJ _ A1 n1 c1 B 0 HB.out.2.1 HB.out.2.2.1 hc1 J J J).mono ?_;rintro e w2 ⟨v,rfl,ho,hb⟩;rw[show (0:Int).toNat=0 from rfl] at ho
  have e1:bs ++ lN false l g=B ++ aF 0:=by unfold lN;rw[<-HO.out.2.2.2.2,HB.out.1,List.append_assoc];rfl
  have HF:=zh (zN ho (zN hb e1));clear ho hb e1;go_wp2_with fail;go_ret;refine⟨v,rfl,?_,(HB.out.2.2.2.call HF.out.2.1).av⟩;rw[HF.out.2.2];exact aN HF.out.1 HB.out.2.2.2.size
 | true=>
  go_wp2_with fail;have hS:(Own w [(x,79,#[.bool true,Z l,Z g])]) (w1.drew):=HB.out.2.2.2.drew;refine aA (Own w [(x,79,#[.bool true,Z l,Z g])]) (by kernel_rfl) hS ?_;refine zB [0,2,3] ?_;iterate 3 (refine zV ?_ ?_ hS ?_;rotate_left;(intro w' hSw;have z0_0:=hSw.c3 0;go_simp<;>with_reducible rfl);try simp only[zP])
  refine zE ?_;refine zC 1 fun K HK=>?_
  go_simp;refine(iJ _ A1 n1 c1 B 1 HB.out.2.1 (eY HB.out.2.2.1 (Below.refl _ _).drew) hc1 J J J).mono ?_;rintro e w2 ⟨v,rfl,ho,hb⟩;rw[show (1:Int).toNat=1 from rfl] at ho
  have hlen2:(B ++ aF 1).length<=len+20:=by
   have:=aK (u:=1) J;rw[List.length_append,HB.out.2.1];omega
  obtain⟨B2,hB2⟩:∃ C,C=B ++ aF 1:=⟨_,rfl⟩
  rw[<-hB2] at ho hlen2
  obtain⟨n2,hn2⟩:∃ n,n=B2.length:=⟨_,rfl⟩
  rw[<-hn2] at ho hlen2
  obtain⟨A2,c2,hv2,hc2,-⟩:=aH ho;subst hv2;have hS2:=hS.call hb;have H2:=zh (zN hB2 (zN hn2.symm (zN (gI ho) hS2)));clear ho hb hB2 hn2 hS2;go_wp2_with fail;refine HK.out.zt (Own w [(x,79,#[.bool true,Z l,Z g])]) (fun _ h=>h) (H2.out.2.2.2) ?_;clear HK hS;intro hS;try simp only[zP]
  refine zC 4 fun K HK=>?_
  go_simp;refine(eG _ A2 n2 c2 B2 l H2.out.2.1 H2.out.2.2.1 hc2 J HZ.out.1 HZ.out.2).mono ?_;rintro e w3 ⟨v,rfl,ho,hb⟩;have e1:bs ++ lN true l g=B2 ++ aF (zig l):=by unfold lN;rw[<-HO.out.2.2.2.2,H2.out.1,HB.out.1,List.append_assoc,List.append_assoc];rfl
  have HF:=zh (zN ho (zN (hS.call hb) e1));clear ho hb e1;go_wp2_with fail;refine HK.out.zt (Own w [(x,79,#[.bool true,Z l,Z g])]) (fun _ h=>h) (HF.out.2.1) ?_;clear HK hS;intro hS;try simp only[zP]
  refine zt 5 hS ?_;try simp only[zP]
  refine zD ?_;try simp only[zP]
  go_wp2_with fail;go_ret;refine⟨v,rfl,?_,HF.out.2.1.av⟩;rw[HF.out.2.2];exact aN HF.out.1 H2.out.2.2.2.size
end V
namespace V
theorem EO(l g:Int): lN true l g=aF (g%18446744073709551616).toNat ++ (aF 1 ++ aF (zig l)):=rfl
theorem EM(l g:Int): lN false l g=aF (g%18446744073709551616).toNat ++ aF 0:=rfl
theorem OE{g:Int}(h0:0<=g)(h1:g<=1152921504606846976): (g%18446744073709551616).toNat < 18446744073709551616/\IntKind.i64.wrap (((g%18446744073709551616).toNat:Nat):Int)=g:=by
 refine⟨J,?_⟩;rw[IntKind.wrap_i64];omega
theorem Mv{s:Bool}{l g:Int}(ms:List Nat)(hr:dx s l g=true): yh (lN s l g ++ ms)=⟨s,l,g,(lN s l g).length,0⟩:=by
 obtain⟨h1,h2,h3,h4,h5⟩:=nW hr;obtain⟨g1,g2⟩:=OE h1 h2;have hz:=dJ (n:=l) J J
 cases s with
 | false=>
  have hl:l=0:=by simpa using h5
  subst hl;rw[EM,List.append_assoc,yj,iC _ _ g1,if_neg (by simp),g2,List.drop_left,vF,iC 0 ms J,if_neg (by simp),if_neg (by simp),if_neg (by simp),if_pos hr,List.length_append]
 | true=>
  rw[EO,List.append_assoc,yj,iC _ _ g1,if_neg (by simp),g2,List.drop_left,List.append_assoc,vF,iC 1 _ J,if_neg (by simp),if_neg (by simp),if_pos rfl,List.drop_left,Ci,iC _ ms hz,if_neg (by simp)];simp only[Bj];rw[if_pos hr,List.length_append,List.length_append,<-Nat.add_assoc]
theorem EN(s:Bool)(l g:Int)(h0 : -9223372036854775808<=l)(h1:l<=9223372036854775807): 1<=(lN s l g).length/\(lN s l g).length<=30:=by
 have a:=aK (u:=(g%18446744073709551616).toNat) J;have b:=aK (dJ h0 h1);have c:=aK (u:=1) J;have d:=aK (u:=0) J;have e:=FM (g%18446744073709551616).toNat
 cases s with
 | false=>rw[EM,List.length_append];omega
 | true=>rw[EO,List.length_append,List.length_append];omega
theorem Ck(s:Bool)(l g:Int): ∀ b ∈ lN s l g,b < 256:=by
 intro b hb
 cases s with
 | false=>
  rw[EM] at hb
  rcases List.mem_append.1 hb with h | h
  ·exact bH _ b h
  ·exact bH _ b h
 | true=>
  rw[EO] at hb
  rcases List.mem_append.1 hb with h | h
  ·exact bH _ b h
  ·rcases List.mem_append.1 h with h | h
   ·exact bH _ b h
   ·exact bH _ b h
end V
section
open Go.RowKit Go.Maps
theorem tF{w w1:World}{a:Addr}{v:Value}(hb:Below w.heap.size w w1)(h:w.cell? a=some v): w1.cell? a=some v:=wu (jK hb none) h (by simp)
theorem JR(w:World)(d M xd xn xw n cp:Nat)(A:Option Addr)(nm:Nat->ByteArray)(s:ByteArray)(a:FS)(F:FuncId)(caps:Array Value)(p:ByteArray->Option FS)(room:Nat)(used:Int)(ops c:Nat)(Post:World->Prop)(hD:aS w d M p room used ops c)(hs:nm 0=s)(hps:p s=some a)(b1:w.cell? ⟨xd,0,none⟩=some (.pointer (some ⟨d,0,none⟩)))(b2:w.cell? ⟨xn,0,none⟩=some (.slice A n cp))(b3:w.cell? ⟨xw,0,none⟩=some (.func (.func F) #[] caps))(hn:Sl w (fun q=>q < w.heap.size) A n (fun j=>.string (nm j)))(hn0:0 < n)(hs64:s.size<=64)(hcf:∀ w,(callFunc F (#[.pointer (some ⟨a.blk,0,none⟩)] ++ caps)).run Tryz.prog w=.ok (.enter F (#[.pointer (some ⟨a.blk,0,none⟩)] ++ caps)) w)(hF:∀ w1,Below w.heap.size w w1->Calls Tryz.prog F (#[.pointer (some ⟨a.blk,0,none⟩)] ++ caps) w1 fun e w2=>e=.returned (.tuple #[])/\Post w2):
  Calls Tryz.prog 216 #[.pointer (some ⟨xd,0,none⟩),.pointer (some ⟨xn,0,none⟩),.pointer (some ⟨xw,0,none⟩)] w fun e w'=>e=.returned (Z 0)/\∃ w2,Post w2/\Below w2.heap.size w2 w':=by
 have k2:=ug;have hsm:s.size<=maxLen:=by unfold maxLen;omega
 have hm:(dG p s).getD (.pointer none)=.pointer (some ⟨a.blk,0,none⟩):=by unfold dG;rw[hps];rfl
 obtain⟨bA,off,hA,-,hc⟩:=hn hn0;have z0:w.cell? ⟨bA,off+0,none⟩=some (.string s):=by rw[<-hs];exact hc 0 hn0
 rw[Nat.add_zero] at z0
 subst hA;have HD:=zh (zN hD (zN b1 (zN b2 (zN b3 (zN z0 (zN hm (zN hsm hF)))))));clear hD hps b1 b2 b3 hn hc z0 hm hsm hF hs
 go_enter Tryz.func216,Tryz.ntmps216
 go_wp2_with fail;have hS:Below w.heap.size w w.drew:=(Below.refl _ _).drew;have hS:(Below w.heap.size w) (w.drew):=hS;refine aA (Below w.heap.size w) (by kernel_rfl) hS ?_;refine zB [0,1,2,3,4,5,6,7,8] ?_;iterate 9 (refine zV ?_ ?_ hS ?_;rotate_left;(intro w' hSw;have u1:=tF hSw HD.out.2.1;have u2:=tF hSw HD.out.2.2.1;have u3:=(HD.out.1.call hSw).blk.cell 0;have u4:=tF hSw HD.out.2.2.2.2.1;have u5:=(HD.out.1.call hSw).look s HD.out.2.2.2.2.2.2.1;rw[HD.out.2.2.2.2.2.1] at u5;go_simp<;>with_reducible rfl);try simp only[zP])
 refine zE ?_;refine zD ?_;try simp only[zP]
 have u6:=tF hS HD.out.2.2.2.1;have HS:=zh hS;clear hS;go_wp2_with fail;refine(HD.out.2.2.2.2.2.2.2 _ HS.out).mono ?_;rintro e w2 ⟨rfl,hp2⟩;have HP:=zh hp2;clear hp2;go_wp2_with fail;go_ret;exact⟨rfl,w2,HP.out,Below.refl _ _⟩
theorem Ca(w:World)(d M n cp:Nat)(A:Option Addr)(nm:Nat->ByteArray)(s:ByteArray)(a:FS)(F:FuncId)(caps:Array Value)(p:ByteArray->Option FS)(room:Nat)(used:Int)(ops c:Nat)(Post:World->Prop)(hD:aS w d M p room used ops c)(hs:nm 0=s)(hps:p s=some a)(hn:Sl w (fun q=>q < w.heap.size) A n (fun j=>.string (nm j)))(hn0:0 < n)(hn2:n<=2)(hnm:∀ j,j < n->1<=(nm j).size/\(nm j).size<=64)(ho:ops < 4611686018427387904)(hcf:∀ w,(callFunc F (#[.pointer (some ⟨a.blk,0,none⟩)] ++ caps)).run Tryz.prog w=.ok (.enter F (#[.pointer (some ⟨a.blk,0,none⟩)] ++ caps)) w)(hF:∀ w1,Below w.heap.size w w1->Calls Tryz.prog F (#[.pointer (some ⟨a.blk,0,none⟩)] ++ caps) w1 fun e w2=>e=.returned (.tuple #[])/\Post w2)(hP:∀ w2,Post w2->∃ M' a b,ay w2 d 71 #[.map (some M'),a,b,Z (-1),Z (ops:Nat)]):
  Calls Tryz.prog 144 #[.pointer (some ⟨d,0,none⟩),.slice A n cp,.func (.func F) #[] caps] w fun e w'=>e=.returned (Z 0)/\∃ w2 w3,Post w2/\Below w2.heap.size w2 w3/\Below w3.heap.size (w3.setCell ⟨d,4,none⟩ (Z ((ops+1:Nat)))) w':=by
 obtain⟨x,hx⟩:∃ x,x=w.heap.size:=⟨_,rfl⟩
 have o0:=Own.qI w hx 23 #[.pointer (some ⟨d,0,none⟩)] 110 #[.slice A n cp] 247 #[.func (.func F) #[] caps]
 have HD:=zh (zN hD (zN hn (zN hnm (zN hF (zN hP o0)))));clear hD hn hnm hF hP o0
 go_enter Tryz.func144,Tryz.ntmps144
 go_wp2_with fail;rw[<-hx];refine bQ (Own w [(x,23,#[.pointer (some ⟨d,0,none⟩)]),(x+1,110,#[.slice A n cp]),(x+1+1,247,#[.func (.func F) #[] caps])]) HD.out.2.2.2.2.2 ?_;intro w1 h1;have H1:=zh h1;clear h1;have hb1:=H1.out.av;refine(Hw w1 d M n cp ops (Z (room:Nat)) (Z used) A nm 216 #[.pointer (some ⟨x,0,none⟩),.pointer (some ⟨x+1,0,none⟩),.pointer (some ⟨x+1+1,0,none⟩)] (fun w2=>∃ w3,Post w3/\Below w3.heap.size w3 w2) (HD.out.1.call hb1).blk (V.eY HD.out.2.1 hb1) hn2 HD.out.2.2.1 ho (fun _=>by kernel_rfl) ?_ ?_).mono ?_
 ·intro w2 hb2
  have hb3:Below w.heap.size w w2:=V.aB hb1 hb2;have o2:=H1.out.call hb2;refine(JR w2 d M x (x+1) (x+1+1) n cp A nm s a F caps p room used ops c Post (HD.out.1.call hb3) hs hps (o2.cell 0 0 rfl rfl) (o2.cell 1 0 rfl rfl) (o2.cell 2 0 rfl rfl) (V.eY HD.out.2.1 hb3) hn0 (by rw[<-hs];exact (HD.out.2.2.1 0 hn0).2) hcf ?_).mono ?_
  ·intro w3 hb4
   exact HD.out.2.2.2.1 w3 (V.aB hb3 hb4)
  ·rintro e w3 ⟨rfl,w4,hp4,hb4⟩
   exact⟨rfl,w4,hp4,hb4⟩
 ·rintro w2 ⟨w3,hp3,hb3⟩
  obtain⟨M',a',b',hk⟩:=HD.out.2.2.2.2.1 w3 hp3;exact⟨M',a',b',hk.below hb3 hk.lt⟩
 ·rintro e w2 ⟨rfl,w3,⟨w4,hp4,hb4⟩,hb3⟩
  have HR:=zh (zN hp4 (zN hb4 hb3));clear hp4 hb4 hb3;go_wp2_with fail;go_ret;exact⟨rfl,w4,w3,HR.out.1,HR.out.2.1,HR.out.2.2⟩
theorem JL(w:World)(d M:Nat)(s:ByteArray)(a:FS)(p:ByteArray->Option FS)(room:Nat)(used:Int)(ops c:Nat)(hD:aS w d M p room used ops c)(hps:p s=some a)(hl:a.bs.length<=1048576):
  Calls Tryz.prog 145 #[.pointer (some ⟨a.blk,0,none⟩)] w fun e w'=>e=.returned (.tuple #[])/\aS w' d M (aV p s { a with lasts:=a.bs.length,syn:=true }) room used ops c/\DStep w w' d M p (aV p s { a with lasts:=a.bs.length,syn:=true }):=by
 have hfa:=(hD.fil s a hps).1;obtain⟨A0,c0,hav,-⟩:=aH (hD.fil s a hps).2;have u0:=hfa.cell 0;have u1:=hfa.cell 1;have u2:=hfa.cell 2;have uf:=hfa.frozen;rw[hav] at u0
 obtain⟨n,hn⟩:∃ n,n=a.bs.length:=⟨_,rfl⟩
 rw[<-hn] at u0 hl ⊢
 have HD:=zh (zN hD (zN hps (zN hfa (zN hav hn))));clear hD hps hfa hav hn
 go_enter Tryz.func145,Tryz.ntmps145
 go_wp2_with fail;refine bodyPost_end (v:=.tuple #[]) (by simp[results,Tryz.results145,go_sem]) rfl ?_;refine⟨rfl,HD.out.1.kf HD.out.2.1 (((Keeps.refl (fun q=>q=a.blk) w).setCell (fun _=>rfl) _).setCell (fun _=>rfl) _) n true ?_⟩;exact(HD.out.2.2.1.set 1 _).set 2 _
theorem Md(w:World)(d M:Nat)(s:ByteArray)(a:FS)(p:ByteArray->Option FS)(room:Nat)(used:Int)(ops c:Nat)(hD:aS w d M p room used ops c)(hps:p s=some a)(hl:a.bs.length<=1048576)(hs1:1<=s.size)(hs:s.size<=64)(ho:ops < 4611686018427387904):
  Calls Tryz.prog 84 #[.pointer (some ⟨d,0,none⟩),.string s] w fun e w'=>e=.returned (Z 0)/\aS w' d M (aV p s { a with lasts:=a.bs.length,syn:=true }) room used (ops+1) c/\DStep w w' d M p (aV p s { a with lasts:=a.bs.length,syn:=true }):=by
 obtain⟨x,hx⟩:∃ x,x=w.heap.size:=⟨_,rfl⟩
 have o0:=Own.bn w hx 9 #[.string s]
 have HD:=zh (zN hD (zN hps o0));clear hD hps o0
 go_enter Tryz.func84,Tryz.ntmps84
 go_wp2_with fail;rw[<-hx];refine bQ (Own w [(x,9,#[.string s])]) HD.out.2.2 ?_;intro w1 h1;have H1:=zh h1;clear h1;have hb1:=H1.out.av;refine(Ca w1 d M 1 1 (some ⟨x,0,none⟩) (fun _=>s) s a 145 #[] p room used ops c (fun w2=>aS w2 d M (aV p s { a with lasts:=a.bs.length,syn:=true }) room used ops c/\DStep w w2 d M p (aV p s { a with lasts:=a.bs.length,syn:=true })) (HD.out.1.call hb1) rfl HD.out.2.1 ?_ J J (fun _ _=>⟨hs1,hs⟩) ho (fun _=>by kernel_rfl) ?_ ?_).mono ?_
 ·intro _
  exact⟨x,0,rfl,(H1.out.get 0 rfl).lt,fun j hj=>by obtain rfl:j=0:=(J);exact H1.out.cell 0 0 rfl rfl⟩
 ·intro w2 hb2
  have hb3:Below w.heap.size w w2:=V.aB hb1 hb2;refine(JL w2 d M s a p room used ops c (HD.out.1.call hb3) HD.out.2.1 hl).mono ?_;rintro e w3 ⟨rfl,h1,h2⟩;exact⟨rfl,h1,(DStep.of_below hb3).trans h2⟩
 ·rintro w2 ⟨h1,-⟩
  exact⟨M,_,_,h1.blk⟩
 ·rintro e w2 ⟨rfl,w3,w4,⟨h3,h4⟩,hb4,hb2⟩
  have HR:=zh (zN h3 (zN h4 (zN hb4 hb2)));clear h3 h4 hb4 hb2;go_wp2_with fail;go_ret;have h5:=(HR.out.1.call HR.out.2.2.1).Kl HR.out.2.2.2;exact⟨rfl,h5.1,(HR.out.2.1.below HR.out.2.2.1).trans h5.2⟩
theorem LQ(a:Addr)(w:World): (binOp .neq 112 (.pointer (some a)) (.pointer none)).run Tryz.prog w=.ok (.bool true) w:=by kernel_rfl
theorem Ji(w:World): (binOp .neq 112 (.pointer none) (.pointer none)).run Tryz.prog w=.ok (.bool false) w:=by kernel_rfl
theorem Lg{α:Type}{p:ByteArray->Option α}{s:ByteArray}(h:p s=none): fQ p s=p:=by
 funext y
 unfold fQ
 split
 ·rename_i e
  rw[e,h]
 ·rfl
theorem LM(w:World)(d M:Nat)(s:ByteArray)(p:ByteArray->Option FS)(room:Nat)(used:Int)(ops c:Nat)(hD:aS w d M p room used ops c)(hlow : -1099511627776<=used)(hu:used<=1099511627776)(hbig:(gL p s).length<=1048576)(hs64:s.size<=64):
  Calls Tryz.prog 167 #[.pointer (some ⟨d,0,none⟩),.string s] w fun e w'=>e=.returned (.tuple #[])/\aS w' d M (fQ p s) room (used-((gL p s).length:Int)) ops c/\DStep w w' d M p (fQ p s):=by
 have k1:=LQ;have k2:=Ji;have hsm:s.size<=maxLen:=by unfold maxLen;omega
 have u0:=hD.blk.cell 0;have u4:=hD.look s hsm
 cases hps:p s with
 | none=>
  have hm:(dG p s).getD (.pointer none)=.pointer none:=by unfold dG;rw[hps];rfl
  have hol:gL p s=[]:=by unfold gL;rw[hps];rfl
  rw[hm] at u4
  have HD:=zh (zN hD (zN hps hol));clear hD hps hol hm
  go_enter Tryz.func167,Tryz.ntmps167
  go_wp2_with fail;refine bodyPost_end (v:=.tuple #[]) (by simp[results,Tryz.results167,go_sem]) rfl ?_;refine⟨rfl,?_⟩;rw[Lg HD.out.2.1,HD.out.2.2,show used-(([]:List Nat).length:Int)=used by simp];exact⟨HD.out.1,DStep.refl _ _ _ _⟩
 | some a=>
  have hm:(dG p s).getD (.pointer none)=.pointer (some ⟨a.blk,0,none⟩):=by unfold dG;rw[hps];rfl
  have hol:gL p s=a.bs:=by unfold gL;rw[hps];rfl
  rw[hm] at u4
  obtain⟨A0,c0,hav,-⟩:=aH (hD.fil s a hps).2;obtain⟨n,hn⟩:∃ n,n=a.bs.length:=⟨_,rfl⟩
  rw[hol,<-hn] at hbig ⊢
  rw[<-hn] at hav
  have d1:IntKind.i64.wrap (used-(n:Int))=used-(n:Int):=by simp only[IntKind.wrap_i64];omega
  have hba:ay w a.blk 114 #[.slice A0 n c0,Z (a.lasts:Nat),.bool a.syn]:=by rw[<-hav];exact (hD.fil s a hps).1
  have had:a.blk≠d:=hba.ne hD.blk (by decide);obtain⟨w1,hw1⟩:∃ w1,w1=(w.setCell ⟨d,2,none⟩ (Z (used-(n:Int)))).drew:=⟨_,rfl⟩
  have h1:aS w1 d M p room (used-(n:Int)) ops c/\DStep w w1 d M p p:=by
   rw[hw1];exact hD.kd (((Keeps.refl (fun q=>q=d) w).setCell (p:=⟨d,2,none⟩) (fun _=>rfl) _).drew) (hD.blk.set 2 _).drew
  obtain⟨n0,D0,hown0,hn0,hF0⟩:=h1.1.map;obtain⟨w2,hrun2,hown2,ht2⟩:=hown0.drop law Tryz.underlying69 (mO hsm) 0;have h2:=h1.1.RX s hn0 hF0 hown2 ht2.grown;have HD:=zh (zN hD (zN hps (zN hba (zN had (zN h1 h2)))));have hv0:=h1.1.blk.cell 0;have hbw:ay w1 a.blk 114 #[.slice A0 n c0,Z (a.lasts:Nat),.bool a.syn]:=by rw[hw1];exact (hba.far (p:=⟨d,2,none⟩) had _).drew
  have HW:=zh (zN hw1 hbw);clear hD hps hba had h1 h2 hm hol hav hown0 hown2 hF0 hn ht2 hw1 hbw
  go_enter Tryz.func167,Tryz.ntmps167
  go_wp2_with fail;clear u0 u4;have hS:ay w.drew a.blk 114 #[.slice A0 n c0,Z (a.lasts:Nat),.bool a.syn]:=HD.out.2.2.1.drew
  have hS:(fun wx=>ay wx a.blk 114 #[.slice A0 n c0,Z (a.lasts:Nat),.bool a.syn]) (w.drew):=hS;refine aA (fun wx=>ay wx a.blk 114 #[.slice A0 n c0,Z (a.lasts:Nat),.bool a.syn]) (by kernel_rfl) hS ?_;refine zB [0,1,2,4,5,6,7,8] ?_;iterate 8 (refine zV ?_ ?_ hS ?_;rotate_left;(intro w' hSw;have u1:=hSw.cell 0;go_simp<;>with_reducible rfl);try simp only[zP])
  refine zE ?_;have u2:w.drew.cell? ⟨d,2,none⟩=some (Z used):=HD.out.1.blk.cell 2;refine zC 3 fun K HK=>?_
  go_simp;go_wp2_with fail;refine HK.out.zt (fun wx=>ay wx a.blk 114 #[.slice A0 n c0,Z (a.lasts:Nat),.bool a.syn]) (fun _ h=>h) (hS) ?_;clear HK hS;intro hS;try simp only[zP]
  refine zB [9,10,11] ?_;iterate 3 (refine zv hS ?_;try simp only[zP])
  refine zE ?_;have uf:∀ i,w.drew.frozen? ⟨d,i,none⟩=false:=HD.out.1.blk.frozen
  refine zC 12 fun K HK=>?_
  go_simp;rw[<-HW.out.1];go_wp2_with fail;refine HK.out.zt (fun wx=>ay wx a.blk 114 #[.slice A0 n c0,Z (a.lasts:Nat),.bool a.syn]) (fun _ h=>h) (HW.out.2) ?_;clear HK hS;intro hS;try simp only[zP]
  refine zD ?_;try simp only[zP]
  clear u2 uf hS;go_wp2_with fail;refine bodyPost_end (v:=.tuple #[]) (by simp[results,Tryz.results167,go_sem]) rfl ?_;exact⟨rfl,HD.out.2.2.2.2.2.1,HD.out.2.2.2.2.1.2.trans HD.out.2.2.2.2.2.2⟩
theorem Ta{x y:ByteArray}(h:x≠y): (x.toList == y.toList)=false:=by
 cases hb:(x.toList == y.toList) with
 | false=>rfl
 | true=>
  rw[beq_iff_eq,ByteArray.toList_eq,ByteArray.toList_eq] at hb
  exact absurd (ByteArray.ext (Array.toList_inj.mp hb)) h
structure nC(d xo xn xd:Nat)(old s:ByteArray)(w:World): Prop where
 o:w.cell? ⟨xo,0,none⟩=some (.string old)
 n:w.cell? ⟨xn,0,none⟩=some (.string s)
 d:w.cell? ⟨xd,0,none⟩=some (.pointer (some ⟨d,0,none⟩))
theorem nC.keeps{S:Nat->Prop}{d xo xn xd:Nat}{old s:ByteArray}{w w':World}(h:nC d xo xn xd old s w)(hk:Keeps S w w')(h1:¬ S xo)(h2:¬ S xn)(h3:¬ S xd): nC d xo xn xd old s w':=by
 have hc:∀ q v,w.cell? ⟨q,0,none⟩=some v->¬ S q->w'.cell? ⟨q,0,none⟩=some v:=fun q v hq hn=>(World.cell?_of_block (w:=w) (a:=⟨q,0,none⟩) (hk.block q (World.block_lt_of_cell? w _ hq) hn)).trans hq
 exact⟨hc _ _ h.o h1,hc _ _ h.n h2,hc _ _ h.d h3⟩
theorem nC.drew{d xo xn xd:Nat}{old s:ByteArray}{w:World}(h:nC d xo xn xd old s w): nC d xo xn xd old s w.drew:=⟨h.o,h.n,h.d⟩
def rY(p:ByteArray->Option FS)(old s:ByteArray)(a:FS): ByteArray->Option FS:=aV (fQ (fQ p s) old) s a
theorem Ri{w:World}{d M:Nat}{p:ByteArray->Option FS}{room:Nat}{used:Int}{ops c:Nat}{old s:ByteArray}{a:FS}(hD:aS w d M p room used ops c)(hps:p old=some a):
  ∀ t b,t≠s->fQ (fQ p s) old t=some b->a.blk≠b.blk/\∀ g,a.v.ownBlock=some g->b.v.ownBlock≠some g:=by
 intro t b hts hb;have hto:t≠old:=fun e=>by subst e;rw[uT] at hb;cases hb
 rw[jI _ hto,jI _ hts] at hb
 exact hD.dis old t a b (fun e=>hto e.symm) hps hb
theorem Rj{d M:Nat}{p:ByteArray->Option FS}{old s:ByteArray}{a:FS}(hps:p old=some a): ∀ q,aM d M (rY p old s a) q->aM d M p q:=by
 rintro q (rfl | rfl | ⟨t,x,hx,hqx⟩)
 ·exact .inl rfl
 ·exact .inr (.inl rfl)
 ·unfold rY at hx
  by_cases hts:t=s
  ·subst hts
   rw[iB] at hx
   injection hx with hx
   subst hx;exact .inr (.inr ⟨old,a,hps,hqx⟩)
  ·rw[kN _ _ hts] at hx
   have hto:t≠old:=fun e=>by subst e;rw[uT] at hx;cases hx
   rw[jI _ hto,jI _ hts] at hx
   exact .inr (.inr ⟨t,x,hx,hqx⟩)
theorem Ev(w:World)(d M xo xn xd:Nat)(old s:ByteArray)(a:FS)(p:ByteArray->Option FS)(room:Nat)(used:Int)(ops c:Nat)(hD:aS w d M p room used ops c)(hB:nC d xo xn xd old s w)(hps:p old=some a)(hne:old≠s)(h1:¬ aM d M p xo)(h2:¬ aM d M p xn)(h3:¬ aM d M p xd)(hlow : -1099511627776<=used)(hu:used<=1099511627776)(hbig:(gL p s).length<=1048576)(ho64:old.size<=64)(hs64:s.size<=64)(hc:c < 512):
  Calls Tryz.prog 298 #[.pointer (some ⟨a.blk,0,none⟩),.pointer (some ⟨xo,0,none⟩),.pointer (some ⟨xn,0,none⟩),.pointer (some ⟨xd,0,none⟩)] w fun e w'=>e=.returned (.tuple #[])/\aS w' d M (rY p old s a) room (used-((gL p s).length:Int)) ops (c+1)/\DStep w w' d M p (rY p old s a):=by
 have hsm:s.size<=maxLen:=by unfold maxLen;omega
 have hom:old.size<=maxLen:=by unfold maxLen;omega
 have e1:(old.toList == s.toList)=false:=Ta hne;have z0:=hB.o;have z1:=hB.n;have z2:=hB.d;obtain⟨u',hu'⟩:∃ u',u'=used-((gL p s).length:Int):=⟨_,rfl⟩
 have HD:=zh (zN hD (zN hB (zN hps (zN hne (zN h1 (zN h2 (zN h3 hu')))))));clear hD hB hps hne h1 h2 h3 hu'
 go_enter Tryz.func298,Tryz.ntmps298
 go_wp2_with fail;refine(LM w d M s p room used ops c HD.out.1 hlow hu hbig hs64).mono ?_;rintro e w1 ⟨rfl,hd1,hst1⟩;rw[<-HD.out.2.2.2.2.2.2.2] at hd1
 have hb1:=HD.out.2.1.keeps hst1.keep HD.out.2.2.2.2.1 HD.out.2.2.2.2.2.1 HD.out.2.2.2.2.2.2.1;clear z0 z1 z2 e1;obtain⟨n0,D0,hown0,hn0,hF0⟩:=hd1.drew.map;obtain⟨w2,hrun2,hown2,ht2⟩:=hown0.drop law Tryz.underlying69 (mO hom) 0;have h2:=hd1.drew.RX old hn0 hF0 hown2 ht2.grown;have hfa1:=hd1.drew.fil old a (by rw[jI _ HD.out.2.2.2.1];exact HD.out.2.2.1);have hfa2:ay w2 a.blk 114 #[a.v,Z (a.lasts:Nat),.bool a.syn]/\w2.ownsRow 0 5 1 a.v a.bs.length (a.bs.map V.aR):=
  ⟨cZ ht2.grown hfa1.1 (fun e=>hd1.drew.jR _ _ _ hfa1.1 (by injection e)),hfa1.2.kept ht2.grown (iT hown0 hfa1.2)⟩
 have hb2:=hb1.drew.keeps h2.2.keep (fun hf=>HD.out.2.2.2.2.1 (hst1.far _ (World.block_lt_of_cell? w ⟨xo,0,none⟩ HD.out.2.1.o) hf)) (fun hf=>HD.out.2.2.2.2.2.1 (hst1.far _ (World.block_lt_of_cell? w ⟨xn,0,none⟩ HD.out.2.1.n) hf)) (fun hf=>HD.out.2.2.2.2.2.2.1 (hst1.far _ (World.block_lt_of_cell? w ⟨xd,0,none⟩ HD.out.2.1.d) hf));have hst2:=(hst1.trans (DStep.of_below (Below.refl _ w1).drew)).trans h2.2;obtain⟨n2,D2,hown2',hn2,hF2⟩:=h2.1.drew.map;obtain⟨w3,hrun3,hown3,ht3⟩:=hown2'.store law Tryz.underlying69 (by unfold maxLen;omega) (mO hsm) (val:=.pointer (some ⟨a.blk,0,none⟩)) (d:=.held (.pointer (some ⟨a.blk,0,none⟩))) (ps:=[]) rfl;have h3:=h2.1.drew.TN s a hfa2 (Ri HD.out.1 HD.out.2.2.1) hn2 hF2 hown3 ht3.grown;have hb3:=hb2.drew.keeps h3.2 (h2.1.EU hb2.o) (h2.1.EU hb2.n) (h2.1.EU hb2.d);have HR:=zh (zN h3.1 (zN h3.2 (zN hst2 (zN hb1 (zN hd1.blk (zN hb2 (zN h2.1.blk (zN hb3 h3.1.blk))))))));clear h2 h3 hb1 hb2 hb3 hst1 hst2 hd1 hfa1 hfa2 hown0 hown2 hown2' hown3 hF0 hF2 ht2 ht3;go_wp2_with fail;have hS:=zN HR.out.2.2.2.1.drew HR.out.2.2.2.2.1.drew;have hS:(fun wx=>nC d xo xn xd old s wx/\ay wx d 71 #[.map (some M),Z (room:Nat),Z u',Z (-1),Z (ops:Nat)]) (w1.drew):=hS;refine aA (fun wx=>nC d xo xn xd old s wx/\ay wx d 71 #[.map (some M),Z (room:Nat),Z u',Z (-1),Z (ops:Nat)]) (by kernel_rfl) hS ?_;refine zB [0,1,2,3,4] ?_;iterate 5 (refine zV ?_ ?_ hS ?_;rotate_left;(intro w' hSw;have u1:=hSw.1.o;have u2:=hSw.1.d;have u3:=hSw.2.cell 0;go_simp<;>with_reducible rfl);try simp only[zP])
 refine zE ?_;refine zC 5 fun K HK=>?_
 go_simp;go_wp2_with fail;refine HK.out.zt (fun wx=>nC d xo xn xd old s wx/\ay wx d 71 #[.map (some M),Z (room:Nat),Z u',Z (-1),Z (ops:Nat)]) (fun _ h=>h) (⟨HR.out.2.2.2.2.2.1,HR.out.2.2.2.2.2.2.1⟩) ?_;clear HK hS;intro hS;try simp only[zP]
 refine zD ?_;try simp only[zP]
 clear hS hrun2;go_wp2_with fail;have hS:=zN HR.out.2.2.2.2.2.1.drew HR.out.2.2.2.2.2.2.1.drew;have hS:(fun wx=>nC d xo xn xd old s wx/\ay wx d 71 #[.map (some M),Z (room:Nat),Z u',Z (-1),Z (ops:Nat)]) (w2.drew):=hS;refine aA (fun wx=>nC d xo xn xd old s wx/\ay wx d 71 #[.map (some M),Z (room:Nat),Z u',Z (-1),Z (ops:Nat)]) (by kernel_rfl) hS ?_;refine zB [0,1,2,3,4,5] ?_;iterate 6 (refine zV ?_ ?_ hS ?_;rotate_left;(intro w' hSw;have u1:=hSw.1.n;have u2:=hSw.1.d;have u3:=hSw.2.cell 0;go_simp<;>with_reducible rfl);try simp only[zP])
 refine zE ?_;refine zC 6 fun K HK=>?_
 go_simp;go_wp2_with fail;refine HK.out.zt (fun wx=>nC d xo xn xd old s wx/\ay wx d 71 #[.map (some M),Z (room:Nat),Z u',Z (-1),Z (ops:Nat)]) (fun _ h=>h) (⟨HR.out.2.2.2.2.2.2.2.1,HR.out.2.2.2.2.2.2.2.2⟩) ?_;clear HK hS;intro hS;try simp only[zP]
 refine zD ?_;try simp only[zP]
 clear hS hrun3;go_wp2_with fail;refine bodyPost_end (v:=.tuple #[]) (by simp[results,Tryz.results298,go_sem]) rfl ?_;rw[<-HD.out.2.2.2.2.2.2.2];refine⟨rfl,HR.out.1,(HR.out.2.2.1.keep.drew).trans HR.out.2.1 (fun q hq e=>.inr (.inl e)),fun q _ hq=>Rj HD.out.2.2.1 q hq⟩
end
section
open Go.RowKit
theorem Oy(w:World)(n:Nat)(hn:n<=1): Calls Tryz.prog 282 #[.int .u64 (n:Nat)] w fun e w'=>(∃ u:Int,e=.returned (Z u))/\Below w.heap.size w w':=by
 obtain rfl | rfl:n=0\/n=1:=J
 ·go_enter Tryz.func282,Tryz.ntmps282
  go_wp2_with fail;go_ret;exact⟨⟨_,rfl⟩,Below.refl _ _⟩
 ·go_enter Tryz.func282,Tryz.ntmps282
  go_wp2_with fail;go_ret;exact⟨⟨_,rfl⟩,Below.refl _ _⟩
theorem QU(w:World)(n:Nat)(hn:n<=1): Calls Tryz.prog 191 #[.int .u64 (n:Nat)] w fun e w'=>(∃ u:Int,e=.returned (Z u))/\Below w.heap.size w w':=by
 go_enter Tryz.func191,Tryz.ntmps191
 go_wp2_with fail;refine(Oy w n hn).mono ?_;rintro e w1 ⟨⟨u,rfl⟩,hb⟩;have HB:=zh hb;clear hb;go_wp2_with fail;go_ret;exact⟨⟨_,rfl⟩,HB.out⟩
theorem Si(w:World)(n c:Nat)(A:Option Addr)(hn:n<=1): Calls Tryz.prog 272 #[.slice A n c,Z 0,Z (n:Nat)] w fun e w'=>e=.returned (.tuple #[])/\Below w.heap.size w w':=by
 have d1:decide ((1:Int) < (n:Int))=false:=by simp;omega
 have d2:decide (1 < n)=false:=by simp;omega
 go_enter Tryz.func272,Tryz.ntmps272
 go_wp2_with fail
 go_loopw [6] (fun i wr=>i=Z 1/\wr=w) (fun _ _=>0)
 case atStart=>exact ⟨rfl,rfl⟩
 case round=>
  obtain⟨rfl,rfl⟩:=hrel;go_wp2_with fail;refine bodyPost_end (v:=.tuple #[]) (by simp[results,Tryz.results272,go_sem]) rfl ?_;exact⟨rfl,Below.refl _ _⟩
theorem Sj(w:World)(n c:Nat)(A:Option Addr)(u:Int)(hn:n<=1): Calls Tryz.prog 190 #[.slice A n c,Z 0,Z (n:Nat),Z u] w fun e w'=>e=.returned (.tuple #[])/\Below w.heap.size w w':=by
 have d1:decide ((n:Int)<=(12:Int))=true:=by simp;omega
 have d2:decide (n<=12)=true:=by simp;omega
 go_enter Tryz.func190,Tryz.ntmps190
 go_wp2_with fail
 go_loopw [1,2,3,8,9] (fun s1 s2 s3 s8 s9 wr=>s1=Z 0/\s2=Z (n:Nat)/\s3=Z u/\s8=.bool true/\s9=.bool true/\wr=w) (fun _ _ _ _ _ _=>0)
 case atStart=>exact ⟨rfl,rfl,rfl,rfl,rfl,rfl⟩
 case round=>
  obtain⟨rfl,rfl,rfl,rfl,rfl,rfl⟩:=hrel;go_wp2_with fail;refine(Si _ n c A hn).mono ?_;rintro e w1 ⟨rfl,hb⟩;have HB:=zh hb;clear hb;go_wp2_with fail;refine bodyPost_ret (v:=.tuple #[]) (by simp[results,Tryz.results190,go_sem]) rfl ?_;exact⟨rfl,HB.out⟩
theorem pW(w:World)(n c:Nat)(A:Option Addr)(hn:n<=1): Calls Tryz.prog 121 #[.slice A n c] w fun e w'=>e=.returned (.tuple #[])/\Below w.heap.size w w':=by
 go_enter Tryz.func121,Tryz.ntmps121
 go_wp2_with fail;refine(QU w n hn).mono ?_;rintro e w1 ⟨⟨u,rfl⟩,hb⟩;have HB:=zh hb;clear hb;go_wp2_with fail;refine(Sj w1 n c A u hn).mono ?_;rintro e w2 ⟨rfl,hb2⟩;have HB2:=zh hb2;clear hb2;go_wp2_with fail;refine bodyPost_end (v:=.tuple #[]) (by simp[results,Tryz.results121,go_sem]) rfl ?_;exact⟨rfl,HB.out.trans (HB2.out.mono HB.out.size)⟩
end
section
open Go.RowKit Go.Maps
theorem Gm(w:World)(d M:Nat)(old s:ByteArray)(a:FS)(p:ByteArray->Option FS)(room:Nat)(used:Int)(ops c:Nat)(hD:aS w d M p room used ops c)(hps:p old=some a)(hne:old≠s)(hlow : -1099511627776<=used)(hu:used<=1099511627776)(hbig:(gL p s).length<=1048576)(ho1:1<=old.size)(ho64:old.size<=64)(hs1:1<=s.size)(hs64:s.size<=64)(hc:c < 512)(ho:ops < 4611686018427387904):
  Calls Tryz.prog 207 #[.pointer (some ⟨d,0,none⟩),.string old,.string s] w fun e w'=>e=.returned (Z 0)/\aS w' d M (rY p old s a) room (used-((gL p s).length:Int)) (ops+1) (c+1)/\DStep w w' d M p (rY p old s a):=by
 obtain⟨x,hx⟩:∃ x,x=w.heap.size:=⟨_,rfl⟩
 have o0:=Own.SN w hx 23 #[.pointer (some ⟨d,0,none⟩)] 9 #[.string old] 9 #[.string s] 9 #[.string old,.string s]
 have HD:=zh (zN hD (zN hps (zN hne (zN hx o0))));clear hD hps hne o0
 go_enter Tryz.func207,Tryz.ntmps207
 go_wp2_with fail;rw[<-hx];refine bQ (Own w [(x,23,#[.pointer (some ⟨d,0,none⟩)]),(x+1,9,#[.string old]),(x+1+1,9,#[.string s]),(x+1+1+1,9,#[.string old,.string s])]) HD.out.2.2.2.2 ?_;intro w1 h1;have H1:=zh h1;clear h1;have hb1:=H1.out.av;refine(Ca w1 d M 2 2 (some ⟨x+1+1+1,0,none⟩) (fun j=>if j=0 then old else s) old a 298 #[.pointer (some ⟨x+1,0,none⟩),.pointer (some ⟨x+1+1,0,none⟩),.pointer (some ⟨x,0,none⟩)] p room used ops c
  (fun w2=>aS w2 d M (rY p old s a) room (used-((gL p s).length:Int)) ops (c+1)/\DStep w w2 d M p (rY p old s a)) (HD.out.1.call hb1) rfl HD.out.2.1 ?_ J J ?_ ho (fun _=>by kernel_rfl) ?_ ?_).mono ?_
 ·intro _
  refine⟨x+1+1+1,0,rfl,(H1.out.get 3 rfl).lt,fun j hj=>?_⟩;obtain rfl | rfl:j=0\/j=1:=J
  ·exact H1.out.cell 3 0 rfl rfl
  ·exact H1.out.cell 3 1 rfl rfl
 ·intro j hj
  obtain rfl | rfl:j=0\/j=1:=J
  ·exact ⟨ho1,ho64⟩
  ·exact ⟨hs1,hs64⟩
 ·intro w2 hb2
  have hb3:Below w.heap.size w w2:=V.aB hb1 hb2;have o2:=H1.out.call hb2;refine(Ev w2 d M (x+1) (x+1+1) x old s a p room used ops c (HD.out.1.call hb3) ⟨o2.cell 1 0 rfl rfl,o2.cell 2 0 rfl rfl,o2.cell 0 0 rfl rfl⟩ HD.out.2.1 HD.out.2.2.1 (kJ HD.out.1 J) (kJ HD.out.1 J) (kJ HD.out.1 J) hlow hu hbig ho64 hs64 hc).mono ?_;rintro e w3 ⟨rfl,h1,h2⟩;exact⟨rfl,h1,(DStep.of_below hb3).trans h2⟩
 ·rintro w2 ⟨h1,-⟩
  exact⟨M,_,_,h1.blk⟩
 ·rintro e w2 ⟨rfl,w3,w4,⟨h3,h4⟩,hb4,hb2⟩
  have HR:=zh (zN h3 (zN h4 (zN hb4 hb2)));clear h3 h4 hb4 hb2;go_wp2_with fail;go_ret;have h5:=(HR.out.1.call HR.out.2.2.1).Kl HR.out.2.2.2;exact⟨rfl,h5.1,(HR.out.2.1.below HR.out.2.2.1).trans h5.2⟩
def xQ(w:World)(bs:List Nat)(e:Ending)(w':World): Prop:=∃ A c,e=.returned (.tuple #[.slice A bs.length c,Z 0])/\w'.ownsRow w.heap.size 5 1 (.slice A bs.length c) bs.length (bs.map V.aR)/\Below w.heap.size w w'
theorem JC(w:World)(d M:Nat)(s:ByteArray)(p:ByteArray->Option FS)(room:Nat)(used:Int)(ops c:Nat)(hD:aS w d M p room used ops c)(hps:p s=none)(hs64:s.size<=64):
  Calls Tryz.prog 21 #[.pointer (some ⟨d,0,none⟩),.string s] w fun e w'=>e=.returned (.tuple #[.slice none 0 0,Z 13])/\Below w.heap.size w w':=by
 have k1:=BN;have hm:(dG p s).getD (.pointer none)=.pointer none:=by unfold dG;rw[hps];rfl
 have HD:=zh (zN hD hm);clear hD hps hm
 go_enter Tryz.func21,Tryz.ntmps21
 go_wp2_with fail;refine(oo w d M (HD.out.1.blk.cell 0)).mono ?_;rintro e w1 ⟨rfl,hb1⟩;have u0:=(HD.out.1.call hb1).blk.cell 0;have u4:=(HD.out.1.call hb1).look s (by unfold maxLen;omega);rw[HD.out.2] at u4
 have HB:=zh hb1;clear hb1;go_wp2_with fail;go_ret2;exact⟨rfl,HB.out⟩
theorem JD(w:World)(d M:Nat)(s:ByteArray)(a:FS)(p:ByteArray->Option FS)(room:Nat)(used:Int)(ops c:Nat)(hD:aS w d M p room used ops c)(hps:p s=some a)(hbig:a.bs.length<=1048576)(hs64:s.size<=64):
  Calls Tryz.prog 21 #[.pointer (some ⟨d,0,none⟩),.string s] w (xQ w a.bs):=by
 have k1:=ug;have hm:(dG p s).getD (.pointer none)=.pointer (some ⟨a.blk,0,none⟩):=by unfold dG;rw[hps];rfl
 have HD:=zh (zN hD (zN hm hps));clear hD hps hm;obtain⟨A0,c0,hav,hc0,-⟩:=aH (HD.out.1.fil s a HD.out.2.2).2;obtain⟨n,hn⟩:∃ n,n=a.bs.length:=⟨_,rfl⟩
 rw[<-hn] at hav hbig hc0
 have HN:=zh (zN hav hn);clear hav hn
 go_enter Tryz.func21,Tryz.ntmps21
 go_wp2_with fail;refine(oo w d M (HD.out.1.blk.cell 0)).mono ?_;rintro e w1 ⟨rfl,hb1⟩;have h1:=HD.out.1.call hb1;obtain⟨w2,hw2⟩:∃ w2,w2=w1.alloc (.cells #[] 5):=⟨_,rfl⟩
 have hb2:Below w1.heap.size w1 w2:=by rw[hw2];exact (Below.refl w1.heap.size w1).alloc (Nat.le_refl _) _
 have h2:=h1.call hb2;have u0:=h1.blk.cell 0;have u4:=h1.look s (by unfold maxLen;omega);have v0:=h2.blk.cell 0;have v4:=h2.look s (by unfold maxLen;omega);have v5:=(h2.fil s a HD.out.2.2).1.cell 0;have hsl:=V.gI (n:=n) (bs:=a.bs) (A:=A0) (c:=c0) (by have:=(h2.fil s a HD.out.2.2).2;rw[<-HN.out.2,HN.out.1] at this;exact this);rw[HD.out.2.1] at u4 v4
 rw[HN.out.1] at v5
 have hown:w2.ownsRow w.heap.size 5 1 (.slice (some ⟨w1.heap.size,0,none⟩) 0 0) 0 []:=by rw[hw2];exact V.OG w1 _ _ hb1.size
 rw[hw2] at v0 v4 v5
 have HB:=zh (zN hb1 (zN hb2 (zN hsl (zN hown hw2))));clear hb1 hb2 hsl hown h1 h2 hw2;go_wp2_with (at_builtin;refine bW (f:=aI a.bs) (D:=fun q=>q < w2.heap.size) (base:=w.heap.size) (n:=0) (xs:=[]) D6 rfl (.tmp 17) (.tmp 26) rfl rfl rfl ?hown ?hsl ?h1 ?h63 ?hby ?hbase ?_)
 case hown=>rw[<-HB.out.2.2.2.2];exact HB.out.2.2.2.1
 case hsl=>rw[<-HB.out.2.2.2.2];exact HB.out.2.2.1
 case h1=>intro j _;rfl
 case h63=>unfold maxLen;omega
 case hby=>omega
 case hbase=>have:=HB.out.1.size;simp;omega
 intro v5' w5 ho5 hg5 hx5;have hb5:Below w.heap.size w w5:=by
  have h35:Below w1.heap.size w1 w5:=rD ((Below.refl _ _).alloc (Nat.le_refl _) _) hg5 (Nat.le_refl _);exact HB.out.1.trans (h35.mono HB.out.1.size)
 obtain⟨A5,c5,hv5,hc5,-⟩:=aH ho5;subst hv5;have ho5':w5.ownsRow w.heap.size 5 1 (.slice A5 a.bs.length c5) a.bs.length (a.bs.map V.aR):=by
  rw[<-HN.out.2,V.jh HN.out.2.symm];exact ho5
 have H5:=zh (zN hb5 ho5');clear ho5 ho5' hg5 hx5 hb5 u0 u4 v0 v4 v5;go_wp2_with fail;go_ret2;exact⟨A5,c5,by rw[<-HN.out.2];rfl,H5.out.2,H5.out.1⟩
theorem Ju(w:World)(d M:Nat)(s:ByteArray)(p:ByteArray->Option FS)(room:Nat)(used:Int)(ops:Nat)(hD:aS w d M p room used ops 0):
  Calls Tryz.prog 54 #[.pointer (some ⟨d,0,none⟩),.string s] w fun e w'=>e=.returned (.slice none 0 0)/\Below w.heap.size w w':=by
 have HD:=zh hD;clear hD
 go_enter Tryz.func54,Tryz.ntmps54
 go_wp2_with fail;refine(oo w d M (HD.out.blk.cell 0)).mono ?_;rintro e w1 ⟨rfl,hb1⟩;have h1:=HD.out.call hb1;have u0:=h1.blk.cell 0;obtain⟨n,D,hown,hn,hF⟩:=h1.map;obtain⟨w2,hr2,hrg2,hg2,hs2⟩:=hown.range law Tryz.underlying69;have hb2:Below w.heap.size w w2:=hb1.grown hg2 hb1.size (fun k hk=>by cases hk);have hsz:Maps.size D=0:=Nat.le_zero.1 hF.sz;rw[hsz] at hrg2
 have hnx:(Instr.next (.pointer (some ⟨w1.heap.size,0,none⟩)) false 0).run Tryz.prog w2=.ok (.tuple #[.bool false]) w2:=by
  rcases hrg2.next law 0 with ⟨-,-,hnx⟩ | ⟨key,v,kl,y,w3,cnt',-,-,-,-,-,-,hlt,-⟩
  ·exact hnx
  ·exact absurd hlt (Nat.not_lt_zero _)
 have H2:=zh hb2;clear hb2 hrg2 hg2 hs2 hown hF hb1 h1;go_wp2_with fail
 go_loopw [5] (fun o wr=>o=.slice none 0 0/\wr=w2) (fun _ _=>0)
 case atStart=>exact ⟨rfl,rfl⟩
 case round=>
  obtain⟨rfl,rfl⟩:=hrel;go_wp2_with fail;refine(pW _ 0 0 none J).mono ?_;rintro e w3 ⟨rfl,hb3⟩;have H3:=zh hb3;clear hb3;go_wp2_with fail;go_ret;exact⟨rfl,V.aB H2.out H3.out⟩
def fb(p:ByteArray->Option FS)(s:ByteArray): Option (List Nat):=(p s).map FS.bs
theorem Ay(p:ByteArray->Option FS)(s:ByteArray)(a:FS): fb (aV p s a)=aV (fb p) s a.bs:=by
 funext y
 unfold fb aV
 by_cases e:y=s
 ·simp[e]
 ·simp[e]
theorem Ho(p:ByteArray->Option FS)(s:ByteArray): fb (fQ p s)=fQ (fb p) s:=by
 funext y
 unfold fb fQ
 by_cases e:y=s
 ·simp[e]
 ·simp[e]
theorem Az{p:ByteArray->Option FS}{s:ByteArray}{bs:List Nat}(h:fb p s=some bs): ∃ a,p s=some a/\a.bs=bs:=by
 unfold fb at h
 cases hp:p s with
 | none=>rw[hp] at h;cases h
 | some a=>rw[hp] at h;exact ⟨a,rfl,by simpa using h⟩
theorem QI{p:ByteArray->Option FS}{s:ByteArray}(h:fb p s=none): p s=none:=by
 unfold fb at h
 cases hp:p s with
 | none=>rfl
 | some a=>rw[hp] at h;cases h
theorem Rc(p:ByteArray->Option FS)(s:ByteArray): gL p s=(fb p s).getD []:=rfl
structure bD(w:World)(d M:Nat)(p:ByteArray->Option FS)(room T G:Nat): Prop where
 ex:∃ (used:Int) (ops c:Nat),aS w d M p room used ops c/\used<=T/\-((G:Int)*1048576)<=used/\ops<=G/\c<=G
 small:∀ s a,p s=some a->a.bs.length<=T
theorem bD.keep{S:Nat->Prop}{w w':World}{d M:Nat}{p:ByteArray->Option FS}{room T G:Nat}(h:bD w d M p room T G)(hk:Keeps S w w')(hS:∀ q,aM d M p q->¬ S q): bD w' d M p room T G:=by
 obtain⟨⟨u,o,c,hD,hr⟩,hs⟩:=h;exact⟨⟨u,o,c,hD.keep hk hS,hr⟩,hs⟩
theorem bD.call{w w':World}{d M:Nat}{p:ByteArray->Option FS}{room T G:Nat}(h:bD w d M p room T G)(hb:Below w.heap.size w w'): bD w' d M p room T G:=
 h.keep (S:=fun _=>False) (Keeps.of_below hb) (fun _ _ h=>h)
theorem bD.dY{w:World}{d M:Nat}{p:ByteArray->Option FS}{room T G q:Nat}(h:bD w d M p room T G)(hq:aM d M p q): q < w.heap.size:=by
 obtain⟨⟨u,o,c,hD,hr⟩,hs⟩:=h;exact hD.dY hq
theorem bD.more{w:World}{d M:Nat}{p:ByteArray->Option FS}{room T G T' G':Nat}(h:bD w d M p room T G)(hT:T<=T')(hG:G<=G'): bD w d M p room T' G':=by
 obtain⟨⟨u,o,c,hD,h1,h2,h3,h4⟩,hs⟩:=h;exact⟨⟨u,o,c,hD,J,J,J,J⟩,fun s a ha=>Nat.le_trans (hs s a ha) hT⟩
def sj(w:World)(d M:Nat)(p:ByteArray->Option FS)(room T G:Nat)(f:ByteArray->Option (List Nat))(e:Ending)(w':World): Prop:=
 e=.returned (Z 0)/\∃ p',bD w' d M p' room T G/\DStep w w' d M p p'/\fb p'=f
theorem oh(w:World)(d M n cp:Nat)(A:Option Addr)(s:ByteArray)(bs:List Nat)(p:ByteArray->Option FS)(room T G:Nat)(h:bD w d M p room T G)(hlen:bs.length=n)(hsl:Sl w (fun q=>q < w.heap.size/\¬ aM d M p q) A n (aI bs))(hT:T+n<=1048576)(hr1:1048576<=room)(hr:room<=1073741824)(hG:G < 512)(hs1:1<=s.size)(hs:s.size<=64):
  Calls Tryz.prog 79 #[.pointer (some ⟨d,0,none⟩),.string s,.slice A n cp] w (sj w d M p room (T+n) (G+1) (aV (fb p) s ((fb p s).getD [] ++ bs))):=by
 obtain⟨⟨u,o,c,hD,h1,h2,h3,h4⟩,hsm⟩:=h;have hol:(gL p s).length<=T:=by
  unfold gL
  cases hp:p s with
  | none=>exact Nat.zero_le _
  | some a=>exact hsm s a hp
 refine(F4 w d M n cp A s bs p room u o c hD hlen hsl J J hr J J hs1 hs J).mono ?_;rintro e w' ⟨rfl,a,ha,hd,hst⟩;refine⟨rfl,aV p s a,⟨⟨_,_,_,hd,J,J,J,J⟩,fun t x hx=>?_⟩,hst,by rw[Ay,ha,Rc]⟩;unfold aV at hx
 split at hx
 ·injection hx with hx
  subst hx;rw[ha,List.length_append];omega
 ·have:=hsm t x hx
  omega
theorem Au(w:World)(d M:Nat)(s:ByteArray)(bs:List Nat)(p:ByteArray->Option FS)(room T G:Nat)(h:bD w d M p room T G)(hf:fb p s=some bs)(hT:T<=1048576)(hG:G < 512)(hs1:1<=s.size)(hs:s.size<=64):
  Calls Tryz.prog 84 #[.pointer (some ⟨d,0,none⟩),.string s] w (sj w d M p room T (G+1) (fb p)):=by
 obtain⟨a,hps,hab⟩:=Az hf;obtain⟨⟨u,o,c,hD,h1,h2,h3,h4⟩,hsm⟩:=h;have hal:a.bs.length<=1048576:=Nat.le_trans (hsm s a hps) hT;refine(Md w d M s a p room u o c hD hps hal hs1 hs J).mono ?_;rintro e w' ⟨rfl,hd,hst⟩;refine⟨rfl,_,⟨⟨_,_,_,hd,J,J,J,J⟩,fun t x hx=>?_⟩,hst,?_⟩
 ·unfold aV at hx
  split at hx
  ·injection hx with hx
   subst hx;exact hsm s a hps
  ·exact hsm t x hx
 ·rw[Ay]
  funext y
  unfold aV
  split
  ·rename_i e
   rw[e,hf,hab]
  ·rfl
theorem Li(w:World)(d M:Nat)(old s:ByteArray)(bs:List Nat)(p:ByteArray->Option FS)(room T G:Nat)(h:bD w d M p room T G)(hf:fb p old=some bs)(hne:old≠s)(hT:T<=1048576)(hG:G < 512)(ho1:1<=old.size)(ho:old.size<=64)(hs1:1<=s.size)(hs:s.size<=64):
  Calls Tryz.prog 207 #[.pointer (some ⟨d,0,none⟩),.string old,.string s] w (sj w d M p room T (G+1) (aV (fQ (fb p) old) s bs)):=by
 obtain⟨a,hps,hab⟩:=Az hf;obtain⟨⟨u,o,c,hD,h1,h2,h3,h4⟩,hsm⟩:=h;have hol:(gL p s).length<=T:=by
  unfold gL
  cases hp:p s with
  | none=>exact Nat.zero_le _
  | some a=>exact hsm s a hp
 refine(Gm w d M old s a p room u o c hD hps hne J J J ho1 ho hs1 hs J J).mono ?_;rintro e w' ⟨rfl,hd,hst⟩;refine⟨rfl,_,⟨⟨_,_,_,hd,J,J,J,J⟩,fun t x hx=>?_⟩,hst,?_⟩
 ·unfold rY at hx
  by_cases hts:t=s
  ·subst hts
   rw[iB] at hx
   injection hx with hx
   subst hx;exact hsm old a hps
  ·rw[kN _ _ hts] at hx
   have hto:t≠old:=fun e=>by subst e;rw[uT] at hx;cases hx
   rw[jI _ hto,jI _ hts] at hx
   exact hsm t x hx
 ·unfold rY
  rw[Ay,Ho,Ho,hab]
  funext y
  unfold aV fQ
  by_cases e:y=s
  ·rw[if_pos e,if_pos e]
  ·rw[if_neg e,if_neg e,if_neg e]
theorem jA(w:World)(d M:Nat)(s:ByteArray)(p:ByteArray->Option FS)(room T G:Nat)(h:bD w d M p room T G)(hf:fb p s=none)(hs:s.size<=64):
  Calls Tryz.prog 21 #[.pointer (some ⟨d,0,none⟩),.string s] w fun e w'=>e=.returned (.tuple #[.slice none 0 0,Z 13])/\Below w.heap.size w w':=by
 obtain⟨⟨u,o,c,hD,-⟩,-⟩:=h;exact JC w d M s p room u o c hD (QI hf) hs
theorem D5(w:World)(d M:Nat)(s:ByteArray)(bs:List Nat)(p:ByteArray->Option FS)(room T G:Nat)(h:bD w d M p room T G)(hf:fb p s=some bs)(hT:T<=1048576)(hs:s.size<=64):
  Calls Tryz.prog 21 #[.pointer (some ⟨d,0,none⟩),.string s] w (xQ w bs):=by
 obtain⟨a,hps,rfl⟩:=Az hf;obtain⟨⟨u,o,c,hD,-⟩,hsm⟩:=h;exact JD w d M s a p room u o c hD hps (Nat.le_trans (hsm s a hps) hT) hs
theorem DZ(w:World)(d M:Nat)(s:ByteArray)(p:ByteArray->Option FS)(room T:Nat)(h:bD w d M p room T 0):
  Calls Tryz.prog 54 #[.pointer (some ⟨d,0,none⟩),.string s] w fun e w'=>e=.returned (.slice none 0 0)/\Below w.heap.size w w':=by
 obtain⟨⟨u,o,c,hD,-,-,-,hc⟩,-⟩:=h;obtain rfl:c=0:=J;exact Ju w d M s p room u o hD
theorem Lh(w:World)(room:Nat)(hr:room<=1073741824): Calls Tryz.prog 7 #[Z (room:Nat)] w fun e w'=>∃ d M,e=.returned (.tuple #[.pointer (some ⟨d,0,none⟩),Z 0])/\w.heap.size<=M/\w.heap.size<=d/\bD w' d M (fun _=>none) room 0 0/\Below w.heap.size w w':=by
 refine(Oz w room hr).mono ?_;rintro e w' ⟨d,M,rfl,h1,h2,h3,h4⟩;exact⟨d,M,rfl,h1,h2,⟨⟨0,0,0,h3,J,J,J,J⟩,fun s a hs=>by cases hs⟩,h4⟩
theorem bD.none{w:World}{d M:Nat}{p:ByteArray->Option FS}{room T G:Nat}(h:bD w d M p room T G): w.cell? ⟨d,0,none⟩=some (.map (some M)):=by
 obtain⟨⟨u,o,c,hD,-⟩,-⟩:=h;exact hD.blk.cell 0
end
section
open Go.RowKit
def lD(n:Nat): List Nat:=[n%256,n / 256%256,n / 65536%256,0]
theorem Jc(n:Nat): ∀ b ∈ lD n,b < 256:=by
 intro b hb;simp[lD] at hb
 omega
def mY(bs:List Nat): List Nat:=F.aZ 1 (lD bs.length) ++ F.aZ 2 bs
theorem xI(bs:List Nat): (mY bs).length=bs.length+22:=by
 unfold mY;rw[List.length_append,F.bT,F.bT];simp[lD];omega
theorem Gl(w:World)(A:Option Addr)(n c:Nat)(D:Nat->Prop)(bs:List Nat)(hl:bs.length=n)(hsl:Sl w D A n (aI bs))(hD:∀ q,D q->q < w.heap.size)(hb:∀ j,bs.getD j 0 < 256)(hn:n<=65536):
  Calls Tryz.prog 78 #[.slice A n c] w (F.uK w (mY bs) 0):=by
 obtain⟨x,hx⟩:∃ x,x=w.heap.size:=⟨_,rfl⟩
 have o0:=Own.bn w hx 5 #[.int .u8 ((n:Int)%256),.int .u8 ((n:Int) / 256%256),.int .u8 ((n:Int) / 65536),.int .u8 0]
 have d1:decide ((65536:Int) < (n:Int))=false:=by simp;omega
 have d2:decide (65536 < n)=false:=by simp;omega
 have HD:=zh (zN hl (zN hsl (zN hD (zN hb (zN hx o0)))));clear hl hsl hD hb o0
 go_enter Tryz.func78,Tryz.ntmps78
 go_wp2_with fail;rw[<-hx];clear hx;refine bQ (Own w [(x,5,#[.int .u8 ((n:Int)%256),.int .u8 ((n:Int) / 256%256),.int .u8 ((n:Int) / 65536),.int .u8 0])]) HD.out.2.2.2.2.2 ?_;intro w1 h1;have hbk:ay w1 x 5 ((lD n).map F.aR).toArray:=by
  have h:=h1.get 0 rfl;have e:((lD n).map F.aR).toArray=#[.int .u8 ((n:Int)%256),.int .u8 ((n:Int) / 256%256),.int .u8 ((n:Int) / 65536),.int .u8 0]:=by
   simp[lD,F.aR];omega
  rw[e];exact h
 have hs4:Sl w1 (fun q=>q < w1.heap.size) (some ⟨x,0,none⟩) 4 (aI (lD n)):=(V.DN hbk)
 have H1:=zh (zN h1.av hs4);clear h1 hbk hs4;refine(F.wL w1 1 _ 4 4 _ (lD n) rfl H1.out.2 (F.rQ (Jc n)) J J).mono ?_;rintro e w2 ⟨A2,c2,rfl,ho2,hk2⟩;have hb2:Below w.heap.size w w2:=H1.out.1.trans (hk2.fF.mono H1.out.1.size);have ho2':=aN ho2 H1.out.1.size;obtain⟨l2,hl2⟩:∃ l2,l2=(F.aZ 1 (lD n)).length:=⟨_,rfl⟩
 rw[<-hl2] at ho2 ho2' ⊢
 have H2:=zh (zN hb2 (zN ho2' hl2));clear ho2 ho2' hk2 hb2;have hl13:l2=13:=by rw[hl2,F.bT];simp[lD]
 have hq2:l2<=13:=J;have HL2:=zh hl13;clear hl2 hl13;go_wp2_with fail;refine(F.wL w2 2 A n c _ bs HD.out.1 (HD.out.2.1.below H2.out.1 (fun q hq _=>HD.out.2.2.1 q hq)) HD.out.2.2.2.1 J J).mono ?_;rintro e w3 ⟨A3,c3,rfl,ho3,hk3⟩;obtain⟨l3,hl3⟩:∃ l3,l3=(F.aZ 2 bs).length:=⟨_,rfl⟩
 rw[<-hl3] at ho3 ⊢
 have hl39:l3=n+9:=by rw[hl3,F.bT,HD.out.1]
 have hq3:l3<=n+9:=J;have HL3:=zh hl39;clear hl39;have hb3:Below w.heap.size w w3:=H2.out.1.trans (hk3.fF.mono H2.out.1.size);have ho23:=aG H2.out.2.1 hk3 (fun _ _ h=>h);have hs3:=(F.sM hl3.symm ho3).mono (E:=fun q=>q < w3.heap.size) (fun q hq=>(ho3.lt q hq).2);have H3:=zh (zN hb3 (zN ho23 (zN hs3 hl3)));clear ho3 hk3 hb3 ho23 hs3 hl3;go_wp2_with (at_builtin;refine bW (f:=aI (F.aZ 2 bs)) (D:=fun q=>q < w3.heap.size) (base:=w.heap.size) (n:=l2) (xs:=(F.aZ 1 (lD n)).map F.aR) F.byteElem rfl (.tmp 31) (.tmp 32) rfl rfl rfl ?hown ?hsl ?h1 ?h63 ?hby ?hbase ?_)
 case hown=>exact H3.out.2.1
 case hsl=>exact H3.out.2.2.1
 case h1=>intro j _;rfl
 case h63=>unfold maxLen;omega
 case hby=>omega
 case hbase=>exact H3.out.1.size
 intro v4 w4 ho4 hg4 hx4;have hb4:Below w.heap.size w w4:=V.Cb H3.out.1 H3.out.2.1 hg4;obtain⟨A4,c4,hv4,hc4,-⟩:=aH ho4;subst hv4;have e4:l2+l3=(mY bs).length:=by rw[xI,HD.out.1,HL2.out,HL3.out];omega
 have ho4':w4.ownsRow w.heap.size 5 1 (.slice A4 (mY bs).length c4) (mY bs).length ((mY bs).map F.aR):=by
  rw[H3.out.2.2.2,F.jh rfl,<-H3.out.2.2.2,e4] at ho4
  unfold mY;rw[List.map_append,HD.out.1];unfold mY at ho4
  rw[HD.out.1] at ho4
  exact ho4
 have H4:=zh (zN hb4 (zN ho4' e4));clear ho4 ho4' hg4 hx4 hb4 e4;go_wp2_with fail;go_ret2;exact⟨A4,c4,by rw[<-H4.out.2.2];rfl,H4.out.2.1,Keeps.of_below H4.out.1⟩
def lF(fs:Nat->Nat)(k:Nat): List Value:=(List.range k).map fun j=>Z (fs j:Nat)
theorem om(fs:Nat->Nat)(k:Nat): (lF fs k).length=k:=by unfold lF;simp
theorem tX(fs:Nat->Nat)(k j:Nat)(h:j < k): (lF fs k)[j]? = some (Z (fs j:Nat)):=by
 unfold lF;rw[List.getElem?_map,List.getElem?_range h];rfl
structure bS(w:World)(l d limit:Nat)(A:Option Addr)(cp:Nat)(fs:Nat->Nat)(k size next:Nat)(dirty:Bool): Prop where
 blk:ay w l 130 #[.pointer (some ⟨d,0,none⟩),Z (limit:Nat),.slice A k cp,Z (size:Nat),Z (next:Nat),.bool dirty,.bool false]
 row:w.ownsRow 0 3 1 (.slice A k cp) k (lF fs k)
def eF(l:Nat)(A:Option Addr)(q:Nat): Prop:=q=l\/(A.map (·.block))=some q
theorem ownB(A:Option Addr)(n c:Nat): (Value.slice A n c).ownBlock=A.map (·.block):=by cases A<;>rfl
theorem bS.keep{S:Nat->Prop}{w w':World}{l d limit:Nat}{A:Option Addr}{cp:Nat}{fs:Nat->Nat}{k size next:Nat}{dirty:Bool}(h:bS w l d limit A cp fs k size next dirty)(hk:Keeps S w w')(hS:∀ q,eF l A q->¬ S q): bS w' l d limit A cp fs k size next dirty:=
 ⟨h.blk.keeps hk (hS _ (.inl rfl)),aG h.row hk (fun g hg=>hS _ (.inr (by rw[<-ownB A k cp];exact hg)))⟩
theorem bS.call{w w':World}{l d limit:Nat}{A:Option Addr}{cp:Nat}{fs:Nat->Nat}{k size next:Nat}{dirty:Bool}(h:bS w l d limit A cp fs k size next dirty)(hb:Below w.heap.size w w'): bS w' l d limit A cp fs k size next dirty:=
 h.keep (S:=fun _=>False) (Keeps.of_below hb) (fun _ _ h=>h)
theorem bS.dY{w:World}{l d limit:Nat}{A:Option Addr}{cp:Nat}{fs:Nat->Nat}{k size next:Nat}{dirty:Bool}(h:bS w l d limit A cp fs k size next dirty){q:Nat}(hq:eF l A q): q < w.heap.size:=by
 rcases hq with rfl | hq
 ·exact h.blk.lt
 ·exact (h.row.lt q (by rw[ownB];exact hq)).2
theorem bS.cellAt{w:World}{l d limit:Nat}{A:Option Addr}{cp:Nat}{fs:Nat->Nat}{k size next:Nat}{dirty:Bool}(h:bS w l d limit A cp fs k size next dirty){g:Nat}(hA:A=some ⟨g,0,none⟩){j:Nat}(hj:j < k): w.cell? ⟨g,j,none⟩=some (Z (fs j:Nat)):=by
 have:=h.row.cells (g:=g) (by rw[hA];rfl) j _ (tX fs k j hj)
 rwa [show (⟨g,0,none⟩:Addr).add j=⟨g,j,none⟩ by unfold Addr.add;split<;>simp_all] at this
theorem bS.ne{w:World}{l d limit:Nat}{A:Option Addr}{cp:Nat}{fs:Nat->Nat}{k size next:Nat}{dirty:Bool}(h:bS w l d limit A cp fs k size next dirty){g:Nat}(hA:A=some ⟨g,0,none⟩): g≠l:=fun e=>by
 have:=own_ne h.row h.blk (by decide);rw[hA] at this
 exact this (by rw[e];rfl)
theorem bS.some{w:World}{l d limit:Nat}{A:Option Addr}{cp:Nat}{fs:Nat->Nat}{k size next:Nat}{dirty:Bool}(h:bS w l d limit A cp fs k size next dirty)(hk:0 < k): ∃ g,A=some ⟨g,0,none⟩/\k<=cp/\g < w.heap.size:=by
 obtain⟨A',c',hv,hc,hg⟩:=aH h.row;injection hv with h1 h2 h3
 subst h1;subst h3;obtain⟨g,hA,-,hlt⟩:=hg hk;exact⟨g,hA,hc,hlt⟩
structure eZ(w w':World)(d M:Nat)(p p':ByteArray->Option FS)(l:Nat)(A A':Option Addr): Prop where
 keep:Keeps (fun q=>aM d M p q\/eF l A q) w w'
 dfar:∀ q,q < w.heap.size->aM d M p' q->aM d M p q
 lfar:∀ q,q < w.heap.size->eF l A' q->eF l A q
theorem eZ.trans{w w1 w2:World}{d M:Nat}{p p1 p2:ByteArray->Option FS}{l:Nat}{A A1 A2:Option Addr}(h:eZ w w1 d M p p1 l A A1)(k:eZ w1 w2 d M p1 p2 l A1 A2): eZ w w2 d M p p2 l A A2:=
 ⟨h.keep.trans k.keep (fun q hq hf=>hf.imp (h.dfar q hq) (h.lfar q hq)),fun q hq hf=>h.dfar q hq (k.dfar q (Nat.lt_of_lt_of_le hq h.keep.size) hf),fun q hq hf=>h.lfar q hq (k.lfar q (Nat.lt_of_lt_of_le hq h.keep.size) hf)⟩
theorem eZ.disk{w w':World}{d M:Nat}{p p':ByteArray->Option FS}(l:Nat)(A:Option Addr)(h:DStep w w' d M p p'): eZ w w' d M p p' l A A:=
 ⟨h.keep.mono (fun q _ hq=>.inl hq),h.far,fun _ _ h=>h⟩
theorem eZ.of_below{w w':World}(d M:Nat)(p:ByteArray->Option FS)(l:Nat)(A:Option Addr)(h:Below w.heap.size w w'): eZ w w' d M p p l A A:=eZ.disk l A (DStep.of_below h)
theorem LX(a:Addr)(w:World): (binOp .eql 76 (.pointer (some a)) (.pointer none)).run Tryz.prog w=.ok (.bool false) w:=by kernel_rfl
theorem F9(a:Addr)(w:World): (binOp .eql 23 (.pointer (some a)) (.pointer none)).run Tryz.prog w=.ok (.bool false) w:=by kernel_rfl
theorem zw(w:World): (Op.unary .not (.bool true)).run Tryz.prog w=.ok (.bool false) w:=by kernel_rfl
theorem xC(w:World): (Op.unary .not (.bool false)).run Tryz.prog w=.ok (.bool true) w:=by kernel_rfl
theorem mR(w:World)(l d:Nat)(hc:w.cell? ⟨l,0,none⟩=some (.pointer (some ⟨d,0,none⟩))): Calls Tryz.prog 65 #[.pointer (some ⟨l,0,none⟩)] w fun e w'=>e=.returned (.bool false)/\Below w.heap.size w w':=by
 have q2:=fun y=>LX ⟨y,0,none⟩
 have q3:=fun y=>F9 ⟨y,0,none⟩
 go_enter Tryz.func65,Tryz.ntmps65
 go_wp2_with fail;go_ret;exact⟨rfl,Below.refl _ _⟩
theorem JV(w:World)(l d limit:Nat)(A:Option Addr)(cp:Nat)(fs:Nat->Nat)(k size next:Nat)(dirty:Bool)(h:bS w l d limit A cp fs k size next dirty): Calls Tryz.prog 27 #[.pointer (some ⟨l,0,none⟩)] w fun e w'=>e=.returned (Z (next:Nat))/\Below w.heap.size w w':=by
 have HD:=zh h;clear h
 go_enter Tryz.func27,Tryz.ntmps27
 go_wp2_with fail;refine(mR w l d (HD.out.blk.cell 0)).mono ?_;rintro e w1 ⟨rfl,hb1⟩;have u0:=(HD.out.call hb1).blk.cell 4;have HB:=zh hb1;clear hb1;go_wp2_with fail;go_ret;exact⟨rfl,HB.out⟩
theorem vw(w:World)(l d limit cp size next:Nat)(A:Option Addr)(fs:Nat->Nat)(dirty:Bool)(h:bS w l d limit A cp fs 0 size next dirty): Calls Tryz.prog 26 #[.pointer (some ⟨l,0,none⟩)] w fun e w'=>e=.returned (Z (next:Nat))/\Below w.heap.size w w':=by
 have HD:=zh h;clear h
 go_enter Tryz.func26,Tryz.ntmps26
 go_wp2_with fail;refine(mR w l d (HD.out.blk.cell 0)).mono ?_;rintro e w1 ⟨rfl,hb1⟩;have u0:=(HD.out.call hb1).blk.cell 4;have u1:=(HD.out.call hb1).blk.cell 2;have HB:=zh hb1;clear hb1;go_wp2_with fail;go_ret;exact⟨rfl,HB.out⟩
theorem EB(w:World)(l d limit:Nat)(A:Option Addr)(cp:Nat)(fs:Nat->Nat)(k size next:Nat)(h:bS w l d limit A cp fs k size next false): Calls Tryz.prog 34 #[.pointer (some ⟨l,0,none⟩)] w fun e w'=>e=.returned (Z 0)/\Below w.heap.size w w':=by
 have nf:=xC;have HD:=zh h;clear h
 go_enter Tryz.func34,Tryz.ntmps34
 go_wp2_with fail;refine(mR w l d (HD.out.blk.cell 0)).mono ?_;rintro e w1 ⟨rfl,hb1⟩;have u0:=(HD.out.call hb1).blk.cell 5;have u1:=(HD.out.call hb1).blk.cell 6;have HB:=zh hb1;clear hb1;go_wp2_with fail;go_ret;exact⟨rfl,HB.out⟩
def KU(w:World)(d M:Nat)(p:ByteArray->Option FS)(room T G l limit:Nat)(A:Option Addr)(cp:Nat)(fs:Nat->Nat)(k size next:Nat)(e:Ending)(w':World): Prop:=
 e=.returned (Z 0)/\∃ p',bD w' d M p' room T (G+1)/\fb p'=fb p/\bS w' l d limit A cp fs k size next false/\eZ w w' d M p p' l A A/\∀ q,eF l A q->¬ aM d M p' q
theorem JX(w:World)(d M:Nat)(p:ByteArray->Option FS)(room T G l limit:Nat)(A:Option Addr)(cp:Nat)(fs:Nat->Nat)(k size next:Nat)(bs:List Nat)(h:bS w l d limit A cp fs (k+1) size next true)(hd:bD w d M p room T G)(hdis:∀ q,eF l A q->¬ aM d M p q)(hf:fb p (aW 119 (fs k))=some bs)(hfk:fs k < 1000000)(hT:T<=1048576)(hG:G < 512)(hk64:k < 1000):
  Calls Tryz.prog 34 #[.pointer (some ⟨l,0,none⟩)] w (KU w d M p room T G l limit A cp fs (k+1) size next):=by
 have nt:=zw;obtain⟨g,rfl,hcp,hg⟩:=h.some J;have HD:=zh (zN h (zN hd (zN hdis hf)));clear h hd hdis hf
 go_enter Tryz.func34,Tryz.ntmps34
 go_wp2_with fail;refine(mR w l d (HD.out.1.blk.cell 0)).mono ?_;rintro e w1 ⟨rfl,hb1⟩;have h1:=HD.out.1.call hb1;have u0:=h1.blk.cell 5;have u1:=h1.blk.cell 6;have hS:=h1.call (Below.refl _ _).drew;have HB:=zh hb1;clear hb1 h1;go_wp2_with fail;clear u0 u1;have e1:IntKind.i64.wrap (k:Int)=(k:Int):=by simp only[IntKind.wrap_i64];omega
 have e2:(k:Int) < (k:Int)+1:=J;have hS:(fun wx=>bS wx l d limit (some ⟨g,0,none⟩) cp fs (k+1) size next true) (w1.drew):=hS;refine aA (fun wx=>bS wx l d limit (some ⟨g,0,none⟩) cp fs (k+1) size next true) (by kernel_rfl) hS ?_;refine zB [0,1,2,3,4,5,6,7,8,9,10,11,12,13,14,15] ?_;iterate 16 (refine zV ?_ ?_ hS ?_;rotate_left;(intro w' hSw;have u0:=hSw.blk.cell 0;have u2:=hSw.blk.cell 2;have u3:=hSw.cellAt rfl (j:=k) J;go_simp<;>with_reducible rfl);try simp only[zP])
 refine zE ?_;refine zC 16 fun K HK=>?_
 go_simp;refine(pI _ (fs k) hfk).mono ?_;rintro e w2 ⟨rfl,hb2⟩;have hb12:Below w.heap.size w w2:=V.aB (V.aB HB.out (Below.refl _ _).drew) hb2;have HB2:=zh hb12;clear hb2 hb12;go_wp2_with fail;refine HK.out.zt (fun wx=>bS wx l d limit (some ⟨g,0,none⟩) cp fs (k+1) size next true) (fun _ h=>h) (HD.out.1.call HB2.out) ?_;clear HK hS;intro hS;try simp only[zP]
 refine zC 17 fun K HK=>?_
 go_simp;refine(Au _ d M (aW 119 (fs k)) bs p room T G (HD.out.2.1.call HB2.out) HD.out.2.2.2 hT hG (by rw[cu];omega) (by rw[cu];omega)).mono ?_;rintro e w3 ⟨rfl,p',hd3,hst3,hf3⟩;have hl3:=(HD.out.1.call HB2.out).keep hst3.keep HD.out.2.2.1;have HR:=zh (zN hd3 (zN hst3 (zN hf3 hl3)));clear hd3 hst3 hf3 hl3;go_wp2_with fail;refine HK.out.zt (fun wx=>bS wx l d limit (some ⟨g,0,none⟩) cp fs (k+1) size next true) (fun _ h=>h) (HR.out.2.2.2) ?_;clear HK hS;intro hS;try simp only[zP]
 refine zt 18 hS ?_;try simp only[zP]
 refine zD ?_;try simp only[zP]
 clear hS e1 e2;have u5:=HR.out.2.2.2.blk.cell 5;have u6:=HR.out.2.2.2.blk.cell 6;have uf:=HR.out.2.2.2.blk.frozen;go_wp2_with fail;go_ret;obtain⟨w4,hw4⟩:∃ w4,w4=(w3.setCell ⟨l,6,none⟩ (.bool false)).setCell ⟨l,5,none⟩ (.bool false):=⟨_,rfl⟩
 have hk4:Keeps (fun q=>q=l) w3 w4:=by rw[hw4];exact ((Keeps.refl (fun q=>q=l) w3).setCell (fun _=>rfl) _).setCell (fun _=>rfl) _
 have hb4:=((HR.out.2.2.2.blk.set 6 (.bool false)).set 5 (.bool false))
 rw[<-hw4] at hb4 ⊢
 have hne:=HR.out.2.2.2.ne rfl;refine⟨rfl,p',HR.out.1.keep hk4 ?_,HR.out.2.2.1,⟨hb4,aG HR.out.2.2.2.row hk4 (fun g' hg' e=>?_)⟩,?_,?_⟩
 ·rintro q hq rfl
  have hlt:=HD.out.1.blk.lt;exact HD.out.2.2.1 q (.inl rfl) (HR.out.2.1.far q (Nat.lt_of_lt_of_le hlt HB2.out.size) hq)
 ·have:g=g':=by simpa [Value.ownBlock] using hg'
  exact hne (this.trans e)
 ·refine ((eZ.of_below d M p l (some ⟨g,0,none⟩) HB2.out).trans (eZ.disk l (some ⟨g,0,none⟩) HR.out.2.1)).trans ⟨hk4.mono (fun q _ e=>.inr (.inl e)),fun _ _ h=>h,fun _ _ h=>h⟩
 ·intro q hq hf
  exact HD.out.2.2.1 q hq (HR.out.2.1.far q (Nat.lt_of_lt_of_le (HD.out.1.dY hq) HB2.out.size) hf)
theorem Av: iK Tryz.prog 62 3 (Z 0) 8:=iK.mk' Tryz.underlying62 rfl (by kernel_rfl)
def nR(fs:Nat->Nat)(k x:Nat): Nat->Nat:=fun j=>if j < k then fs j else x
theorem BK(fs:Nat->Nat)(k x:Nat): lF (nR fs k x) (k+1)=lF fs k ++ [Z (x:Nat)]:=by
 apply List.ext_getElem?;intro j;rcases Nat.lt_trichotomy j k with h | rfl | h
 ·rw[tX _ _ _ J,List.getElem?_append_left (by rw[om];exact h),tX _ _ _ h]
  unfold nR;rw[if_pos h]
 ·rw[tX _ _ _ J,List.getElem?_append_right (by rw[om];omega),om]
  unfold nR;rw[if_neg J];simp
 ·rw[List.getElem?_eq_none (by rw[om];omega),List.getElem?_eq_none (by simp[om];omega)]
def xU(w:World)(d M:Nat)(p:ByteArray->Option FS)(room T G l limit:Nat)(A:Option Addr)(fs:Nat->Nat)(k size next:Nat)(rn:Nat)(e:Ending)(w':World): Prop:=
 e=.returned (Z 0)/\∃ p' A' cp' fs' k' size' c',bD w' d M p' room (T+rn) (G+1)/\bS w' l d limit A' cp' fs' (k'+1) size' (next+1) true/\eZ w w' d M p p' l A A'/\(∀ q,eF l A' q->¬ aM d M p' q)/\
  fb p' (aW 119 (fs' k'))=some c'/\(∀ t,(∀ j,t≠aW 119 j)->fb p' t=fb p t)/\(∀ j,j < k'+1->fs' j < 1000000)/\k'<=k/\size'<=size+rn
theorem Qt{w w6 wE:World}{d M:Nat}{p p':ByteArray->Option FS}{room T G l limit:Nat}{A:Option Addr}{cp:Nat}{fs:Nat->Nat}{k size next r rn:Nat}{X:List Nat}(hd6:bD w6 d M p' room (T+rn) (G+1))(hst:eZ w w6 d M p p' l A A)(hds:∀ q,eF l A q->¬ aM d M p' q)(hf6:fb p'=aV (fb p) (aW 119 (fs k)) X)(hl6:bS w6 l d limit A cp fs (k+1) size next false)(hfs:∀ j,j < k+1->fs j < 1000000)(hr:r<=rn)(hE:wE=((w6.setCell ⟨l,3,none⟩ (Z ((size:Int)+(r:Int)))).setCell ⟨l,5,none⟩ (.bool true)).setCell ⟨l,4,none⟩ (Z ((next:Int)+1))):
  xU w d M p room T G l limit A fs (k+1) size next rn (.returned (Z 0)) wE:=by
 have hk4:Keeps (fun q=>q=l) w6 wE:=by rw[hE];exact (((Keeps.refl (fun q=>q=l) w6).setCell (fun _=>rfl) _).setCell (fun _=>rfl) _).setCell (fun _=>rfl) _
 have hb4:=(((hl6.blk.set 3 (Z ((size:Int)+(r:Int)))).set 5 (.bool true)).set 4 (Z ((next:Int)+1)))
 rw[<-hE] at hb4
 refine⟨rfl,p',A,cp,fs,k,size+r,X,hd6.keep hk4 ?_,⟨hb4,aG hl6.row hk4 (fun g hg e=>own_ne hl6.row hl6.blk (by decide) (by rw[hg,e]))⟩,?_,hds,?_,?_,hfs,J,J⟩
 ·rintro q hq rfl
  exact hds q (.inl rfl) hq
 ·exact hst.trans ⟨hk4.mono (fun q _ e=>.inr (.inl e)),fun _ _ h=>h,fun _ _ h=>h⟩
 ·rw[hf6,iB]
 ·intro t ht
  rw[hf6,kN _ _ (ht _)]
theorem GV{w w6 w7 wE:World}{d M:Nat}{p p':ByteArray->Option FS}{room T G l limit:Nat}{A A7:Option Addr}{cp c7:Nat}{fs:Nat->Nat}{k size next r rn:Nat}{X:List Nat}{o:Obj}(hd6:bD w6 d M p' room (T+rn) (G+1))(hst:eZ w w6 d M p p' l A A)(hds:∀ q,eF l A q->¬ aM d M p' q)(hf6:fb p'=aV (fb p) (aW 119 next) X)(hl6:bS w6 l d limit A cp fs k size next false)(hfs:∀ j,j < k->fs j < 1000000)(hnx:next < 1000000)(hr:r<=rn)(hrow:w7.ownsRow 0 3 1 (.slice A7 (k+1) c7) (k+1) (lF (nR fs k next) (k+1)))(hbk:ay w7 l 130 #[.pointer (some ⟨d,0,none⟩),Z (limit:Nat),.slice A k cp,Z (size:Nat),Z (next:Nat),.bool false,.bool false])(hg7:(w6.alloc o).grownBy w7 (Value.slice A k cp).ownBlock)(hx7:(Value.slice A7 (k+1) c7).ownBlock=(Value.slice A k cp).ownBlock\/(Value.slice A7 (k+1) c7).ownBlock=some (w6.heap.size+1))(hE:wE=((((w7.setCell ⟨l,2,none⟩ (.slice A7 (k+1) c7)).setCell ⟨l,3,none⟩ (Z 0)).setCell ⟨l,3,none⟩ (Z (r:Int))).setCell ⟨l,5,none⟩ (.bool true)).setCell ⟨l,4,none⟩ (Z ((next:Int)+1))):
  xU w d M p room T G l limit A fs k size next rn (.returned (Z 0)) wE:=by
 have hk4:Keeps (fun q=>q=l) w7 wE:=by rw[hE];exact (((((Keeps.refl (fun q=>q=l) w7).setCell (fun _=>rfl) _).setCell (fun _=>rfl) _).setCell (fun _=>rfl) _).setCell (fun _=>rfl) _).setCell (fun _=>rfl) _
 have hb4:=(((((hbk.set 2 (.slice A7 (k+1) c7)).set 3 (Z 0)).set 3 (Z (r:Int))).set 5 (.bool true)).set 4 (Z ((next:Int)+1)))
 rw[<-hE] at hb4
 have hk6:Keeps (eF l A) w6 wE:=by
  refine((((Keeps.refl (eF l A) w6).alloc o).grown hg7 (fun k' hk' _=>.inr (by rw[<-ownB A k cp];exact hk')))).trans' (hk4.mono ?_);intro q _ e;exact .inl e
 have hin:∀ q,eF l A7 q->eF l A q\/w6.heap.size<=q:=by
  rintro q (rfl | hq)
  ·exact .inl (.inl rfl)
  ·rcases hx7 with h | h
   ·rw[ownB,ownB] at h
    exact .inl (.inr (by rw[<-h];exact hq))
   ·rw[ownB] at h
    rw[hq] at h
    injection h with h
    right
    omega
 refine⟨rfl,p',A7,c7,nR fs k next,k,r,X,hd6.keep hk6 (fun q hq hl=>hds q hl hq),⟨hb4,aG hrow hk4 (fun g hg e=>own_ne hrow hbk (by decide) (by rw[hg,e]))⟩,?_,?_,?_,?_,?_,Nat.le_refl _,J⟩
 ·refine hst.trans ⟨hk6.mono (fun q _ e=>.inr e),fun _ _ h=>h,fun q hq hl=>?_⟩
  rcases hin q hl with h | h
  ·exact h
  ·omega
 ·intro q hq hf
  rcases hin q hq with h | h
  ·exact hds q h hf
  ·have:=hd6.dY hf
   omega
 ·rw[show nR fs k next k=next by unfold nR;rw[if_neg J],hf6,iB]
 ·intro t ht
  rw[hf6,kN _ _ (ht _)]
 ·intro j hj
  unfold nR
  split
  ·rename_i h
   exact hfs j h
  ·exact hnx
theorem Mf(w:World)(d M:Nat)(p:ByteArray->Option FS)(room T G l limit:Nat)(A:Option Addr)(cp:Nat)(fs:Nat->Nat)(k size next:Nat)(Ab:Option Addr)(n cb:Nat)(bs:List Nat)(D:Nat->Prop)(h:bS w l d limit A cp fs k size next false)(hd:bD w d M p room T G)(hdis:∀ q,eF l A q->¬ aM d M p q)(hl:bs.length=n)(hsl:Sl w D Ab n (aI bs))(hD:∀ q,D q->q < w.heap.size)(hb:∀ j,bs.getD j 0 < 256)(hn:n<=60000)(hT:T+n+22<=1048576)(hr1:1048576<=room)(hr:room<=1073741824)(hG:G < 512)(hk:k < 1000)(hs:size<=1048576)(hnx:next < 1000000)(hfs:∀ j,j < k->fs j < 1000000)(hlim:limit<=1048576):
  Calls Tryz.prog 32 #[.pointer (some ⟨l,0,none⟩),.slice Ab n cb] w (xU w d M p room T G l limit A fs k size next (n+22)):=by
 have nt:=zw;have nf:=xC;have HD:=zh (zN h (zN hd (zN hdis (zN hl (zN hsl (zN hD (zN hb hfs)))))));clear h hd hdis hl hsl hD hb hfs
 go_enter Tryz.func32,Tryz.ntmps32
 go_wp2_with fail;refine(mR w l d (HD.out.1.blk.cell 0)).mono ?_;rintro e w1 ⟨rfl,hb1⟩;have u6:=(HD.out.1.call hb1).blk.cell 6;have HB:=zh hb1;clear hb1;go_wp2_with fail;refine(Gl w1 Ab n cb D bs HD.out.2.2.2.1 (HD.out.2.2.2.2.1.below HB.out (fun q hq _=>HD.out.2.2.2.2.2.1 q hq)) (fun q hq=>Nat.lt_of_lt_of_le (HD.out.2.2.2.2.2.1 q hq) HB.out.size) HD.out.2.2.2.2.2.2.1 J).mono ?_;rintro e w2 ⟨Ar,cr,rfl,hor,hkr⟩;obtain⟨rn,hrn⟩:∃ rn,rn=(mY bs).length:=⟨_,rfl⟩
 rw[<-hrn] at hor ⊢
 have hrl:rn=n+22:=by rw[hrn,xI,HD.out.2.2.2.1]
 have hrl2:rn<=n+22:=J;have hb2:Below w.heap.size w w2:=HB.out.trans (hkr.fF.mono HB.out.size);have hsr:Sl w2 (fun q=>w.heap.size<=q/\q < w2.heap.size) Ar rn (aI (mY bs)):=(F.sM hrn.symm hor).mono (fun q hq=>by have:=hor.lt q hq;exact ⟨Nat.le_trans HB.out.size this.1,this.2⟩);have HR:=zh (zN hb2 (zN hsr (zN hrn hrl)));clear hb2 hsr hrn hrl hor hkr u6;go_wp2_with fail;have hS:=HD.out.1.call (V.aB HR.out.1 (Below.refl _ _).drew)
 cases k with
 | zero=>
  have hS:(fun wx=>bS wx l d limit A cp fs 0 size next false) (w2.drew):=hS;refine aA (fun wx=>bS wx l d limit A cp fs 0 size next false) (by kernel_rfl) hS ?_;refine zB [0,1,2,3,4,5,6,7,8,9,10,11] ?_;iterate 12 (refine zV ?_ ?_ hS ?_;rotate_left;(intro w' hSw;have u2:=hSw.blk.cell 2;have u4:=hSw.blk.cell 4;go_simp<;>with_reducible rfl);try simp only[zP])
  refine zE ?_;refine zD ?_;try simp only[zP]
  go_wp2_with fail;have hS:=hS.call (Below.refl _ _).drew;have hS:(fun wx=>bS wx l d limit A cp fs 0 size next false) (w2.drew.drew):=hS;refine aA (fun wx=>bS wx l d limit A cp fs 0 size next false) (by kernel_rfl) hS ?_;refine zB [0,1,2] ?_;iterate 3 (refine zv hS ?_;try simp only[zP])
  refine zE ?_;refine zB [3,4,5,6,7,8,9,10,11] ?_;iterate 9 (refine zW hS ?_;try simp only[zP])
  refine zE ?_;refine zt 12 hS ?_;try simp only[zP]
  refine zD ?_;try simp only[zP]
  clear hS;go_wp2_with fail;refine aC (fun wx=>bS wx l d limit A cp fs 0 size next false/\Below w2.heap.size w2 wx) ⟨HD.out.1.call (V.aB HR.out.1 (V.aB (Below.refl _ _).drew (Below.refl _ _).drew)),(V.aB (Below.refl _ _).drew (Below.refl _ _).drew)⟩ ?_;intro w4 h4;have H4:=zh h4;clear h4;have hS:=H4.out.1.call (Below.refl _ _).drew;have hS:(fun wx=>bS wx l d limit A cp fs 0 size next false) (w4.drew):=hS;refine aA (fun wx=>bS wx l d limit A cp fs 0 size next false) (by kernel_rfl) hS ?_;refine zB [0,1,2,3,4,6] ?_;iterate 6 (refine zV ?_ ?_ hS ?_;rotate_left;(intro w' hSw;have u0:=hSw.blk.cell 0;go_simp<;>with_reducible rfl);try simp only[zP])
  refine zE ?_;refine zC 5 fun K HK=>?_
  go_simp;refine(pI _ next hnx).mono ?_;rintro e w5 ⟨rfl,hb5⟩;have hb45:Below w4.heap.size w4 w5:=V.aB (Below.refl _ _).drew hb5;have HB5:=zh (zN (V.aB H4.out.2 hb45) (V.aB HR.out.1 (V.aB H4.out.2 hb45)));clear hb5 hb45;go_wp2_with fail;refine HK.out.zt (fun wx=>bS wx l d limit A cp fs 0 size next false) (fun _ h=>h) (HD.out.1.call HB5.out.2) ?_;clear HK hS;intro hS;try simp only[zP]
  refine zC 7 fun K HK=>?_
  go_simp;refine(oh w5 d M rn cr Ar (aW 119 next) (mY bs) p room T G (HD.out.2.1.call HB5.out.2) HR.out.2.2.1.symm ((HR.out.2.1.below HB5.out.1 (fun q hq _=>hq.2)).mono (fun q hq=>⟨Nat.lt_of_lt_of_le hq.2 HB5.out.1.size,fun hf=>by have:=HD.out.2.1.dY hf;omega⟩)) J hr1 hr hG (by rw[cu];omega) (by rw[cu];omega)).mono ?_;rintro e w6 ⟨rfl,p',hd6,hst6,hf6⟩;have hl6:=(HD.out.1.call HB5.out.2).keep hst6.keep HD.out.2.2.1;have hst:eZ w w6 d M p p' l A A:=(eZ.of_below d M p l A HB5.out.2).trans (eZ.disk l A hst6);have hds:∀ q,eF l A q->¬ aM d M p' q:=fun q hq hf=>HD.out.2.2.1 q hq (hst6.far q (Nat.lt_of_lt_of_le (HD.out.1.dY hq) HB5.out.2.size) hf)
  have hdT:=hd6.more (T':=T+(n+22)) (G':=G+1) J (Nat.le_refl _);have H6:=zh (zN hdT (zN hst (zN hds (zN hf6 hl6))));clear hd6 hst6 hf6 hl6 hst hds hdT;go_wp2_with fail;refine HK.out.zt (fun wx=>bS wx l d limit A cp fs 0 size next false) (fun _ h=>h) (H6.out.2.2.2.2) ?_;clear HK hS;intro hS;try simp only[zP]
  refine zt 8 hS ?_;try simp only[zP]
  refine zD ?_;try simp only[zP]
  clear hS;have z2:=H6.out.2.2.2.2.blk.cell 2;have z3:=H6.out.2.2.2.2.blk.cell 3;have z4:=H6.out.2.2.2.2.blk.cell 4;have z5:=H6.out.2.2.2.2.blk.cell 5;have zf:=H6.out.2.2.2.2.blk.frozen;go_wp2_with (at_builtin;refine bW (f:=fun _=>Z (next:Nat)) (D:=fun q=>q=w6.heap.size) (base:=0) (n:=0) (xs:=lF fs 0) Av rfl (.tmp 95) (.tmp 97) rfl rfl rfl ?hown ?hsl ?h1 ?h63 ?hby ?hbase ?_)
  case hown=>exact H6.out.2.2.2.2.row.alloc _
  case hsl=>exact oF w6 _ _
  case h1=>intro j _;rfl
  case h63=>unfold maxLen;omega
  case hby=>omega
  case hbase=>exact Nat.zero_le _
  intro v7 w7 ho7 hg7 hx7;obtain⟨A7,c7,hv7,hc7,-⟩:=aH ho7;subst hv7;have hrow:w7.ownsRow 0 3 1 (.slice A7 (0+1) c7) (0+1) (lF (nR fs 0 next) (0+1)):=by rw[BK];exact ho7
  have hbk:=cZ hg7 (H6.out.2.2.2.2.blk.alloc (.cells #[Z (next:Nat)] 3)) (fun e=>own_ne H6.out.2.2.2.2.row H6.out.2.2.2.2.blk (by decide) e.symm);clear z2 z3 z4 z5 zf;have z2:=hbk.cell 2;have z3:=hbk.cell 3;have z4:=hbk.cell 4;have z5:=hbk.cell 5;have zf:=hbk.frozen;have H7:=zh (zN hrow (zN hbk (zN hg7 hx7)));clear hrow hbk hg7 hx7 ho7;go_wp2_with fail;go_ret;exact GV H6.out.1 H6.out.2.1 H6.out.2.2.1 H6.out.2.2.2.1 H6.out.2.2.2.2 HD.out.2.2.2.2.2.2.2 hnx hrl2 H7.out.1 H7.out.2.1 H7.out.2.2.1 H7.out.2.2.2 rfl
 | succ k=>
  obtain⟨g,rfl,hcp,hg⟩:=HD.out.1.some J;have d0:(((k+1:Nat):Int) == 0)=false:=by simp;omega
  have e2:(k:Int) < (k:Int)+1:=J;have e1:IntKind.i64.wrap (k:Int)=(k:Int):=by simp only[IntKind.wrap_i64];omega
  have hS:(fun wx=>bS wx l d limit (some ⟨g,0,none⟩) cp fs (k+1) size next false) (w2.drew):=hS;refine aA (fun wx=>bS wx l d limit (some ⟨g,0,none⟩) cp fs (k+1) size next false) (by kernel_rfl) hS ?_;refine zB [0,1,2,3,4,5,6,7,8,9,10,11] ?_;iterate 12 (refine zV ?_ ?_ hS ?_;rotate_left;(intro w' hSw;have u2:=hSw.blk.cell 2;have u4:=hSw.blk.cell 4;go_simp<;>with_reducible rfl);try simp only[zP])
  refine zE ?_;refine zD ?_;try simp only[zP]
  go_wp2_with fail;have hS:=hS.call (Below.refl _ _).drew
  by_cases hsz:limit<=size
  ·have d1:decide ((limit:Int)<=(size:Int))=true:=by simp;omega
   have d2:decide (limit<=size)=true:=by simp;omega
   have hS:(fun wx=>bS wx l d limit (some ⟨g,0,none⟩) cp fs (k+1) size next false) (w2.drew.drew):=hS;refine aA (fun wx=>bS wx l d limit (some ⟨g,0,none⟩) cp fs (k+1) size next false) (by kernel_rfl) hS ?_;refine zB [0,1,2,3,4,5,6,7,8,9,10,11,12] ?_;iterate 13 (refine zV ?_ ?_ hS ?_;rotate_left;(intro w' hSw;have u1:=hSw.blk.cell 1;have u3:=hSw.blk.cell 3;go_simp<;>with_reducible rfl);try simp only[zP])
   refine zE ?_;refine zD ?_;try simp only[zP]
   clear d1 d2;go_wp2_with fail;refine(EB _ l d limit (some ⟨g,0,none⟩) cp fs (k+1) size next hS).mono ?_;rintro e w4 ⟨rfl,hb4⟩;have h4:bS w4 l d limit (some ⟨g,0,none⟩) cp fs (k+1) size next false/\Below w2.heap.size w2 w4:=⟨hS.call hb4,V.aB (V.aB (Below.refl _ _).drew (Below.refl _ _).drew) hb4⟩
   have H4:=zh h4;clear h4 hS hb4 hsz;go_wp2_with fail;have hS:=H4.out.1.call (Below.refl _ _).drew;have hS:(fun wx=>bS wx l d limit (some ⟨g,0,none⟩) cp fs (k+1) size next false) (w4.drew):=hS;refine aA (fun wx=>bS wx l d limit (some ⟨g,0,none⟩) cp fs (k+1) size next false) (by kernel_rfl) hS ?_;refine zB [0,1,2,3,4,6] ?_;iterate 6 (refine zV ?_ ?_ hS ?_;rotate_left;(intro w' hSw;have u0:=hSw.blk.cell 0;go_simp<;>with_reducible rfl);try simp only[zP])
   refine zE ?_;refine zC 5 fun K HK=>?_
   go_simp;refine(pI _ next hnx).mono ?_;rintro e w5 ⟨rfl,hb5⟩;have hb45:Below w4.heap.size w4 w5:=V.aB (Below.refl _ _).drew hb5;have HB5:=zh (zN (V.aB H4.out.2 hb45) (V.aB HR.out.1 (V.aB H4.out.2 hb45)));clear hb5 hb45;go_wp2_with fail;refine HK.out.zt (fun wx=>bS wx l d limit (some ⟨g,0,none⟩) cp fs (k+1) size next false) (fun _ h=>h) (HD.out.1.call HB5.out.2) ?_;clear HK hS;intro hS;try simp only[zP]
   refine zC 7 fun K HK=>?_
   go_simp;refine(oh w5 d M rn cr Ar (aW 119 next) (mY bs) p room T G (HD.out.2.1.call HB5.out.2) HR.out.2.2.1.symm ((HR.out.2.1.below HB5.out.1 (fun q hq _=>hq.2)).mono (fun q hq=>⟨Nat.lt_of_lt_of_le hq.2 HB5.out.1.size,fun hf=>by have:=HD.out.2.1.dY hf;omega⟩)) J hr1 hr hG (by rw[cu];omega) (by rw[cu];omega)).mono ?_;rintro e w6 ⟨rfl,p',hd6,hst6,hf6⟩;have hl6:=(HD.out.1.call HB5.out.2).keep hst6.keep HD.out.2.2.1;have hst:eZ w w6 d M p p' l (some ⟨g,0,none⟩) (some ⟨g,0,none⟩):=(eZ.of_below d M p l (some ⟨g,0,none⟩) HB5.out.2).trans (eZ.disk l (some ⟨g,0,none⟩) hst6);have hds:∀ q,eF l (some ⟨g,0,none⟩) q->¬ aM d M p' q:=fun q hq hf=>HD.out.2.2.1 q hq (hst6.far q (Nat.lt_of_lt_of_le (HD.out.1.dY hq) HB5.out.2.size) hf)
   have hdT:=hd6.more (T':=T+(n+22)) (G':=G+1) J (Nat.le_refl _);have H6:=zh (zN hdT (zN hst (zN hds (zN hf6 hl6))));clear hd6 hst6 hf6 hl6 hst hds hdT;go_wp2_with fail;refine HK.out.zt (fun wx=>bS wx l d limit (some ⟨g,0,none⟩) cp fs (k+1) size next false) (fun _ h=>h) (H6.out.2.2.2.2) ?_;clear HK hS;intro hS;try simp only[zP]
   refine zt 8 hS ?_;try simp only[zP]
   refine zD ?_;try simp only[zP]
   clear hS;have z2:=H6.out.2.2.2.2.blk.cell 2;have z3:=H6.out.2.2.2.2.blk.cell 3;have z4:=H6.out.2.2.2.2.blk.cell 4;have z5:=H6.out.2.2.2.2.blk.cell 5;have zf:=H6.out.2.2.2.2.blk.frozen;go_wp2_with (at_builtin;refine bW (f:=fun _=>Z (next:Nat)) (D:=fun q=>q=w6.heap.size) (base:=0) (n:=(k+1)) (xs:=lF fs (k+1)) Av rfl (.tmp 95) (.tmp 97) rfl rfl rfl ?hown ?hsl ?h1 ?h63 ?hby ?hbase ?_)
   case hown=>exact H6.out.2.2.2.2.row.alloc _
   case hsl=>exact oF w6 _ _
   case h1=>intro j _;rfl
   case h63=>unfold maxLen;omega
   case hby=>omega
   case hbase=>exact Nat.zero_le _
   intro v7 w7 ho7 hg7 hx7;obtain⟨A7,c7,hv7,hc7,-⟩:=aH ho7;subst hv7;have hrow:w7.ownsRow 0 3 1 (.slice A7 ((k+1)+1) c7) ((k+1)+1) (lF (nR fs (k+1) next) ((k+1)+1)):=by rw[BK];exact ho7
   have hbk:=cZ hg7 (H6.out.2.2.2.2.blk.alloc (.cells #[Z (next:Nat)] 3)) (fun e=>own_ne H6.out.2.2.2.2.row H6.out.2.2.2.2.blk (by decide) e.symm);clear z2 z3 z4 z5 zf;have z2:=hbk.cell 2;have z3:=hbk.cell 3;have z4:=hbk.cell 4;have z5:=hbk.cell 5;have zf:=hbk.frozen;have H7:=zh (zN hrow (zN hbk (zN hg7 hx7)));clear hrow hbk hg7 hx7 ho7;go_wp2_with fail;go_ret;exact GV H6.out.1 H6.out.2.1 H6.out.2.2.1 H6.out.2.2.2.1 H6.out.2.2.2.2 HD.out.2.2.2.2.2.2.2 hnx hrl2 H7.out.1 H7.out.2.1 H7.out.2.2.1 H7.out.2.2.2 rfl
  ·have d1:decide ((limit:Int)<=(size:Int))=false:=by simp;omega
   have d2:decide (limit<=size)=false:=by simp;omega
   have hS:(fun wx=>bS wx l d limit (some ⟨g,0,none⟩) cp fs (k+1) size next false) (w2.drew.drew):=hS;refine aA (fun wx=>bS wx l d limit (some ⟨g,0,none⟩) cp fs (k+1) size next false) (by kernel_rfl) hS ?_;refine zB [0,1,2,3,4,5,6,7,8,9,10,11,12] ?_;iterate 13 (refine zV ?_ ?_ hS ?_;rotate_left;(intro w' hSw;have u1:=hSw.blk.cell 1;have u3:=hSw.blk.cell 3;go_simp<;>with_reducible rfl);try simp only[zP])
   refine zE ?_;refine zD ?_;try simp only[zP]
   clear d1 d2;go_wp2_with fail;have hS:=hS.call (Below.refl _ _).drew;have hS:(fun wx=>bS wx l d limit (some ⟨g,0,none⟩) cp fs (k+1) size next false) (w2.drew.drew.drew):=hS;refine aA (fun wx=>bS wx l d limit (some ⟨g,0,none⟩) cp fs (k+1) size next false) (by kernel_rfl) hS ?_;refine zB [0,1,2,3,4,5,6,7,8,9,10,11,12] ?_;iterate 13 (refine zV ?_ ?_ hS ?_;rotate_left;(intro w' hSw;have u2:=hSw.blk.cell 2;have u3:=hSw.cellAt rfl (j:=k) J;go_simp<;>with_reducible rfl);try simp only[zP])
   refine zE ?_;refine zD ?_;try simp only[zP]
   clear hS;go_wp2_with fail;refine aC (fun wx=>bS wx l d limit (some ⟨g,0,none⟩) cp fs (k+1) size next false/\Below w2.heap.size w2 wx) ⟨HD.out.1.call (V.aB HR.out.1 (V.aB (V.aB (Below.refl _ _).drew (Below.refl _ _).drew) (Below.refl _ _).drew)),(V.aB (V.aB (Below.refl _ _).drew (Below.refl _ _).drew) (Below.refl _ _).drew)⟩ ?_;intro w4 h4;have H4:=zh h4;clear h4 hsz;have hS:=H4.out.1.call (Below.refl _ _).drew;have hS:(fun wx=>bS wx l d limit (some ⟨g,0,none⟩) cp fs (k+1) size next false) (w4.drew):=hS;refine aA (fun wx=>bS wx l d limit (some ⟨g,0,none⟩) cp fs (k+1) size next false) (by kernel_rfl) hS ?_;refine zB [0,1,2,3,4,6] ?_;iterate 6 (refine zV ?_ ?_ hS ?_;rotate_left;(intro w' hSw;have u0:=hSw.blk.cell 0;go_simp<;>with_reducible rfl);try simp only[zP])
   refine zE ?_;refine zC 5 fun K HK=>?_
   go_simp;refine(pI _ (fs k) (HD.out.2.2.2.2.2.2.2 k J)).mono ?_;rintro e w5 ⟨rfl,hb5⟩;have hb45:Below w4.heap.size w4 w5:=V.aB (Below.refl _ _).drew hb5;have HB5:=zh (zN (V.aB H4.out.2 hb45) (V.aB HR.out.1 (V.aB H4.out.2 hb45)));clear hb5 hb45;go_wp2_with fail;refine HK.out.zt (fun wx=>bS wx l d limit (some ⟨g,0,none⟩) cp fs (k+1) size next false) (fun _ h=>h) (HD.out.1.call HB5.out.2) ?_;clear HK hS;intro hS;try simp only[zP]
   refine zC 7 fun K HK=>?_
   go_simp;refine(oh w5 d M rn cr Ar (aW 119 (fs k)) (mY bs) p room T G (HD.out.2.1.call HB5.out.2) HR.out.2.2.1.symm ((HR.out.2.1.below HB5.out.1 (fun q hq _=>hq.2)).mono (fun q hq=>⟨Nat.lt_of_lt_of_le hq.2 HB5.out.1.size,fun hf=>by have:=HD.out.2.1.dY hf;omega⟩)) J hr1 hr hG (by rw[cu];omega) (by rw[cu];omega)).mono ?_;rintro e w6 ⟨rfl,p',hd6,hst6,hf6⟩;have hl6:=(HD.out.1.call HB5.out.2).keep hst6.keep HD.out.2.2.1;have hst:eZ w w6 d M p p' l (some ⟨g,0,none⟩) (some ⟨g,0,none⟩):=(eZ.of_below d M p l (some ⟨g,0,none⟩) HB5.out.2).trans (eZ.disk l (some ⟨g,0,none⟩) hst6);have hds:∀ q,eF l (some ⟨g,0,none⟩) q->¬ aM d M p' q:=fun q hq hf=>HD.out.2.2.1 q hq (hst6.far q (Nat.lt_of_lt_of_le (HD.out.1.dY hq) HB5.out.2.size) hf)
   have hdT:=hd6.more (T':=T+(n+22)) (G':=G+1) J (Nat.le_refl _);have H6:=zh (zN hdT (zN hst (zN hds (zN hf6 hl6))));clear hd6 hst6 hf6 hl6 hst hds hdT;go_wp2_with fail;refine HK.out.zt (fun wx=>bS wx l d limit (some ⟨g,0,none⟩) cp fs (k+1) size next false) (fun _ h=>h) (H6.out.2.2.2.2) ?_;clear HK hS;intro hS;try simp only[zP]
   refine zt 8 hS ?_;try simp only[zP]
   refine zD ?_;try simp only[zP]
   clear hS;have z2:=H6.out.2.2.2.2.blk.cell 2;have z3:=H6.out.2.2.2.2.blk.cell 3;have z4:=H6.out.2.2.2.2.blk.cell 4;have z5:=H6.out.2.2.2.2.blk.cell 5;have zf:=H6.out.2.2.2.2.blk.frozen;go_wp2_with fail;go_ret;exact Qt H6.out.1 H6.out.2.1 H6.out.2.2.1 H6.out.2.2.2.1 H6.out.2.2.2.2 HD.out.2.2.2.2.2.2.2 hrl2 rfl
theorem JW(w:World)(d M:Nat)(room T limit:Nat)(hd:bD w d M (fun _=>none) room T 0)(h1:1<=limit)(h2:limit<=1048576):
  Calls Tryz.prog 24 #[.pointer (some ⟨d,0,none⟩),Z (limit:Nat)] w fun e w'=>∃ l,e=.returned (.tuple #[.pointer (some ⟨l,0,none⟩),.slice none 0 0,Z 0])/\w.heap.size<=l/\bS w' l d limit none 0 (fun _=>0) 0 0 0 false/\Below w.heap.size w w':=by
 have d1:decide ((limit:Int) < 1)=false:=by simp;omega
 have d2:decide ((1048576:Int) < (limit:Int))=false:=by simp;omega
 have d3:decide (limit < 1)=false:=by simp;omega
 have d4:decide (1048576 < limit)=false:=by simp;omega
 have HD:=zh hd;clear hd
 go_enter Tryz.func24,Tryz.ntmps24
 go_wp2_with fail;refine(jA w d M ⟨#[119]⟩ _ room T 0 HD.out rfl (by decide)).mono ?_;rintro e w1 ⟨rfl,hb1⟩;obtain⟨x,hx⟩:∃ x,x=w1.heap.size:=⟨_,rfl⟩
 have o0:=Own.eD w1 hx 130 #[.pointer (some ⟨d,0,none⟩),Z (limit:Nat),.slice none 0 0,Z 0,Z 0,.bool false,.bool false] 86 #[.slice none 0 0]
 have HB:=zh (zN hb1 (zN hx o0));clear hb1 o0;go_wp2_with fail;rw[<-hx];clear hx;refine bQ (Own w1 [(x,130,#[.pointer (some ⟨d,0,none⟩),Z (limit:Nat),.slice none 0 0,Z 0,Z 0,.bool false,.bool false]),(x+1,86,#[.slice none 0 0])]) HB.out.2.2 ?_;intro w2 h2;have H2:=zh h2;clear h2;refine(DZ w2 d M _ _ room T ((HD.out.call HB.out.1).call H2.out.av)).mono ?_;rintro e w3 ⟨rfl,hb3⟩;have H3:=zh hb3;clear hb3;go_wp2_with fail
 go_loopw [37] (fun i wr=>i=Z 0/\wr=w3) (fun _ _=>0)
 case atStart=>exact ⟨rfl,rfl⟩
 case round=>
  obtain⟨rfl,rfl⟩:=hrel;go_wp2_with fail;have o3:=H2.out.call H3.out;have hS:=o3.drew;have hS:(fun wx=>Own w1 [(x,130,#[.pointer (some ⟨d,0,none⟩),Z (limit:Nat),.slice none 0 0,Z 0,Z 0,.bool false,.bool false]),(x+1,86,#[.slice none 0 0])] wx) (wr.drew):=hS;refine aA (fun wx=>Own w1 [(x,130,#[.pointer (some ⟨d,0,none⟩),Z (limit:Nat),.slice none 0 0,Z 0,Z 0,.bool false,.bool false]),(x+1,86,#[.slice none 0 0])] wx) (by kernel_rfl) hS ?_;refine zB [0,1,2,3,4] ?_;iterate 5 (refine zV ?_ ?_ hS ?_;rotate_left;(intro w' hSw;have u0:=hSw.c 1 0;go_simp<;>with_reducible rfl);try simp only[zP])
  refine zE ?_;refine zD ?_;try simp only[zP]
  have HS:=zh hS;clear hS o3;go_wp2_with fail
  go_ret3
  exact⟨x,rfl,by rw[HB.out.2.1];exact HB.out.1.size,⟨HS.out.get 0 rfl,rfl,.inl ⟨rfl,rfl⟩⟩,V.aB HB.out.1 HS.out.av⟩
theorem QO{P:Program}{e:TypeId}{z:Value}{size bytes:Nat}(h:(P.info? e).map (fun i=>(i.zero,i.size,i.bytes))=some (some z,size,bytes)): ∃ i,P.info? e=some i/\i.zero=some z/\i.size=size/\i.bytes=bytes:=by
 cases hi:P.info? e with
 | none=>rw[hi] at h;cases h
 | some i=>
  rw[hi] at h
  injection h with h
  injection h with h1 h
  injection h with h2 h3
  exact⟨i,rfl,h1,h2,h3⟩
structure P5(base:Nat)(e:TypeId)(size:Nat)(v:Value)(n:Nat)(xs:List Value)(w:World)(A:Option Addr)(c:Nat)(w':World): Prop where
 row:w'.ownsRow base e size (.slice A n c) n xs
 keeps:Keeps (fun q=>v.ownBlock=some q) w w'
 own:∀ q,(Value.slice A n c).ownBlock=some q->v.ownBlock=some q\/w.heap.size<=q
theorem P5.av{base:Nat}{e:TypeId}{size n m:Nat}{v:Value}{xs ys:List Value}{w w0 w':World}{A:Option Addr}{c:Nat}(h:P5 base e size v n xs w A c w')(hown:w.ownsRow base e size v m ys)(hb:Below base w0 w)(hbase:base<=w.heap.size): Below base w0 w':=by
 refine hb.trans (h.keeps.below hbase fun k hk hS=>?_);obtain⟨A',c',rfl,-,hg⟩:=aH hown;rcases Nat.eq_zero_or_pos m with h0 | h0
 ·rcases hown.2 with ⟨hv,-⟩ | ⟨g,cap,cur,hv,hB,-⟩
  ·rw[hv] at hS;cases hS
  ·rw[hv] at hS
   have:g=k:=by simpa [Value.ownBlock] using hS
   omega
 ·obtain ⟨g,hA,hB,-⟩:=hg h0
  subst hA;have:g=k:=by simpa [Value.ownBlock] using hS
  omega
theorem qo{P:Program}{w:World}{base:Nat}{t ty e:TypeId}{z:Value}{size bytes:Nat}(ht:P.underlying t=some (.slice e))(hinf:(P.info? e).map (fun i=>(i.zero,i.size,i.bytes))=some (some z,size,bytes))(hzs:z.cells.size=size)(hsz:0 < size){v:Value}{n m:Nat}{xs news:List Value}(hown:w.ownsRow base e size v n xs){a:Addr}{c:Nat}(hl:news.length=m*size)(hc:∀ j u,news[j]? = some u->w.cell? (a.add j)=some u)(h1:∀ u ∈ news,u.oneCell'=true)(hn:n+m<=1000000)(hby:bytes<=1000000)(hbase:base<=w.heap.size):
  ∃ (A':Option Addr) (c':Nat) (w':World),(Builtin.append_ #[t,t] ty #[v,.slice (some a) m c]).run P w=.ok (.slice A' (n+m) c') w'/\P5 base e size v (n+m) (xs ++ news) w A' c' w':=by
 obtain⟨i,hi,hz,hs,hb⟩:=QO hinf;obtain⟨v',w',h1,h2,h3,_,h4⟩:=run_append_own_at (P:=P) w base t ty e i z size bytes ht hi hz hs hb hzs hsz v n xs hown a m c news hl hc h1 (by unfold maxLen;omega) (Nat.le_trans (Nat.mul_le_mul hn hby) J) hbase;obtain⟨A',c',hv,-,-⟩:=aH h2;subst hv;refine⟨A',c',w',h1,h2,(Keeps.refl _ w).grown h3 (fun k hk _=>hk),fun q hq=>?_⟩;rcases h4 with h | h
 ·left;rw[<-h];exact hq
 ·right
  rw[h] at hq
  injection hq with hq
  omega
theorem iO{P:Program}{w:World}{base:Nat}{t ty e:TypeId}{z:Value}{size bytes:Nat}(ht:P.underlying t=some (.slice e))(hinf:(P.info? e).map (fun i=>(i.zero,i.size,i.bytes))=some (some z,size,bytes))(hzs:z.cells.size=size)(hsz:0 < size){v:Value}{n:Nat}{xs:List Value}(hown:w.ownsRow base e size v n xs){cs:Array Value}(hcs:cs.toList.length=1*size)(h1:∀ u ∈ cs.toList,u.oneCell'=true)(hn:n+1<=1000000)(hby:bytes<=1000000)(hbase:base<=w.heap.size):
  ∃ (A':Option Addr) (c':Nat) (w':World),(Builtin.append_ #[t,t] ty #[v,.slice (some ⟨w.heap.size,0,none⟩) 1 1]).run P (w.alloc (.cells cs e))=.ok (.slice A' (n+1) c') w'/\P5 base e size v (n+1) (xs ++ cs.toList) w A' c' w':=by
 have hb:Below w.heap.size w (w.alloc (.cells cs e)):=(Below.refl _ _).alloc (Nat.le_refl _) _;have hown':(w.alloc (.cells cs e)).ownsRow base e size v n xs:=aG hown (S:=fun _=>False) (Keeps.of_below hb) (fun _ _ h=>h);have hbl:=ay.fresh w e cs;obtain⟨A',c',w',hr,ha⟩:=qo (P:=P) (w:=w.alloc (.cells cs e)) (ty:=ty) ht hinf hzs hsz hown' (a:=⟨w.heap.size,0,none⟩) (c:=1) (m:=1) hcs
  (fun j u hu=>by
   have:(⟨w.heap.size,0,none⟩:Addr).add j=⟨w.heap.size,j,none⟩:=by unfold Addr.add;split<;>simp_all
   rw[this,hbl.cell j]
   simpa using hu) h1 hn hby (Nat.le_trans hbase hb.size)
 refine⟨A',c',w',hr,ha.row,((Keeps.of_below (S:=fun q=>v.ownBlock=some q) hb).trans ha.keeps (fun _ _ h=>h)),fun q hq=>?_⟩;rcases ha.own q hq with h | h
 ·exact .inl h
 ·exact .inr (Nat.le_trans hb.size h)
end
section
open Go.RowKit Go.Maps
section
variable {α:Type} {kl:α->Lit}
structure mE(kl:α->Lit)(D:DataW Value)(s:α->Option Value)(c:Nat): Prop where
 im:IsMap D
 ti:Tidy D
 has:∀ x,Maps.has D (kl x)=(s x).isSome
 val:∀ x v,s x=some v->∀ z,D.atKey (kl x) z=.held v
 sz:Maps.size D<=c
def dR[DecidableEq α]{β:Type}(s:α->Option β)(x:α)(v:β): α->Option β:=fun y=>if y=x then some v else s y
theorem mE.nil: mE kl (.map []) (fun _=>none) 0:=⟨isMap_empty,tidy_empty,fun _=>rfl,(fun _ _ h=>by cases h),Nat.le_refl _⟩
theorem mE.put[DecidableEq α](hinj:∀ x y,kl x=kl y->x=y)(hk:∀ x,WideAt.IsKeyLit (kl x)){D:DataW Value}{s:α->Option Value}{c:Nat}(h:mE kl D s c)(x:α)(v:Value): mE kl (D.put (kl x) (.held v)) (dR s x v) (c+1):=by
 refine⟨h.im.put _ _,h.ti.put (hk x) _,fun y=>?_,fun y u hu z=>?_,?_⟩
 ·unfold dR
  by_cases e:y=x
  ·subst e
   rw[if_pos rfl,has_put_same h.im (hk y)];rfl
  ·rw[if_neg e,has_put_other (fun he=>e (hinj _ _ he)),h.has]
 ·unfold dR at hu
  by_cases e:y=x
  ·subst e
   rw[if_pos rfl] at hu
   injection hu with hu
   subst hu;exact atKey_put_same h.im (hk y) _ _
  ·rw[if_neg e] at hu
   rw[atKey_put_other (fun he=>e (hinj _ _ he))];exact h.val y u hu z
 ·rw[size_put h.ti]
  have:=h.sz
  split<;>omega
theorem mE.none{D:DataW Value}{s:α->Option Value}{c:Nat}(h:mE kl D s c){x:α}(hx:s x=none)(z:DataW Value): D.atKey (kl x) z=z:=
 atKey_of_not_has (by rw[h.has,hx];rfl) z
variable {P:Program} {kt t e:TypeId} {zv:Value} {w:World} {M n c:Nat} {D:DataW Value} {s:α->Option Value}
theorem Sn(law:Keyed P kt)(ht:P.underlying t=some (.map kt e))(hz:(zeroValue e).run P w=.ok zv w)(hown:w.ownsMap P kt eO M n D)(hF:mE kl D s c){key:Value}{x:α}(hkey:keyOf P kt key=some (kl x)):
  (Instr.lookup t (.map (some M)) key false).run P w=.ok ((s x).getD zv) w:=by
 obtain⟨v,ps,hrun,hv⟩:=World.ownsMap.lookup hown law ht hz (zd:=.held zv) (zp:=[]) rfl hkey;have hv2:v=(s x).getD zv:=by
  unfold eO at hv
  cases hk:s x with
  | none=>
   rw[hF.none hk] at hv
   simp only[Option.some.injEq,Prod.mk.injEq,DataW.held.injEq] at hv
   exact hv.1
  | some u=>
   rw[hF.val x u hk] at hv
   simp only[Option.some.injEq,Prod.mk.injEq,DataW.held.injEq] at hv
   exact hv.1
 rw[hv2] at hrun
 exact hrun
theorem Df(law:Keyed P kt)(ht:P.underlying t=some (.map kt e))(hn:n < maxLen)(hown:w.ownsMap P kt eO M n D){key:Value}{x:α}(hkey:keyOf P kt key=some (kl x))(v:Value):
  ∃ w',(Instr.mapUpdate t (.map (some M)) key v).run P w=.ok () w'/\w'.ownsMap P kt eO M (n+1) (D.put (kl x) (.held v))/\w.grownBy w' (some M):=
 World.ownsMap.update hown law ht hn hkey rfl
def kI[DecidableEq α](kl:α->Lit)(s:α->Option Value)(L:List α)(left:Lit->Bool): Prop:=∀ x,left (kl x)=((s x).isSome && !decide (x ∈ L))
theorem kI.start[DecidableEq α]{D:DataW Value}{s:α->Option Value}{c:Nat}(h:mE kl D s c): kI kl s [] (Maps.has D):=fun x=>by rw[h.has];simp
theorem kI.step[DecidableEq α]{s:α->Option Value}{L:List α}{left:Lit->Bool}(h:kI kl s L left)(hs:∀ y x:α,(kl y).sameKey (kl x)=decide (y=x))(x:α): kI kl s (L ++ [x]) (fun z=>left z && !z.sameKey (kl x)):=fun y=>by
 show (left (kl y) && !(kl y).sameKey (kl x))=_
 rw[h y,hs]
 by_cases e:y=x
 ·subst e;simp
 ·simp[e]
theorem EW[DecidableEq α](law:Keyed P kt)(mkK:α->Value)(invK:∀ key k,keyOf P kt key=some k->∃ x,key=mkK x)(hkey:∀ x k,keyOf P kt (mkK x)=some k->k=kl x)(hs:∀ y x:α,(kl y).sameKey (kl x)=decide (y=x)){ops:Array Oper}{rest:List Oper}{o:Oper}{a:Act}{Q:Exit->Act->World->Prop}(hg:o.guard=none)(it:Operand)(hop:o.op=Op.next it false)(hF:mE kl D s c)(r:Nat)(L:List α)(left:Lit->Bool)(cnt:Nat)(hL:kI kl s L left)(hit:a.eval it=.pointer (some ⟨r,0,none⟩))(h:w.ranges P kt eO M r n D left cnt)(hDone:(∀ x,(s x).isSome=true->x ∈ L)->wpList P ops Q rest (a.put o.dst (.tuple #[.bool false])) w)(hMore:∀ (x:α) (v:Value) (w':World) (left':Lit->Bool) (cnt':Nat),s x=some v->x ∉ L->kI kl s (L ++ [x]) left'->w'.ranges P kt eO M r n D left' cnt'->cnt' < cnt->
   w.grownBy w' (some r)->w'.heap.size=w.heap.size->(Instr.entry (.pointer (some ⟨r,0,none⟩))).run P w'=.ok (.tuple #[mkK x,v]) w'->wpList P ops Q rest (a.put o.dst (.tuple #[.bool true,mkK x,v])) w'):
  wpList P ops Q (o :: rest) a w:=by
 refine wpList_next_ranges w hg it hop kt law eO mkK (fun v:Value=>v) invK (fun v y _=>⟨v,rfl⟩) M r n D left cnt hit h (fun _ hl=>hDone fun x hx=>?_) (fun x v k y w' cnt' hk hlk hv hat hrg hlt hgr hsz hen=>?_)
 ·have:=hL x
  rw[hl,hx,Bool.true_and] at this
  simpa using this.symm
 ·obtain rfl:=hkey x k hk
  have hl:=hL x;rw[hlk] at hl
  obtain⟨h1,h2⟩:(s x).isSome=true/\x ∉ L:=by simpa using hl.symm
  obtain⟨u,hu⟩:=Option.isSome_iff_exists.1 h1;have e1:=hat (.map []);rw[hF.val x u hu] at e1
  unfold eO at hv
  injection hv with hv
  rw[<-hv] at e1
  injection e1 with e1
  subst e1;exact hMore x u w' _ cnt' hu h2 (hL.step hs x) hrg hlt hgr hsz hen
end
def uX(x:Int): Lit:=.int .i64 x
theorem QS: ∀ x y,uX x=uX y->x=y:=fun x y h=>by injection h
theorem QT(x:Int): WideAt.IsKeyLit (uX x):=by unfold uX;simp[WideAt.IsKeyLit]
theorem Ov(y x:Int): (uX y).sameKey (uX x)=decide (y=x):=by
 unfold uX
 by_cases e:y=x
 ·subst e;simp[Lit.sameKey]
 ·simp[Lit.sameKey,e]
end
end Go.Proofs.YtmffkpkgbdcnjaaGreatDoor
