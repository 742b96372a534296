/-
  Texts of this proof, joined.
-/
import Derived.Test.YtmffkpkgbdcnjaaGreatDoorTopExact07
import Derived.DeepKeys3
import Derived.Lib.MinMax
set_option linter.unusedVariables false
set_option linter.unusedSimpArgs false
set_option maxRecDepth 100000
set_option maxHeartbeats 20000000
namespace Go.Proofs.YtmffkpkgbdcnjaaGreatDoor
section
open Go.RowKit Go.Maps
theorem BD{f:Nat->Pt}{a n:Nat}(h1:∀ j,j < n->-1152921504606846976<=(f j).t/\(f j).t<=1152921504606846976/\0<=(f j).s/\(f j).s<=1152921504606846976)(h2:∀ j,j+1 < n->(f j).t < (f (j+1)).t): ∀ k,a+k<=n->yM (kH f a) k=true
 | 0,_=>rfl
 | k+1,hk=>by
  show (yM (kH f a) k && C9 (kH f a) k)=true
  rw[BD h1 h2 k J,Bool.true_and];refine(Le _ _).2 ⟨?_,(h1 (a+k) J).2⟩
  match k with
  | 0=>have:=(h1 (a+0) J).1;show -1152921504606846977 < (f (a+0)).t;omega
  | k+1=>exact h2 (a+k) J
theorem P9{f:Nat->Pt}{n:Nat}(h1:∀ j,j < n->-1152921504606846976<=(f j).t/\(f j).t<=1152921504606846976/\0<=(f j).s/\(f j).s<=1152921504606846976)(h2:∀ j,j+1 < n->(f j).t < (f (j+1)).t): ∀ m,m<=fq n->bV f n m=true
 | 0,_=>rfl
 | m+1,hm=>by
  show (bV f n m && Ky f n m)=true
  have hmn:1024*m < n:=by unfold fq at hm;omega
  have hb:1024*m+jy n (1024*m)<=n:=by unfold jy;omega
  rw[P9 h1 h2 m J,Bool.true_and];unfold Ky NP;rw[BD h1 h2 _ hb,Bool.true_and];simp only[Bool.and_eq_true,decide_eq_true_eq,Bool.or_eq_true,beq_iff_eq];refine⟨⟨by unfold jy;omega,by unfold jy;omega⟩,?_⟩;rcases Nat.eq_zero_or_pos m with h0 | h0
  ·exact .inl h0
  ·right
   have:=h2 (1024*m-1) J;rw[show 1024*m-1+1=1024*m by omega] at this
   exact this
def lZ(L:List Pt): Nat->Pt:=fun j=>L.getD j ⟨0,0,0⟩
def xB: Nat->ByteArray:=fun _=>aY
theorem SA: nH xB 1=true:=by kernel_rfl
structure wN(L:List Pt): Prop where
 pos:0 < L.length
 le:L.length<=40
 inc:Inc L
 sm:∀ p ∈ L,xP p
theorem ML{L:List Pt}(h:∀ p ∈ L,xP p)(j:Nat): xP (lZ L j):=by
 unfold lZ;rcases Nat.lt_or_ge j L.length with hj | hj
 ·exact h _ (kg hj)
 ·rw[List.getD_eq_getElem?_getD,List.getElem?_eq_none hj]
  exact⟨⟨by simp,by simp⟩,⟨by simp,by simp⟩,by simp,by simp⟩
theorem Fh{L:List Pt}(h:∀ p ∈ L,xP p)(j:Nat): eU (lZ L j):=by
 obtain⟨⟨a,b⟩,⟨c,d⟩,e,f⟩:=ML h j;exact⟨⟨J,J⟩,⟨J,J⟩,⟨J,J⟩⟩
theorem wN.TT{L:List Pt}(h:wN L): bV (lZ L) L.length (fq L.length)=true:=
 P9 (fun j hj=>(by obtain ⟨⟨a,b⟩,⟨c,d⟩,e,f⟩:=ML h.sm j;exact ⟨J,J,e,J⟩ : -1152921504606846976<=(lZ L j).t/\(lZ L j).t<=1152921504606846976/\0<=(lZ L j).s/\(lZ L j).s<=1152921504606846976)) (fun j hj=>h.inc.rises j hj) _ (Nat.le_refl _)
theorem wN.few{L:List Pt}(h:wN L): jJ xB (fun _=>L.length) 1 1 < 2500:=by
 have:=h.le;show 10*1+L.length+1 < 2500
 omega
theorem wN.small{L:List Pt}(h:wN L): Small xB (fun _=>lZ L) (fun _=>L.length) 1:=Lp (fun _=>Fh h.sm) h.few
def Pq(L:List Pt): List Nat:=(sB xB (fun _=>lZ L) (fun _=>L.length) 1).1
theorem wN.file{L:List Pt}(h:wN L): (sB xB (fun _=>lZ L) (fun _=>L.length) 1).2=0/\Built xB (fun _=>lZ L) (fun _=>L.length) 1/\mo (Pq L) (sO (fun _=>lZ L) (fun _=>L.length) 1) xB (fun _=>lZ L) (fun _=>L.length) 1:=
 Rk h.small (N7 (fun _=>Fh h.sm) h.few) (by
  rw[SA];show (true && (true && (true && (bV (lZ L) L.length (fq L.length) && decide (0 < L.length)))))=true
  rw[h.TT];have:=h.pos;simp;omega)
theorem wN.len{L:List Pt}(h:wN L): (Pq L).length<=5000:=by
 have h1:=h.file.2.2.fl;rw[F.bT] at h1
 have h2:=Bb xB (fun _=>lZ L) (fun _=>L.length) 1 (fun _ _=>by have:=h.le;omega) 1 (Nat.le_refl _);have h3:=Ba xB (fun _=>lZ L) (fun _=>L.length) 1 J (fun _=>Fh h.sm) (fun _ _=>by have:=h.le;omega) (fun _ _=>by show 1<=_;omega) 1 (Nat.le_refl _);have h4:jJ xB (fun _=>L.length) 1 1=10*1+L.length+1:=rfl;have:=h.le;omega
def TI(f:ByteArray->Option (List Nat))(pl:Nat->List Pt)(K:Nat): Prop:=∀ j,j < K->f (aW 115 j)=some (Pq (pl j))
theorem Q0{j:Nat}{s:ByteArray}(hs:s.size=1)(p:Nat): aW p j≠s:=fun e=>by
 have:=cu p j;rw[e] at this
 omega
theorem DStep.QX{S:Nat->Prop}{w w1 w2:World}{d M:Nat}{p p1:ByteArray->Option FS}(h:DStep w w1 d M p p1)(hk:Keeps S w1 w2)(hx:∀ q,S q->w.heap.size<=q): DStep w w2 d M p p1:=
 ⟨h.keep.trans hk (fun q hq e=>by have:=hx q e;omega),h.far⟩
structure GL(w wx:World)(st d M:Nat)(p p':ByteArray->Option FS)(room T G:Nat)(so:Array Value)(y:Nat)(cs:Array Value)(A1:Option Addr)(K c1:Nat)(xs:List Value): Prop where
 dt:bD wx d M p' room T G
 stp:DStep w wx d M p p'
 bs:ay wx st 128 so
 by_:ay wx y 92 cs
 row:wx.ownsRow w.heap.size 164 4 (.slice A1 K c1) K xs
 nfy:¬ aM d M p' y
 nfs:¬ aM d M p' st
 nfr:∀ g,(Value.slice A1 K c1).ownBlock=some g->¬ aM d M p' g
 yw:w.heap.size<=y
namespace GL
variable {w wx wy:World} {st d M:Nat} {p p':ByteArray->Option FS} {room T G:Nat} {so:Array Value} {y:Nat} {cs:Array Value} {A1:Option Addr} {K c1:Nat} {xs:List Value}
theorem call(h:GL w wx st d M p p' room T G so y cs A1 K c1 xs)(hb:Below wx.heap.size wx wy): GL w wy st d M p p' room T G so y cs A1 K c1 xs:=
 ⟨h.dt.call hb,h.stp.below hb,h.bs.below hb h.bs.lt,h.by_.below hb h.by_.lt,aG h.row (Keeps.of_below (S:=fun _=>False) hb) (fun _ _ h=>h),h.nfy,h.nfs,h.nfr,h.yw⟩
theorem app{A2:Option Addr}{c2 m:Nat}{ys:List Value}(h:GL w wx st d M p p' room T G so y cs A1 K c1 xs)(hr:wy.ownsRow w.heap.size 164 4 (.slice A2 m c2) m ys)(hg:wx.grownBy wy (Value.slice A1 K c1).ownBlock)(hx:(Value.slice A2 m c2).ownBlock=(Value.slice A1 K c1).ownBlock\/(Value.slice A2 m c2).ownBlock=some wx.heap.size): GL w wy st d M p p' room T G so y cs A2 m c2 ys:=by
 have hk:Keeps (fun q=>(Value.slice A1 K c1).ownBlock=some q) wx wy:=(Keeps.refl _ _).grown hg (fun k e _=>e);refine⟨h.dt.keep hk (fun q hq e=>h.nfr q e hq),h.stp.QX hk (fun q e=>(h.row.lt q e).1),h.bs.keeps hk (fun e=>own_ne h.row h.bs (by decide) e),h.by_.keeps hk (fun e=>own_ne h.row h.by_ (by decide) e),hr,h.nfy,h.nfs,fun g hg2=>?_,h.yw⟩;rcases hx with hx | hx
 ·exact h.nfr g (by rw[<-hx];exact hg2)
 ·rw[hx] at hg2
  injection hg2 with hg2
  exact h.dt.fresh J
end GL
def yB(pl:Nat->List Pt)(K:Nat)(L:List Pt): Nat->List Pt:=fun j=>if j=K then L else pl j
def Mr(At:Nat->Option Addr)(ct:Nat->Nat)(pl:Nat->List Pt)(k:Nat): List Value:=(List.range k).map (fM At ct pl)
theorem QY(At:Nat->Option Addr)(ct:Nat->Nat)(pl:Nat->List Pt)(k:Nat)(A:Option Addr)(c:Nat): Mr (fun y=>if y=k then A else At y) (fun y=>if y=k then c else ct y) pl (k+1)=Mr At ct pl k ++ (List.range 1).map (fun _=>Value.slice A (pl k).length c):=by
 unfold Mr;rw[List.range_succ,List.map_append]
 congr 1
 ·apply List.map_congr_left
  intro y hy;have:=List.mem_range.1 hy;unfold fM;simp[show ¬ y=k by omega]
 ·show [fM _ _ _ k]=[_]
  unfold fM;simp
theorem Rn{L:List Pt}{a b:Int}(h:∀ p ∈ L,a<=p.t/\p.t < b): fK (lZ L) a b L.length=L:=by
 rw[Iq (lZ L) a b L.length (fun j hj=>by
  have:=h _ (kg (l:=L) hj);unfold jZ lZ;rw[decide_eq_true this.1,decide_eq_true this.2];rfl)]
 exact Kt L
structure Ad(w wx:World)(At:Nat->Option Addr)(ct:Nat->Nat)(pl:Nat->List Pt)(k:Nat)(v:Value): Prop where
 row:wx.ownsRow w.heap.size 186 1 v k (Mr At ct pl k)
 pts:∀ j,j < k->bB wx w.heap.size (.slice (At j) (pl j).length (ct j)) (pl j)
 av:Below w.heap.size w wx
theorem Ad.call{w wx wy:World}{At:Nat->Option Addr}{ct:Nat->Nat}{pl:Nat->List Pt}{k:Nat}{v:Value}(h:Ad w wx At ct pl k v)(hb:Below wx.heap.size wx wy): Ad w wy At ct pl k v:=
 ⟨V.cO h.row hb,fun j hj=>(h.pts j hj).below hb,h.av.trans (hb.mono h.av.size)⟩
theorem Ad.app{w wx wy:World}{At:Nat->Option Addr}{ct:Nat->Nat}{pl:Nat->List Pt}{k c:Nat}{v v':Value}{A:Option Addr}(h:Ad w wx At ct pl k v)(hp:bB wx w.heap.size (.slice A (pl k).length c) (pl k))(hr:wy.ownsRow w.heap.size 186 1 v' (k+1) (Mr At ct pl k ++ (List.range 1).map (fun _=>Value.slice A (pl k).length c)))(hg:wx.grownBy wy v.ownBlock): Ad w wy (fun y=>if y=k then A else At y) (fun y=>if y=k then c else ct y) pl (k+1) v':=by
 have hk:Keeps (fun q=>v.ownBlock=some q) wx wy:=(Keeps.refl _ _).grown hg (fun q e _=>e);have hkp:∀ (A9:Option Addr) (c9:Nat) (l:List Pt),bB wx w.heap.size (.slice A9 l.length c9) l->bB wy w.heap.size (.slice A9 l.length c9) l:=fun A9 c9 l h9=>h9.keeps hk (fun g hg9 e=>by
  have h1:=fG h.row e;have h2:=fG h9 hg9;rw[h1] at h2
  exact absurd h2 (by decide))
 refine⟨by rw[QY];exact hr,fun j hj=>?_,h.av.grown hg h.av.size (fun q hq=>(h.row.lt q hq).1)⟩
 by_cases e:j=k
 ·subst e
  simp only[if_pos];exact hkp _ _ _ hp
 ·simp only[if_neg e]
  exact hkp _ _ _ (h.pts j J)
theorem MJ: Keyed Tryz.prog 240:=Keyed.of_law (deep_law (m:=3) J (by kernel_rfl) (by kernel_rfl) (by kernel_rfl))
theorem MI(t:Int)(h:bI t): ∃ kl,keyOf Tryz.prog 240 (.agg #[.string aY,.int .i64 t])=some kl:=by
 have hu:=Tryz.underlying240;have hs:=Tryz.underlying9;have hi:=Tryz.underlying3;have h1:Tryz.prog.keyType 240=true:=by kernel_rfl
 have h2:(Value.agg #[.string aY,.int .i64 t]).formed Tryz.prog 240=true:=by kernel_rfl
 obtain⟨m,h4⟩:∃ m,Tryz.prog.types.size=m+1:=⟨Tryz.prog.types.size-1,by kernel_rfl⟩
 have hw:(Lit.int .i64 t).wf=true:=by
  obtain⟨h1,h2⟩:=h;exact WalkArith.wf_i64 J
 have c0:Tryz.prog.cellsOf 240=2:=by kernel_rfl
 have c9:Tryz.prog.cellsOf 9=1:=by kernel_rfl
 have c3:Tryz.prog.cellsOf 3=1:=by kernel_rfl
 have k9:Tryz.prog.keyLits (m+1) 9 [.string aY]=some [.string aY.data.toList]:=by
  unfold Program.keyLits;rw[hs];simp only[];rw[if_pos (by decide)]
 have k3:Tryz.prog.keyLits (m+1) 3 [.int .i64 t]=some [.int .i64 t]:=by
  unfold Program.keyLits;rw[hi];simp only[];rw[if_pos ⟨trivial,hw⟩]
 have h3:Tryz.prog.keyLits (m+1+1) 240 [.string aY,.int .i64 t]=some [.string aY.data.toList,.int .i64 t]:=by
  unfold Program.keyLits;rw[hu];simp only[];rw[if_pos ⟨by rw[c0];rfl,by kernel_rfl⟩];simp[List.mapM_cons,c9,c3,k9,k3]
 refine⟨.string (keyBytes [.string aY.data.toList,.int .i64 t]),?_⟩;unfold keyOf;rw[hu];simp only[h1,h2,h4,Value.cells];rw[h3];rfl
def jW(w:World)(D:Nat->Prop)(A:Option Addr)(tm v:Int): Prop:=∃ b off,A=some ⟨b,off,none⟩/\D b/\w.cell? ⟨b,off,none⟩=some (.string aY)/\w.cell? ⟨b,off+1,none⟩=some (.int .i64 tm)/\w.cell? ⟨b,off+2,none⟩=some (.int .i64 v)
theorem jW.keep{w w':World}{S D:Nat->Prop}{A:Option Addr}{tm v:Int}(h:jW w D A tm v)(hk:Keeps S w w')(hS:∀ q,D q->¬ S q): jW w' D A tm v:=by
 obtain⟨b,off,rfl,hd,h1,h2,h3⟩:=h;have hlt:=World.block_lt_of_cell? w ⟨b,off,none⟩ h1;have hc:∀ o u,w.cell? ⟨b,o,none⟩=some u->w'.cell? ⟨b,o,none⟩=some u:=fun o u hu=>(World.cell?_of_block (w:=w) (a:=⟨b,o,none⟩) (hk.block b hlt (hS b hd))).trans hu
 exact⟨b,off,rfl,hd,hc _ _ h1,hc _ _ h2,hc _ _ h3⟩
theorem jW.call{w w':World}{D:Nat->Prop}{A:Option Addr}{tm v:Int}(h:jW w D A tm v)(hb:Below w.heap.size w w'): jW w' D A tm v:=h.keep (S:=fun _=>False) (Keeps.of_below hb) (fun _ _ h=>h)
theorem Jv(w:World)(t Mt:Nat)(A:Option Addr)(cp:Nat)(L:List Pt)(n most U:Nat)(Ab:Option Addr)(cb:Nat)(tm v:Int)(D:Nat->Prop)(h:fE w t Mt A cp L n most U)(hb:jW w D Ab tm v)(hn:n<=most)(hm:most<=1000)(htm:bI tm)(hlt:∀ j,j < n->(L.getD j ⟨0,0,0⟩).t < tm):
  Calls Tryz.prog 75 #[.pointer (some ⟨t,0,none⟩),.slice Ab 1 cb] w fun e w'=>e=.returned (.bool (decide (n < most)))/\Below w.heap.size w w':=by
 have hmm:=@run_makeMap Tryz.prog;have nf:=rV;obtain⟨b,off,rfl,-,-,-,-⟩:=id hb;have HD:=zh (zN h (zN hb hlt));clear h hb hlt
 go_enter Tryz.func75,Tryz.ntmps75
 go_wp2_with fail;refine(pE w t Mt (HD.out.1.blk.cell 0)).mono ?_;rintro e w1 ⟨rfl,hb1⟩;have HB:=zh hb1;clear hb1;go_wp2_with fail;obtain⟨Mp,hMp⟩:∃ Mp,Mp=w1.heap.size:=⟨_,rfl⟩
 rw[<-hMp];obtain⟨w2,hw2⟩:∃ w2,w2=w1.alloc (.map #[] 0):=⟨_,rfl⟩
 rw[<-hw2];have hb2:Below w.heap.size w w2:=by rw[hw2];exact HB.out.alloc HB.out.size _
 have hown2:w2.ownsMap Tryz.prog 240 eO Mp 0 (.map []):=by rw[hw2,hMp];exact World.ownsMap_made w1 _ _ _
 have hge:w.heap.size<=Mp:=by rw[hMp];exact HB.out.size
 have H2:=zh (zN hb2 (zN hown2 hge));clear hb2 hown2 hge hw2 hMp hmm
 go_loopw [13] (fun i wr=>(i=.int .i64 0/\wr=w2)\/(i=.int .i64 1/\∃ D',wr.ownsMap Tryz.prog 240 eO Mp 1 D'/\Maps.size D'=1/\Below w.heap.size w wr)) (fun i _=>1-(intOf i).toNat)
 case atStart=>exact .inl ⟨rfl,rfl⟩
 case round=>
  rcases hrel with ⟨rfl,rfl⟩ | ⟨rfl,D',hown,hsz,hbel⟩
  ·obtain ⟨b',o',e,-,c0,c1,c2⟩:=HD.out.2.1.call H2.out.1
   simp only[Option.some.injEq,Addr.mk.injEq] at e
   obtain⟨rfl,rfl,-⟩:=e;go_upto_region 7 with (fail)
   obtain⟨gp,hgp⟩:∃ gp,gp=wr.heap.size:=⟨_,rfl⟩
   rw[<-hgp];have hal:Below wr.heap.size wr (wr.alloc (.cells #[.string aY,.int .i64 tm,.int .i64 v] 35)):=(Below.refl _ _).alloc (Nat.le_refl _) _;refine aC (fun wx=>wx.ownsMap Tryz.prog 240 eO Mp 0 (.map [])/\Below w.heap.size w wx/\ay wx gp 35 #[.string aY,.int .i64 tm,.int .i64 v]) ⟨H2.out.2.1.alloc _,H2.out.1.trans (hal.mono H2.out.1.size),by rw[hgp];exact ay.fresh _ _ _⟩ ?_;rintro w9 ⟨h9,b9,g9⟩;have v0:=g9.cell 0;have v1:=g9.cell 1;have H9:=zh (zN h9 (zN b9 g9));clear h9 b9 g9 hal hgp c0 c1 c2;go_wp2_with fail;refine(En w9 t Mt A cp L n most U tm (HD.out.1.call H9.out.2.1) J HD.out.2.2).mono ?_;rintro e w10 ⟨rfl,hb10⟩;have g10:=H9.out.2.2.below hb10 H9.out.2.2.lt;have v2:=g10.cell 0;have v3:=g10.cell 1;have hown10:w10.ownsMap Tryz.prog 240 eO Mp 0 (.map []):=H9.out.1.kept (jK hb10 none) (by simp);obtain⟨kl,hkl⟩:=MI tm htm;obtain⟨w11,hrun11,hown11,hm11⟩:=hown10.store MJ Tryz.underlying237 (by unfold maxLen;omega) hkl (val:=.bool true) (d:=.held (.bool true)) (ps:=[]) rfl;have hsz11:Maps.size ((DataW.map []:DataW Value).put kl (.held (.bool true)))=1:=by
    have:=size_put (D:=(DataW.map []:DataW Value)) (k:=kl) (d:=.held (.bool true)) tidy_empty;rw[this];rfl
   have hb11:Below w.heap.size w w11:=((H9.out.2.1.trans (hb10.mono H9.out.2.1.size))).grown hm11.grown (Nat.le_trans H9.out.2.1.size hb10.size) (fun k hk=>by injection hk with hk;rw[<-hk];exact H2.out.2.2);have H11:=zh (zN hown11 (zN hsz11 hb11));clear hown10 hown11 hm11 hsz11 hb11 hb10 hkl v0 v1 g10;go_wp2_with fail
   go_roundw
   case rel=>exact .inr ⟨rfl,_,H11.out.1,H11.out.2.1,H11.out.2.2⟩
   case measure=>simp[intOf]
  ·have HX:=zh (zN hbel (zN hown hsz))
   clear hbel hown hsz;go_wp2_with fail;have hS:Below w.heap.size w wr.drew/\wr.drew.ownsMap Tryz.prog 240 eO Mp 1 D':=⟨V.aB HX.out.1 (Below.refl _ _).drew,HX.out.2.1⟩
   have e1:IntKind.i64.wrap ((most:Int)-(n:Int))=(most:Int)-(n:Int):=by simp only[IntKind.wrap_i64];omega
   have e2:decide ((1:Int)<=(most:Int)-(n:Int))=decide (n < most):=by
    by_cases h:n < most
    ·simp[h];omega
    ·simp[h];omega
   have hS:(fun wx=>Below w.heap.size w wx/\wx.ownsMap Tryz.prog 240 eO Mp 1 D') (wr.drew):=hS;refine aA (fun wx=>Below w.heap.size w wx/\wx.ownsMap Tryz.prog 240 eO Mp 1 D') (by kernel_rfl) hS ?_;refine zB [0,1,2,3,4,5,6,7,8,9,10,11,12] ?_;iterate 13 (refine zV ?_ ?_ hS ?_;rotate_left;(intro w' hSw;have hl:=World.ownsMap.len hSw.2 Tryz.underlying237 3;rw[HX.out.2.2] at hl;have u1:=(HD.out.1.call hSw.1).blk.cell 1;have u2:=(HD.out.1.call hSw.1).blk.cell 2;go_simp<;>with_reducible rfl);try simp only[zP])
   refine zE ?_;refine zD ?_;try simp only[zP]
   have HS:=zh hS.1;clear hS;go_wp2_with fail;go_ret;exact⟨by first | rfl | (simp[e2]),HS.out⟩
theorem Jg(w:World)(t:Int)(ht:aP t): Calls Tryz.prog 71 #[Z t] w fun e w'=>e=.returned (.bool true)/\Below w.heap.size w w':=by
 have d1:decide (-1152921504606846976<=t)=true:=by simp;exact ht.1
 have d2:decide (t<=1152921504606846976)=true:=by simp;exact ht.2
 clear ht
 go_enter Tryz.func71,Tryz.ntmps71
 go_wp2_with fail;go_ret;exact⟨rfl,Below.refl _ _⟩
theorem OB(w:World)(tm v:Int)(ht:aP tm): Calls Tryz.prog 69 #[.agg #[.string aY,Z tm,Z v]] w fun e w'=>e=.returned (.bool false)/\Below w.heap.size w w':=by
 obtain⟨x,hx⟩:∃ x,x=w.heap.size:=⟨_,rfl⟩
 have o0:=Own.bn w hx 35 #[.string aY,Z tm,Z v]
 have nt:∀ w:World,(Op.unary .not (.bool true)).run Tryz.prog w=.ok (.bool false) w:=bJ
 have HO:=zh (zN o0 ht);clear o0 ht
 go_enter Tryz.func69,Tryz.ntmps69
 go_wp2_with fail;rw[<-hx];clear hx;refine bQ (Own w [(x,35,#[.string aY,Z tm,Z v])]) HO.out.1 ?_;intro w1 h1;refine(mZ aY (by decide) w1).mono ?_;rw[sK];rintro e w2 ⟨rfl,hb2⟩;have h2:=h1.call hb2;have H2:=zh h2;have z0_0:=h2.c3 0;clear h1 h2 hb2;go_wp2_with fail;clear z0_0;refine(Jg w2 tm HO.out.2).mono ?_;rintro e w3 ⟨rfl,hb3⟩;have H3:=zh (H2.out.call hb3);clear hb3;go_wp2_with fail;go_ret;exact⟨rfl,H3.out.av⟩
theorem jW.cells{w:World}{D:Nat->Prop}{A:Option Addr}{tm v:Int}(h:jW w D A tm v): ∃ b off,A=some ⟨b,off,none⟩/\∀ wx,Below w.heap.size w wx->wx.cell? ⟨b,off,none⟩=some (.string aY)/\wx.cell? ⟨b,off+1,none⟩=some (Z tm)/\wx.cell? ⟨b,off+2,none⟩=some (Z v):=by
 obtain⟨b,off,rfl,-,h1,h2,h3⟩:=h;exact⟨b,off,rfl,fun wx hb=>⟨fH hb h1,fH hb h2,fH hb h3⟩⟩
theorem Jt(w:World)(D:Nat->Prop)(Ab:Option Addr)(cb:Nat)(tm v:Int)(h:jW w D Ab tm v)(ht:aP tm): Calls Tryz.prog 136 #[.slice Ab 1 cb,.func (.func 69) #[] #[]] w fun e w'=>e=.returned (.int .i64 (-1))/\Below w.heap.size w w':=by
 obtain⟨b,off,rfl,hc⟩:=h.cells;have HC:=zh (zN hc ht);clear hc h ht
 go_enter Tryz.func136,Tryz.ntmps136
 go_wp2_with fail
 go_loopw [8] (fun i wr=>(i=.int .i64 0\/i=.int .i64 1)/\Below w.heap.size w wr) (fun i _=>1-(intOf i).toNat)
 case atStart=>exact ⟨.inl rfl,Below.refl _ _⟩
 case round=>
  obtain⟨hi,hb⟩:=hrel;rcases hi with rfl | rfl
  ·obtain ⟨u0,u1,u2⟩:=HC.out.1 wr hb
   have HB:=zh hb;clear hb;go_wp2_with fail;refine(OB wr tm v HC.out.2).mono ?_;rintro e w2 ⟨rfl,hb2⟩;have H2:=zh (HB.out.trans (hb2.mono HB.out.size));clear hb2 u0 u1 u2;go_wp2_with fail
   go_roundw
   case rel=>exact ⟨.inr rfl,H2.out⟩
   case measure=>simp[intOf]
  ·have HB:=zh hb
   clear hb;go_wp2_with fail;go_ret;exact⟨rfl,HB.out⟩
theorem CK(w:World)(D:Nat->Prop)(Ab:Option Addr)(cb:Nat)(tm v:Int)(h:jW w D Ab tm v)(ht:aP tm): Calls Tryz.prog 72 #[.slice Ab 1 cb,.func (.func 69) #[] #[]] w fun e w'=>e=.returned (.bool false)/\Below w.heap.size w w':=by
 have hc:=Jt w D Ab cb tm v h ht;have HC:=zh hc;clear hc h ht
 go_enter Tryz.func72,Tryz.ntmps72
 go_wp2_with fail;refine HC.out.mono ?_;rintro e w2 ⟨rfl,hb2⟩;have H2:=zh hb2;clear hb2;go_wp2_with fail;go_ret;exact⟨rfl,H2.out⟩
def KR(w:World)(tm:Int)(e:Ending)(w':World): Prop:=∃ A c,e=.returned (.slice A 1 c)/\w'.ownsRow w.heap.size 3 1 (.slice A 1 c) 1 [Z tm]/\Below w.heap.size w w'
theorem rR(w:World)(D:Nat->Prop)(Ab:Option Addr)(cb:Nat)(tm v:Int)(h:jW w D Ab tm v): Calls Tryz.prog 74 #[.slice Ab 1 cb] w (KR w tm):=by
 obtain⟨b,off,rfl,hc⟩:=h.cells;have HC:=zh hc;clear hc h
 go_enter Tryz.func74,Tryz.ntmps74
 go_wp2_with fail
 go_loopw [3,8] (fun o i wr=>((i=.int .i64 0/\o=.slice none 0 0)\/(i=.int .i64 1/\∃ A c,o=.slice A 1 c/\wr.ownsRow w.heap.size 3 1 o 1 [.int .i64 tm]))/\Below w.heap.size w wr) (fun _ i _=>1-(intOf i).toNat)
 case atStart=>exact ⟨.inl ⟨rfl,rfl⟩,Below.refl _ _⟩
 case round=>
  obtain⟨hi,hb⟩:=hrel;rcases hi with ⟨rfl,rfl⟩ | ⟨rfl,A,c,rfl,hr⟩
  ·obtain ⟨u0,u1,u2⟩:=HC.out wr hb
   have HB:=zh hb;clear hb;go_upto_region 5 with (fail)
   obtain⟨x,hx⟩:∃ x,x=wr.heap.size:=⟨_,rfl⟩
   rw[<-hx];refine aC (Own w [(x,35,#[.string aY,.int .i64 tm,.int .i64 v])]) (((Own.start w).call HB.out).alloc hx _ _) ?_;intro w2 h2;have z1:=h2.c 0 1;have H2:=zh h2;clear h2 hx u0 u1 u2;go_wp2_with (at_builtin;refine bW Av (base:=w.heap.size) (n:=0) (m:=1) (xs:=[]) (D:=fun q=>q=w2.heap.size) (f:=fun _=>.int .i64 tm) rfl (.tmp 12) (.tmp 15) rfl rfl rfl ?hown ?hsl ?h1 ?h63 ?hbytes ?hbase ?_)
   case hown=>exact World.ownsRow_nil _ _ _ _
   case hsl=>exact oF _ _ _
   case h1=>exact fun _ _=>rfl
   case h63=>unfold maxLen;omega
   case hbytes=>omega
   case hbase=>have:=H2.out.size;simp;omega
   intro v6 w6 hr6 hg6 hx6;have al:Below w2.heap.size w2 (w2.alloc (.cells #[.int .i64 tm] 3)):=(Below.refl _ _).alloc (Nat.le_refl _) _;have b6:Below w.heap.size w w6:=(H2.out.call al).av.grown hg6 (H2.out.call al).size (fun k hk=>by cases hk);obtain⟨A6,c6,hv6,hc6,-⟩:=aH hr6;subst hv6;have H6:=zh (zN hr6 b6);clear hr6 hg6 hx6 al b6 z1;go_wp2_with fail
   go_roundw
   case rel=>exact ⟨.inr ⟨rfl,A6,c6,rfl,H6.out.1⟩,H6.out.2⟩
   case measure=>simp[intOf]
  ·have HB:=zh (zN hb hr)
   clear hb hr;go_wp2_with fail;go_ret;exact⟨A,c,rfl,HB.out.2,HB.out.1⟩
def Qs(w:World)(e:Ending)(w':World): Prop:=∃ (A:Option Addr) (c:Nat) (bs:List Nat),e=.returned (.slice A bs.length c)/\bs.length<=50/\(∀ b ∈ bs,b < 256)/\w'.ownsRow w.heap.size 5 1 (.slice A bs.length c) bs.length (bs.map V.aR)/\Below w.heap.size w w'
theorem Ej(w:World)(D:Nat->Prop)(Ab:Option Addr)(cb:Nat)(tm v:Int)(h:jW w D Ab tm v)(ht:bI tm)(hv:bI v): Calls Tryz.prog 33 #[.slice Ab 1 cb] w (Qs w):=by
 obtain⟨b,off,rfl,hc⟩:=h.cells;have HC:=zh hc;have ku:IntKind.u64.wrap 1=1:=by decide
 clear hc h
 go_enter Tryz.func33,Tryz.ntmps33
 go_wp2_with fail;refine(V.iJ w none 0 0 [] 1 rfl (Sl.nil _ _ _ _) J J J J).mono ?_;rintro e w1 ⟨v1,rfl,ho1,hb1⟩;have hl1:([] ++ V.aF (1:Int).toNat).length<=10:=by
  have:=V.aK (u:=(1:Int).toNat) (by decide)
  simpa using this
 have hy1:∀ b ∈ [] ++ V.aF (1:Int).toNat,b < 256:=jd (fun b hb=>by cases hb) (V.bH _)
 obtain⟨b1,hb1e⟩:∃ l,l=[] ++ V.aF (1:Int).toNat:=⟨_,rfl⟩
 rw[<-hb1e] at ho1 hl1 hy1
 obtain⟨A1,c1,hv1,hc1,-⟩:=aH ho1;subst hv1;have H1:=zh (zN ho1 (zN hb1 hy1));clear ho1 hb1 hy1 hb1e;go_wp2_with fail
 go_loopw [3,12] (fun o i wr=>∃ (A:Option Addr) (c:Nat) (bs:List Nat),o=.slice A bs.length c/\((i=.int .i64 0/\bs.length<=10)\/(i=.int .i64 1/\bs.length<=50))/\bs.length<=c/\(∀ b ∈ bs,b < 256)/\wr.ownsRow w.heap.size 5 1 (.slice A bs.length c) bs.length (bs.map V.aR)/\Below w.heap.size w wr) (fun _ i _=>1-(intOf i).toNat)
 case atStart=>exact ⟨A1,c1,b1,rfl,.inl ⟨rfl,hl1⟩,hc1,H1.out.2.2,H1.out.1,H1.out.2.1⟩
 case round=>
  clear H1 hl1 hc1;obtain⟨A1,c1,b1,rfl,hi,hc1,hy1,ho1,hb1⟩:=hrel;rcases hi with ⟨rfl,hl1⟩ | ⟨rfl,hl1⟩
  ·obtain ⟨u0,u1,u2⟩:=HC.out wr hb1
   have H1:=zh (zN ho1 (zN hb1 hy1));clear ho1 hb1 hy1;go_upto_region 5 with (fail)
   obtain⟨x,hx⟩:∃ x,x=wr.heap.size:=⟨_,rfl⟩
   rw[<-hx];have al:Below wr.heap.size wr (wr.alloc (.cells #[.string aY,.int .i64 tm,.int .i64 v] 35)):=(Below.refl _ _).alloc (Nat.le_refl _) _;refine aC (fun wx=>Own w [(x,35,#[.string aY,.int .i64 tm,.int .i64 v])] wx/\wx.ownsRow w.heap.size 5 1 (.slice A1 b1.length c1) b1.length (b1.map V.aR)) ⟨((Own.start w).call H1.out.2.1).alloc hx _ _,V.cO H1.out.1 al⟩ ?_;rintro w2 ⟨h2,r2⟩;have hS:=h2.drew;have H2:=zh (zN h2.drew (V.cO r2 (Below.refl _ _).drew));clear h2 r2 al hx u0 u1 u2;have hS:(Own w [(x,35,#[.string aY,.int .i64 tm,.int .i64 v])]) (w2.drew):=hS;refine aA (Own w [(x,35,#[.string aY,.int .i64 tm,.int .i64 v])]) (by kernel_rfl) hS ?_;refine zB [0,1,2,4,5,7,8] ?_;iterate 7 (refine zV ?_ ?_ hS ?_;rotate_left;(intro w' hSw;have z0:=hSw.c3 0;go_simp<;>with_reducible rfl);try simp only[zP])
   refine zE ?_;refine zC 3 fun K HK=>?_
   go_simp;refine(V.rX w2.drew A1 b1.length c1 b1 aY rfl (V.gI (V.cO H2.out.2 (Below.refl _ _))) hc1 J (by decide)).mono ?_;rintro e w3 ⟨v3,rfl,ho3,hb3⟩;have hll:(b1 ++ V.aF aY.size ++ V.txt aY).length<=b1.length+11:=by
    have h1:=V.aK (u:=aY.size) (by decide);have h2:=V.fD aY;have h3:aY.size=1:=rfl;rw[List.length_append,List.length_append];omega
   have hby:=jd (jd H1.out.2.2 (V.bH aY.size)) (V.nL aY);obtain⟨b3,hb3e⟩:∃ l,l=b1 ++ V.aF aY.size ++ V.txt aY:=⟨_,rfl⟩
   rw[<-hb3e] at ho3 hll hby
   obtain⟨A3,c3,hv3,hc3,-⟩:=aH ho3;subst hv3;have H3:=zh (zN ho3 (zN (H2.out.1.call hb3) hby));have l3:=hll;clear ho3 hb3 hll hby hb3e;go_wp2_with fail;refine HK.out.zt (Own w [(x,35,#[.string aY,.int .i64 tm,.int .i64 v])]) (fun _ h=>h) (H3.out.2.1) ?_;clear HK hS;intro hS;try simp only[zP]
   refine zC 6 fun K HK=>?_
   go_simp;refine(V.eG w3 A3 b3.length c3 b3 tm rfl (V.gI H3.out.1) hc3 J ht.1 ht.2).mono ?_;rintro e w4 ⟨v4,rfl,ho4,hb4⟩;have hll:(b3 ++ V.aF (zig tm)).length<=b3.length+10:=by
    have h1:=V.aK (u:=zig tm) (dJ ht.1 ht.2);rw[List.length_append];omega
   have hby:=jd H3.out.2.2 (V.bH (zig tm));obtain⟨b4,hb4e⟩:∃ l,l=b3 ++ V.aF (zig tm):=⟨_,rfl⟩
   rw[<-hb4e] at ho4 hll hby
   obtain⟨A4,c4,hv4,hc4,-⟩:=aH ho4;subst hv4;have H4:=zh (zN ho4 (zN (H3.out.2.1.call hb4) hby));have l4:=hll;clear ho4 hb4 hll hby hb4e;go_wp2_with fail;refine HK.out.zt (Own w [(x,35,#[.string aY,.int .i64 tm,.int .i64 v])]) (fun _ h=>h) (H4.out.2.1) ?_;clear HK hS;intro hS;try simp only[zP]
   refine zC 9 fun K HK=>?_
   go_simp;refine(V.eG w4 A4 b4.length c4 b4 v rfl (V.gI H4.out.1) hc4 J hv.1 hv.2).mono ?_;rintro e w5 ⟨v5,rfl,ho5,hb5⟩;have hll:(b4 ++ V.aF (zig v)).length<=b4.length+10:=by
    have h1:=V.aK (u:=zig v) (dJ hv.1 hv.2);rw[List.length_append];omega
   have hby:=jd H4.out.2.2 (V.bH (zig v));obtain⟨b5,hb5e⟩:∃ l,l=b4 ++ V.aF (zig v):=⟨_,rfl⟩
   rw[<-hb5e] at ho5 hll hby
   obtain⟨A5,c5,hv5,hc5,-⟩:=aH ho5;subst hv5;have H5:=zh (zN ho5 (zN (H4.out.2.1.call hb5) hby));have l5:=hll;clear ho5 hb5 hll hby hb5e;go_wp2_with fail;refine HK.out.zt (Own w [(x,35,#[.string aY,.int .i64 tm,.int .i64 v])]) (fun _ h=>h) (H5.out.2.1) ?_;clear HK hS;intro hS;try simp only[zP]
   refine zt 10 hS ?_;try simp only[zP]
   refine zD ?_;try simp only[zP]
   clear hS;go_wp2_with fail
   go_roundw
   case rel=>exact ⟨A5,c5,b5,rfl,.inr ⟨rfl,J⟩,hc5,H5.out.2.2,aN H5.out.1 H4.out.2.1.size,H5.out.2.1.av⟩
   case measure=>simp[intOf]
  ·have HB:=zh (zN ho1 (zN hb1 hy1))
   clear ho1 hb1 hy1;go_wp2_with fail;go_ret;exact⟨A1,c1,b1,rfl,hl1,HB.out.2.2,HB.out.1,HB.out.2.1⟩
def qV(tu:Int): Array Value:=#[Z 0,Z 0,.string aY,.string ByteArray.empty,Z 0,Z tu,Z 0,Z 0,Z 0,Z 0,Z 0,Z 0]
theorem jV(w:World)(n a b:Int)(h1:a<=n)(h2:n<=b): Calls Tryz.prog 102 #[Z n,Z a,Z b] w fun e w'=>e=.returned (.bool true)/\Below w.heap.size w w':=by
 have d1:decide (a<=n)=true:=by simp;exact h1
 have d2:decide (n<=b)=true:=by simp;exact h2
 clear h1 h2
 go_enter Tryz.func102,Tryz.ntmps102
 go_wp2_with fail;go_ret;exact⟨rfl,Below.refl _ _⟩
theorem JA(w:World)(tu:Int): Calls Tryz.prog 101 #[.agg (qV tu)] w fun e w'=>e=.returned (.bool true)/\Below w.heap.size w w':=by
 obtain⟨x,hx⟩:∃ x,x=w.heap.size:=⟨_,rfl⟩
 have o0:=Own.bn w hx 43 (qV tu);have HO:=zh o0;clear o0;unfold qV
 go_enter Tryz.func101,Tryz.ntmps101
 go_upto_region 1 with (fail)
 rw[<-hx];clear hx;refine aC (Own w [(x,43,qV tu)]) HO.out ?_;intro w1 h1;have H1:=zh h1;have z0:=h1.c 0 0;clear h1;go_wp2_with fail;go_ret;exact⟨rfl,H1.out.av⟩
theorem Jz(w:World)(tu:Int): Calls Tryz.prog 103 #[.agg (qV tu)] w fun e w'=>e=.returned (.agg (qV tu))/\Below w.heap.size w w':=by
 obtain⟨x,hx⟩:∃ x,x=w.heap.size:=⟨_,rfl⟩
 have o0:=Own.eD w hx 43 (qV tu) 43 #[Z 0,Z 0,.string ByteArray.empty,.string ByteArray.empty,Z 0,Z 0,Z 0,Z 0,Z 0,Z 0,Z 0,Z 0]
 have HO:=zh o0;clear o0;unfold qV
 go_enter Tryz.func103,Tryz.ntmps103
 go_upto_region 1 with (fail)
 rw[<-hx];clear hx;refine aC (Own w [(x,43,qV tu),(x+1,43,#[Z 0,Z 0,.string ByteArray.empty,.string ByteArray.empty,Z 0,Z 0,Z 0,Z 0,Z 0,Z 0,Z 0,Z 0])]) HO.out ?_;intro w1 h1;have H1:=zh h1;have z0_0:=h1.c12 0;have zf0:=h1.free 0 rfl;clear h1;go_upto_region 3 with (fail)
 refine aC (Own w [(x,43,qV tu),(x+1,43,#[Z 0,Z 0,.string ByteArray.empty,.string ByteArray.empty,Z 0,Z 0,Z 0,Z 0,Z 0,Z 0,Z 0,Z 0])]) ((((H1.out.set 0 6 rfl (Z 0)).set 0 7 rfl (Z 0)).set 0 8 rfl (Z 0)).set 0 11 rfl (Z 0)) ?_;clear z0_0 zf0;intro w2 h1;have H2:=zh h1;have z0_0:=h1.c12 0;have zf0:=h1.free 0 rfl;clear h1;go_upto_region 5 with (fail)
 refine aC (Own w [(x,43,qV tu),(x+1,43,#[Z 0,Z 0,.string ByteArray.empty,.string ByteArray.empty,Z 0,Z 0,Z 0,Z 0,Z 0,Z 0,Z 0,Z 0])]) (H2.out.set 0 9 rfl (Z 0)) ?_;clear z0_0 zf0;intro w3 h1;have H3:=zh h1;have z0_0:=h1.c12 0;have zf0:=h1.free 0 rfl;clear h1;go_upto_region 7 with (fail)
 refine aC (Own w [(x,43,qV tu),(x+1,43,#[Z 0,Z 0,.string ByteArray.empty,.string ByteArray.empty,Z 0,Z 0,Z 0,Z 0,Z 0,Z 0,Z 0,Z 0])]) ((H3.out.set 0 3 rfl (.string ByteArray.empty)).set 0 10 rfl (Z 0)) ?_;clear z0_0 zf0;intro w4 h1;have H4:=zh h1;have z0_0:=h1.c12 0;have zf0:=h1.free 0 rfl;clear h1;go_upto_region 9 with (fail)
 refine aC (Own w [(x,43,qV tu),(x+1,43,#[Z 0,Z 0,.string ByteArray.empty,.string ByteArray.empty,Z 0,Z 0,Z 0,Z 0,Z 0,Z 0,Z 0,Z 0])]) (H4.out.set 0 1 rfl (Z 0)) ?_;clear z0_0 zf0;intro w5 h1;have H5:=zh h1;obtain⟨w6,hw6⟩:∃ wz,wz=((((((((((((w5.setCell ⟨x+1,0,none⟩ (Z 0)).setCell ⟨x+1,1,none⟩ (Z 0)).setCell ⟨x+1,2,none⟩ (.string aY)).setCell ⟨x+1,3,none⟩ (.string ByteArray.empty)).setCell ⟨x+1,4,none⟩ (Z 0)).setCell ⟨x+1,5,none⟩ (Z tu)).setCell ⟨x+1,6,none⟩ (Z 0)).setCell ⟨x+1,7,none⟩ (Z 0)).setCell ⟨x+1,8,none⟩ (Z 0)).setCell ⟨x+1,9,none⟩ (Z 0)).setCell ⟨x+1,10,none⟩ (Z 0)).setCell ⟨x+1,11,none⟩ (Z 0)):=⟨_,rfl⟩
 have o6:Own w [(x+1,43,qV tu)] w6:=by rw[hw6];exact (aU.of (h1.sub (List.sublist_cons_self _ _)) rfl).put [Z 0,Z 0,.string aY,.string ByteArray.empty,Z 0,Z tu,Z 0,Z 0,Z 0,Z 0,Z 0,Z 0] rfl
 have H6:=zh o6;have HW6:=zh hw6;have z0_0:=h1.c12 0;have z1_0:=h1.c12 1;have zf1:=h1.free 1 rfl;clear h1 o6 hw6;go_wp2_with (rw[<-HW6.out]);clear z0_0 z1_0 zf1;have h6:=H6.out;have z0_0:=h6.c12 0;refine bodyPost_ret (v:=.agg (qV tu)) (by unfold qV;simp[results,Tryz.results103,go_sem,z0_0]) rfl ?_;exact⟨rfl,H6.out.av⟩
theorem Gh(w:World)(tu:Int)(h0:0<=tu)(h1:tu<=1000000): Calls Tryz.prog 44 #[.agg (qV tu)] w fun e w'=>e=.returned (Z 0)/\Below w.heap.size w w':=by
 obtain⟨x,hx⟩:∃ x,x=w.heap.size:=⟨_,rfl⟩
 have o0:=Own.bn w hx 43 (qV tu);have nt:∀ w:World,(Op.unary .not (.bool true)).run Tryz.prog w=.ok (.bool false) w:=bJ
 have HO:=zh o0;clear o0;unfold qV
 go_enter Tryz.func44,Tryz.ntmps44
 go_wp2_with fail;rw[<-hx];clear hx;refine aC (Own w [(x,43,qV tu)]) HO.out ?_;intro w1 o1;have hS:=o1.drew;clear o1;have hS:(Own w [(x,43,qV tu)]) (w1.drew):=hS;refine aA (Own w [(x,43,qV tu)]) (by kernel_rfl) hS ?_;refine zT 0 ?_ ?_ hS ?_;rotate_left
 ·(intro w' hSw;obtain⟨z0_0,z0_1,z0_2,z0_3,z0_4,z0_5,z0_6,z0_7,z0_8,z0_9,z0_10,z0_11⟩:=hSw.c12 0;go_simp<;>with_reducible rfl)
 try simp only[zP]
 have c1:=JA w1.drew tu;unfold qV at c1
 refine zC 1 fun K HK=>?_
 go_simp;refine(c1).mono ?_;rintro e w2 ⟨rfl,hb2⟩;have h2:=hS.call hb2;clear hb2 c1;go_wp2_with fail;refine HK.out.zt (Own w [(x,43,qV tu)]) (fun _ h=>h) (h2) ?_;clear HK hS;intro hS;try simp only[zP]
 refine zB [2,3] ?_;iterate 2 (refine zv hS ?_;try simp only[zP])
 refine zE ?_;refine zB [4,5] ?_;iterate 2 (refine zV ?_ ?_ hS ?_;rotate_left;(intro w' hSw;have z0_2:=hSw.c 0 2;go_simp<;>with_reducible rfl);try simp only[zP])
 refine zE ?_;have c2:=mZ aY (by decide) w2;rw[sK] at c2
 refine zC 6 fun K HK=>?_
 go_simp;refine(c2).mono ?_;rintro e w3 ⟨rfl,hb3⟩;have h3:=h2.call hb3;clear hb3 c2 h2;go_wp2_with fail;refine HK.out.zt (Own w [(x,43,qV tu)]) (fun _ h=>h) (h3) ?_;clear HK hS;intro hS;try simp only[zP]
 refine zB [7,8,9] ?_;iterate 3 (refine zv hS ?_;try simp only[zP])
 refine zE ?_;refine zB [10,11] ?_;iterate 2 (refine zV ?_ ?_ hS ?_;rotate_left;(intro w' hSw;have z0_4:=hSw.c 0 4;go_simp<;>with_reducible rfl);try simp only[zP])
 refine zE ?_;refine zC 12 fun K HK=>?_
 go_simp;refine(jV w3 0 (-1152921504606846976) 1152921504606846976 J J).mono ?_;rintro e w4 ⟨rfl,hb4⟩;have h4:=h3.call hb4;clear hb4 h3;go_wp2_with fail;refine HK.out.zt (Own w [(x,43,qV tu)]) (fun _ h=>h) (h4) ?_;clear HK hS;intro hS;try simp only[zP]
 refine zB [13,14,15] ?_;iterate 3 (refine zv hS ?_;try simp only[zP])
 refine zE ?_;refine zB [16,17,18,19] ?_;iterate 4 (refine zV ?_ ?_ hS ?_;rotate_left;(intro w' hSw;have z0_4:=hSw.c 0 4;have z0_5:=hSw.c 0 5;go_simp<;>with_reducible rfl);try simp only[zP])
 refine zE ?_;refine zC 20 fun K HK=>?_
 go_simp;refine(jV w4 tu 0 1152921504606846976 J J).mono ?_;rintro e w5 ⟨rfl,hb5⟩;have h5:=h4.call hb5;clear hb5 h4;go_wp2_with fail;refine HK.out.zt (Own w [(x,43,qV tu)]) (fun _ h=>h) (h5) ?_;clear HK hS;intro hS;try simp only[zP]
 refine zB [21,22,23] ?_;iterate 3 (refine zv hS ?_;try simp only[zP])
 refine zE ?_;refine zB [24,25] ?_;iterate 2 (refine zV ?_ ?_ hS ?_;rotate_left;(intro w' hSw;obtain⟨z0_0,z0_1,z0_2,z0_3,z0_4,z0_5,z0_6,z0_7,z0_8,z0_9,z0_10,z0_11⟩:=hSw.c12 0;go_simp<;>with_reducible rfl);try simp only[zP])
 refine zE ?_;have c6:=Jz w5 tu;unfold qV at c6
 refine zC 26 fun K HK=>?_
 go_simp;refine(c6).mono ?_;rintro e w6 ⟨rfl,hb6⟩;have h6:=h5.call hb6;clear hb6 c6 h5;go_wp2_with fail;refine HK.out.zt (Own w [(x,43,qV tu)]) (fun _ h=>h) (h6) ?_;clear HK hS;intro hS;try simp only[zP]
 refine zB [27,28] ?_;iterate 2 (refine zv hS ?_;try simp only[zP])
 refine zE ?_;refine zD ?_;try simp only[zP]
 clear hS;have H6:=zh h6;clear h6;go_wp2_with fail;go_ret;exact⟨rfl,H6.out.av⟩
def cls: Option TypeId->Nat
 | none=>0
 | some t=>if t=71\/t=114\/t=5 then 1 else if t=128\/t=164\/t=169 then 2 else if t=130\/t=3 then 3 else if t=117\/t=149 then 4 else if t=81 then 5 else 6
theorem FK{w:World}{M n:Nat}{D:DataW Value}(h:w.ownsMap Tryz.prog 9 eO M n D): jD w M=none:=by
 obtain⟨es,clock,e1,-⟩:=h;unfold jD;rw[e1]
theorem jE{w:World}{d M:Nat}{p:ByteArray->Option FS}{room T G q:Nat}(h:bD w d M p room T G)(hq:aM d M p q): cls (jD w q)=1\/(q=M/\cls (jD w q)=0):=by
 obtain⟨⟨u,o,c,hD,-⟩,-⟩:=h;rcases hq with rfl | rfl | ⟨s,a,ha,hq⟩
 ·left;rw[bZ hD.blk];rfl
 ·right
  obtain⟨n,D,hm,-⟩:=hD.map;exact⟨rfl,by rw[FK hm];rfl⟩
 ·left
  obtain⟨h1,h2⟩:=hD.fil s a ha;rcases hq with rfl | hq
  ·rw[bZ h1];rfl
  ·rw[fG h2 hq];rfl
theorem rJ{w:World}{st d N R q:Nat}{s:Bool}{la lg:Int}{A:Option Addr}{K cp:Nat}{pl:Nat->List Pt}(h:uQ w st d N R q s la lg A K cp pl){r:Nat}(hr:jq st A r): cls (jD w r)=2:=by
 rcases hr with rfl | hr
 ·rw[bZ h.blk];rfl
 ·rw[fG h.row (by rw[jo];exact hr)];rfl
theorem jF{w:World}{l d limit:Nat}{A:Option Addr}{cp:Nat}{fs:Nat->Nat}{k size next:Nat}{dirty:Bool}(h:bS w l d limit A cp fs k size next dirty){r:Nat}(hr:eF l A r): cls (jD w r)=3:=by
 rcases hr with rfl | hr
 ·rw[bZ h.blk];rfl
 ·rw[fG h.row (by rw[jo];exact hr)];rfl
theorem gM{w:World}{t Mt:Nat}{A:Option Addr}{cp:Nat}{L:List Pt}{n most U:Nat}(h:fE w t Mt A cp L n most U){r:Nat}(hr:dX t Mt A r): cls (jD w r)=4\/(r=Mt/\cls (jD w r)=0):=by
 rcases hr with rfl | rfl | hr
 ·left;rw[bZ h.blk];rfl
 ·right
  obtain⟨s,N,D,h1,-⟩:=h.map;exact⟨rfl,by rw[FK h1];rfl⟩
 ·left;rw[fG h.row (by rw[jo];exact hr)];rfl
structure qc where
 st: Nat
 d:Nat
 M:Nat
 l:Nat
 t:Nat
 Mt:Nat
 p:ByteArray->Option FS
 T:Nat
 G:Nat
 A:Option Addr
 K:Nat
 cp:Nat
 pl:Nat->List Pt
 R:Nat
 q0:Nat
 s0:Bool
 la0:Int
 Al:Option Addr
 cl:Nat
 fs:Nat->Nat
 kl:Nat
 sz:Nat
 nx:Nat
 At:Option Addr
 ct:Nat
 L:List Pt
 n:Nat
 U:Nat
 s:Bool
 la:Int
 q:Nat
def RZ(x:qc)(lg:Int): Array Value:=#[Z (-1),.pointer (some ⟨x.st,0,none⟩),.pointer (some ⟨x.l,0,none⟩),.pointer (some ⟨x.t,0,none⟩),.bool x.s,Z x.la,Z lg,Z (x.q:Nat),.bool false]
def Tg(x:qc)(e:Nat)(r:Nat): Prop:=aM x.d x.M x.p r\/jq x.st x.A r\/eF x.l x.Al r\/dX x.t x.Mt x.At r\/r=e
structure eB(B:Nat)(w0 w:World)(e:Nat)(lg:Int)(room limit most:Nat)(x:qc): Prop where
 blk:ay w e 81 (RZ x lg)
 dt:bD w x.d x.M x.p room x.T x.G
 sto:uQ w x.st x.d x.K x.R x.q0 x.s0 x.la0 lg x.A x.K x.cp x.pl
 log:bS w x.l x.d limit x.Al x.cl x.fs x.kl x.sz x.nx false
 tab:fE w x.t x.Mt x.At x.ct x.L x.n most x.U
 mne:x.M≠x.Mt
 lo:∀ r,Tg x e r->B<=r
 av:Below B w0 w
 hB:B<=w0.heap.size
 fso:TI (fb x.p) x.pl x.K
 noN:fb x.p iI=none
 noS:∀ j,x.K<=j->j < 10000->fb x.p (aW 115 j)=none
 plo:IK x.pl x.K
 inc:Inc (cK x.pl x.K ++ x.L)
 sm:∀ p ∈ x.L,xP p
 mark:V.dx x.s x.la lg=true
 fwd:x.s0=false\/(x.s=true/\x.la0<=x.la)
 rn:x.R<=x.nx
 qq:x.q0<=x.q
 fsl:∀ j,j < x.kl->x.fs j < 1000000
 nm:x.n<=most
 he:V.dh w0/\0 < B
theorem eB.herr{B:Nat}{w0 w:World}{e:Nat}{lg:Int}{room limit most:Nat}{x:qc}(h:eB B w0 w e lg room limit most x): V.dh w:=(World.cell?_of_block (w:=w0) (h.av.block _ h.he.2)).trans h.he.1
theorem eB.size{B:Nat}{w0 w:World}{e:Nat}{lg:Int}{room limit most:Nat}{x:qc}(h:eB B w0 w e lg room limit most x): B<=w.heap.size:=Nat.le_trans h.hB h.av.size
theorem eB.call{B:Nat}{w0 w w':World}{e:Nat}{lg:Int}{room limit most:Nat}{x:qc}(h:eB B w0 w e lg room limit most x)(hb:Below w.heap.size w w'): eB B w0 w' e lg room limit most x:=
 { h with blk:=h.blk.below hb h.blk.lt,dt:=h.dt.call hb,sto:=h.sto.call hb,log:=h.log.call hb,tab:=h.tab.call hb,av:=h.av.trans (hb.mono h.size) }
section
variable {B:Nat} {w0 w:World} {e:Nat} {lg:Int} {room limit most:Nat} {x:qc}
theorem eB.tN(h:eB B w0 w e lg room limit most x): cls (jD w e)=5:=by rw[bZ h.blk];rfl
theorem eB.ds(h:eB B w0 w e lg room limit most x)(r:Nat)(h1:aM x.d x.M x.p r)(h2:jq x.st x.A r): False:=by
 have a:=jE h.dt h1;have b:=rJ h.sto h2;omega
theorem eB.dl(h:eB B w0 w e lg room limit most x)(r:Nat)(h1:aM x.d x.M x.p r)(h2:eF x.l x.Al r): False:=by
 have a:=jE h.dt h1;have b:=jF h.log h2;omega
theorem eB.Hg(h:eB B w0 w e lg room limit most x)(r:Nat)(h1:aM x.d x.M x.p r)(h2:dX x.t x.Mt x.At r): False:=by
 have a:=jE h.dt h1;have b:=gM h.tab h2;have c:=h.mne;omega
theorem eB.de(h:eB B w0 w e lg room limit most x)(r:Nat)(h1:aM x.d x.M x.p r)(h2:r=e): False:=by
 have a:=jE h.dt h1;have b:=h.tN;rw[h2] at a;omega
theorem eB.sl(h:eB B w0 w e lg room limit most x)(r:Nat)(h1:jq x.st x.A r)(h2:eF x.l x.Al r): False:=by
 have a:=rJ h.sto h1;have b:=jF h.log h2;omega
theorem eB.Qk(h:eB B w0 w e lg room limit most x)(r:Nat)(h1:jq x.st x.A r)(h2:dX x.t x.Mt x.At r): False:=by
 have a:=rJ h.sto h1;have b:=gM h.tab h2;omega
theorem eB.se(h:eB B w0 w e lg room limit most x)(r:Nat)(h1:jq x.st x.A r)(h2:r=e): False:=by
 have a:=rJ h.sto h1;have b:=h.tN;rw[h2] at a;omega
theorem eB.lt(h:eB B w0 w e lg room limit most x)(r:Nat)(h1:eF x.l x.Al r)(h2:dX x.t x.Mt x.At r): False:=by
 have a:=jF h.log h1;have b:=gM h.tab h2;omega
theorem eB.le(h:eB B w0 w e lg room limit most x)(r:Nat)(h1:eF x.l x.Al r)(h2:r=e): False:=by
 have a:=jF h.log h1;have b:=h.tN;rw[h2] at a;omega
theorem eB.te(h:eB B w0 w e lg room limit most x)(r:Nat)(h1:dX x.t x.Mt x.At r)(h2:r=e): False:=by
 have a:=gM h.tab h1;have b:=h.tN;rw[h2] at a;omega
end
theorem LP(a:Addr)(w:World): (binOp .eql 27 (.pointer (some a)) (.pointer none)).run Tryz.prog w=.ok (.bool false) w:=by kernel_rfl
theorem yY(w:World)(e t:Nat)(hc:w.cell? ⟨e,3,none⟩=some (.pointer (some ⟨t,0,none⟩))): Calls Tryz.prog 31 #[.pointer (some ⟨e,0,none⟩)] w fun u w'=>u=.returned (.bool false)/\Below w.heap.size w w':=by
 have q2:=fun y=>LP ⟨y,0,none⟩
 have q3:=fun y=>BZ ⟨y,0,none⟩
 go_enter Tryz.func31,Tryz.ntmps31
 go_wp2_with fail;go_ret;exact⟨rfl,Below.refl _ _⟩
theorem eB.none{B:Nat}{w0 w:World}{e:Nat}{lg:Int}{room limit most:Nat}{x:qc}(h:eB B w0 w e lg room limit most x): Calls Tryz.prog 31 #[.pointer (some ⟨e,0,none⟩)] w fun u w'=>u=.returned (.bool false)/\Below w.heap.size w w':=yY w e x.t (h.blk.cell 3)
def qW(fn fr tu W O fi:Int): Array Value:=#[Z 1,Z fn,.string aY,.string ByteArray.empty,Z fr,Z tu,Z W,Z W,Z O,Z 0,Z 0,Z fi]
def dO(i a b:Int): Array Value:=#[Z i,Z a,Z b]
theorem za(w:World)(fn fr tu W O fi:Int): Calls Tryz.prog 117 #[.agg (qW fn fr tu W O fi)] w fun e w'=>e=.returned (.agg (bX W O))/\Below w.heap.size w w':=by
 obtain⟨x,hx⟩:∃ x,x=w.heap.size:=⟨_,rfl⟩
 have o0:=Own.eD w hx 43 (qW fn fr tu W O fi) 211 #[Z 0,Z 0,Z 0]
 have HO:=zh o0;clear o0;unfold qW
 go_enter Tryz.func117,Tryz.ntmps117
 go_upto_region 1 with (fail)
 rw[<-hx];clear hx;refine aC (Own w [(x,43,qW fn fr tu W O fi),(x+1,211,#[Z 0,Z 0,Z 0])]) HO.out ?_;intro w5 h1;have H5:=zh h1;obtain⟨w6,hw6⟩:∃ wz,wz=(((w5.setCell ⟨x+1,0,none⟩ (Z W)).setCell ⟨x+1,1,none⟩ (Z W)).setCell ⟨x+1,2,none⟩ (Z O)):=⟨_,rfl⟩
 have o6:Own w [(x+1,211,bX W O)] w6:=by rw[hw6];exact (aU.of (h1.sub (List.sublist_cons_self _ _)) rfl).put [Z W,Z W,Z O] rfl
 have H6:=zh o6;have HW6:=zh hw6;have z0_0:=h1.c12 0;have z1_0:=h1.c3 1;have zf1:=h1.free 1 rfl;clear h1 o6 hw6;go_wp2_with (rw[<-HW6.out]);clear z0_0 z1_0 zf1;have h6:=H6.out;have z0_0:=h6.c3 0;refine bodyPost_ret (v:=.agg (bX W O)) (by unfold bX;simp[results,Tryz.results117,go_sem,z0_0]) rfl ?_;exact⟨rfl,H6.out.av⟩
theorem JB(w:World)(fn fr tu W O fi:Int): Calls Tryz.prog 169 #[.agg (qW fn fr tu W O fi)] w fun e w'=>e=.returned (.agg (bX W O))/\Below w.heap.size w w':=by
 obtain⟨x,hx⟩:∃ x,x=w.heap.size:=⟨_,rfl⟩
 have o0:=Own.eD w hx 43 (qW fn fr tu W O fi) 211 #[Z 0,Z 0,Z 0]
 have HO:=zh o0;clear o0;unfold qW
 go_enter Tryz.func169,Tryz.ntmps169
 go_upto_region 1 with (fail)
 rw[<-hx];clear hx;refine aC (Own w [(x,43,qW fn fr tu W O fi),(x+1,211,#[Z 0,Z 0,Z 0])]) HO.out ?_;intro w5 h1;have H5:=zh h1;obtain⟨w6,hw6⟩:∃ wz,wz=(((w5.setCell ⟨x+1,0,none⟩ (Z W)).setCell ⟨x+1,1,none⟩ (Z W)).setCell ⟨x+1,2,none⟩ (Z O)):=⟨_,rfl⟩
 have o6:Own w [(x+1,211,bX W O)] w6:=by rw[hw6];exact (aU.of (h1.sub (List.sublist_cons_self _ _)) rfl).put [Z W,Z W,Z O] rfl
 have H6:=zh o6;have HW6:=zh hw6;have z0_0:=h1.c12 0;have z1_0:=h1.c3 1;have zf1:=h1.free 1 rfl;clear h1 o6 hw6;go_wp2_with (rw[<-HW6.out]);clear z0_0 z1_0 zf1;have h6:=H6.out;have z0_0:=h6.c3 0;refine bodyPost_ret (v:=.agg (bX W O)) (by unfold bX;simp[results,Tryz.results169,go_sem,z0_0]) rfl ?_;exact⟨rfl,H6.out.av⟩
theorem Ma(w:World)(fn fr tu W O fi:Int): Calls Tryz.prog 112 #[.agg (qW fn fr tu W O fi)] w fun e w'=>e=.returned (.agg (dO (-1) fr fr))/\Below w.heap.size w w':=by
 obtain⟨x,hx⟩:∃ x,x=w.heap.size:=⟨_,rfl⟩
 have o0:=Own.eD w hx 43 (qW fn fr tu W O fi) 102 #[Z 0,Z 0,Z 0]
 have HO:=zh o0;clear o0;unfold qW
 go_enter Tryz.func112,Tryz.ntmps112
 go_upto_region 1 with (fail)
 rw[<-hx];clear hx;refine aC (Own w [(x,43,qW fn fr tu W O fi),(x+1,102,#[Z 0,Z 0,Z 0])]) HO.out ?_;intro w5 h1;have H5:=zh h1;obtain⟨w6,hw6⟩:∃ wz,wz=(((w5.setCell ⟨x+1,0,none⟩ (Z (-1))).setCell ⟨x+1,1,none⟩ (Z fr)).setCell ⟨x+1,2,none⟩ (Z fr)):=⟨_,rfl⟩
 have o6:Own w [(x+1,102,dO (-1) fr fr)] w6:=by rw[hw6];exact (aU.of (h1.sub (List.sublist_cons_self _ _)) rfl).put [Z (-1),Z fr,Z fr] rfl
 have H6:=zh o6;have HW6:=zh hw6;have z0_0:=h1.c12 0;have z1_0:=h1.c3 1;have zf1:=h1.free 1 rfl;clear h1 o6 hw6;go_wp2_with (rw[<-HW6.out]);clear z0_0 z1_0 zf1;have h6:=H6.out;have z0_0:=h6.c3 0;refine bodyPost_ret (v:=.agg (dO (-1) fr fr)) (by unfold dO;simp[results,Tryz.results112,go_sem,z0_0]) rfl ?_;exact⟨rfl,H6.out.av⟩
theorem Gi(w:World)(fn fr tu W O:Int)(h:bP W O)(hf1:0<=fn)(hf2:fn<=6): Calls Tryz.prog 101 #[.agg (qW fn fr tu W O 0)] w fun e w'=>e=.returned (.bool true)/\Below w.heap.size w w':=by
 obtain⟨x,hx⟩:∃ x,x=w.heap.size:=⟨_,rfl⟩
 have o0:=Own.bn w hx 43 (qW fn fr tu W O 0);have HO:=zh (zN o0 h);have k1:=fun w=>JB w fn fr tu W O 0
 have HF:=zh (zN hf1 hf2);clear o0 h hf1 hf2;unfold qW at k1 ⊢
 go_enter Tryz.func101,Tryz.ntmps101
 go_upto_region 1 with (fail)
 rw[<-hx];clear hx;refine aC (Own w [(x,43,qW fn fr tu W O 0)]) HO.out.1 ?_;intro w1 h1;have H1:=zh h1;have z0_0:=h1.c12 0;clear h1;go_wp2_with fail;clear z0_0;refine(jV w1 0 0 3 J J).mono ?_;rintro e w2 ⟨rfl,hb⟩;have h2:=H1.out.call hb;have H2:=zh h2;have z0_0:=h2.c12 0;clear h2 hb;go_wp2_with fail;clear z0_0;refine(k1 w2).mono ?_;rintro e w3 ⟨rfl,hb⟩;have h3:=H2.out.call hb;have H3:=zh h3;have z0_0:=h3.c12 0;clear h3 hb;go_wp2_with fail;clear z0_0;refine(gH w3 W O HO.out.2).mono ?_;rintro e w4 ⟨rfl,hb⟩;have h4:=H3.out.call hb;have H4:=zh h4;have z0_0:=h4.c12 0;clear h4 hb;go_wp2_with fail;clear z0_0;refine(jV w4 fn 0 6 HF.out.1 HF.out.2).mono ?_;rintro e w5 ⟨rfl,hb⟩;have h5:=H4.out.call hb;have H5:=zh h5;have z0_0:=h5.c12 0;clear h5 hb;go_wp2_with fail;go_ret;exact⟨rfl,H5.out.av⟩
theorem Gg(w:World)(fn fr tu W O:Int): Calls Tryz.prog 103 #[.agg (qW fn fr tu W O 0)] w fun e w'=>e=.returned (.agg (qW fn fr tu W O 0))/\Below w.heap.size w w':=by
 obtain⟨x,hx⟩:∃ x,x=w.heap.size:=⟨_,rfl⟩
 have o0:=Own.eD w hx 43 (qW fn fr tu W O 0) 43 #[Z 0,Z 0,.string ByteArray.empty,.string ByteArray.empty,Z 0,Z 0,Z 0,Z 0,Z 0,Z 0,Z 0,Z 0]
 have HO:=zh o0;clear o0;unfold qW
 go_enter Tryz.func103,Tryz.ntmps103
 go_upto_region 1 with (fail)
 rw[<-hx];clear hx;refine aC (Own w [(x,43,qW fn fr tu W O 0),(x+1,43,#[Z 0,Z 0,.string ByteArray.empty,.string ByteArray.empty,Z 0,Z 0,Z 0,Z 0,Z 0,Z 0,Z 0,Z 0])]) HO.out ?_;intro w1 h1;have H1:=zh h1;have z0_0:=h1.c12 0;have zf0:=h1.free 0 rfl;clear h1;go_upto_region 5 with (fail)
 refine aC (Own w [(x,43,qW fn fr tu W O 0),(x+1,43,#[Z 0,Z 0,.string ByteArray.empty,.string ByteArray.empty,Z 0,Z 0,Z 0,Z 0,Z 0,Z 0,Z 0,Z 0])]) (H1.out.set 0 9 rfl (Z 0)) ?_;clear z0_0 zf0;intro w3 h1;have H3:=zh h1;have z0_0:=h1.c12 0;have zf0:=h1.free 0 rfl;clear h1;go_upto_region 7 with (fail)
 refine aC (Own w [(x,43,qW fn fr tu W O 0),(x+1,43,#[Z 0,Z 0,.string ByteArray.empty,.string ByteArray.empty,Z 0,Z 0,Z 0,Z 0,Z 0,Z 0,Z 0,Z 0])]) ((H3.out.set 0 3 rfl (.string ByteArray.empty)).set 0 10 rfl (Z 0)) ?_;clear z0_0 zf0;intro w5 h1;have H5:=zh h1;obtain⟨w6,hw6⟩:∃ wz,wz=((((((((((((w5.setCell ⟨x+1,0,none⟩ (Z 1)).setCell ⟨x+1,1,none⟩ (Z fn)).setCell ⟨x+1,2,none⟩ (.string aY)).setCell ⟨x+1,3,none⟩ (.string ByteArray.empty)).setCell ⟨x+1,4,none⟩ (Z fr)).setCell ⟨x+1,5,none⟩ (Z tu)).setCell ⟨x+1,6,none⟩ (Z W)).setCell ⟨x+1,7,none⟩ (Z W)).setCell ⟨x+1,8,none⟩ (Z O)).setCell ⟨x+1,9,none⟩ (Z 0)).setCell ⟨x+1,10,none⟩ (Z 0)).setCell ⟨x+1,11,none⟩ (Z 0)):=⟨_,rfl⟩
 have o6:Own w [(x+1,43,qW fn fr tu W O 0)] w6:=by rw[hw6];exact (aU.of (h1.sub (List.sublist_cons_self _ _)) rfl).put [Z 1,Z fn,.string aY,.string ByteArray.empty,Z fr,Z tu,Z W,Z W,Z O,Z 0,Z 0,Z 0] rfl
 have H6:=zh o6;have HW6:=zh hw6;have z0_0:=h1.c12 0;have z1_0:=h1.c12 1;have zf1:=h1.free 1 rfl;clear h1 o6 hw6;go_wp2_with (rw[<-HW6.out]);clear z0_0 z1_0 zf1;have h6:=H6.out;have z0_0:=h6.c12 0;refine bodyPost_ret (v:=.agg (qW fn fr tu W O 0)) (by unfold qW;simp[results,Tryz.results103,go_sem,z0_0]) rfl ?_;exact⟨rfl,H6.out.av⟩
theorem Eu(w:World)(fn fr tu W O:Int)(hk:bP W O)(f1:0<=fn)(f2:fn<=6)(r1 : -1152921504606846976<=fr)(r2:fr<=tu)(r3:tu<=1152921504606846976): Calls Tryz.prog 44 #[.agg (qW fn fr tu W O 0)] w fun e w'=>e=.returned (Z 0)/\Below w.heap.size w w':=by
 obtain⟨x,hx⟩:∃ x,x=w.heap.size:=⟨_,rfl⟩
 have o0:=Own.bn w hx 43 (qW fn fr tu W O 0);have nt:∀ w:World,(Op.unary .not (.bool true)).run Tryz.prog w=.ok (.bool false) w:=bJ
 have HO:=zh o0;have HQF:=zh (zN hk (zN f1 (zN f2 (zN r1 (zN (show fr<=1152921504606846976 by omega) (zN r2 r3))))));clear o0 hk f1 f2 r1 r2 r3;unfold qW
 go_enter Tryz.func44,Tryz.ntmps44
 go_wp2_with fail;rw[<-hx];clear hx;refine aC (Own w [(x,43,qW fn fr tu W O 0)]) HO.out ?_;intro w1 o1;have hS:=o1.drew;clear o1;have hS:(Own w [(x,43,qW fn fr tu W O 0)]) (w1.drew):=hS;refine aA (Own w [(x,43,qW fn fr tu W O 0)]) (by kernel_rfl) hS ?_;refine zT 0 ?_ ?_ hS ?_;rotate_left
 ·(intro w' hSw;obtain⟨z0_0,z0_1,z0_2,z0_3,z0_4,z0_5,z0_6,z0_7,z0_8,z0_9,z0_10,z0_11⟩:=hSw.c12 0;go_simp<;>with_reducible rfl)
 try simp only[zP]
 have c1:=Gi w1.drew fn fr tu W O HQF.out.1 HQF.out.2.1 HQF.out.2.2.1;unfold qW at c1
 refine zC 1 fun K HK=>?_
 go_simp;refine(c1).mono ?_;rintro e w2 ⟨rfl,hb2⟩;have h2:=hS.call hb2;clear hb2 c1;go_wp2_with fail;refine HK.out.zt (Own w [(x,43,qW fn fr tu W O 0)]) (fun _ h=>h) (h2) ?_;clear HK hS;intro hS;try simp only[zP]
 refine zB [2,3] ?_;iterate 2 (refine zv hS ?_;try simp only[zP])
 refine zE ?_;refine zB [4,5] ?_;iterate 2 (refine zV ?_ ?_ hS ?_;rotate_left;(intro w' hSw;have z0_2:=hSw.c 0 2;go_simp<;>with_reducible rfl);try simp only[zP])
 refine zE ?_;have c2:=mZ aY (by decide) w2;rw[sK] at c2
 refine zC 6 fun K HK=>?_
 go_simp;refine(c2).mono ?_;rintro e w3 ⟨rfl,hb3⟩;have h3:=h2.call hb3;clear hb3 c2 h2;go_wp2_with fail;refine HK.out.zt (Own w [(x,43,qW fn fr tu W O 0)]) (fun _ h=>h) (h3) ?_;clear HK hS;intro hS;try simp only[zP]
 refine zB [7,8,9] ?_;iterate 3 (refine zv hS ?_;try simp only[zP])
 refine zE ?_;refine zB [10,11] ?_;iterate 2 (refine zV ?_ ?_ hS ?_;rotate_left;(intro w' hSw;have z0_4:=hSw.c 0 4;go_simp<;>with_reducible rfl);try simp only[zP])
 refine zE ?_;refine zC 12 fun K HK=>?_
 go_simp;refine(jV w3 fr (-1152921504606846976) 1152921504606846976 HQF.out.2.2.2.1 HQF.out.2.2.2.2.1).mono ?_;rintro e w4 ⟨rfl,hb4⟩;have h4:=h3.call hb4;clear hb4 h3;go_wp2_with fail;refine HK.out.zt (Own w [(x,43,qW fn fr tu W O 0)]) (fun _ h=>h) (h4) ?_;clear HK hS;intro hS;try simp only[zP]
 refine zB [13,14,15] ?_;iterate 3 (refine zv hS ?_;try simp only[zP])
 refine zE ?_;refine zB [16,17,18,19] ?_;iterate 4 (refine zV ?_ ?_ hS ?_;rotate_left;(intro w' hSw;have z0_4:=hSw.c 0 4;have z0_5:=hSw.c 0 5;go_simp<;>with_reducible rfl);try simp only[zP])
 refine zE ?_;refine zC 20 fun K HK=>?_
 go_simp;refine(jV w4 tu fr 1152921504606846976 HQF.out.2.2.2.2.2.1 HQF.out.2.2.2.2.2.2).mono ?_;rintro e w5 ⟨rfl,hb5⟩;have h5:=h4.call hb5;clear hb5 h4;go_wp2_with fail;refine HK.out.zt (Own w [(x,43,qW fn fr tu W O 0)]) (fun _ h=>h) (h5) ?_;clear HK hS;intro hS;try simp only[zP]
 refine zB [21,22,23] ?_;iterate 3 (refine zv hS ?_;try simp only[zP])
 refine zE ?_;refine zB [24,25] ?_;iterate 2 (refine zV ?_ ?_ hS ?_;rotate_left;(intro w' hSw;obtain⟨z0_0,z0_1,z0_2,z0_3,z0_4,z0_5,z0_6,z0_7,z0_8,z0_9,z0_10,z0_11⟩:=hSw.c12 0;go_simp<;>with_reducible rfl);try simp only[zP])
 refine zE ?_;have c6:=Gg w5 fn fr tu W O;unfold qW at c6
 refine zC 26 fun K HK=>?_
 go_simp;refine(c6).mono ?_;rintro e w6 ⟨rfl,hb6⟩;have h6:=h5.call hb6;clear hb6 c6 h5;go_wp2_with fail;refine HK.out.zt (Own w [(x,43,qW fn fr tu W O 0)]) (fun _ h=>h) (h6) ?_;clear HK hS;intro hS;try simp only[zP]
 refine zB [27,28] ?_;iterate 2 (refine zv hS ?_;try simp only[zP])
 refine zE ?_;refine zD ?_;try simp only[zP]
 clear hS;have H6:=zh h6;clear h6;go_wp2_with fail;go_ret;exact⟨rfl,H6.out.av⟩
theorem wW(w:World)(fn fr tu W O:Int)(h:bP W O)(f1:0<=fn)(f2:fn<=6)(r1 : -1152921504606846976<=fr)(r2:fr<=tu)(r3:tu<=1152921504606846976): Calls Tryz.prog 115 #[.agg (qW fn fr tu W O 0)] w fun e w'=>e=.returned (Z 0)/\Below w.heap.size w w':=by
 obtain⟨x,hx⟩:∃ x,x=w.heap.size:=⟨_,rfl⟩
 have o0:=Own.bn w hx 43 (qW fn fr tu W O 0);have k1:=fun w=>Eu w fn fr tu W O h f1 f2 r1 r2 r3
 have HO:=zh o0;clear o0 h f1 f2 r1 r2 r3;unfold qW at k1 ⊢
 go_enter Tryz.func115,Tryz.ntmps115
 go_upto_region 1 with (fail)
 rw[<-hx];clear hx;refine aC (Own w [(x,43,qW fn fr tu W O 0)]) HO.out ?_;intro w1 h1;have H1:=zh h1;have z0_0:=h1.c12 0;clear h1;go_wp2_with fail;clear z0_0;refine(k1 w1).mono ?_;rintro e w2 ⟨rfl,hb⟩;have h2:=H1.out.call hb;have H2:=zh h2;have z0_0:=h2.c12 0;clear h2 hb;go_wp2_with fail;go_ret;exact⟨rfl,H2.out.av⟩
theorem Jy(w:World)(fn fr tu W O fi v p u low:Int)(s:ByteArray)(a b:Int)(hv1:1<=v)(hv2:v<=1099511627776)(hp1:0<=p)(hp2:p<=1099511627776)(hmx:max fr low=a)(hmn:min tu u=b)(a1 : -1152921504606846976<=a)(a2:a<=1152921504606846976)(b1 : -1152921504606846976<=b)(b2:b<=1152921504606846976):
  Calls Tryz.prog 118 #[.agg (qW fn fr tu W O fi),.agg #[Z v,Z p,Z u,.bool true,.string s],Z low] w fun e w'=>e=.returned (.tuple #[Z (a+(p-a)%v),Z (b-(b-p)%v)])/\Below w.heap.size w w':=by
 obtain⟨x,hx⟩:∃ x,x=w.heap.size:=⟨_,rfl⟩
 have o0:=Own.eD w hx 43 (qW fn fr tu W O fi) 169 #[Z v,Z p,Z u,.bool true,.string s]
 have k1:=fun w=>uh w (p-a) v hv1 hv2 J J
 have k2:=fun w=>uh w (b-p) v hv1 hv2 J J
 have e1:=Int.emod_nonneg (p-a) (show v≠0 by omega);have e2:=Int.emod_lt_of_pos (p-a) (show 0 < v by omega);have e3:=Int.emod_nonneg (b-p) (show v≠0 by omega);have e4:=Int.emod_lt_of_pos (b-p) (show 0 < v by omega);obtain⟨m1,hm1⟩:∃ m,m=(p-a)%v:=⟨_,rfl⟩
 obtain⟨m2,hm2⟩:∃ m,m=(b-p)%v:=⟨_,rfl⟩
 rw[<-hm1] at k1 e1 e2 ⊢
 rw[<-hm2] at k2 e3 e4 ⊢
 have g1:IntKind.i64.wrap (p-a)=p-a:=by simp only[IntKind.wrap_i64];omega
 have g2:IntKind.i64.wrap (b-p)=b-p:=by simp only[IntKind.wrap_i64];omega
 have g3:IntKind.i64.wrap (a+m1)=a+m1:=by simp only[IntKind.wrap_i64];omega
 have g4:IntKind.i64.wrap (b-m2)=b-m2:=by simp only[IntKind.wrap_i64];omega
 have HO:=zh o0;clear o0 hm1 hm2 e1 e2 e3 e4 hv1 hv2 hp1 hp2 a1 a2 b1 b2;unfold qW
 go_enter Tryz.func118,Tryz.ntmps118
 go_upto_region 1 with (fail)
 rw[<-hx];clear hx;refine aC (Own w [(x,43,qW fn fr tu W O fi),(x+1,169,#[Z v,Z p,Z u,.bool true,.string s])]) HO.out ?_;intro w1 h1;have H1:=zh h1;have z0_0:=h1.c12 0;have z1_0:=h1.c5 1;clear h1;go_wp2_with fail;clear z0_0 z1_0;refine(k1 w1).mono ?_;rintro e w2 ⟨rfl,hb⟩;have h2:=H1.out.call hb;have H2:=zh h2;have z0_0:=h2.c12 0;have z1_0:=h2.c5 1;clear h2 hb;go_wp2_with fail;clear z0_0 z1_0;refine(k2 w2).mono ?_;rintro e w3 ⟨rfl,hb⟩;have h3:=H2.out.call hb;have H3:=zh h3;clear h3 hb;go_wp2_with fail;go_ret2;exact⟨rfl,H3.out.av⟩
def dP(v p u:Int)(m:Bool)(s:ByteArray): Array Value:=#[Z v,Z p,Z u,.bool m,.string s]
theorem Mi(v p t:Int): t-(t-p)%v=aD v p t:=rfl
theorem wU(w:World)(v p u t:Int)(m:Bool)(s:ByteArray)(hv1:1<=v)(hv2:v<=1099511627776)(hp1:0<=p)(hp2:p<=1099511627776)(a1 : -1152921504606846976<=t)(a2:t<=1152921504606846976):
  Calls Tryz.prog 158 #[.agg (dP v p u m s),Z t] w fun e w'=>e=.returned (Z (aD v p t))/\Below w.heap.size w w':=by
 obtain⟨x,hx⟩:∃ x,x=w.heap.size:=⟨_,rfl⟩
 have o0:=Own.bn w hx 169 (dP v p u m s);have k1:=fun w=>uh w (t-p) v hv1 hv2 J J
 have e1:=Int.emod_nonneg (t-p) (show v≠0 by omega);have e2:=Int.emod_lt_of_pos (t-p) (show 0 < v by omega);rw[<-Mi];obtain⟨m1,hm1⟩:∃ m,m=(t-p)%v:=⟨_,rfl⟩
 rw[<-hm1] at k1 e1 e2 ⊢
 have g1:IntKind.i64.wrap (t-p)=t-p:=by simp only[IntKind.wrap_i64];omega
 have g2:IntKind.i64.wrap (t-m1)=t-m1:=by simp only[IntKind.wrap_i64];omega
 have HO:=zh o0;clear o0 hm1 e1 e2 hv1 hv2 hp1 hp2 a1 a2;unfold dP
 go_enter Tryz.func158,Tryz.ntmps158
 go_upto_region 1 with (fail)
 rw[<-hx];clear hx;refine aC (Own w [(x,169,dP v p u m s)]) HO.out ?_;intro w1 h1;have H1:=zh h1;have z0_0:=h1.c5 0;clear h1;go_wp2_with fail;clear z0_0;refine(k1 w1).mono ?_;rintro e w2 ⟨rfl,hb⟩;have h2:=H1.out.call hb;have H2:=zh h2;clear h2 hb;go_wp2_with fail;go_ret;exact⟨rfl,H2.out.av⟩
def aX(N R q:Nat)(s:Bool)(la lg:Int)(A:Option Addr)(n c:Nat): Array Value:=#[Z (N:Nat),Z (R:Nat),Z (q:Nat),.bool s,Z la,Z lg,.slice none 0 0,.slice A n c]
theorem Iy: (Tryz.prog.info? 169).map (fun i=>(i.zero,i.size,i.bytes))=some (some (.agg #[Z 0,Z 0,Z 0,.bool false,.string ByteArray.empty]),5,48):=by kernel_rfl
theorem Me(a:Addr)(n c:Nat)(w:World): (binOp .eql 90 (.slice (some a) n c) (.slice none 0 0)).run Tryz.prog w=.ok (.bool false) w:=by kernel_rfl
structure bN(w:World)(B:Nat)(A:Option Addr)(n c:Nat)(ti:List Value): Prop where
 row:w.ownsRow B 169 5 (.slice A n c) n ti
 len:ti.length=n*5
 one:∀ u ∈ ti,u.oneCell'=true
 le:n<=1
 nil:n=0->A=none/\c=0
theorem CW{w:World}{base g c2:Nat}{v:Value}{n:Nat}{xs news:List Value}{m:Nat}{ty:TypeId}(hown:w.ownsRow base 169 5 v n xs)(hl:news.length=m*5)(hc:∀ j u,news[j]? = some u->w.cell? ⟨g,j,none⟩=some u)(h1:∀ u ∈ news,u.oneCell'=true)(hn:n+m < 100000)(hbase:base<=w.heap.size):
  ∃ v' w',(Builtin.append_ #[90,90] ty #[v,.slice (some ⟨g,0,none⟩) m c2]).run Tryz.prog w=.ok v' w'/\w'.ownsRow base 169 5 v' (n+m) (xs ++ news)/\w.grownBy w' v.ownBlock/\(v'.ownBlock=v.ownBlock\/v'.ownBlock=some w.heap.size):=by
 obtain⟨i,hi,hz,hs,hb⟩:=info_parts Iy;obtain⟨v',w',h1,h2,h3,_,h4⟩:=run_append_own_at (P:=Tryz.prog) w base 90 ty 169 i _ 5 48 Tryz.underlying90 hi hz hs hb rfl (by decide) v n xs hown ⟨g,0,none⟩ m c2 news hl
  (fun j u' hu'=>by rw[iE];exact hc j u' hu') h1 (by unfold maxLen;omega) J hbase
 exact⟨v',w',h1,h2,h3,h4⟩
theorem bN.zero(w:World)(B:Nat): bN w B none 0 0 []:=⟨⟨rfl,.inl ⟨rfl,rfl⟩⟩,rfl,(fun _ h=>by cases h),J,fun _=>⟨rfl,rfl⟩⟩
theorem bN.lt{w:World}{B n c:Nat}{A:Option Addr}{ti:List Value}(h:bN w B A n c ti){q:Nat}(hq:A.map (·.block)=some q): B<=q/\q < w.heap.size:=h.row.lt q (by rw[jo];exact hq)
theorem bN.cell{w:World}{B n c g:Nat}{A:Option Addr}{ti:List Value}(h:bN w B A n c ti)(hA:A=some ⟨g,0,none⟩){j:Nat}{u:Value}(hu:ti[j]? = some u): w.cell? ⟨g,j,none⟩=some u:=by
 subst hA;have:=h.row.cells (g:=g) rfl _ _ hu;rw[iE] at this
 exact this
theorem bN.GY{w:World}{B c:Nat}{A:Option Addr}{ti:List Value}(h:bN w B A 1 c ti): ∃ g,A=some ⟨g,0,none⟩/\B<=g/\g < w.heap.size/\∀ j u,ti[j]? = some u->w.cell? ⟨g,j,none⟩=some u:=by
 obtain⟨A',c',e,hcc,hg⟩:=aH h.row;injection e with ea eb ec
 obtain⟨g,hA',hb,hl⟩:=hg J;obtain rfl:A=some ⟨g,0,none⟩:=ea.trans hA';exact⟨g,rfl,hb,hl,fun j u hu=>h.cell rfl hu⟩
theorem bN.keep{S:Nat->Prop}{w w':World}{B n c:Nat}{A:Option Addr}{ti:List Value}(h:bN w B A n c ti)(hk:Keeps S w w')(hS:∀ q,A.map (·.block)=some q->¬ S q): bN w' B A n c ti:=
 ⟨aG h.row hk (fun k hk2=>hS k (by rw[<-jo A n c];exact hk2)),h.len,h.one,h.le,h.nil⟩
theorem bN.call{w w':World}{B n c:Nat}{A:Option Addr}{ti:List Value}(h:bN w B A n c ti)(hb:Below w.heap.size w w'): bN w' B A n c ti:=
 h.keep (S:=fun _=>False) (Keeps.of_below hb) (fun _ _ h=>h)
theorem bN.base{w:World}{B B' n c:Nat}{A:Option Addr}{ti:List Value}(h:bN w B A n c ti)(hB:B'<=B): bN w B' A n c ti:=⟨aN h.row hB,h.len,h.one,h.le,h.nil⟩
def II(w:World)(n:Nat)(ti:List Value)(e:Ending)(w':World): Prop:=
 ∃ (A':Option Addr) (c':Nat),e=.returned (.slice A' n c')/\bN w' w.heap.size A' n c' ti/\Below w.heap.size w w'
theorem qD(w:World)(B n c:Nat)(A:Option Addr)(ti:List Value)(hrow:bN w B A n c ti):
  Calls Tryz.prog 131 #[.slice A n c] w (II w n ti):=by
 have e1:=OD;have e2:=Me;have hn:=hrow.le
 match n,hn with
 | 0,_=>
  obtain⟨rfl,rfl⟩:=hrow.nil rfl;have hl:ti=[]:=List.length_eq_zero_iff.1 hrow.len;subst hl;clear hrow hn
  go_enter Tryz.func131,Tryz.ntmps131
  go_wp2_with fail;go_ret;exact⟨none,0,rfl,bN.zero _ _,Below.refl _ _⟩
 | 1,_=>
  obtain⟨g,rfl,hb,hlt,hc⟩:=hrow.GY;obtain⟨v3,w3,hrun3,r3,g3,x3⟩:=CW (w:=w.alloc (.cells #[] 169)) (base:=w.heap.size) (g:=g) (c2:=c) (v:=.slice (some ⟨w.heap.size,0,none⟩) 0 0) (n:=0) (xs:=[]) (news:=ti) (m:=1) (ty:=90) (World.ownsRow_made w #[] 0 (Nat.le_refl _) (by unfold maxLen;omega) rfl) hrow.len
   (fun j u hu=>(((Below.refl w.heap.size w).alloc (Nat.le_refl _) (.cells #[] 169)).cell (p:=⟨g,j,none⟩) hlt).trans (hc j u hu)) hrow.one J (by simp)
  have b3:Below w.heap.size w w3:=((Below.refl w.heap.size w).alloc (Nat.le_refl _) (.cells #[] 169)).grown g3 (by simp) (fun k hk=>by simp[Value.ownBlock] at hk;omega);obtain⟨A3,c3,hv3,hc3,-⟩:=aH r3;rw[List.nil_append] at r3
  rw[Nat.zero_add] at r3 hv3 hc3
  subst hv3;have r4:bN w3 w.heap.size A3 1 c3 ti:=⟨r3,hrow.len,hrow.one,J,fun h=>absurd h J⟩
  have HE:=zh (zN r4 b3);clear hrow hc r3 r4 b3 g3 x3 hn
  go_enter Tryz.func131,Tryz.ntmps131
  go_wp2_with (at_builtin;refine wpList_append_run rfl (.tmp 5) (.tmp 6) rfl rfl rfl hrun3 ?_);go_ret;exact⟨A3,c3,rfl,HE.out.1,HE.out.2⟩
theorem qC(w:World): Calls Tryz.prog 130 #[.slice none 0 0] w fun e w'=>e=.returned (.slice none 0 0)/\Below w.heap.size w w':=by
 have e1:=Ou
 go_enter Tryz.func130,Tryz.ntmps130
 go_wp2_with fail;go_ret;exact⟨rfl,Below.refl _ _⟩
def lV(w:World)(x:Nat)(wx:World): Prop:=Own w [(x+1,92,iV 0 0 0 false 0 0 none 0 0)] wx
def qR(w:World)(N R q:Nat)(s:Bool)(la lg:Int)(n:Nat)(ti:List Value)(e:Ending)(w':World): Prop:=
 ∃ (A':Option Addr) (c':Nat),e=.returned (.agg (aX N R q s la lg A' n c'))/\bN w' w.heap.size A' n c' ti/\Below w.heap.size w w'
theorem uW(w:World)(B:Nat)(N R q:Nat)(s:Bool)(la lg:Int)(A:Option Addr)(n c:Nat)(ti:List Value)(hrow:bN w B A n c ti):
  Calls Tryz.prog 64 #[.agg (aX N R q s la lg A n c)] w (qR w N R q s la lg n ti):=by
 obtain⟨x,hx⟩:∃ x,x=w.heap.size:=⟨_,rfl⟩
 have o0:=Own.eD w hx 92 (aX N R q s la lg A n c) 92 (iV 0 0 0 false 0 0 none 0 0);have HD:=zh (zN hrow o0);clear hrow o0;unfold aX
 go_enter Tryz.func64,Tryz.ntmps64
 go_wp2_with fail;rw[<-hx];clear hx;refine aC (Own w [(x,92,aX N R q s la lg A n c),(x+1,92,iV 0 0 0 false 0 0 none 0 0)]) HD.out.2 ?_;intro w1 h1;have H1:=zh h1.drew;have u6:=h1.drew.c 0 6;have u7:=h1.drew.c 0 7;have hsx:∀ (A2:Option Addr) (c2:Nat) wx,Own w [(x,92,aX N R q s la lg A2 n c2),(x+1,92,iV 0 0 0 false 0 0 none 0 0)] wx->lV w x wx:=fun A2 c2 wx h=>h.sub (List.sublist_cons_self _ _)
 have hS:=hsx _ _ _ h1.drew;have HX:=zh hsx;clear h1 hsx;have hS:(lV w x) (w1.drew):=hS;refine aA (lV w x) (by kernel_rfl) hS ?_;refine zB [0,3] ?_;iterate 2 (refine zv hS ?_;try simp only[zP])
 refine zE ?_;refine fA (i:=1) (j:=4) rfl rfl (by kernel_rfl) (fun K hK=>?_) (fun K hK=>?_)
 ·have HK:=zh hK
  clear hK;go_simp;go_wp2_with fail;refine HK.out.zt (lV w x) (fun _ h=>h) (hS) ?_;clear HK hS;intro hS;try simp only[zP]
  refine fA (i:=2) (j:=4) rfl rfl (by kernel_rfl) (fun K hK=>?_) (fun K hK=>?_)
  ·have HK:=zh hK
   clear hK;go_simp;refine(qC w1.drew).mono ?_;rintro e w2 ⟨rfl,hb2⟩;have o2:=H1.out.call hb2;have H2:=zh o2;clear hb2 u6 u7;go_wp2_with fail;refine HK.out.zt (lV w x) (fun _ h=>h) (HX.out _ _ _ o2) ?_;clear HK hS;intro hS;try simp only[zP]
   have u6:=o2.c 0 6;have u7:=o2.c 0 7;refine zC 4 fun K HK=>?_
   go_simp;go_wp2_with fail;refine HK.out.zt (lV w x) (fun _ h=>h) (HX.out _ _ _ o2) ?_;clear HK hS;intro hS;try simp only[zP]
   clear o2;clear u6 u7;refine zt 6 hS ?_;try simp only[zP]
   refine zC 5 fun K HK=>?_
   go_simp;refine(qD w2 B n c A ti (HD.out.1.call H2.out.av)).mono ?_;rintro e w3 ⟨A3,c3,rfl,hr3,hb3⟩;have o3:=H2.out.call hb3;have H3:=zh (zN o3 hr3);clear hb3 hr3;go_wp2_with fail;refine HK.out.zt (lV w x) (fun _ h=>h) (HX.out _ _ _ o3) ?_;clear HK hS;intro hS;try simp only[zP]
   have u6:=o3.c 0 6;have uf:=o3.free 0 rfl;clear o3;obtain⟨w4,hw4⟩:∃ w4,w4=w3.setCell ⟨x,6,none⟩ (.slice none 0 0):=⟨_,rfl⟩
   have o4:Own w [(x,92,aX N R q s la lg A n c),(x+1,92,iV 0 0 0 false 0 0 none 0 0)] w4:=by rw[hw4];exact H3.out.1.set 0 6 rfl _
   have k4:Keeps (fun q=>q=x) w3 w4:=by rw[hw4];exact (Keeps.refl (fun q=>q=x) w3).setCell (fun _=>rfl) _
   have H4:=zh (zN o4 k4);have HW4:=zh hw4;clear hw4 k4;refine zC 7 fun K HK=>?_
   go_simp;rw[<-HW4.out];go_wp2_with fail;refine HK.out.zt (lV w x) (fun _ h=>h) (HX.out _ _ _ o4) ?_;clear HK hS;intro hS;try simp only[zP]
   clear u6 uf;refine zt 8 hS ?_;try simp only[zP]
   have u6:=o4.c 0 7;have uf:=o4.free 0 rfl;clear o4;obtain⟨w5,hw5⟩:∃ w5,w5=w4.setCell ⟨x,7,none⟩ (.slice A3 n c3):=⟨_,rfl⟩
   have o5:Own w [(x,92,aX N R q s la lg A3 n c3),(x+1,92,iV 0 0 0 false 0 0 none 0 0)] w5:=by rw[hw5];exact H4.out.1.set 0 7 rfl _
   have k5:Keeps (fun q=>q=x) w3 w5:=by rw[hw5];exact H4.out.2.setCell (fun _=>rfl) _
   have H5:=zh (zN o5 k5);have HW5:=zh hw5;clear hw5;refine zC 9 fun K HK=>?_
   go_simp;rw[<-HW5.out];go_wp2_with fail;refine HK.out.zt (lV w x) (fun _ h=>h) (HX.out _ _ _ o5) ?_;clear HK hS;intro hS;try simp only[zP]
   refine zD ?_;try simp only[zP]
   clear u6 uf hS;have hgx:∀ g3,A3.map (·.block)=some g3->g3≠x/\g3≠x+1:=fun g3 hg=>by
    have h1:=H3.out.2.lt hg;have h2:=H2.out.lt _ (List.mem_cons_self);have h3:=H2.out.lt _ (List.mem_cons_of_mem _ List.mem_cons_self);simp only at h2 h3
    exact⟨J,J⟩
   have r5:=H3.out.2.keep k5 (fun g hg e=>(hgx g hg).1 e);obtain⟨w6,hw6⟩:∃ w6,w6=((((((((w5.setCell ⟨x+1,0,none⟩ (Z (N:Nat))).setCell ⟨x+1,1,none⟩ (Z (R:Nat))).setCell ⟨x+1,2,none⟩ (Z (q:Nat))).setCell ⟨x+1,3,none⟩ (.bool s)).setCell ⟨x+1,4,none⟩ (Z la)).setCell ⟨x+1,5,none⟩ (Z lg)).setCell ⟨x+1,6,none⟩ (.slice none 0 0)).setCell ⟨x+1,7,none⟩ (.slice A3 n c3)):=⟨_,rfl⟩
   have o6:Own w [(x+1,92,aX N R q s la lg A3 n c3)] w6:=by rw[hw6];exact (aU.of (o5.sub (List.sublist_cons_self _ _)) rfl).put [Z (N:Nat),Z (R:Nat),Z (q:Nat),.bool s,Z la,Z lg,.slice none 0 0,.slice A3 n c3] rfl
   have k6:Keeps (fun q=>q=x+1) w5 w6:=by rw[hw6];exact ((((((((Keeps.refl (fun q=>q=x+1) w5).setCell (fun _=>rfl) _).setCell (fun _=>rfl) _).setCell (fun _=>rfl) _).setCell (fun _=>rfl) _).setCell (fun _=>rfl) _).setCell (fun _=>rfl) _).setCell (fun _=>rfl) _).setCell (fun _=>rfl) _
   have r6:=r5.keep k6 (fun g hg e=>(hgx g hg).2 e);have H6:=zh (zN o6 r6);have HW6:=zh hw6;have z0_0:=o5.c8 0;have z1_0:=o5.c8 1;have zf:=o5.free 1 rfl;clear hgx r5 hw6 o5 o6 k5 k6 r6;go_wp2_with (rw[<-HW6.out]);clear z0_0 z1_0 zf;have h6:=H6.out.1;have z0_0:=h6.c8 0;refine bodyPost_ret (v:=.agg (aX N R q s la lg A3 n c3)) (by unfold aX;simp[results,Tryz.results64,go_sem,z0_0]) rfl ?_;exact⟨A3,c3,rfl,H6.out.2.base H2.out.size,H6.out.1.av⟩
  ·have HK:=zh hK
   clear hK;go_simp;go_wp2_with fail;refine HK.out.zt (lV w x) (fun _ h=>h) (hS) ?_;clear HK hS;intro hS;try simp only[zP]
   refine zC 2 fun K HK=>?_
   go_simp;refine(qC w1.drew).mono ?_;rintro e w2 ⟨rfl,hb2⟩;have o2:=H1.out.call hb2;have H2:=zh o2;clear hb2;go_wp2_with fail;refine HK.out.zt (lV w x) (fun _ h=>h) (HX.out _ _ _ o2) ?_;clear HK hS;intro hS;try simp only[zP]
   clear o2;clear u6 u7;refine zt 6 hS ?_;try simp only[zP]
   refine zC 5 fun K HK=>?_
   go_simp;refine(qD w2 B n c A ti (HD.out.1.call H2.out.av)).mono ?_;rintro e w3 ⟨A3,c3,rfl,hr3,hb3⟩;have o3:=H2.out.call hb3;have H3:=zh (zN o3 hr3);clear hb3 hr3;go_wp2_with fail;refine HK.out.zt (lV w x) (fun _ h=>h) (HX.out _ _ _ o3) ?_;clear HK hS;intro hS;try simp only[zP]
   have u6:=o3.c 0 6;have uf:=o3.free 0 rfl;clear o3;obtain⟨w4,hw4⟩:∃ w4,w4=w3.setCell ⟨x,6,none⟩ (.slice none 0 0):=⟨_,rfl⟩
   have o4:Own w [(x,92,aX N R q s la lg A n c),(x+1,92,iV 0 0 0 false 0 0 none 0 0)] w4:=by rw[hw4];exact H3.out.1.set 0 6 rfl _
   have k4:Keeps (fun q=>q=x) w3 w4:=by rw[hw4];exact (Keeps.refl (fun q=>q=x) w3).setCell (fun _=>rfl) _
   have H4:=zh (zN o4 k4);have HW4:=zh hw4;clear hw4 k4;refine zC 7 fun K HK=>?_
   go_simp;rw[<-HW4.out];go_wp2_with fail;refine HK.out.zt (lV w x) (fun _ h=>h) (HX.out _ _ _ o4) ?_;clear HK hS;intro hS;try simp only[zP]
   clear u6 uf;refine zt 8 hS ?_;try simp only[zP]
   have u6:=o4.c 0 7;have uf:=o4.free 0 rfl;clear o4;obtain⟨w5,hw5⟩:∃ w5,w5=w4.setCell ⟨x,7,none⟩ (.slice A3 n c3):=⟨_,rfl⟩
   have o5:Own w [(x,92,aX N R q s la lg A3 n c3),(x+1,92,iV 0 0 0 false 0 0 none 0 0)] w5:=by rw[hw5];exact H4.out.1.set 0 7 rfl _
   have k5:Keeps (fun q=>q=x) w3 w5:=by rw[hw5];exact H4.out.2.setCell (fun _=>rfl) _
   have H5:=zh (zN o5 k5);have HW5:=zh hw5;clear hw5;refine zC 9 fun K HK=>?_
   go_simp;rw[<-HW5.out];go_wp2_with fail;refine HK.out.zt (lV w x) (fun _ h=>h) (HX.out _ _ _ o5) ?_;clear HK hS;intro hS;try simp only[zP]
   refine zD ?_;try simp only[zP]
   clear u6 uf hS;have hgx:∀ g3,A3.map (·.block)=some g3->g3≠x/\g3≠x+1:=fun g3 hg=>by
    have h1:=H3.out.2.lt hg;have h2:=H2.out.lt _ (List.mem_cons_self);have h3:=H2.out.lt _ (List.mem_cons_of_mem _ List.mem_cons_self);simp only at h2 h3
    exact⟨J,J⟩
   have r5:=H3.out.2.keep k5 (fun g hg e=>(hgx g hg).1 e);obtain⟨w6,hw6⟩:∃ w6,w6=((((((((w5.setCell ⟨x+1,0,none⟩ (Z (N:Nat))).setCell ⟨x+1,1,none⟩ (Z (R:Nat))).setCell ⟨x+1,2,none⟩ (Z (q:Nat))).setCell ⟨x+1,3,none⟩ (.bool s)).setCell ⟨x+1,4,none⟩ (Z la)).setCell ⟨x+1,5,none⟩ (Z lg)).setCell ⟨x+1,6,none⟩ (.slice none 0 0)).setCell ⟨x+1,7,none⟩ (.slice A3 n c3)):=⟨_,rfl⟩
   have o6:Own w [(x+1,92,aX N R q s la lg A3 n c3)] w6:=by rw[hw6];exact (aU.of (o5.sub (List.sublist_cons_self _ _)) rfl).put [Z (N:Nat),Z (R:Nat),Z (q:Nat),.bool s,Z la,Z lg,.slice none 0 0,.slice A3 n c3] rfl
   have k6:Keeps (fun q=>q=x+1) w5 w6:=by rw[hw6];exact ((((((((Keeps.refl (fun q=>q=x+1) w5).setCell (fun _=>rfl) _).setCell (fun _=>rfl) _).setCell (fun _=>rfl) _).setCell (fun _=>rfl) _).setCell (fun _=>rfl) _).setCell (fun _=>rfl) _).setCell (fun _=>rfl) _).setCell (fun _=>rfl) _
   have r6:=r5.keep k6 (fun g hg e=>(hgx g hg).2 e);have H6:=zh (zN o6 r6);have HW6:=zh hw6;have z0_0:=o5.c8 0;have z1_0:=o5.c8 1;have zf:=o5.free 1 rfl;clear hgx r5 hw6 o5 o6 k5 k6 r6;go_wp2_with (rw[<-HW6.out]);clear z0_0 z1_0 zf;have h6:=H6.out.1;have z0_0:=h6.c8 0;refine bodyPost_ret (v:=.agg (aX N R q s la lg A3 n c3)) (by unfold aX;simp[results,Tryz.results64,go_sem,z0_0]) rfl ?_;exact⟨A3,c3,rfl,H6.out.2.base H2.out.size,H6.out.1.av⟩
 ·have HK:=zh hK
  clear hK;go_simp;go_wp2_with fail;refine HK.out.zt (lV w x) (fun _ h=>h) (hS) ?_;clear HK hS;intro hS;try simp only[zP]
  refine zC 1 fun K HK=>?_
  go_simp;go_wp2_with fail;refine HK.out.zt (lV w x) (fun _ h=>h) (hS) ?_;clear HK hS;intro hS;try simp only[zP]
  refine zC 2 fun K HK=>?_
  go_simp;refine(qC w1.drew).mono ?_;rintro e w2 ⟨rfl,hb2⟩;have o2:=H1.out.call hb2;have H2:=zh o2;clear hb2;go_wp2_with fail;refine HK.out.zt (lV w x) (fun _ h=>h) (HX.out _ _ _ o2) ?_;clear HK hS;intro hS;try simp only[zP]
  clear o2;clear u6 u7;refine zt 6 hS ?_;try simp only[zP]
  refine zC 5 fun K HK=>?_
  go_simp;refine(qD w2 B n c A ti (HD.out.1.call H2.out.av)).mono ?_;rintro e w3 ⟨A3,c3,rfl,hr3,hb3⟩;have o3:=H2.out.call hb3;have H3:=zh (zN o3 hr3);clear hb3 hr3;go_wp2_with fail;refine HK.out.zt (lV w x) (fun _ h=>h) (HX.out _ _ _ o3) ?_;clear HK hS;intro hS;try simp only[zP]
  have u6:=o3.c 0 6;have uf:=o3.free 0 rfl;clear o3;obtain⟨w4,hw4⟩:∃ w4,w4=w3.setCell ⟨x,6,none⟩ (.slice none 0 0):=⟨_,rfl⟩
  have o4:Own w [(x,92,aX N R q s la lg A n c),(x+1,92,iV 0 0 0 false 0 0 none 0 0)] w4:=by rw[hw4];exact H3.out.1.set 0 6 rfl _
  have k4:Keeps (fun q=>q=x) w3 w4:=by rw[hw4];exact (Keeps.refl (fun q=>q=x) w3).setCell (fun _=>rfl) _
  have H4:=zh (zN o4 k4);have HW4:=zh hw4;clear hw4 k4;refine zC 7 fun K HK=>?_
  go_simp;rw[<-HW4.out];go_wp2_with fail;refine HK.out.zt (lV w x) (fun _ h=>h) (HX.out _ _ _ o4) ?_;clear HK hS;intro hS;try simp only[zP]
  clear u6 uf;refine zt 8 hS ?_;try simp only[zP]
  have u6:=o4.c 0 7;have uf:=o4.free 0 rfl;clear o4;obtain⟨w5,hw5⟩:∃ w5,w5=w4.setCell ⟨x,7,none⟩ (.slice A3 n c3):=⟨_,rfl⟩
  have o5:Own w [(x,92,aX N R q s la lg A3 n c3),(x+1,92,iV 0 0 0 false 0 0 none 0 0)] w5:=by rw[hw5];exact H4.out.1.set 0 7 rfl _
  have k5:Keeps (fun q=>q=x) w3 w5:=by rw[hw5];exact H4.out.2.setCell (fun _=>rfl) _
  have H5:=zh (zN o5 k5);have HW5:=zh hw5;clear hw5;refine zC 9 fun K HK=>?_
  go_simp;rw[<-HW5.out];go_wp2_with fail;refine HK.out.zt (lV w x) (fun _ h=>h) (HX.out _ _ _ o5) ?_;clear HK hS;intro hS;try simp only[zP]
  refine zD ?_;try simp only[zP]
  clear u6 uf hS;have hgx:∀ g3,A3.map (·.block)=some g3->g3≠x/\g3≠x+1:=fun g3 hg=>by
   have h1:=H3.out.2.lt hg;have h2:=H2.out.lt _ (List.mem_cons_self);have h3:=H2.out.lt _ (List.mem_cons_of_mem _ List.mem_cons_self);simp only at h2 h3
   exact⟨J,J⟩
  have r5:=H3.out.2.keep k5 (fun g hg e=>(hgx g hg).1 e);obtain⟨w6,hw6⟩:∃ w6,w6=((((((((w5.setCell ⟨x+1,0,none⟩ (Z (N:Nat))).setCell ⟨x+1,1,none⟩ (Z (R:Nat))).setCell ⟨x+1,2,none⟩ (Z (q:Nat))).setCell ⟨x+1,3,none⟩ (.bool s)).setCell ⟨x+1,4,none⟩ (Z la)).setCell ⟨x+1,5,none⟩ (Z lg)).setCell ⟨x+1,6,none⟩ (.slice none 0 0)).setCell ⟨x+1,7,none⟩ (.slice A3 n c3)):=⟨_,rfl⟩
  have o6:Own w [(x+1,92,aX N R q s la lg A3 n c3)] w6:=by rw[hw6];exact (aU.of (o5.sub (List.sublist_cons_self _ _)) rfl).put [Z (N:Nat),Z (R:Nat),Z (q:Nat),.bool s,Z la,Z lg,.slice none 0 0,.slice A3 n c3] rfl
  have k6:Keeps (fun q=>q=x+1) w5 w6:=by rw[hw6];exact ((((((((Keeps.refl (fun q=>q=x+1) w5).setCell (fun _=>rfl) _).setCell (fun _=>rfl) _).setCell (fun _=>rfl) _).setCell (fun _=>rfl) _).setCell (fun _=>rfl) _).setCell (fun _=>rfl) _).setCell (fun _=>rfl) _).setCell (fun _=>rfl) _
  have r6:=r5.keep k6 (fun g hg e=>(hgx g hg).2 e);have H6:=zh (zN o6 r6);have HW6:=zh hw6;have z0_0:=o5.c8 0;have z1_0:=o5.c8 1;have zf:=o5.free 1 rfl;clear hgx r5 hw6 o5 o6 k5 k6 r6;go_wp2_with (rw[<-HW6.out]);clear z0_0 z1_0 zf;have h6:=H6.out.1;have z0_0:=h6.c8 0;refine bodyPost_ret (v:=.agg (aX N R q s la lg A3 n c3)) (by unfold aX;simp[results,Tryz.results64,go_sem,z0_0]) rfl ?_;exact⟨A3,c3,rfl,H6.out.2.base H2.out.size,H6.out.1.av⟩
def qM(d N R q:Nat)(s:Bool)(la lg:Int)(A:Option Addr)(n c:Nat): Array Value:=#[.pointer (some ⟨d,0,none⟩),Z (N:Nat),Z (R:Nat),Z (q:Nat),.bool s,Z la,Z lg,.slice none 0 0,.slice A n c]
structure iN(w:World)(st d N R q:Nat)(s:Bool)(la lg:Int)(A:Option Addr)(n c:Nat)(ti:List Value): Prop where
 blk:ay w st 128 (qM d N R q s la lg A n c)
 row:bN w 0 A n c ti
theorem iN.keep{S:Nat->Prop}{w w':World}{st d N R q:Nat}{s:Bool}{la lg:Int}{A:Option Addr}{n c:Nat}{ti:List Value}(h:iN w st d N R q s la lg A n c ti)(hk:Keeps S w w')(hS:∀ q,jq st A q->¬ S q): iN w' st d N R q s la lg A n c ti:=
 ⟨h.blk.keeps hk (hS _ (.inl rfl)),h.row.keep hk (fun g hg=>hS g (.inr hg))⟩
theorem iN.call{w w':World}{st d N R q:Nat}{s:Bool}{la lg:Int}{A:Option Addr}{n c:Nat}{ti:List Value}(h:iN w st d N R q s la lg A n c ti)(hb:Below w.heap.size w w'): iN w' st d N R q s la lg A n c ti:=
 h.keep (S:=fun _=>False) (Keeps.of_below hb) (fun _ _ h=>h)
theorem rU(w:World)(st d N R q:Nat)(s:Bool)(la lg:Int)(A:Option Addr)(n c:Nat)(ti:List Value)(h:iN w st d N R q s la lg A n c ti):
  Calls Tryz.prog 25 #[.pointer (some ⟨st,0,none⟩)] w (qR w N R q s la lg n ti):=by
 obtain⟨x,hx⟩:∃ x,x=w.heap.size:=⟨_,rfl⟩
 have o0:=Own.bn w hx 92 (iV 0 0 0 false 0 0 none 0 0);have HD:=zh (zN h o0);clear h o0
 go_enter Tryz.func25,Tryz.ntmps25
 go_wp2_with fail;rw[<-hx];clear hx;refine bQ (Own w [(x,92,iV 0 0 0 false 0 0 none 0 0)]) HD.out.2 ?_;intro w1 h1;refine(jU w1 st d ((HD.out.1.call h1.av).blk.cell 0)).mono ?_;rintro e w2 ⟨rfl,hb2⟩;have h2:=h1.call hb2;have s2:=HD.out.1.call h2.av;have H2:=zh (zN h2 s2);have z0_0:w2.cell? ⟨st,1,none⟩=some (Z (N:Nat)):=s2.blk.cell 1;have z0_1:w2.cell? ⟨st,2,none⟩=some (Z (R:Nat)):=s2.blk.cell 2;have z0_2:w2.cell? ⟨st,3,none⟩=some (Z (q:Nat)):=s2.blk.cell 3;have z0_3:w2.cell? ⟨st,4,none⟩=some (.bool s):=s2.blk.cell 4;have z0_4:w2.cell? ⟨st,5,none⟩=some (Z la):=s2.blk.cell 5;have z0_5:w2.cell? ⟨st,6,none⟩=some (Z lg):=s2.blk.cell 6;have z0_6:w2.cell? ⟨st,7,none⟩=some (.slice none 0 0):=s2.blk.cell 7;have z0_7:w2.cell? ⟨st,8,none⟩=some (.slice A n c):=s2.blk.cell 8;clear h1 h2 s2 hb2;go_wp2_with fail;clear z0_0 z0_1 z0_2 z0_3 z0_4 z0_5 z0_6 z0_7;have hc:=uW w2 0 N R q s la lg A n c ti H2.out.2.row;unfold aX at hc
 refine hc.mono ?_;clear hc;rintro e w3 ⟨A3,c3,rfl,hr3,hb3⟩;unfold aX;have h3:=H2.out.1.call hb3;obtain⟨w4,hw4⟩:∃ w4,w4=((((((((w3.setCell ⟨x,0,none⟩ (Z (N:Nat))).setCell ⟨x,1,none⟩ (Z (R:Nat))).setCell ⟨x,2,none⟩ (Z (q:Nat))).setCell ⟨x,3,none⟩ (.bool s)).setCell ⟨x,4,none⟩ (Z la)).setCell ⟨x,5,none⟩ (Z lg)).setCell ⟨x,6,none⟩ (.slice none 0 0)).setCell ⟨x,7,none⟩ (.slice A3 n c3)):=⟨_,rfl⟩
 have o4:Own w [(x,92,aX N R q s la lg A3 n c3)] w4:=by rw[hw4];exact (aU.of h3 rfl).put [Z (N:Nat),Z (R:Nat),Z (q:Nat),.bool s,Z la,Z lg,.slice none 0 0,.slice A3 n c3] rfl
 have k4:Keeps (fun q=>q=x) w3 w4:=by rw[hw4];exact ((((((((Keeps.refl (fun q=>q=x) w3).setCell (fun _=>rfl) _).setCell (fun _=>rfl) _).setCell (fun _=>rfl) _).setCell (fun _=>rfl) _).setCell (fun _=>rfl) _).setCell (fun _=>rfl) _).setCell (fun _=>rfl) _).setCell (fun _=>rfl) _
 have r4:=hr3.keep k4 (fun g hg e=>by
  have h1:=hr3.lt hg;have h2:=H2.out.1.lt _ (List.mem_cons_self);simp only at h2
  omega)
 have H4:=zh (zN o4 (r4.base H2.out.1.size));have HW4:=zh hw4;obtain⟨z0_0,z0_1,z0_2,z0_3,z0_4,z0_5,z0_6,z0_7⟩:=h3.c8 0;have zf0:=h3.free 0 rfl;clear hr3 hb3 h3 hw4 o4 k4 r4;go_wp2_with (rw[<-HW4.out]);clear z0_0 z0_1 z0_2 z0_3 z0_4 z0_5 z0_6 z0_7 zf0;have h6:=H4.out.1;obtain⟨z0_0,z0_1,z0_2,z0_3,z0_4,z0_5,z0_6,z0_7⟩:=h6.c8 0;refine bodyPost_ret (v:=.agg (aX N R q s la lg A3 n c3)) (by unfold aX;simp[results,Tryz.results25,go_sem,z0_0,z0_1,z0_2,z0_3,z0_4,z0_5,z0_6,z0_7]) rfl ?_;exact⟨A3,c3,rfl,H4.out.2,H4.out.1.av⟩
theorem pO{w:World}{st d N R q:Nat}{s:Bool}{la lg:Int}{A:Option Addr}{n c:Nat}{ti:List Value}(h:iN w st d N R q s la lg A n c ti){r:Nat}(hr:jq st A r): cls (jD w r)=2:=by
 rcases hr with rfl | hr
 ·rw[bZ h.blk];rfl
 ·rw[fG h.row.row (by rw[jo];exact hr)];rfl
structure bM where
 st: Nat
 d:Nat
 M:Nat
 l:Nat
 t:Nat
 Mt:Nat
 p:ByteArray->Option FS
 T:Nat
 G:Nat
 N:Nat
 An:Option Addr
 nt:Nat
 cn:Nat
 ti:List Value
 rb:Option (List Nat)
 Al:Option Addr
 cl:Nat
 fs:Nat->Nat
 kl:Nat
 sz:Nat
 nx:Nat
 At:Option Addr
 ct:Nat
 L:List Pt
 n:Nat
 U:Nat
 s:Bool
 la:Int
 q:Nat
def dV(x:bM)(lg:Int): Array Value:=#[Z (-1),.pointer (some ⟨x.st,0,none⟩),.pointer (some ⟨x.l,0,none⟩),.pointer (some ⟨x.t,0,none⟩),.bool x.s,Z x.la,Z lg,Z (x.q:Nat),.bool false]
def KE(x:bM)(e:Nat)(r:Nat): Prop:=aM x.d x.M x.p r\/jq x.st x.An r\/eF x.l x.Al r\/dX x.t x.Mt x.At r\/r=e
structure lJ(f:ByteArray->Option (List Nat))(rb:Option (List Nat)): Prop where
 nam:∀ t,f t≠none->(∃ j,t=aW 119 j)\/t=oQ\/(t=aW 114 0/\rb≠none)
 rf:∀ bs,rb=some bs->f (aW 114 0)=some bs
structure bG(B:Nat)(w0 w:World)(e:Nat)(lg:Int)(room limit most:Nat)(x:bM): Prop where
 blk:ay w e 81 (dV x lg)
 dt:bD w x.d x.M x.p room x.T x.G
 sto:iN w x.st x.d x.N 0 0 false 0 lg x.An x.nt x.cn x.ti
 log:bS w x.l x.d limit x.Al x.cl x.fs x.kl x.sz x.nx false
 tab:fE w x.t x.Mt x.At x.ct x.L x.n most x.U
 mne:x.M≠x.Mt
 lo:∀ r,KE x e r->B<=r
 av:Below B w0 w
 hB:B<=w0.heap.size
 nam:lJ (fb x.p) x.rb
 inc:Inc x.L
 mark:V.dx x.s x.la lg=true
 fsl:∀ j,j < x.kl->x.fs j < 1000000
 nm:x.n<=most
 he:V.dh w0/\0 < B
theorem bG.herr{B:Nat}{w0 w:World}{e:Nat}{lg:Int}{room limit most:Nat}{x:bM}(h:bG B w0 w e lg room limit most x): V.dh w:=(World.cell?_of_block (w:=w0) (h.av.block _ h.he.2)).trans h.he.1
theorem bG.size{B:Nat}{w0 w:World}{e:Nat}{lg:Int}{room limit most:Nat}{x:bM}(h:bG B w0 w e lg room limit most x): B<=w.heap.size:=Nat.le_trans h.hB h.av.size
theorem bG.call{B:Nat}{w0 w w':World}{e:Nat}{lg:Int}{room limit most:Nat}{x:bM}(h:bG B w0 w e lg room limit most x)(hb:Below w.heap.size w w'): bG B w0 w' e lg room limit most x:=
 { h with blk:=h.blk.below hb h.blk.lt,dt:=h.dt.call hb,sto:=h.sto.call hb,log:=h.log.call hb,tab:=h.tab.call hb,av:=h.av.trans (hb.mono h.size) }
section
variable {B:Nat} {w0 w:World} {e:Nat} {lg:Int} {room limit most:Nat} {x:bM}
theorem bG.tN(h:bG B w0 w e lg room limit most x): cls (jD w e)=5:=by rw[bZ h.blk];rfl
theorem bG.ds(h:bG B w0 w e lg room limit most x)(r:Nat)(h1:aM x.d x.M x.p r)(h2:jq x.st x.An r): False:=by
 have a:=jE h.dt h1;have b:=pO h.sto h2;omega
theorem bG.dl(h:bG B w0 w e lg room limit most x)(r:Nat)(h1:aM x.d x.M x.p r)(h2:eF x.l x.Al r): False:=by
 have a:=jE h.dt h1;have b:=jF h.log h2;omega
theorem bG.Hg(h:bG B w0 w e lg room limit most x)(r:Nat)(h1:aM x.d x.M x.p r)(h2:dX x.t x.Mt x.At r): False:=by
 have a:=jE h.dt h1;have b:=gM h.tab h2;have c:=h.mne;omega
theorem bG.de(h:bG B w0 w e lg room limit most x)(r:Nat)(h1:aM x.d x.M x.p r)(h2:r=e): False:=by
 have a:=jE h.dt h1;have b:=h.tN;rw[h2] at a;omega
theorem bG.sl(h:bG B w0 w e lg room limit most x)(r:Nat)(h1:jq x.st x.An r)(h2:eF x.l x.Al r): False:=by
 have a:=pO h.sto h1;have b:=jF h.log h2;omega
theorem bG.Qk(h:bG B w0 w e lg room limit most x)(r:Nat)(h1:jq x.st x.An r)(h2:dX x.t x.Mt x.At r): False:=by
 have a:=pO h.sto h1;have b:=gM h.tab h2;omega
theorem bG.se(h:bG B w0 w e lg room limit most x)(r:Nat)(h1:jq x.st x.An r)(h2:r=e): False:=by
 have a:=pO h.sto h1;have b:=h.tN;rw[h2] at a;omega
theorem bG.lt(h:bG B w0 w e lg room limit most x)(r:Nat)(h1:eF x.l x.Al r)(h2:dX x.t x.Mt x.At r): False:=by
 have a:=jF h.log h1;have b:=gM h.tab h2;omega
theorem bG.le(h:bG B w0 w e lg room limit most x)(r:Nat)(h1:eF x.l x.Al r)(h2:r=e): False:=by
 have a:=jF h.log h1;have b:=h.tN;rw[h2] at a;omega
theorem bG.te(h:bG B w0 w e lg room limit most x)(r:Nat)(h1:dX x.t x.Mt x.At r)(h2:r=e): False:=by
 have a:=gM h.tab h1;have b:=h.tN;rw[h2] at a;omega
end
theorem bG.none{B:Nat}{w0 w:World}{e:Nat}{lg:Int}{room limit most:Nat}{x:bM}(h:bG B w0 w e lg room limit most x): Calls Tryz.prog 31 #[.pointer (some ⟨e,0,none⟩)] w fun u w'=>u=.returned (.bool false)/\Below w.heap.size w w':=yY w e x.t (h.blk.cell 3)
theorem xq{B:Nat}{w0 w:World}{e:Nat}{lg:Int}{room limit most:Nat}{x:bM}(h:bG B w0 w e lg room limit most x): Calls Tryz.prog 19 #[.pointer (some ⟨e,0,none⟩)] w fun u w'=>u=.returned (.tuple #[Z (V.kX x.s x.la lg),.bool (V.oO x.s x.la lg)])/\Below w.heap.size w w':=by
 have HD:=zh h;clear h
 go_enter Tryz.func19,Tryz.ntmps19
 go_wp2_with fail;refine HD.out.none.mono ?_;rintro u w1 ⟨rfl,hb1⟩;have h1:=HD.out.call hb1;have z4:w1.cell? ⟨e,4,none⟩=some (.bool x.s):=h1.blk.cell 4;have z5:w1.cell? ⟨e,5,none⟩=some (Z x.la):=h1.blk.cell 5;have z6:w1.cell? ⟨e,6,none⟩=some (Z lg):=h1.blk.cell 6;have H1:=zh (zN h1 hb1);clear h1 hb1;go_wp2_with fail;refine(V.DF x.s x.la lg w1).mono ?_;rintro u w2 ⟨rfl,hb2⟩;have H2:=zh (V.aB H1.out.2 hb2);clear hb2;go_wp2_with fail;go_ret2;exact⟨rfl,H2.out⟩
theorem kC{B:Nat}{w0 w:World}{e:Nat}{lg:Int}{room limit most:Nat}{x:bM}(h:bG B w0 w e lg room limit most x): Calls Tryz.prog 41 #[.pointer (some ⟨e,0,none⟩)] w fun u w'=>u=.returned (Z (-1152921504606846976))/\Below w.heap.size w w':=by
 have HD:=zh h;have nt:∀ w:World,(Op.unary .not (.bool true)).run Tryz.prog w=.ok (.bool false) w:=bJ
 have nf:∀ w:World,(Op.unary .not (.bool false)).run Tryz.prog w=.ok (.bool true) w:=eP
 clear h
 go_enter Tryz.func41,Tryz.ntmps41
 go_wp2_with fail;refine(xq HD.out).mono ?_;rintro u w1 ⟨rfl,hb1⟩;obtain⟨a,ha⟩:∃ a,a=V.kX x.s x.la lg:=⟨_,rfl⟩
 obtain⟨b,hb⟩:∃ b,b=V.oO x.s x.la lg:=⟨_,rfl⟩
 rw[<-ha,<-hb];clear ha hb;have H1:=zh (zN (HD.out.call hb1) hb1);clear hb1;go_wp2_with fail;refine H1.out.1.none.mono ?_;rintro u w2 ⟨rfl,hb2⟩;have h2:=H1.out.1.call hb2;have z0:w2.cell? ⟨e,0,none⟩=some (Z (-1)):=h2.blk.cell 0;have H2:=zh (V.aB H1.out.2 hb2);clear hb2 h2
 cases b with
 | false=>
  go_wp2_with fail;go_ret;exact⟨rfl,H2.out⟩
 | true=>
  go_wp2_with fail;go_ret;exact⟨rfl,H2.out⟩
section
variable {w:World} {e:Nat} {lg:Int} {x:qc}
end
theorem Bd{w:World}{base:Nat}{A:Option Addr}{c:Nat}{tm:Int}(h:w.ownsRow base 3 1 (.slice A 1 c) 1 [Z tm]): Sl w (fun k=>k < w.heap.size) A 1 (fun _=>Z tm):=by
 refine(Sl.E9 h ?_).mono (fun k hk=>(h.lt k hk).2);intro q u hu
 cases q with
 | zero=>simp at hu;exact hu.symm
 | succ q=>simp at hu
theorem Cc{s:Bool}{la lg tm:Int}(h:s=true->V.kX s la lg<=tm): V.pJ (V.oO s la lg) (V.kX s la lg) (fun _=>tm) 1 0 = -1:=by
 unfold V.pJ V.pJ;rw[if_neg];intro hc;rw[Bool.and_eq_true,decide_eq_true_eq] at hc
 have hs:s=true:=by
  have:=hc.1;unfold V.oO at this
  rw[Bool.and_eq_true] at this
  exact this.2
 have:=h hs;omega
theorem O5{s:Bool}{la lg tm:Int}(hr:V.dx s la lg=true)(ht:aP tm)(hf:s=true->la<=tm): V.kF (V.dx s la lg) (fun _=>tm) 1=true/\(V.iL s la (fun _=>tm) 1)=(true,tm):=by
 unfold aP at ht
 refine⟨?_,?_⟩
 ·unfold V.kF V.kF V.fu
  rw[hr];simp;omega
 ·unfold V.iL V.iL
  by_cases h:((!s) || decide (la < tm))=true
  ·simp only[h,if_true]
  ·rw[if_neg h]
   simp at h
   have:=hf h.1;rw[h.1]
   congr 1
   omega
section
variable {w:World} {e:Nat} {lg:Int} {x:bM}
theorem tO(h:ay w e 81 (dV x lg)): w.cell? ⟨e,1,none⟩=some (.pointer (some ⟨x.st,0,none⟩)):=h.cell 1
theorem Qb(h:ay w e 81 (dV x lg)): w.cell? ⟨e,2,none⟩=some (.pointer (some ⟨x.l,0,none⟩)):=h.cell 2
theorem Da(h:ay w e 81 (dV x lg)): w.cell? ⟨e,3,none⟩=some (.pointer (some ⟨x.t,0,none⟩)):=h.cell 3
theorem yP(h:ay w e 81 (dV x lg)): w.cell? ⟨e,4,none⟩=some (.bool x.s):=h.cell 4
theorem yQ(h:ay w e 81 (dV x lg)): w.cell? ⟨e,5,none⟩=some (Z x.la):=h.cell 5
theorem yR(h:ay w e 81 (dV x lg)): w.cell? ⟨e,6,none⟩=some (Z lg):=h.cell 6
theorem Qc(h:ay w e 81 (dV x lg)): w.cell? ⟨e,7,none⟩=some (Z (x.q:Nat)):=h.cell 7
theorem Qd(h:ay w e 81 (dV x lg)): w.cell? ⟨e,8,none⟩=some (.bool false):=h.cell 8
end
theorem Gx{B:Nat}{w0 w:World}{e:Nat}{lg:Int}{room limit most:Nat}{x:bM}(h:bG B w0 w e lg room limit most x)(D:Nat->Prop)(Ab:Option Addr)(cb:Nat)(tm v:Int)(hO:jW w D Ab tm v)(htm:aP tm)(hlt:∀ j,j < x.n->(x.L.getD j ⟨0,0,0⟩).t < tm)(hlate:x.s=true->V.kX x.s x.la lg<=tm)(hm:most<=1000)(r:Int)(hr:(x.n < most/\r=0)\/(most<=x.n/\r=22)):
  Calls Tryz.prog 29 #[.pointer (some ⟨e,0,none⟩),.slice Ab 1 cb] w fun u w'=>u=.returned (Z r)/\Below w.heap.size w w':=by
 have HD:=zh (zN h (zN hO (zN htm hlt)));have hll:=Cc hlate;have nt:∀ w:World,(Op.unary .not (.bool true)).run Tryz.prog w=.ok (.bool false) w:=bJ
 have nf:∀ w:World,(Op.unary .not (.bool false)).run Tryz.prog w=.ok (.bool true) w:=eP
 clear h hO hlt hlate
 go_enter Tryz.func29,Tryz.ntmps29
 go_wp2_with fail;refine(CK w D Ab cb tm v HD.out.2.1 HD.out.2.2.1).mono ?_;rintro u w1 ⟨rfl,hb1⟩;have H1:=zh hb1;clear hb1;go_wp2_with fail;have hS:Below w.heap.size w w1.drew:=V.aB H1.out (Below.refl _ _).drew;have hS:(fun wx=>Below w.heap.size w wx) (w1.drew):=hS;refine aA (fun wx=>Below w.heap.size w wx) (by kernel_rfl) hS ?_;refine zB [0,1,2,3,4] ?_;iterate 5 (refine zV ?_ ?_ hS ?_;rotate_left;(intro w' hSw;have hQ:=(HD.out.1.call hSw).blk;have z4:=yP hQ;have z5:=yQ hQ;have z6:=yR hQ;clear hQ;go_simp<;>with_reducible rfl);try simp only[zP])
 refine zE ?_;refine zC 5 fun K HK=>?_
 go_simp;refine(rR w1.drew D Ab cb tm v (HD.out.2.1.call hS)).mono ?_;rintro u w2 ⟨A2,c2,rfl,hr2,hb2⟩;have hb12:Below w.heap.size w w2:=V.aB hS hb2;have H2:=zh (zN hr2 hb12);clear hr2 hb2 hb12;go_wp2_with fail;refine HK.out.zt (fun wx=>Below w.heap.size w wx) (fun _ h=>h) (H2.out.2) ?_;clear HK hS;intro hS;try simp only[zP]
 have c6:=V.OI x.s x.la lg w2 A2 1 c2 (fun _=>tm) (Bd H2.out.1) J;rw[hll] at c6
 refine zC 6 fun K HK=>?_
 go_simp;refine(c6).mono ?_;rintro u w3 ⟨rfl,hb3⟩;have hb13:Below w.heap.size w w3:=V.aB H2.out.2 hb3;clear c6 hb3;go_wp2_with fail;refine HK.out.zt (fun wx=>Below w.heap.size w wx) (fun _ h=>h) (hb13) ?_;clear HK hS;intro hS;try simp only[zP]
 refine zB [7,8] ?_;iterate 2 (refine zv hS ?_;try simp only[zP])
 refine zE ?_;refine zD ?_;try simp only[zP]
 have H3:=zh hS;have z3:=Da (HD.out.1.call hS).blk;clear hS hb13;go_wp2_with fail;refine(Jv w3 x.t x.Mt x.At x.ct x.L x.n most x.U Ab cb tm v D (HD.out.1.call H3.out).tab (HD.out.2.1.call H3.out) HD.out.1.nm hm (by have:=HD.out.2.2.1;unfold aP at this;unfold bI;omega) HD.out.2.2.2).mono ?_;rintro u w4 ⟨rfl,hb4⟩;have H4:=zh (V.aB H3.out hb4);clear hb4;rcases hr with ⟨hf,rfl⟩ | ⟨hf,rfl⟩
 ·rw[decide_eq_true hf]
  clear hf;go_wp2_with fail;go_ret;exact⟨rfl,H4.out⟩
 ·rw[decide_eq_false (Nat.not_lt.mpr hf)]
  clear hf;go_wp2_with fail;go_ret;exact⟨rfl,H4.out⟩
def KQ(x:bM)(w:World)(e:Nat)(lg:Int)(most:Nat)(tm v:Int)(u:Ending)(w':World): Prop:=
 u=.returned (.tuple #[])/\∃ A' cp',fE w' x.t x.Mt A' cp' (x.L ++ [⟨tm,v,(x.q:Nat)⟩]) (x.n+1) most (x.U+1)/\ay w' e 81 (dV { x with s:=true,la:=tm,q:=x.q+1 } lg)/\Keeps (fun r=>dX x.t x.Mt x.At r\/r=e) w w'/\(∀ r,r < w.heap.size->dX x.t x.Mt A' r->dX x.t x.Mt x.At r)
theorem J4{B:Nat}{w0 w:World}{e:Nat}{lg:Int}{room limit most:Nat}{x:bM}(h:bG B w0 w e lg room limit most x)(D:Nat->Prop)(Ab:Option Addr)(cb:Nat)(tm v:Int)(hO:jW w D Ab tm v)(hD:∀ r,D r->¬ (dX x.t x.Mt x.At r\/r=e))(htm:aP tm)(hlt:∀ j,j < x.n->(x.L.getD j ⟨0,0,0⟩).t < tm)(hri:IQ x.L)(hfw:x.s=true->x.la<=tm)(hnm:x.n < most)(hm:most<=1000)(hU:x.U < 1000000)(hq:x.q < 1000000):
  Calls Tryz.prog 30 #[.pointer (some ⟨e,0,none⟩),.slice Ab 1 cb] w (KQ x w e lg most tm v):=by
 obtain⟨b,off,rfl,hc⟩:=hO.cells;have HD:=zh (zN h (zN hO (zN hD (zN hlt hri))));have hnt:=O5 h.mark htm hfw;have HC:=zh hc;clear h hO hD hlt hri hfw hc
 go_enter Tryz.func30,Tryz.ntmps30
 go_wp2_with fail
 go_loopw [8] (fun i wr=>(i=.int .i64 0/\Below w.heap.size w wr)\/(i=.int .i64 1/\∃ A' cp',fE wr x.t x.Mt A' cp' (x.L ++ [⟨tm,v,(x.q:Nat)⟩]) (x.n+1) most (x.U+1)/\Stp w wr (dX x.t x.Mt x.At) (dX x.t x.Mt A'))) (fun i _=>1-(intOf i).toNat)
 case atStart=>exact .inl ⟨rfl,Below.refl _ _⟩
 case round=>
  rcases hrel with ⟨rfl,hb⟩ | ⟨rfl,A',cp',hT,hst⟩
  ·obtain ⟨u0,u1,u2⟩:=HC.out wr hb
   have HB:=zh hb;clear hb;go_upto_region 3 with (fail)
   obtain⟨y,hy⟩:∃ y,y=wr.heap.size:=⟨_,rfl⟩
   rw[<-hy];refine aC (Own w [(y,35,#[.string aY,.int .i64 tm,.int .i64 v])]) (((Own.start w).call HB.out).alloc hy _ _) ?_;intro w2 h2;have hq2:=HD.out.1.call h2.av;have hS:ay w2.drew e 81 (dV x lg)/\ay w2.drew y 35 #[.string aY,.int .i64 tm,.int .i64 v]:=⟨(HD.out.1.call h2.drew.av).blk,h2.drew.get 0 rfl⟩
   have H2:=zh (zN hS h2.drew.av);clear h2 hq2 hy u0 u1 u2;have hS:(fun wx=>ay wx e 81 (dV x lg)/\ay wx y 35 #[.string aY,.int .i64 tm,.int .i64 v]) (w2.drew):=hS;refine aA (fun wx=>ay wx e 81 (dV x lg)/\ay wx y 35 #[.string aY,.int .i64 tm,.int .i64 v]) (by kernel_rfl) hS ?_;refine zB [0,1,2,3,4,5,6,7,8,9,10,11,12,13,14] ?_;iterate 15 (refine zV ?_ ?_ hS ?_;rotate_left;(intro w' hSw;have z3:=Da hSw.1;have z7:=Qc hSw.1;have u0:=hSw.2.cell 0;have u1:=hSw.2.cell 1;have u2:=hSw.2.cell 2;go_simp<;>with_reducible rfl);try simp only[zP])
   refine zE ?_;have cc:=L6 w2.drew x.t x.Mt x.At x.ct x.L x.n most x.U ⟨tm,v,(x.q:Nat)⟩ (HD.out.1.call H2.out.2).tab HD.out.2.2.2.1 HD.out.2.2.2.2 hnm hm hU;refine zC 15 fun K HK=>?_
   go_simp;refine(cc).mono ?_;rintro u w3 ⟨rfl,A3,cp3,hT3,hst3⟩;have hk3:ay w3 e 81 (dV x lg)/\ay w3 y 35 #[.string aY,.int .i64 tm,.int .i64 v]:=by
    have hE2:=HD.out.1.call H2.out.2;refine⟨H2.out.1.1.keeps hst3.keep (fun hf=>hE2.te _ hf rfl),H2.out.1.2.keeps hst3.keep (fun hf=>?_)⟩;have a:=gM hE2.tab hf;rw[bZ H2.out.1.2] at a
    rcases a with a | a
    ·exact absurd a (by decide)
    ·exact absurd a.2 (by decide)
   have H3:=zh (zN hT3 ((Stp.of_below (dX x.t x.Mt x.At) H2.out.2).trans hst3));clear hT3 hst3 cc;go_wp2_with fail;refine HK.out.zt (fun wx=>ay wx e 81 (dV x lg)/\ay wx y 35 #[.string aY,.int .i64 tm,.int .i64 v]) (fun _ h=>h) (hk3) ?_;clear HK hS;intro hS;try simp only[zP]
   refine zD ?_;try simp only[zP]
   clear hk3 hS;go_wp2_with fail
   go_roundw
   case rel=>exact .inr ⟨rfl,A3,cp3,H3.out.1,H3.out.2⟩
   case measure=>simp[intOf]
  ·have hE:=HD.out.1
   have hb1:ay wr e 81 (dV x lg):=hE.blk.keeps hst.keep (fun hf=>hE.te _ hf rfl);have z7:=Qc hb1;have zf:=hb1.frozen;have H1:=zh (zN hT (zN hst hb1));clear hT hst hb1 hE;go_upto_region 6 with (fail)
   obtain⟨w2,hw2⟩:∃ wz,wz=wr.setCell ⟨e,7,none⟩ (.int .i64 ((x.q:Int)+1)):=⟨_,rfl⟩
   rw[<-hw2];have hb2:=H1.out.2.2.set 7 (.int .i64 ((x.q:Int)+1));rw[<-hw2] at hb2
   have hk2:Keeps (fun r=>r=e) wr w2:=by rw[hw2];exact (Keeps.refl (fun r=>r=e) wr).setCell (fun _=>rfl) _
   have hb2':ay w2 e 81 (dV { x with q:=x.q+1 } lg):=hb2;have hS:Keeps (fun r=>r=e) w2 w2.drew:=(Keeps.refl _ w2).drew;have hb3:ay w2.drew e 81 (dV { x with q:=x.q+1 } lg):=hb2'.below (Below.refl _ _).drew hb2'.lt;have hO3:jW w2.drew D (some ⟨b,off,none⟩) tm v:=by
    refine HD.out.2.1.keep (S:=fun r=>dX x.t x.Mt x.At r\/r=e) ?_ (fun q hq=>HD.out.2.2.1 q hq);exact((H1.out.2.1.keep.mono (fun q _ h=>.inl h)).trans' (hk2.mono (fun q _ h=>.inr h))).trans' (hS.mono (fun q _ h=>.inr h))
   have z4:=yP hb3;have z5:=yQ hb3;have z6:=yR hb3;have HW:=zh (zN hk2 (zN hb3 hO3));clear hb2 hb2' hb3 hO3 hk2 z7 zf hw2;have hS:(fun wx=>Keeps (fun r=>r=e) w2 wx) (w2.drew):=hS;refine aA (fun wx=>Keeps (fun r=>r=e) w2 wx) (by kernel_rfl) hS ?_;refine zB [0,1,2,3,5] ?_;iterate 5 (refine zv hS ?_;try simp only[zP])
   refine zE ?_;refine fA (i:=4) (j:=6) rfl rfl (by kernel_rfl) (fun K hK=>?_) (fun K hK=>?_)
   ·skip
    have HK:=zh hK;clear hK;go_simp;go_wp2_with fail;refine HK.out.zt (fun wx=>Keeps (fun r=>r=e) w2 wx) (fun _ h=>h) (hS) ?_;clear HK hS;intro hS;try simp only[zP]
    refine zC 6 fun K HK=>?_
    go_simp;refine(rR w2.drew D (some ⟨b,off,none⟩) cb tm v HW.out.2.2).mono ?_;rintro u w3 ⟨A3,c3,rfl,hr3,hb3⟩;have H3:=zh (zN hr3 hb3);have hk3:Keeps (fun r=>r=e) w2 w3:=hS.trans' (Keeps.of_below hb3);clear hr3 hb3;go_wp2_with fail;refine HK.out.zt (fun wx=>Keeps (fun r=>r=e) w2 wx) (fun _ h=>h) (hk3) ?_;clear HK hS;intro hS;try simp only[zP]
    have c7:=V.EZ x.s x.la lg w3 A3 1 c3 (fun _=>tm) (Bd H3.out.1) J;refine zC 7 fun K HK=>?_
    go_simp;refine(c7).mono ?_;rintro u w4 ⟨hu4,hb4⟩;rw[if_pos hnt.1,hnt.2] at hu4
    subst hu4;have hb34:=V.aB H3.out.2 hb4;have hk4:Keeps (fun r=>r=e) w2 w4:=hS.trans' (Keeps.of_below hb4);have hb4e:=HW.out.2.1.below hb34 HW.out.2.1.lt;have zf:=hb4e.frozen;have x4:=yP hb4e;have x5:=yQ hb4e;have x6:=yR hb4e;have H4:=zh (zN hb34 hb4e);clear hb34 hb4e c7 hb4;go_wp2_with fail;refine HK.out.zt (fun wx=>Keeps (fun r=>r=e) w2 wx) (fun _ h=>h) (hk4) ?_;clear HK hS;intro hS;try simp only[zP]
    refine zB [8,9,10,11,12] ?_;iterate 5 (refine zv hS ?_;try simp only[zP])
    refine zE ?_;refine zC 13 fun K HK=>?_
    go_simp;obtain⟨w5,hw5⟩:∃ wz,wz=(((w4.setCell ⟨e,4,none⟩ (.bool true)).setCell ⟨e,5,none⟩ (.int .i64 tm)).setCell ⟨e,6,none⟩ (.int .i64 lg)):=⟨_,rfl⟩
    rw[<-hw5];have hk45:Keeps (fun r=>r=e) w4 w5:=by rw[hw5];exact fO [.bool true,.int .i64 tm,.int .i64 lg] 4 w4
    have hb5:=jc [.bool true,.int .i64 tm,.int .i64 lg] 4 w4 _ H4.out.2;have hw5':w5=setFrom w4 e 4 [.bool true,.int .i64 tm,.int .i64 lg]:=hw5;rw[<-hw5'] at hb5
    have hk5:Keeps (fun r=>r=e) w2 w5:=hk4.trans' hk45;have H5:=zh (zN hb5 hk5);clear hk45 hb5 hw5' hw5 zf x4 x5 x6;go_wp2_with fail;refine HK.out.zt (fun wx=>Keeps (fun r=>r=e) w2 wx) (fun _ h=>h) (hk5) ?_;clear HK hS;intro hS;try simp only[zP]
    refine zD ?_;try simp only[zP]
    clear hS hk5 hk4;go_wp2_with fail;refine bodyPost_end (v:=.tuple #[]) (by simp[results,Tryz.results30,go_sem]) rfl ?_;have hE:=HD.out.1;have hk2:Keeps (fun r=>r=e) wr w5:=HW.out.1.trans' H5.out.2;refine⟨rfl,A',cp',H1.out.1.keep hk2 (fun q hq hf=>?_),H5.out.1,(H1.out.2.1.keep.mono (fun q _ h=>.inl h)).trans' (hk2.mono (fun q _ h=>.inr h)),H1.out.2.1.far⟩;have a:=gM H1.out.1 hq;rw[hf,bZ H1.out.2.2] at a
    rcases a with a | a
    ·exact absurd a (by decide)
    ·exact absurd a.2 (by decide)
   ·skip
    have HK:=zh hK;clear hK;go_simp;refine(rR w2.drew D (some ⟨b,off,none⟩) cb tm v HW.out.2.2).mono ?_;rintro u w3 ⟨A3,c3,rfl,hr3,hb3⟩;have hk3:Keeps (fun r=>r=e) w2 w3:=hS.trans' (Keeps.of_below hb3);have hbe:=HW.out.2.1.below hb3 HW.out.2.1.lt;have y4:=yP hbe;have y5:=yQ hbe;have y6:=yR hbe;have H3:=zh (zN hr3 hb3);clear hr3 hb3 hbe;go_wp2_with fail;refine HK.out.zt (fun wx=>Keeps (fun r=>r=e) w2 wx) (fun _ h=>h) (hk3) ?_;clear HK hS;intro hS;try simp only[zP]
    refine zC 4 fun K HK=>?_
    go_simp;go_wp2_with fail;refine HK.out.zt (fun wx=>Keeps (fun r=>r=e) w2 wx) (fun _ h=>h) (hk3) ?_;clear HK hS;intro hS;try simp only[zP]
    have c7:=V.EZ x.s x.la lg w3 A3 1 c3 (fun _=>tm) (Bd H3.out.1) J;refine zC 7 fun K HK=>?_
    go_simp;refine(c7).mono ?_;rintro u w4 ⟨hu4,hb4⟩;rw[if_pos hnt.1,hnt.2] at hu4
    subst hu4;have hb34:=V.aB H3.out.2 hb4;have hk4:Keeps (fun r=>r=e) w2 w4:=hS.trans' (Keeps.of_below hb4);have hb4e:=HW.out.2.1.below hb34 HW.out.2.1.lt;have zf:=hb4e.frozen;have x4:=yP hb4e;have x5:=yQ hb4e;have x6:=yR hb4e;have H4:=zh (zN hb34 hb4e);clear hb34 hb4e c7 hb4;go_wp2_with fail;refine HK.out.zt (fun wx=>Keeps (fun r=>r=e) w2 wx) (fun _ h=>h) (hk4) ?_;clear HK hS;intro hS;try simp only[zP]
    refine zB [8,9,10,11,12] ?_;iterate 5 (refine zv hS ?_;try simp only[zP])
    refine zE ?_;refine zC 13 fun K HK=>?_
    go_simp;obtain⟨w5,hw5⟩:∃ wz,wz=(((w4.setCell ⟨e,4,none⟩ (.bool true)).setCell ⟨e,5,none⟩ (.int .i64 tm)).setCell ⟨e,6,none⟩ (.int .i64 lg)):=⟨_,rfl⟩
    rw[<-hw5];have hk45:Keeps (fun r=>r=e) w4 w5:=by rw[hw5];exact fO [.bool true,.int .i64 tm,.int .i64 lg] 4 w4
    have hb5:=jc [.bool true,.int .i64 tm,.int .i64 lg] 4 w4 _ H4.out.2;have hw5':w5=setFrom w4 e 4 [.bool true,.int .i64 tm,.int .i64 lg]:=hw5;rw[<-hw5'] at hb5
    have hk5:Keeps (fun r=>r=e) w2 w5:=hk4.trans' hk45;have H5:=zh (zN hb5 hk5);clear hk45 hb5 hw5' hw5 zf x4 x5 x6;go_wp2_with fail;refine HK.out.zt (fun wx=>Keeps (fun r=>r=e) w2 wx) (fun _ h=>h) (hk5) ?_;clear HK hS;intro hS;try simp only[zP]
    refine zD ?_;try simp only[zP]
    clear hS hk5 hk4;go_wp2_with fail;refine bodyPost_end (v:=.tuple #[]) (by simp[results,Tryz.results30,go_sem]) rfl ?_;have hE:=HD.out.1;have hk2:Keeps (fun r=>r=e) wr w5:=HW.out.1.trans' H5.out.2;refine⟨rfl,A',cp',H1.out.1.keep hk2 (fun q hq hf=>?_),H5.out.1,(H1.out.2.1.keep.mono (fun q _ h=>.inl h)).trans' (hk2.mono (fun q _ h=>.inr h)),H1.out.2.1.far⟩;have a:=gM H1.out.1 hq;rw[hf,bZ H1.out.2.2] at a
    rcases a with a | a
    ·exact absurd a (by decide)
    ·exact absurd a.2 (by decide)
theorem Ic(i j:Nat): aW 115 i≠aW 119 j:=fun e=>by
 have h:=congrArg (fun s=>s.data[0]?) e;unfold aW ji at h
 simp at h
theorem R9{K:Nat}{pl:Nat->List Pt}{L:List Pt}{tm:Int}(h:∀ p ∈ cK pl K ++ L,p.t < tm)(j:Nat)(hj:j < L.length): (L.getD j ⟨0,0,0⟩).t < tm:=by
 rw[List.getD_eq_getElem?_getD,List.getElem?_eq_getElem hj];exact h _ (List.mem_append_right _ (List.getElem_mem hj))
theorem LC{a L:List Pt}(h:Inc (a ++ L)): IQ L:=fun j hj=>by
 have h2:=(List.pairwise_append.1 h).2.1;rw[List.getD_eq_getElem?_getD,List.getElem?_eq_getElem J,List.getD_eq_getElem?_getD,List.getElem?_eq_getElem hj];exact List.pairwise_iff_getElem.1 h2 j (j+1) _ _ J
theorem Eh{a L:List Pt}{p:Pt}(h:Inc (a ++ L))(hp:∀ x ∈ a ++ L,x.t < p.t): Inc (a ++ (L ++ [p])):=by
 rw[<-List.append_assoc];refine List.pairwise_append.2 ⟨h,List.pairwise_singleton _ _,?_⟩;intro x hx y hy;rw[List.mem_singleton] at hy
 rw[hy];exact hp x hx
theorem eB.logged{B:Nat}{w0 w w':World}{e:Nat}{lg:Int}{room limit most:Nat}{x:qc}(h:eB B w0 w e lg room limit most x){p':ByteArray->Option FS}{T' G':Nat}{Al:Option Addr}{cl:Nat}{fs:Nat->Nat}{kl sz nx:Nat}(hs:eZ w w' x.d x.M x.p p' x.l x.Al Al)(hd:bD w' x.d x.M p' room T' G')(hl:bS w' x.l x.d limit Al cl fs kl sz nx false)(hf:∀ t,(∀ j,t≠aW 119 j)->fb p' t=fb x.p t)(hfs:∀ j,j < kl->fs j < 1000000)(hnx:x.nx<=nx):
  eB B w0 w' e lg room limit most { x with p:=p',T:=T',G:=G',Al:=Al,cl:=cl,fs:=fs,kl:=kl,sz:=sz,nx:=nx } where
 blk:=h.blk.keeps hs.keep (fun hr=>hr.elim (fun hr=>h.de _ hr rfl) (fun hr=>h.le _ hr rfl))
 dt:=hd
 sto:=h.sto.keep hs.keep (fun q hq hr=>hr.elim (fun hr=>h.ds _ hr hq) (fun hr=>h.sl _ hq hr))
 log:=hl
 tab:=h.tab.keep hs.keep (fun q hq hr=>hr.elim (fun hr=>h.Hg _ hr hq) (fun hr=>h.lt _ hr hq))
 mne:=h.mne
 lo:=by
  intro r hr;rcases Nat.lt_or_ge r w.heap.size with hlt | hge
  ·refine h.lo r ?_
   rcases hr with hr | hr | hr | hr | hr
   ·exact .inl (hs.dfar r hlt hr)
   ·exact .inr (.inl hr)
   ·exact .inr (.inr (.inl (hs.lfar r hlt hr)))
   ·exact .inr (.inr (.inr (.inl hr)))
   ·exact .inr (.inr (.inr (.inr hr)))
  ·exact Nat.le_trans h.size hge
 av:=h.av.trans (hs.keep.below h.size (fun k hk hr=>by
  have:B<=k:=h.lo k (hr.elim .inl (fun hr=>.inr (.inr (.inl hr))));omega))
 hB:=h.hB
 fso:=fun j hj=>(hf _ (Ic j)).trans (h.fso j hj)
 noN:=(hf _ (fun j e=>Q0 (j:=j) (by rfl) 119 e.symm)).trans h.noN
 noS:=fun j hj hj2=>(hf _ (Ic j)).trans (h.noS j hj hj2)
 plo:=h.plo
 inc:=h.inc
 sm:=h.sm
 mark:=h.mark
 fwd:=h.fwd
 rn:=Nat.le_trans h.rn hnx
 qq:=h.qq
 fsl:=hfs
 nm:=h.nm
 he:=h.he
theorem eB.taken{B:Nat}{w0 w w':World}{e:Nat}{lg:Int}{room limit most:Nat}{x:qc}(h:eB B w0 w e lg room limit most x){A':Option Addr}{cp':Nat}{tm v:Int}(ht:fE w' x.t x.Mt A' cp' (x.L ++ [⟨tm,v,(x.q:Nat)⟩]) (x.n+1) most (x.U+1))(hb:ay w' e 81 (RZ { x with s:=true,la:=tm,q:=x.q+1 } lg))(hk:Keeps (fun r=>dX x.t x.Mt x.At r\/r=e) w w')(hf:∀ r,r < w.heap.size->dX x.t x.Mt A' r->dX x.t x.Mt x.At r)(htm:0<=tm/\tm<=1000000)(hv:0<=v/\v<=1000000)(hq:x.q<=1000000)(hlt:∀ p ∈ cK x.pl x.K ++ x.L,p.t < tm)(hfw:x.s=true->x.la<=tm)(hnm:x.n < most):
  eB B w0 w' e lg room limit most { x with At:=A',ct:=cp',L:=x.L ++ [⟨tm,v,(x.q:Nat)⟩],n:=x.n+1,U:=x.U+1,s:=true,la:=tm,q:=x.q+1 } where
 blk:=hb
 dt:=h.dt.keep hk (fun q hq hr=>hr.elim (fun hr=>h.Hg _ hq hr) (fun hr=>h.de _ hq hr))
 sto:=h.sto.keep hk (fun q hq hr=>hr.elim (fun hr=>h.Qk _ hq hr) (fun hr=>h.se _ hq hr))
 log:=h.log.keep hk (fun q hq hr=>hr.elim (fun hr=>h.lt _ hq hr) (fun hr=>h.le _ hq hr))
 tab:=ht
 mne:=h.mne
 lo:=by
  intro r hr;rcases Nat.lt_or_ge r w.heap.size with hlt | hge
  ·refine h.lo r ?_
   rcases hr with hr | hr | hr | hr | hr
   ·exact .inl hr
   ·exact .inr (.inl hr)
   ·exact .inr (.inr (.inl hr))
   ·exact .inr (.inr (.inr (.inl (hf r hlt hr))))
   ·exact .inr (.inr (.inr (.inr hr)))
  ·exact Nat.le_trans h.size hge
 av:=h.av.trans (hk.below h.size (fun k hk hr=>by
  have:B<=k:=h.lo k (hr.elim (fun hr=>.inr (.inr (.inr (.inl hr)))) (fun hr=>.inr (.inr (.inr (.inr hr)))));omega))
 hB:=h.hB
 fso:=h.fso
 noN:=h.noN
 noS:=h.noS
 plo:=h.plo
 inc:=Eh h.inc hlt
 sm:=by
  intro p hp;rcases List.mem_append.1 hp with hp | hp
  ·exact h.sm p hp
  ·rw[List.mem_singleton] at hp
   subst hp;exact⟨htm,hv,by show (0:Int)<=((x.q:Nat):Int);omega,by show ((x.q:Nat):Int)<=1000000;omega⟩
 mark:=by
  have:=h.mark;unfold V.dx V.fu at this ⊢
  simp at this ⊢
  omega
 fwd:=by
  rcases h.fwd with h1 | ⟨h1,h2⟩
  ·exact .inl h1
  ·exact .inr ⟨rfl,Int.le_trans h2 (hfw h1)⟩
 rn:=h.rn
 qq:=Nat.le_succ_of_le h.qq
 fsl:=h.fsl
 nm:=hnm
 he:=h.he
theorem Q5(i j:Nat): aW 114 i≠aW 119 j:=fun e=>by
 have h:=congrArg (fun s=>s.data[0]?) e;unfold aW ji at h
 simp at h
theorem lJ.logged{f f':ByteArray->Option (List Nat)}{rb:Option (List Nat)}(h:lJ f rb)(hf:∀ t,(∀ j,t≠aW 119 j)->f' t=f t): lJ f' rb:=
 ⟨fun t ht=>by
  by_cases hw:∃ j,t=aW 119 j
  ·exact .inl hw
  ·rw[hf t (fun j e=>hw ⟨j,e⟩)] at ht
   exact h.nam t ht,fun bs hb=>(hf _ (Q5 0)).trans (h.rf bs hb)⟩
theorem bG.logged{B:Nat}{w0 w w':World}{e:Nat}{lg:Int}{room limit most:Nat}{x:bM}(h:bG B w0 w e lg room limit most x){p':ByteArray->Option FS}{T' G':Nat}{Al:Option Addr}{cl:Nat}{fs:Nat->Nat}{kl sz nx:Nat}(hs:eZ w w' x.d x.M x.p p' x.l x.Al Al)(hd:bD w' x.d x.M p' room T' G')(hl:bS w' x.l x.d limit Al cl fs kl sz nx false)(hf:∀ t,(∀ j,t≠aW 119 j)->fb p' t=fb x.p t)(hfs:∀ j,j < kl->fs j < 1000000)(hnx:x.nx<=nx):
  bG B w0 w' e lg room limit most { x with p:=p',T:=T',G:=G',Al:=Al,cl:=cl,fs:=fs,kl:=kl,sz:=sz,nx:=nx } where
 blk:=h.blk.keeps hs.keep (fun hr=>hr.elim (fun hr=>h.de _ hr rfl) (fun hr=>h.le _ hr rfl))
 dt:=hd
 sto:=h.sto.keep hs.keep (fun q hq hr=>hr.elim (fun hr=>h.ds _ hr hq) (fun hr=>h.sl _ hq hr))
 log:=hl
 tab:=h.tab.keep hs.keep (fun q hq hr=>hr.elim (fun hr=>h.Hg _ hr hq) (fun hr=>h.lt _ hr hq))
 mne:=h.mne
 lo:=by
  intro r hr;rcases Nat.lt_or_ge r w.heap.size with hlt | hge
  ·refine h.lo r ?_
   rcases hr with hr | hr | hr | hr | hr
   ·exact .inl (hs.dfar r hlt hr)
   ·exact .inr (.inl hr)
   ·exact .inr (.inr (.inl (hs.lfar r hlt hr)))
   ·exact .inr (.inr (.inr (.inl hr)))
   ·exact .inr (.inr (.inr (.inr hr)))
  ·exact Nat.le_trans h.size hge
 av:=h.av.trans (hs.keep.below h.size (fun k hk hr=>by
  have:B<=k:=h.lo k (hr.elim .inl (fun hr=>.inr (.inr (.inl hr))));omega))
 hB:=h.hB
 nam:=h.nam.logged hf
 inc:=h.inc
 mark:=h.mark
 fsl:=hfs
 nm:=h.nm
 he:=h.he
theorem bG.taken{B:Nat}{w0 w w':World}{e:Nat}{lg:Int}{room limit most:Nat}{x:bM}(h:bG B w0 w e lg room limit most x){A':Option Addr}{cp':Nat}{tm v:Int}(ht:fE w' x.t x.Mt A' cp' (x.L ++ [⟨tm,v,(x.q:Nat)⟩]) (x.n+1) most (x.U+1))(hb:ay w' e 81 (dV { x with s:=true,la:=tm,q:=x.q+1 } lg))(hk:Keeps (fun r=>dX x.t x.Mt x.At r\/r=e) w w')(hf:∀ r,r < w.heap.size->dX x.t x.Mt A' r->dX x.t x.Mt x.At r)(htm:0<=tm/\tm<=1000000)(hlt:∀ p ∈ x.L,p.t < tm)(hfw:x.s=true->x.la<=tm)(hnm:x.n < most):
  bG B w0 w' e lg room limit most { x with At:=A',ct:=cp',L:=x.L ++ [⟨tm,v,(x.q:Nat)⟩],n:=x.n+1,U:=x.U+1,s:=true,la:=tm,q:=x.q+1 } where
 blk:=hb
 dt:=h.dt.keep hk (fun q hq hr=>hr.elim (fun hr=>h.Hg _ hq hr) (fun hr=>h.de _ hq hr))
 sto:=h.sto.keep hk (fun q hq hr=>hr.elim (fun hr=>h.Qk _ hq hr) (fun hr=>h.se _ hq hr))
 log:=h.log.keep hk (fun q hq hr=>hr.elim (fun hr=>h.lt _ hq hr) (fun hr=>h.le _ hq hr))
 tab:=ht
 mne:=h.mne
 lo:=by
  intro r hr;rcases Nat.lt_or_ge r w.heap.size with hlt | hge
  ·refine h.lo r ?_
   rcases hr with hr | hr | hr | hr | hr
   ·exact .inl hr
   ·exact .inr (.inl hr)
   ·exact .inr (.inr (.inl hr))
   ·exact .inr (.inr (.inr (.inl (hf r hlt hr))))
   ·exact .inr (.inr (.inr (.inr hr)))
  ·exact Nat.le_trans h.size hge
 av:=h.av.trans (hk.below h.size (fun k hk hr=>by
  have:B<=k:=h.lo k (hr.elim (fun hr=>.inr (.inr (.inr (.inl hr)))) (fun hr=>.inr (.inr (.inr (.inr hr)))));omega))
 hB:=h.hB
 nam:=h.nam
 inc:=Eh (a:=[]) h.inc hlt
 mark:=by
  have:=h.mark;unfold V.dx V.fu at this ⊢
  simp at this ⊢
  omega
 fsl:=h.fsl
 nm:=hnm
 he:=h.he
def yG(B:Nat)(w0 w:World)(e:Nat)(lg:Int)(room limit most:Nat)(x:bM)(tm v:Int)(u:Ending)(w':World): Prop:=
 u=.returned (Z 0)/\∃ p' Al cl fs kl sz At ct,kl<=x.kl+1/\sz<=x.sz+72/\
  bG B w0 w' e lg room limit most { x with p:=p',T:=x.T+72,G:=x.G+2,Al:=Al,cl:=cl,fs:=fs,kl:=kl,sz:=sz,nx:=x.nx+1,At:=At,ct:=ct,L:=x.L ++ [⟨tm,v,(x.q:Nat)⟩],n:=x.n+1,U:=x.U+1,s:=true,la:=tm,q:=x.q+1 }
theorem xu{B:Nat}{w0 w:World}{e:Nat}{lg:Int}{room limit most:Nat}{x:bM}(h:bG B w0 w e lg room limit most x)(D:Nat->Prop)(Ab:Option Addr)(cb:Nat)(tm v:Int)(hO:jW w D Ab tm v)(hD:∀ r,D r->¬ KE x e r)(htm:0<=tm/\tm<=1000000)(hv:bI v)(hlt:∀ p ∈ x.L,p.t < tm)(hlate:x.s=true->V.kX x.s x.la lg<=tm)(hfw:x.s=true->x.la<=tm)(hnm:x.n < most)(hm:most<=1000)(hU:x.U < 1000000)(hq:x.q < 1000000)(hT:x.T+72<=1048576)(hG:x.G+2<=512)(hr1:1048576<=room)(hr:room<=1073741824)(hk:x.kl < 1000)(hsz:x.sz<=1048576)(hnx:x.nx < 1000000)(hlim:limit<=1048576):
  Calls Tryz.prog 9 #[.pointer (some ⟨e,0,none⟩),.slice Ab 1 cb] w (yG B w0 w e lg room limit most x tm v):=by
 have ht:aP tm:=by unfold aP;omega
 have hll:∀ j,j < x.n->(x.L.getD j ⟨0,0,0⟩).t < tm:=fun j hj=>R9 (K:=0) (pl:=fun _=>[]) hlt j (by rw[h.tab.len];exact hj)
 have HD:=zh (zN h (zN hO (zN hll (zN hlate (zN hlt (zN hfw hD))))));clear h hO hlt hlate hll hfw hD
 go_enter Tryz.func9,Tryz.ntmps9
 go_wp2_with fail;refine HD.out.1.none.mono ?_;rintro u w1 ⟨rfl,hb1⟩;have h1:=HD.out.1.call hb1;have z8:=Qd h1.blk;have H1:=zh (zN h1 hb1);clear h1 hb1;go_wp2_with fail;refine(Gx H1.out.1 D Ab cb tm v (HD.out.2.1.call H1.out.2) ht HD.out.2.2.1 HD.out.2.2.2.1 hm 0 (.inl ⟨hnm,rfl⟩)).mono ?_;rintro u w2 ⟨rfl,hb2⟩;have hb02:=V.aB H1.out.2 hb2;have H2:=zh (zN (HD.out.1.call hb02) hb02);clear hb2 hb02 z8;go_upto_region 8 with (fail)
 have hS:ay w2.drew e 81 (dV x lg):=(H2.out.1.call (Below.refl _ _).drew).blk;have HB2:=zh (V.aB H2.out.2 (Below.refl _ _).drew);have hS:(fun wx=>ay wx e 81 (dV x lg)) (w2.drew):=hS;refine aA (fun wx=>ay wx e 81 (dV x lg)) (by kernel_rfl) hS ?_;refine zB [0,1,2,3,4] ?_;iterate 5 (refine zV ?_ ?_ hS ?_;rotate_left;(intro w' hSw;have z2:=Qb hSw;go_simp<;>with_reducible rfl);try simp only[zP])
 refine zE ?_;refine zC 5 fun K HK=>?_
 go_simp;refine(Ej w2.drew D Ab cb tm v (HD.out.2.1.call HB2.out) (by unfold bI;omega) hv).mono ?_;rintro u w3 ⟨A3,c3,bs,rfl,hbs,hby,hr3,hb3⟩;have hb03:=V.aB HB2.out hb3;have hE3:=HD.out.1.call hb03;have hS3:ay w3 e 81 (dV x lg):=hE3.blk;have H3:=zh (zN hr3 (zN hb03 (zN hE3 hby)));clear hr3 hb3 hb03 hE3 hby;go_wp2_with fail;refine HK.out.zt (fun wx=>ay wx e 81 (dV x lg)) (fun _ h=>h) (hS3) ?_;clear HK hS;intro hS;try simp only[zP]
 have hE3:=H3.out.2.2.1;have cc:=Mf w3 x.d x.M x.p room x.T x.G x.l limit x.Al x.cl x.fs x.kl x.sz x.nx A3 bs.length c3 bs (fun k=>k < w3.heap.size) hE3.log hE3.dt (fun r h1 h2=>hE3.dl r h2 h1) rfl (V.gI H3.out.1) (fun _ h=>h) (fun j=>by
  rw[List.getD_eq_getElem?_getD];rcases Nat.lt_or_ge j bs.length with hj | hj
  ·rw[List.getElem?_eq_getElem hj];exact H3.out.2.2.2 _ (List.getElem_mem hj)
  ·rw[List.getElem?_eq_none hj];decide) J J hr1 hr J hk hsz hnx hE3.fsl hlim
 refine zC 6 fun K HK=>?_
 go_simp;refine(cc).mono ?_;rintro u w4 ⟨rfl,p4,A4,c4,f4,k4,s4,b4,hd4,hl4,hst4,hds4,hc4,ho4,hf4,hk4,hs4⟩;have hS4:ay w4 e 81 (dV x lg):=hE3.blk.keeps hst4.keep (fun hr=>hr.elim (fun hr=>hE3.de _ hr rfl) (fun hr=>hE3.le _ hr rfl));have z2:=Qb hS4;have H4:=zh (zN hd4 (zN hl4 (zN hst4 (zN hds4 (zN hc4 (zN ho4 hf4))))));clear hd4 hl4 hst4 hds4 hc4 ho4 hf4 hE3 cc;go_wp2_with fail;refine HK.out.zt (fun wx=>ay wx e 81 (dV x lg)) (fun _ h=>h) (hS4) ?_;clear HK hS;intro hS;try simp only[zP]
 refine zt 7 hS ?_;try simp only[zP]
 refine zD ?_;try simp only[zP]
 clear hS hS4 hS3;go_wp2_with fail;refine(JX w4 x.d x.M p4 room (x.T+(bs.length+22)) (x.G+1) x.l limit A4 c4 f4 k4 s4 (x.nx+1) b4 H4.out.2.1 H4.out.1 H4.out.2.2.2.1 H4.out.2.2.2.2.1 (H4.out.2.2.2.2.2.2 k4 J) J J J).mono ?_;rintro u w5 ⟨rfl,p5,hd5,hf5,hl5,hst5,hds5⟩;have hE3:=H3.out.2.2.1;have hst:=H4.out.2.2.1.trans hst5;have hE5:=hE3.logged hst (hd5.more (T':=x.T+72) (G':=x.G+2) J (Nat.le_refl _)) hl5 (fun t ht=>by rw[hf5];exact H4.out.2.2.2.2.2.1 t ht) H4.out.2.2.2.2.2.2 (Nat.le_succ _);have hO5:=(HD.out.2.1.call H3.out.2.1).keep hst.keep (fun q hq hr=>HD.out.2.2.2.2.2.2 q hq (hr.elim .inl (fun hr=>.inr (.inr (.inl hr)))));have H5:=zh (zN hE5 hO5);clear hE5 hO5 hst hst5 hds5 hl5 hf5 hd5 hE3 z2;go_wp2_with fail;refine(J4 H5.out.1 D Ab cb tm v H5.out.2 (fun r hr hf=>HD.out.2.2.2.2.2.2 r hr (hf.elim (fun hf=>.inr (.inr (.inr (.inl hf)))) (fun hf=>.inr (.inr (.inr (.inr hf)))))) ht HD.out.2.2.1 (LC (a:=[]) HD.out.1.inc) HD.out.2.2.2.2.2.1 hnm hm hU hq).mono ?_;rintro u w6 ⟨rfl,A6,c6,hT6,hb6,hk6,hf6⟩;have hE6:=H5.out.1.taken hT6 hb6 hk6 hf6 htm HD.out.2.2.2.2.1 HD.out.2.2.2.2.2.1 hnm;have H6:=zh hE6;clear hT6 hb6 hk6 hf6 hE6;go_wp2_with fail;go_ret;exact⟨rfl,p5,A4,c4,f4,k4+1,s4,A6,c6,J,J,H6.out⟩
theorem NK(pl:Nat->List Pt)(K:Nat)(L:List Pt): cK (yB pl K L) (K+1)=cK pl K ++ L:=by
 show cK (yB pl K L) K ++ yB pl K L K=_
 rw[yL (r:=yB pl K L) (s:=pl) K (fun y hy=>if_neg J)];show _ ++ (if K=K then L else pl K)=_
 rw[if_pos rfl]
theorem IK.upd{pl:Nat->List Pt}{K:Nat}{L:List Pt}(h:IK pl K)(hp:0 < L.length)(hl:L.length<=40)(hi:Inc (cK pl K ++ L))(hs:∀ p ∈ L,xP p): IK (yB pl K L) (K+1) where
 len:=fun j hj=>by
  unfold yB
  by_cases e:j=K
  ·rw[if_pos e];exact ⟨hp,hl⟩
  ·rw[if_neg e];exact h.len j J
 inc:=by rw[NK];exact hi
 sm:=fun j hj=>by
  unfold yB
  by_cases e:j=K
  ·rw[if_pos e];exact hs
  ·rw[if_neg e];exact h.sm j J
def two{α:Type}(a b:α): Nat->α:=fun y=>if y=0 then a else b
def pY(l:List Pt): List Value:=l.flatMap fun p=>[Z p.t,Z p.t,.bool false,Z 0,.int .u64 p.v]
theorem AZ(l l':List Pt): pY (l ++ l')=pY l ++ pY l':=by unfold pY;rw[List.flatMap_append]
def sZ(w:World)(base:Nat)(v:Value)(l:List Pt): Prop:=w.ownsRow base 54 5 v l.length (pY l)
theorem yu: (Tryz.prog.info? 54).map (fun i=>(i.zero,i.size,i.bytes))=some (some (.agg #[Z 0,Z 0,.bool false,Z 0,.int .u64 0]),5,40):=by kernel_rfl
theorem CU{w:World}{base g c:Nat}{v:Value}{l:List Pt}{p:Pt}{ty:TypeId}(hown:sZ w base v l)(hg:ay w g 54 #[Z p.t,Z p.t,.bool false,Z 0,.int .u64 p.v])(h63:l.length < 4294967296)(hbase:base<=w.heap.size):
  ∃ v' w',(Builtin.append_ #[39,39] ty #[v,.slice (some ⟨g,0,none⟩) 1 c]).run Tryz.prog w=.ok v' w'/\sZ w' base v' (l ++ [p])/\w.grownBy w' v.ownBlock/\(v'.ownBlock=v.ownBlock\/v'.ownBlock=some w.heap.size):=by
 obtain⟨i,hi,hz,hs,hb⟩:=info_parts yu;have hadd:∀ i,(⟨g,0,none⟩:Addr).add i=⟨g,0+i,none⟩:=fun i=>by unfold Addr.add;split<;>simp_all
 obtain⟨v',w',h1,h2,h3,_,h4⟩:=run_append_own_at (P:=Tryz.prog) w base 39 ty 54 i _ 5 40 Tryz.underlying39 hi hz hs hb rfl (by decide) v l.length (pY l) hown ⟨g,0,none⟩ 1 c [Z p.t,Z p.t,.bool false,Z 0,.int .u64 p.v] rfl
  (fun j u hu=>by
   rw[hadd,Nat.zero_add,hg.cell j]
   simpa using hu)
  (by intro u hu;simp at hu;rcases hu with rfl | rfl | rfl | rfl<;>rfl) (by unfold maxLen;omega) J hbase
 refine⟨v',w',h1,?_,h3,h4⟩;unfold sZ;rw[AZ,List.length_append];exact h2
def Ae(w:World)(l:List Pt)(e:Ending)(w':World): Prop:=∃ A c,e=.returned (.tuple #[.slice A l.length c,Z 0])/\sZ w' w.heap.size (.slice A l.length c) l/\Below w.heap.size w w'
theorem tZ(w:World)(A:Option Addr)(n c:Nat)(hn:n<=65536): Calls Tryz.prog 105 #[.slice A n c] w fun u w'=>u=.returned (.tuple #[.slice A n c,Z 0])/\Below w.heap.size w w':=by
 have d1:decide ((65536:Int) < (n:Int))=false:=by simp;omega
 go_enter Tryz.func105,Tryz.ntmps105
 go_wp2_with fail;go_ret2;exact⟨rfl,Below.refl _ _⟩
theorem CP(w:World)(st d N R q:Nat)(s:Bool)(la lg:Int)(A:Option Addr)(nt c:Nat)(ti:List Value)(a b:Int)(h:iN w st d N R q s la lg A nt c ti):
  Calls Tryz.prog 150 #[.pointer (some ⟨st,0,none⟩),.string aY,.int .i64 a,.int .i64 b] w (iw w []):=by
 have HD:=zh h;clear h
 go_enter Tryz.func150,Tryz.ntmps150
 go_wp2_with fail;refine(jU w st d (HD.out.blk.cell 0)).mono ?_;rintro e w1 ⟨rfl,hb1⟩;have u7:w1.cell? ⟨st,7,none⟩=some (.slice none 0 0):=(HD.out.call hb1).blk.cell 7;have H1:=zh hb1;clear hb1;go_wp2_with fail;clear u7
 go_loopw [10,24] (fun v i wr=>v=.slice none 0 0/\i=.int .i64 0/\Below w.heap.size w wr) (fun _ i _=>(intOf i).toNat)
 case atStart=>exact ⟨rfl,rfl,H1.out⟩
 case round=>
  obtain⟨rfl,rfl,hb⟩:=hrel;have HB:=zh hb;clear hb;have hc:=yZ wr none 0 0 (fun _=>none) (fun _=>0) (fun _=>[]) (Sl.nil _ _ _ _) ⟨fun j hj=>absurd hj J,fun j hj=>absurd hj J⟩ List.Pairwise.nil J (by decide);have HC:=zh hc;clear hc;go_wp2_with fail;refine HC.out.mono ?_;rintro e w3 ⟨A3,c3,rfl,hr3,hb3⟩;have H3:=zh (zN (aN hr3 HB.out.size) (V.aB HB.out hb3));clear hr3 hb3;have hl0:(cK (fun _=>([]:List Pt)) 0).length=0:=rfl;rw[hl0];go_wp2_with fail;go_ret2;exact⟨A3,c3,rfl,H3.out.1,H3.out.2⟩
theorem kD{B:Nat}{w0 w:World}{e:Nat}{lg:Int}{room limit most:Nat}{x:bM}(h:bG B w0 w e lg room limit most x)(a b:Int)(l:List Pt)(hsel:fK (fun j=>x.L.getD j ⟨0,0,0⟩) a b x.n=l)(hinc:Inc l)(hn:x.n<=1000)(hlen:l.length<=100000):
  Calls Tryz.prog 108 #[.pointer (some ⟨e,0,none⟩),.string aY,Z a,Z b] w (iw w l):=by
 have HD:=zh (zN h (zN hsel hinc));have z1:=tO h.blk;clear h hsel hinc
 go_enter Tryz.func108,Tryz.ntmps108
 go_wp2_with fail;have hE:=HD.out.1;refine(CP w x.st x.d x.N 0 0 false 0 lg x.An x.nt x.cn x.ti a b hE.sto).mono ?_;rintro u w1 ⟨A1,c1,rfl,hr1,hb1⟩;have hl0:([]:List Pt).length=0:=rfl;rw[hl0] at hr1 ⊢
 have hE1:=hE.call hb1;have z3:=Da hE1.blk;have H1:=zh (zN hE1 (zN hr1 hb1));clear hE hE1 hr1 hb1 z1;go_wp2_with fail;refine(Er w1 x.t x.Mt x.At x.ct x.L x.n most x.U a b H1.out.1.tab hn).mono ?_;rintro u w2 ⟨v2,rfl,hr2,hb2⟩;rw[HD.out.2.1] at hr2
 obtain⟨A2,c2,hv2,hc2⟩:=hr2.form;subst hv2;obtain⟨n2,hn2⟩:∃ n,n=l.length:=⟨_,rfl⟩
 have hr1:bB w2 w.heap.size (.slice A1 0 c1) []:=bB.below H1.out.2.1 hb2;have hb02:=V.aB H1.out.2.2 hb2;have H2:=zh (zN hr1 (zN (aN hr2 H1.out.2.2.size) (zN hb02 hn2)));rw[<-hn2];clear hr1 hr2 hb2 hb02 hn2 hc2 z3;go_wp2_with fail;obtain⟨y,hy⟩:∃ y,y=w2.heap.size:=⟨_,rfl⟩
 rw[<-hy];refine bQ (Own w2 [(y,186,#[.slice A1 0 c1,.slice A2 n2 c2])]) (Own.bn w2 hy _ _) ?_;intro w3 h3;clear hy;obtain⟨s0,s1⟩:=h3.c2 0;have hlt:=h3.lt _ (List.mem_singleton.2 rfl);have hsl:Sl w3 (fun q=>q < w3.heap.size) (some ⟨y,0,none⟩) 2 (fM (two A1 A2) (two c1 c2) (two [] l)):=fun _=>⟨y,0,rfl,hlt,fun j hj=>by
  match j,hj with
  | 0,_=>exact (by rw[s0];rfl)
  | 1,_=>exact (by rw[s1,H2.out.2.2.2];rfl)⟩
 have hp1:bB w3 w.heap.size (.slice A1 ([]:List Pt).length c1) []:=bB.below H2.out.1 h3.av;have hp2:bB w3 w.heap.size (.slice A2 l.length c2) l:=bB.below H2.out.2.1 h3.av;have hlo:sw w3 (two A1 A2) (two c1 c2) (two [] l) 2:=⟨fun j hj=>by
  match j,hj with
  | 0,_=>exact hp1.sl.mono (fun q hq=>(hp1.fB q hq.2).2)
  | 1,_=>exact hp2.sl.mono (fun q hq=>(hp2.fB q hq.2).2),fun j hj=>by
  match j,hj with
  | 0,_=>exact V.lY hp1
  | 1,_=>exact V.lY hp2⟩
 have hcat:cK (two [] l) 2=l:=rfl;have hc:=yZ w3 (some ⟨y,0,none⟩) 2 2 (two A1 A2) (two c1 c2) (two [] l) hsl hlo (by rw[hcat];exact HD.out.2.2) J (by rw[hcat];exact hlen);rw[hcat] at hc
 have h03:Below w.heap.size w w3:=V.aB H2.out.2.2.1 h3.av;clear s0 s1 hsl hp1 hp2 hlo hcat h3 hlt;refine hc.mono ?_;rintro u w4 ⟨A4,c4,rfl,hr4,hb4⟩;obtain⟨n4,hn4⟩:∃ n,n=l.length:=⟨_,rfl⟩
 have H4:=zh (zN (aN hr4 h03.size) (zN (V.aB h03 hb4) hn4));rw[<-hn4];clear hr4 hb4 hn4 hc h03;go_wp2_with fail;go_ret2;exact⟨A4,c4,by rw[H4.out.2.2];rfl,H4.out.1,H4.out.2.1⟩
theorem Pv{B:Nat}{w0 w:World}{e:Nat}{lg:Int}{room limit most:Nat}{x:bM}(h:bG B w0 w e lg room limit most x){a b:Int}(hab:∀ p ∈ x.L,a<=p.t/\p.t < b): fK (fun j=>x.L.getD j ⟨0,0,0⟩) a b x.n=x.L:=by
 have hl:=h.tab.len;rw[<-hl];exact Rn hab
theorem JZ{B:Nat}{w0 w:World}{e:Nat}{lg:Int}{room limit most:Nat}{x:bM}(h:bG B w0 w e lg room limit most x)(tu:Int)(hab:∀ p ∈ x.L,0<=p.t/\p.t < tu)(hn:x.n<=1000)(hlen:(x.L).length<=100000):
  Calls Tryz.prog 104 #[.pointer (some ⟨e,0,none⟩),.agg (qV tu)] w (iw w (x.L)):=by
 obtain⟨y,hy⟩:∃ y,y=w.heap.size:=⟨_,rfl⟩
 have o0:=Own.bn w hy 43 (qV tu);have HD:=zh (zN h (zN hab o0));clear h hab o0;unfold qV
 go_enter Tryz.func104,Tryz.ntmps104
 go_wp2_with fail;rw[<-hy];clear hy;refine aC (Own w [(y,43,qV tu)]) HD.out.2.2 ?_;intro w1 o1;have hS:=o1.drew;clear o1;have hS:(Own w [(y,43,qV tu)]) (w1.drew):=hS;refine aA (Own w [(y,43,qV tu)]) (by kernel_rfl) hS ?_;refine zB [0,1,2,3,4,5,8,9] ?_;iterate 8 (refine zV ?_ ?_ hS ?_;rotate_left;(intro w' hSw;have u2:=hSw.c 0 2;have u4:=hSw.c 0 4;have u5:=hSw.c 0 5;go_simp<;>with_reducible rfl);try simp only[zP])
 refine zE ?_;refine zC 6 fun K HK=>?_
 go_simp;refine(kC (HD.out.1.call hS.av)).mono ?_;rintro u w2 ⟨rfl,hb2⟩;have h2:=hS.call hb2;clear hb2;go_wp2_with fail;refine HK.out.zt (Own w [(y,43,qV tu)]) (fun _ h=>h) (h2) ?_;clear HK hS;intro hS;try simp only[zP]
 refine zt 7 hS ?_;try simp only[zP]
 refine zC 10 fun K HK=>?_
 go_simp;refine(kD (HD.out.1.call h2.av) 0 tu x.L (Pv HD.out.1 HD.out.2.1) HD.out.1.inc hn hlen).mono ?_;rintro u w3 ⟨A3,c3,rfl,hr3,hb3⟩;have h3:=h2.call hb3;obtain⟨n4,hn4⟩:∃ n,n=(x.L).length:=⟨_,rfl⟩
 have H3:=zh (zN (aN hr3 h2.av.size) (zN h3.av hn4));rw[<-hn4];clear hr3 hb3 h2 hn4;go_wp2_with fail;refine HK.out.zt (Own w [(y,43,qV tu)]) (fun _ h=>h) (h3) ?_;clear HK hS;intro hS;try simp only[zP]
 refine zB [11,12,13,14] ?_;iterate 4 (refine zv hS ?_;try simp only[zP])
 refine zE ?_;refine zD ?_;try simp only[zP]
 clear hS h3;go_wp2_with fail;go_ret2;exact⟨A3,c3,by rw[H3.out.2.2];rfl,H3.out.1,H3.out.2.1⟩
theorem Mh{B:Nat}{w0 w:World}{e:Nat}{lg:Int}{room limit most:Nat}{x:bM}(h:bG B w0 w e lg room limit most x)(tu:Int)(hab:∀ p ∈ x.L,0<=p.t/\p.t < tu)(hv:∀ p ∈ x.L,0<=p.v/\p.v<=1000000)(hn:x.n<=1000)(hlen:(x.L).length<=65536):
  Calls Tryz.prog 45 #[.pointer (some ⟨e,0,none⟩),.agg (qV tu)] w (Ae w (x.L)):=by
 obtain⟨y,hy⟩:∃ y,y=w.heap.size:=⟨_,rfl⟩
 have o0:=Own.bn w hy 43 (qV tu);have HD:=zh (zN h (zN hab (zN hv o0)));clear h hab hv o0;obtain⟨l,hl⟩:∃ l,l=x.L:=⟨_,rfl⟩
 have HL:=zh hl;rw[<-hl] at hlen ⊢
 clear hl;unfold qV
 go_enter Tryz.func45,Tryz.ntmps45
 go_wp2_with fail;rw[<-hy];clear hy;refine bQ (Own w [(y,43,qV tu)]) HD.out.2.2.2 ?_;intro w1 o1;have hE:=HD.out.1.call o1.av;have H1:=zh (zN hE o1.av);clear hE o1;have cc:=JZ H1.out.1 tu HD.out.2.1 hn (by rw[<-HL.out];omega);rw[<-HL.out] at cc
 refine cc.mono ?_;clear cc;rintro u w2 ⟨A2,c2,rfl,hr2,hb2⟩;obtain⟨n,hn⟩:∃ n,n=l.length:=⟨_,rfl⟩
 have H2:=zh (zN (V.aB H1.out.2 hb2) (zN (hr2.sl.mono (E:=fun q=>q < w2.heap.size) (fun q hq=>(hr2.fB q hq.2).2)) hn));rw[<-hn];have hlen':n<=65536:=J;clear hr2 hb2 hn hlen;go_wp2_with fail
 go_loopw [8,22] (fun o i wr=>∃ k,k<=n/\i=.int .i64 (k:Nat)/\sZ wr w2.heap.size o (l.take k)/\Below w2.heap.size w2 wr) (fun _ i _=>n-(intOf i).toNat)
 case atStart=>exact ⟨0,Nat.zero_le _,rfl,⟨rfl,.inl ⟨rfl,rfl⟩⟩,Below.refl _ _⟩
 case round=>
  obtain⟨k,hk,rfl,hr,hb⟩:=hrel
  by_cases hkn:k < n
  ·have d1:(k:Int) < (n:Int):=J
   have hsl:=H2.out.2.1;rw[<-H2.out.2.2] at hsl
   obtain⟨g,off,rfl,hg,hc⟩:=hsl J;have hc':∀ j,j < n->wr.cell? ⟨g,off+j*3,none⟩=some (.int .i64 (l.getD j ⟨0,0,0⟩).t)/\wr.cell? ⟨g,off+j*3+1,none⟩=some (.int .i64 (l.getD j ⟨0,0,0⟩).v)/\wr.cell? ⟨g,off+j*3+2,none⟩=some (.int .i64 (l.getD j ⟨0,0,0⟩).s):=fun j hj=>
    have hkb:=Keeps.of_below (S:=fun _=>False) hb
    ⟨pq (hc j hj).1 hkb (fun h=>h),pq (hc j hj).2.1 hkb (fun h=>h),pq (hc j hj).2.2 hkb (fun h=>h)⟩
   obtain⟨u0,u1,u2⟩:=hc' k hkn;have hmem:l.getD k ⟨0,0,0⟩ ∈ l:=kg (by rw[<-H2.out.2.2];exact hkn);have htk:l.take (k+1)=l.take k ++ [l.getD k ⟨0,0,0⟩]:=by
    have hkl:k < l.length:=by rw[<-H2.out.2.2];exact hkn
    rw[List.take_add_one,List.getD_eq_getElem?_getD,List.getElem?_eq_getElem hkl];rfl
   have hvk:=HD.out.2.2.1 _ (by rw[<-HL.out];exact hmem);obtain⟨p,hp⟩:∃ p,p=l.getD k ⟨0,0,0⟩:=⟨_,rfl⟩
   rw[<-hp] at u0 u1 u2 htk hvk
   have e1:p.v / 9223372036854775808=0:=J;have e2:IntKind.u64.wrap p.v=p.v:=by simp only[IntKind.wrap_u64];omega
   obtain⟨A3,c3,hv3,-,-⟩:=aH hr;subst hv3;have H3:=zh (zN hr (zN hb htk));clear hr hb htk hc hc' hmem hp hsl hvk;go_upto_region 8 with (fail)
   obtain⟨z,hz⟩:∃ z,z=wr.heap.size:=⟨_,rfl⟩
   rw[<-hz];refine aC (Own wr [(z,149,#[.int .i64 p.t,.int .i64 p.v,.int .i64 p.s])]) (Own.bn wr hz _ _) ?_;intro w4 h4;have s0:=h4.c2 0;clear hz u0 u1 u2;obtain⟨w5,hw5⟩:∃ w5,w5=w4.alloc (.cells #[.int .i64 p.t,.int .i64 p.t,.bool false,.int .i64 0,.int .u64 p.v] 54):=⟨_,rfl⟩
   have hb5:Below w4.heap.size w4 w5:=by rw[hw5];exact (Below.refl _ _).alloc (Nat.le_refl _) _
   have hb35:Below wr.heap.size wr w5:=V.aB h4.av hb5;have hbk:ay w5 w4.heap.size 54 #[.int .i64 p.t,.int .i64 p.t,.bool false,.int .i64 0,.int .u64 p.v]:=by rw[hw5];exact ay.fresh _ _ _
   have hr5:sZ w5 w2.heap.size (.slice A3 (l.take k).length c3) (l.take k):=aG H3.out.1 (Keeps.of_below (S:=fun _=>False) hb35) (fun _ _ h=>h);obtain⟨v6,w6,hrun,hr6,hg6,hx6⟩:=CU (ty:=39) (c:=1) hr5 hbk (by rw[List.length_take];omega) (Nat.le_trans H3.out.2.1.size hb35.size);rw[<-H3.out.2.2] at hr6
   have hb6:Below w2.heap.size w2 w6:=(H3.out.2.1.trans (hb35.mono H3.out.2.1.size)).grown hg6 (Nat.le_trans H3.out.2.1.size hb35.size) (fun q hq=>(hr5.lt q hq).1);have H6:=zh (zN hr6 hb6);rw[hw5] at hrun
   clear hr5 hbk hb35 hb5 hg6 hx6 hr6 hb6 h4 hw5;go_wp2_with (at_builtin;refine wpList_append_run rfl (.tmp 26) (.tmp 39) rfl rfl rfl hrun ?_)
   go_roundw
   case rel=>exact ⟨k+1,J,by go_num,H6.out.1,H6.out.2⟩
   case measure=>simp[intOf]<;>omega
  ·obtain rfl:k=n:=J
   have htk:l.take k=l:=by rw[H2.out.2.2];exact List.take_length
   rw[htk] at hr
   obtain⟨A3,c3,hv3,-,-⟩:=aH hr;have hll:=H2.out.2.2;rw[<-hll] at hv3
   subst hv3;have H3:=zh (zN hr hb);clear hr hb htk hll;go_wp2_with fail;refine(tZ wr A3 k c3 hlen').mono ?_;rintro u w4 ⟨rfl,hb4⟩;have H4:=zh (zN (aG H3.out.1 (Keeps.of_below (S:=fun _=>False) hb4) (fun _ _ h=>h)) (V.aB H3.out.2 hb4));clear hb4;go_wp2_with fail;go_ret2;refine⟨A3,c3,by rw[<-H2.out.2.2];rfl,?_,V.aB H2.out.1 H4.out.2⟩;have:=aN H4.out.1 H2.out.1.size;unfold sZ;rw[<-H2.out.2.2] at this ⊢
   exact this
theorem Gz{B:Nat}{w0 w:World}{e:Nat}{lg:Int}{room limit most:Nat}{x:bM}(h:bG B w0 w e lg room limit most x)(tu:Int)(ht0:0<=tu)(ht1:tu<=1000000)(hab:∀ p ∈ x.L,0<=p.t/\p.t < tu)(hv:∀ p ∈ x.L,0<=p.v/\p.v<=1000000)(hn:x.n<=1000)(hlen:(x.L).length<=65536):
  Calls Tryz.prog 12 #[.pointer (some ⟨e,0,none⟩),.agg (qV tu)] w (Ae w (x.L)):=by
 obtain⟨y,hy⟩:∃ y,y=w.heap.size:=⟨_,rfl⟩
 have o0:=Own.eD w hy 27 #[.pointer (some ⟨e,0,none⟩)] 43 (qV tu)
 have HD:=zh (zN h (zN hab (zN hv o0)));clear h hab hv o0;unfold qV
 go_enter Tryz.func12,Tryz.ntmps12
 go_wp2_with fail;rw[<-hy];clear hy;refine bQ (Own w [(y,27,#[.pointer (some ⟨e,0,none⟩)]),(y+1,43,qV tu)]) HD.out.2.2.2 ?_;intro w1 o1;refine(HD.out.1.call o1.av).none.mono ?_;rintro u w2 ⟨rfl,hb2⟩;have h2:=o1.call hb2;have z0_0:=h2.c 0 0;have z1_0:=h2.c12 1;have H2:=zh h2;clear h2 hb2 o1;go_wp2_with fail;refine(Gh w2 tu ht0 ht1).mono ?_;rintro u w3 ⟨rfl,hb3⟩;have h3:=H2.out.call hb3;clear z0_0 z1_0;have z0_0:=h3.c 0 0;have z1_0:=h3.c12 1;have H3:=zh h3;clear h3 hb3;go_wp2_with fail;refine(Mh (HD.out.1.call H3.out.av) tu HD.out.2.1 HD.out.2.2.1 hn hlen).mono ?_;rintro u w4 ⟨A4,c4,rfl,hr4,hb4⟩;obtain⟨n4,hn4⟩:∃ n,n=(x.L).length:=⟨_,rfl⟩
 have H4:=zh (zN (aN hr4 H3.out.av.size) (zN (V.aB H3.out.av hb4) hn4));rw[<-hn4];clear hr4 hb4 hn4 z0_0 z1_0;go_wp2_with fail;go_ret2;exact⟨A4,c4,by rw[H4.out.2.2];rfl,H4.out.1,H4.out.2.1⟩
structure nZ(v p u:Int)(fl:ByteArray): Prop where
 v1:1<=v
 v2:v<=1000000
 p1:0<=p
 p2:p < v
 u:aP u
 f1:1<=fl.size
 f2:fl.size<=64
theorem Gu(w:World)(v p u:Int)(fl:ByteArray)(h:nZ v p u fl):
  Calls Tryz.prog 292 #[.agg #[Z v,Z p,Z u,.bool true,.string fl]] w fun e w'=>e=.returned (.bool true)/\Below w.heap.size w w':=by
 obtain⟨x,hx⟩:∃ x,x=w.heap.size:=⟨_,rfl⟩
 have o0:=Own.bn w hx 169 #[Z v,Z p,Z u,.bool true,.string fl]
 have h1:=h.v1;have h2:=h.v2;have h3:=h.p1;have h4:=h.p2;have d1:decide (v < 1)=false:=decide_eq_false J;have d2:decide (1099511627776 < v)=false:=decide_eq_false J;have d3:decide (p < 0)=false:=decide_eq_false J;have d4:decide (v<=p)=false:=decide_eq_false J;have HD:=zh (zN o0 h);clear o0 h h1 h2 h3 h4
 go_enter Tryz.func292,Tryz.ntmps292
 go_upto_region 1 with (fail)
 rw[<-hx];clear hx;refine aC (Own w [(x,169,#[Z v,Z p,Z u,.bool true,.string fl])]) HD.out.1 ?_;intro w1 h1;have H1:=zh h1;have z0_0:=h1.c5 0;clear h1;go_upto_region 4 with (fail)
 refine aC (Own w [(x,169,#[Z v,Z p,Z u,.bool true,.string fl])]) (H1.out.call ((Below.refl _ _).alloc (Nat.le_refl _) _)) ?_;clear z0_0;intro w2 h2;have H2:=zh h2;have z0_0:=h2.c5 0;clear h2;go_wp2_with fail;clear z0_0;refine(Jm w2 fl HD.out.2.f1 HD.out.2.f2).mono ?_;rintro e w3 ⟨rfl,hb3⟩;have h3:=H2.out.call hb3;have H3:=zh h3;have z0_0:=h3.c5 0;clear h3 hb3;go_wp2_with fail;clear z0_0;refine(Jq w3 u HD.out.2.u).mono ?_;rintro e w4 ⟨rfl,hb4⟩;have H4:=zh (H3.out.call hb4);clear hb4;go_wp2_with fail;go_ret;exact⟨rfl,H4.out.av⟩
def lq(v p u:Int)(fl:ByteArray): List Value:=[Z v,Z p,Z u,.bool true,.string fl]
structure uP(N R q:Nat)(s:Bool)(la lg:Int): Prop where
 n:N<=1000000
 r:R<=1000000
 q:q<=1000000
 m:V.dx s la lg=true
theorem Ez(w:World)(N R q:Nat)(s:Bool)(la lg:Int)(B g cp:Nat)(v p u:Int)(fl:ByteArray)(hn:uP N R q s la lg)(hT:bN w B (some ⟨g,0,none⟩) 1 cp (lq v p u fl))(hok:nZ v p u fl)(hv:V.dh w):
  Calls Tryz.prog 200 #[.agg (aX N R q s la lg (some ⟨g,0,none⟩) 1 cp)] w fun e w'=>e=.returned (.bool true)/\Below w.heap.size w w':=by
 unfold aX;obtain⟨x,hx⟩:∃ x,x=w.heap.size:=⟨_,rfl⟩
 have o0:=Own.bn w hx 92 #[.int .i64 (N:Nat),.int .i64 (R:Nat),.int .i64 (q:Nat),.bool s,.int .i64 la,.int .i64 lg,.slice none 0 0,.slice (some ⟨g,0,none⟩) 1 cp]
 have HD:=zh (zN o0 (zN hn (zN hT (zN hok hv))));clear o0 hn hT hok hv
 go_enter Tryz.func200,Tryz.ntmps200
 go_wp2_with fail;rw[<-hx];clear hx;refine bQ (Own w [(x,92,#[.int .i64 (N:Nat),.int .i64 (R:Nat),.int .i64 (q:Nat),.bool s,.int .i64 la,.int .i64 lg,.slice none 0 0,.slice (some ⟨g,0,none⟩) 1 cp])]) HD.out.1 ?_;intro w1 h1;obtain⟨hr1,hr2,hr3,hr4,hr5⟩:=V.nW HD.out.2.1.m;refine(V.FR w1 none 0 0 [] s la lg rfl (Sl.nil _ _ _ _) (Nat.le_refl _) J J J).mono ?_;rintro e w2 ⟨v2,rfl,ho2,hb2⟩;have hml:=V.EN s la lg J J;have hmb:=V.Ck s la lg;have hmg:=V.Mv [] HD.out.2.1.m;rw[List.append_nil] at hmg
 rw[List.nil_append] at ho2
 obtain⟨l2,hl2⟩:∃ l2,l2=V.lN s la lg:=⟨_,rfl⟩
 rw[<-hl2] at ho2 hml hmb hmg
 obtain⟨n2,hn2⟩:∃ n2,n2=l2.length:=⟨_,rfl⟩
 rw[<-hn2] at ho2 hml hmg
 obtain⟨A2,c2,hv2,hc2,-⟩:=aH ho2;subst hv2;have h2:=h1.call hb2;have H2:=zh (zN ho2 (zN hb2 (zN h2 (zN hmb (zN hmg hn2)))));clear ho2 hb2 h2 hmb hmg hn2 hl2 h1 hr1 hr2 hr3 hr4 hr5;go_wp2_with fail;refine(V.Mw w2 A2 n2 c2 l2 H2.out.2.2.2.2.2.symm (V.gG H2.out.2.2.2.1) (V.gI H2.out.1) hc2 (V.lY H2.out.1).2 (HD.out.2.2.2.2.below H2.out.2.2.1.av)).mono ?_;rintro e w3 ⟨rfl,hb3⟩;rw[H2.out.2.2.2.2.1];have h3:=H2.out.2.2.1.call hb3;have H3:=zh h3;clear hb3 h3;go_upto_region 2 with (fail)
 obtain⟨y,hy⟩:∃ y,y=w3.heap.size:=⟨_,rfl⟩
 rw[<-hy];refine aC (Own w [(x,92,#[.int .i64 (N:Nat),.int .i64 (R:Nat),.int .i64 (q:Nat),.bool s,.int .i64 la,.int .i64 lg,.slice none 0 0,.slice (some ⟨g,0,none⟩) 1 cp]),(y,79,#[.bool s,.int .i64 la,.int .i64 lg])]) (H3.out.alloc hy _ _) ?_;intro w4 h4;clear hy;have H4:=zh h4;have z0_0:=h4.c8 0;have z1_0:=h4.c3 1;clear h4;go_wp2_with fail;clear z0_0 z1_0;have a5:Below w4.heap.size w4 (w4.alloc (.cells #[.int .i64 (N:Nat),.int .i64 (R:Nat),.int .i64 (q:Nat)] 3)):=(Below.refl _ _).alloc (Nat.le_refl _) _;refine(Jo _ (some ⟨w4.heap.size,0,none⟩) 3 3 (fun j=>if j=0 then (N:Int) else if j=1 then (R:Int) else (q:Int)) (fun _=>⟨w4.heap.size,0,rfl,by simp,fun j hj=>by
   have hb:=ay.fresh w4 3 #[.int .i64 (N:Nat),.int .i64 (R:Nat),.int .i64 (q:Nat)]
   rw[Nat.zero_add,hb.cell j];rcases(show j=0\/j=1\/j=2 by omega) with rfl | rfl | rfl<;>rfl⟩) J (fun j hj=>by
   have h1:=HD.out.2.1.n;have h2:=HD.out.2.1.r;have h3:=HD.out.2.1.q;rcases(show j=0\/j=1\/j=2 by omega) with rfl | rfl | rfl<;>simp<;>omega)).mono ?_
 rintro e w5 ⟨rfl,hb5⟩;have h5:=(H4.out.call a5).call hb5;have H5:=zh h5;have z0_0:=h5.c8 0;have z1_0:=h5.c3 1;clear h5 hb5 a5;go_wp2_with fail;clear z0_0 z1_0
 go_loopw [6,7] (fun b i wr=>b=.bool true/\i=.int .i64 0/\Own w [(x,92,#[.int .i64 (N:Nat),.int .i64 (R:Nat),.int .i64 (q:Nat),.bool s,.int .i64 la,.int .i64 lg,.slice none 0 0,.slice (some ⟨g,0,none⟩) 1 cp]),(y,79,#[.bool s,.int .i64 la,.int .i64 lg])] wr) (fun _ i _=>(intOf i).toNat)
 case atStart=>exact ⟨rfl,rfl,H5.out⟩
 case round=>
  obtain⟨rfl,rfl,hw⟩:=hrel;have hW:=zh hw;have z0_0:=hw.c8 0;have z1_0:=hw.c3 1;clear hw;go_wp2_with fail;clear z0_0 z1_0
  go_loopw [6,8] (fun b i wr=>∃ k:Nat,k<=1/\b=.bool true/\i=.int .i64 (k:Nat)/\Own w [(x,92,#[.int .i64 (N:Nat),.int .i64 (R:Nat),.int .i64 (q:Nat),.bool s,.int .i64 la,.int .i64 lg,.slice none 0 0,.slice (some ⟨g,0,none⟩) 1 cp]),(y,79,#[.bool s,.int .i64 la,.int .i64 lg])] wr) (fun _ i _=>1-(intOf i).toNat)
  case atStart=>exact ⟨0,J,rfl,rfl,hW.out⟩
  case round=>
   obtain⟨k,hk2,rfl,rfl,hw⟩:=hrel
   by_cases hlt:k < 1
   ·obtain rfl:k=0:=J
    have hTr:=HD.out.2.2.1.call hw.av;have f0:=hTr.cell rfl (j:=0) rfl;have f1:=hTr.cell rfl (j:=1) rfl;have f2:=hTr.cell rfl (j:=2) rfl;have f3:=hTr.cell rfl (j:=3) rfl;have f4:=hTr.cell rfl (j:=4) rfl;have hW2:=zh hw;have z0_0:=hw.c8 0;have z1_0:=hw.c3 1;clear hw hTr;go_wp2_with fail;refine(Gu wr v p u fl HD.out.2.2.2.1).mono ?_;rintro e w6 ⟨rfl,hb6⟩;have H6:=zh (hW2.out.call hb6);clear hb6 z0_0 z1_0 f0 f1 f2 f3 f4;go_wp2_with fail
    go_roundw
    case rel=>exact ⟨1,J,rfl,by first | rfl | go_num,H6.out⟩
    case measure=>simp[intOf]
   ·obtain rfl:k=1:=J
    have hW2:=zh hw;have z0_0:=hw.c8 0;have z1_0:=hw.c3 1;clear hw;go_wp2_with fail;go_ret;exact⟨rfl,hW2.out.av⟩
theorem Em(w:World)(N R q:Nat)(s:Bool)(la lg:Int)(B g cp:Nat)(v p u:Int)(fl:ByteArray)(hn:uP N R q s la lg)(hT:bN w B (some ⟨g,0,none⟩) 1 cp (lq v p u fl))(hok:nZ v p u fl)(hv:V.dh w):
  Calls Tryz.prog 217 #[.agg (aX N R q s la lg (some ⟨g,0,none⟩) 1 cp)] w (RA w 2):=by
 obtain⟨x,hx⟩:∃ x,x=w.heap.size:=⟨_,rfl⟩
 have o0:=Own.bn w hx 92 (aX N R q s la lg (some ⟨g,0,none⟩) 1 cp);have nt:∀ w:World,(Op.unary .not (.bool true)).run Tryz.prog w=.ok (.bool false) w:=bJ
 have HD:=zh (zN o0 (zN hn (zN hT (zN hok hv))));obtain⟨z0_0,z0_1,z0_2,z0_3,z0_4,z0_5,z0_6,z0_7⟩:=o0.c8 0;clear o0 hn hT hok hv;unfold aX
 go_enter Tryz.func217,Tryz.ntmps217
 go_wp2_with fail;rw[<-hx];clear hx;refine bQ (Own w [(x,92,aX N R q s la lg (some ⟨g,0,none⟩) 1 cp)]) HD.out.1 ?_;intro w1 h1;have H1:=zh h1;clear h1 z0_0 z0_1 z0_2 z0_3 z0_4 z0_5 z0_6 z0_7;refine(Ez w1 N R q s la lg B g cp v p u fl HD.out.2.1 (HD.out.2.2.1.call H1.out.av) HD.out.2.2.2.1 (HD.out.2.2.2.2.below H1.out.av)).mono ?_;rintro e w2 ⟨rfl,hb2⟩;have H2:=zh (H1.out.call hb2);clear hb2;go_upto_region 4 with (fail)
 obtain⟨xb,hxb⟩:∃ xb,xb=w2.heap.size:=⟨_,rfl⟩
 rw[<-hxb];refine aC (fJ w [(x,92,aX N R q s la lg (some ⟨g,0,none⟩) 1 cp)] xb (.slice none 0 0) []) ⟨(H2.out.alloc hxb 72 #[.slice none 0 0]).front 1 rfl,Q8 _ _,fun b hb=>by cases hb⟩ ?_;intro w3 h3;have H3:=zh h3;obtain⟨z1_0,z1_1,z1_2,z1_3,z1_4,z1_5,z1_6,z1_7⟩:=h3.own.c8 1;clear h3 hxb;go_wp2_with fail;clear z1_0 z1_1 z1_2 z1_3 z1_4 z1_5 z1_6 z1_7;refine(ko w w3 [(x,92,aX N R q s la lg (some ⟨g,0,none⟩) 1 cp)] xb _ [] N H3.out (by first | omega | (simp;done)) (by have:=HD.out.2.1.n;have:=HD.out.2.1.r;have:=HD.out.2.1.q;omega)).mono ?_;rintro e w4 ⟨rfl,v4,b4,h4,l4⟩;have l4:b4.length<=10:=by first | omega | (simp at l4;omega)
 obtain⟨A4,c4,rfl,hc4⟩:=h4.form;have H4:=zh h4;have z0_0:=h4.own.c 0 0;obtain⟨z1_0,z1_1,z1_2,z1_3,z1_4,z1_5,z1_6,z1_7⟩:=h4.own.c8 1;clear h4;go_wp2_with fail;clear z0_0;clear z1_0 z1_1 z1_2 z1_3 z1_4 z1_5 z1_6 z1_7;refine(ko w w4 [(x,92,aX N R q s la lg (some ⟨g,0,none⟩) 1 cp)] xb _ b4 R H4.out (by first | omega | (simp;done)) (by have:=HD.out.2.1.n;have:=HD.out.2.1.r;have:=HD.out.2.1.q;omega)).mono ?_;rintro e w5 ⟨rfl,v5,b5,h5,l5⟩;have l5:b5.length<=20:=by first | omega | (simp at l5;omega)
 obtain⟨A5,c5,rfl,hc5⟩:=h5.form;have H5:=zh h5;have z0_0:=h5.own.c 0 0;obtain⟨z1_0,z1_1,z1_2,z1_3,z1_4,z1_5,z1_6,z1_7⟩:=h5.own.c8 1;clear h5;go_wp2_with fail;clear z0_0;clear z1_0 z1_1 z1_2 z1_3 z1_4 z1_5 z1_6 z1_7;refine(ko w w5 [(x,92,aX N R q s la lg (some ⟨g,0,none⟩) 1 cp)] xb _ b5 q H5.out (by first | omega | (simp;done)) (by have:=HD.out.2.1.n;have:=HD.out.2.1.r;have:=HD.out.2.1.q;omega)).mono ?_;rintro e w6 ⟨rfl,v6,b6,h6,l6⟩;have l6:b6.length<=30:=by first | omega | (simp at l6;omega)
 obtain⟨A6,c6,rfl,hc6⟩:=h6.form;have H6:=zh h6;have z0_0:=h6.own.c 0 0;obtain⟨z1_0,z1_1,z1_2,z1_3,z1_4,z1_5,z1_6,z1_7⟩:=h6.own.c8 1;clear h6;go_wp2_with fail;clear z0_0 z1_0 z1_1 z1_2 z1_3 z1_4 z1_5 z1_6 z1_7;obtain⟨hr1,hr2,hr3,hr4,hr5⟩:=V.nW HD.out.2.1.m;have hml:=V.EN s la lg J J;refine(V.FR w6 A6 b6.length c6 b6 s la lg rfl (V.gI (V.cO H6.out.row (Below.refl _ _))) hc6 J J J).mono ?_;rintro e w7 ⟨v7,rfl,ho7,hb7⟩;have hby:=jd H6.out.byte (V.Ck s la lg);have hll:(b6 ++ V.lN s la lg).length<=60:=by rw[List.length_append];omega
 clear hr1 hr2 hr3 hr4 hr5 hml;obtain⟨b8,hb8⟩:∃ l1,l1=b6 ++ V.lN s la lg:=⟨_,rfl⟩
 rw[<-hb8] at ho7 hby hll
 obtain⟨A8,c8,hv8,hc8,-⟩:=aH ho7;subst hv8;have hP:=H6.out.put hb7 ho7 hby;have u1:=(H6.out.call hb7).own.cell 0 0 rfl rfl;have uf:=(H6.out.call hb7).own.free 0 rfl;obtain⟨w8,hw8⟩:∃ w8,w8=(w7).setCell ⟨xb,0,none⟩ (.slice A8 b8.length c8):=⟨_,rfl⟩
 rw[<-hw8] at hP
 have H8:=zh hP;have HW8:=zh hw8;have z0_0:=hP.own.c 0 0;obtain⟨z1_0,z1_1,z1_2,z1_3,z1_4,z1_5,z1_6,z1_7⟩:=hP.own.c8 1;clear hP hb8 hw8 ho7 hb7 hby;have l8:=hll;clear hll;go_wp2_with (rw[<-HW8.out]);clear u1 uf z0_0;clear z1_0 z1_1 z1_2 z1_3 z1_4 z1_5 z1_6 z1_7;refine(ko w w8 [(x,92,aX N R q s la lg (some ⟨g,0,none⟩) 1 cp)] xb _ b8 0 H8.out (by first | omega | (simp;done)) (by have:=HD.out.2.1.n;have:=HD.out.2.1.r;have:=HD.out.2.1.q;omega)).mono ?_;rintro e w9 ⟨rfl,v9,b9,h9,l9⟩;have l9:b9.length<=70:=by first | omega | (simp at l9;omega)
 obtain⟨A9,c9,rfl,hc9⟩:=h9.form;have H9:=zh h9;have z0_0:=h9.own.c 0 0;obtain⟨z1_0,z1_1,z1_2,z1_3,z1_4,z1_5,z1_6,z1_7⟩:=h9.own.c8 1;clear h9;go_wp2_with fail;clear z0_0 z1_0 z1_1 z1_2 z1_3 z1_4 z1_5 z1_6 z1_7
 go_loopw [38] (fun i wr=>i=.int .i64 0/\fJ w [(x,92,aX N R q s la lg (some ⟨g,0,none⟩) 1 cp)] xb (.slice A9 b9.length c9) b9 wr) (fun i _=>(intOf i).toNat)
 case atStart=>exact ⟨rfl,H9.out⟩
 case round=>
  obtain⟨rfl,hB⟩:=hrel;have HW:=zh hB;obtain⟨z1_0,z1_1,z1_2,z1_3,z1_4,z1_5,z1_6,z1_7⟩:=hB.own.c8 1;clear hB;go_wp2_with fail;clear z1_0 z1_1 z1_2 z1_3 z1_4 z1_5 z1_6 z1_7;refine(ko w wr _ xb _ b9 1 HW.out J J).mono ?_;rintro e w10 ⟨rfl,v10,b10,h10,l10⟩;have l10:b10.length<=80:=J;obtain⟨A10,c10,rfl,hc10⟩:=h10.form;have H10:=zh h10;obtain⟨z1_0,z1_1,z1_2,z1_3,z1_4,z1_5,z1_6,z1_7⟩:=h10.own.c8 1;clear h10;go_wp2_with fail;clear z1_0 z1_1 z1_2 z1_3 z1_4 z1_5 z1_6 z1_7
  go_loopw [65] (fun i wr=>∃ (k:Nat) (v:Value) (b:List Nat),k<=1/\i=.int .i64 (k:Nat)/\fJ w [(x,92,aX N R q s la lg (some ⟨g,0,none⟩) 1 cp)] xb v b wr/\b.length<=80+114*k) (fun i _=>1-(intOf i).toNat)
  case atStart=>exact ⟨0,_,_,J,rfl,H10.out,J⟩
  case round=>
   obtain⟨k,v0,b,hk,rfl,hB,lb⟩:=hrel
   by_cases hlt:k < 1
   ·obtain rfl:k=0:=J
    have hTr:=HD.out.2.2.1.call hB.own.av;have f0:=hTr.cell rfl (j:=0) rfl;have f1:=hTr.cell rfl (j:=1) rfl;have f2:=hTr.cell rfl (j:=2) rfl;have f3:=hTr.cell rfl (j:=3) rfl;have f4:=hTr.cell rfl (j:=4) rfl;obtain⟨Ab,cb,rfl,hcb⟩:=hB.form;have HW2:=zh hB;clear hB hTr;obtain⟨vN,hvN⟩:∃ m:Nat,v=(m:Int):=⟨v.toNat,by have:=HD.out.2.2.2.1.v1;omega⟩
    obtain⟨pN,hpN⟩:∃ m:Nat,p=(m:Int):=⟨p.toNat,by have:=HD.out.2.2.2.1.p1;omega⟩
    rw[hvN] at f0
    rw[hpN] at f1
    go_upto_region 20 with (fail)
    obtain⟨y,hy⟩:∃ y,y=wr.heap.size:=⟨_,rfl⟩
    rw[<-hy];refine aC (fJ w [(x,92,aX N R q s la lg (some ⟨g,0,none⟩) 1 cp),(y,169,#[.int .i64 (vN:Nat),.int .i64 (pN:Nat),.int .i64 u,.bool true,.string fl])] xb (.slice Ab b.length cb) b) (HW2.out.alloc hy _ _) ?_;intro w11 h11;clear hy f0 f1 f2 f3 f4;have H11:=zh h11;obtain⟨z2_0,z2_1,z2_2,z2_3,z2_4⟩:=h11.own.c5 2;clear h11;go_wp2_with fail;clear z2_0 z2_1 z2_2 z2_3 z2_4;refine(ko w w11 _ xb _ b vN H11.out J (by have:=HD.out.2.2.2.1.v2;have:=HD.out.2.2.2.1.p2;omega)).mono ?_;rintro e w12 ⟨rfl,v12,b12,h12,l12⟩;obtain⟨A12,c12,rfl,hc12⟩:=h12.form;have H12:=zh h12;obtain⟨z2_0,z2_1,z2_2,z2_3,z2_4⟩:=h12.own.c5 2;clear h12;go_wp2_with fail;clear z2_0 z2_1 z2_2 z2_3 z2_4;refine(ko w w12 _ xb _ b12 pN H12.out J (by have:=HD.out.2.2.2.1.v2;have:=HD.out.2.2.2.1.p2;omega)).mono ?_;rintro e w13 ⟨rfl,v13,b13,h13,l13⟩;obtain⟨A13,c13,rfl,hc13⟩:=h13.form;have H13:=zh h13;obtain⟨z2_0,z2_1,z2_2,z2_3,z2_4⟩:=h13.own.c5 2;clear h13;go_wp2_with fail;clear z2_0 z2_1 z2_2 z2_3 z2_4;refine(ko w w13 _ xb _ b13 1 H13.out J (by have:=HD.out.2.2.2.1.v2;have:=HD.out.2.2.2.1.p2;omega)).mono ?_;rintro e w14 ⟨rfl,v14,b14,h14,l14⟩;obtain⟨A14,c14,rfl,hc14⟩:=h14.form;have H14:=zh h14;obtain⟨z2_0,z2_1,z2_2,z2_3,z2_4⟩:=h14.own.c5 2;clear h14;clear z2_0 z2_1 z2_2 z2_3 z2_4;go_upto_region 24 with (fail)
    have hu1:=HD.out.2.2.2.1.u.1;have hu2:=HD.out.2.2.2.1.u.2;have hS:=H14.out.drew.own.sub (List.sublist_cons_self _ _);have u0:=H14.out.drew.own.c 0 0;have hS:(Own w [(x,92,aX N R q s la lg (some ⟨g,0,none⟩) 1 cp),(y,169,#[.int .i64 (vN:Nat),.int .i64 (pN:Nat),.int .i64 u,.bool true,.string fl])]) (w14.drew):=hS;refine aA (Own w [(x,92,aX N R q s la lg (some ⟨g,0,none⟩) 1 cp),(y,169,#[.int .i64 (vN:Nat),.int .i64 (pN:Nat),.int .i64 u,.bool true,.string fl])]) (by kernel_rfl) hS ?_;refine zB [1,2,4,5] ?_;iterate 4 (refine zV ?_ ?_ hS ?_;rotate_left;(intro w' hSw;have u2:=hSw.c 1 2;have u4:=hSw.c 1 4;go_simp<;>with_reducible rfl);try simp only[zP])
    refine zE ?_;refine zC 0 fun K HK=>?_
    go_simp;go_wp2_with fail;refine HK.out.zt (Own w [(x,92,aX N R q s la lg (some ⟨g,0,none⟩) 1 cp),(y,169,#[.int .i64 (vN:Nat),.int .i64 (pN:Nat),.int .i64 u,.bool true,.string fl])]) (fun _ h=>h) (hS) ?_;clear HK hS;intro hS;try simp only[zP]
    clear u0;refine zC 3 fun K HK=>?_
    go_simp;refine(V.eG w14.drew A14 b14.length c14 b14 u rfl (V.gI (V.cO H14.out.row (Below.refl _ _).drew)) hc14 J J J).mono ?_;rintro e w15 ⟨v15,rfl,ho15,hb15⟩;have hll:(b14 ++ V.aF (zig u)).length<=b14.length+10:=by
     have h1:=V.aK (u:=zig u) (dJ J J);rw[List.length_append];omega
    have hby:=jd H14.out.byte (V.bH (zig u));obtain⟨b15,hb15e⟩:∃ l,l=b14 ++ V.aF (zig u):=⟨_,rfl⟩
    rw[<-hb15e] at ho15 hll hby
    obtain⟨A15,c15,hv15,hc15,-⟩:=aH ho15;subst hv15;have H15:=zh (zN ho15 (zN (H14.out.drew.call hb15) hby));have l15:=hll;clear ho15 hb15 hll hby hb15e;go_wp2_with fail;refine HK.out.zt (Own w [(x,92,aX N R q s la lg (some ⟨g,0,none⟩) 1 cp),(y,169,#[.int .i64 (vN:Nat),.int .i64 (pN:Nat),.int .i64 u,.bool true,.string fl])]) (fun _ h=>h) (H15.out.2.1.own.sub (List.sublist_cons_self _ _)) ?_;clear HK hS;intro hS;try simp only[zP]
    refine zC 6 fun K HK=>?_
    go_simp;refine(V.rX w15 A15 b15.length c15 b15 fl rfl (V.gI H15.out.1) hc15 J (by have:=HD.out.2.2.2.1.f2;omega)).mono ?_;rintro e w16 ⟨v16,rfl,ho16,hb16⟩;have hll:(b15 ++ V.aF fl.size ++ V.txt fl).length<=b15.length+74:=by
     have h1:=V.aK (u:=fl.size) (by have:=HD.out.2.2.2.1.f2;omega);have h2:=V.fD fl;have h3:=HD.out.2.2.2.1.f2;rw[List.length_append,List.length_append];omega
    have hby:=jd (jd H15.out.2.2 (V.bH fl.size)) (V.nL fl);obtain⟨b16,hb16e⟩:∃ l,l=b15 ++ V.aF fl.size ++ V.txt fl:=⟨_,rfl⟩
    rw[<-hb16e] at ho16 hll hby
    obtain⟨A16,c16,hv16,hc16,-⟩:=aH ho16;subst hv16;have HB16:=zh (zN ho16 (zN hb16 hby));have l16:=hll;have hP:=H15.out.2.1.put hb16 ho16 hby;have u1:=(H15.out.2.1.call hb16).own.cell 0 0 rfl rfl;have uf:=(H15.out.2.1.call hb16).own.free 0 rfl;obtain⟨w17,hw17⟩:∃ w8,w8=w16.setCell ⟨xb,0,none⟩ (.slice A16 b16.length c16):=⟨_,rfl⟩
    rw[<-hw17] at hP
    have H16:=zh (H15.out.2.1.call hb16);have H17:=zh hP;have HW17:=zh hw17;clear hP hw17 ho16 hb16 hll hby hb16e;go_wp2_with fail;refine HK.out.zt (Own w [(x,92,aX N R q s la lg (some ⟨g,0,none⟩) 1 cp),(y,169,#[.int .i64 (vN:Nat),.int .i64 (pN:Nat),.int .i64 u,.bool true,.string fl])]) (fun _ h=>h) (H16.out.own.sub (List.sublist_cons_self _ _)) ?_;clear HK hS;intro hS;try simp only[zP]
    refine zC 7 fun K HK=>?_
    go_simp;rw[<-HW17.out];go_wp2_with fail;refine HK.out.zt (Own w [(x,92,aX N R q s la lg (some ⟨g,0,none⟩) 1 cp),(y,169,#[.int .i64 (vN:Nat),.int .i64 (pN:Nat),.int .i64 u,.bool true,.string fl])]) (fun _ h=>h) (H17.out.own.sub (List.sublist_cons_self _ _)) ?_;clear HK hS;intro hS;try simp only[zP]
    refine zD ?_;try simp only[zP]
    clear u1 uf hS;have H18:=zh (fJ.drop (L:=[(x,92,aX N R q s la lg (some ⟨g,0,none⟩) 1 cp)]) (M:=[(y,169,#[.int .i64 (vN:Nat),.int .i64 (pN:Nat),.int .i64 u,.bool true,.string fl])]) H17.out);go_wp2_with fail
    go_roundw
    case rel=>exact ⟨1,_,b16,J,by first | rfl | go_num,H18.out,J⟩
    case measure=>simp[intOf]
   ·obtain rfl:k=1:=J
    obtain⟨Ab,cb,rfl,hcb⟩:=hB.form;have H11:=zh hB;have u0:=hB.own.c 0 0;clear hB;go_wp2_with fail;refine(F.wL _ 7 Ab b.length cb (fun q=>q < _) b rfl (V.gI H11.out.row) (V.gG H11.out.byte) J J).mono ?_;rintro e w12 ⟨A12,c12,rfl,ho12,hk12⟩;have H12:=zh (zN ho12 hk12);clear ho12 hk12 u0;go_wp2_with fail;go_ret2;refine⟨A12,c12,_,rfl,?_,aN H12.out.1 H11.out.own.av.size,H11.out.own.av.trans (H12.out.2.fF.mono H11.out.own.av.size)⟩;rw[F.bT];omega
theorem JK(w:World)(d M:Nat)(p:ByteArray->Option FS)(room T G:Nat)(N R q:Nat)(s:Bool)(la lg:Int)(B g cp:Nat)(v p0 u:Int)(fl:ByteArray)(hD:bD w d M p room T G)(hN:fb p iI=none)(hn:uP N R q s la lg)(hfl:bN w B (some ⟨g,0,none⟩) 1 cp (lq v p0 u fl))(hpl:nZ v p0 u fl)(hv:V.dh w)(hT:T+(100+53*2)<=1048576)(hr1:1048576<=room)(hr:room<=1073741824)(hG:G+2 < 512):
  Calls Tryz.prog 157 #[.pointer (some ⟨d,0,none⟩),.agg (aX N R q s la lg (some ⟨g,0,none⟩) 1 cp)] w (Nu w d M p room T G 2):=by
 obtain⟨x,hx⟩:∃ x,x=w.heap.size:=⟨_,rfl⟩
 have o0:=Own.eD w hx 23 #[.pointer (some ⟨d,0,none⟩)] 92 (aX N R q s la lg (some ⟨g,0,none⟩) 1 cp)
 have HD:=zh (zN hD (zN hN (zN hn (zN hfl (zN hpl (zN hv (zN o0 hx)))))));have u0:((w.alloc (.cells #[.pointer (some ⟨d,0,none⟩)] 23)).alloc (.cells (aX N R q s la lg (some ⟨g,0,none⟩) 1 cp) 92)).cell? ⟨x,0,none⟩=some (.pointer (some ⟨d,0,none⟩)):=o0.cell 0 0 rfl rfl;clear hD hN hn hfl hpl hv o0;unfold aX at u0 ⊢
 go_enter Tryz.func157,Tryz.ntmps157
 go_wp2_with fail;rw[<-hx];clear hx u0;refine bQ (Own w [(x,23,#[.pointer (some ⟨d,0,none⟩)]),(x+1,92,aX N R q s la lg (some ⟨g,0,none⟩) 1 cp)]) HD.out.2.2.2.2.2.2.1 ?_;intro w1 h1;refine(jA w1 d M iI p room T G (HD.out.1.call h1.av) HD.out.2.1 (by decide)).mono ?_;rintro e w2 ⟨rfl,hb2⟩;have h2:=h1.call hb2;have H2:=zh h2;have z0_0:=h2.c 0 0;have z1_0:=h2.c8 1;clear h1 h2 hb2;go_wp2_with fail;clear z0_0 z1_0;have hby:=Em w2 N R q s la lg B g cp v p0 u fl HD.out.2.2.1 (HD.out.2.2.2.1.call H2.out.av) HD.out.2.2.2.2.1 (HD.out.2.2.2.2.2.1.below H2.out.av);unfold aX at hby
 refine hby.mono ?_;clear hby;rintro e w3 ⟨A3,c3,bs,rfl,hl3,hr3,hb3⟩;obtain⟨n3,hn3⟩:∃ n,n=bs.length:=⟨_,rfl⟩
 rw[<-hn3] at hl3 hr3 ⊢
 have H3:=zh (zN hr3 (zN (H2.out.call hb3) (zN hn3 (aN hr3 H2.out.size))));clear hr3 hb3 hn3;go_upto_region 5 with (fail)
 obtain⟨x7,hx7⟩:∃ x,x=w3.heap.size:=⟨_,rfl⟩
 have o4:=(H3.out.2.1.alloc hx7 72 #[.slice A3 n3 c3]).alloc (g:=x7+1) (by rw[hx7];simp) 24 #[Z 0]
 have al:Below w3.heap.size w3 ((w3.alloc (.cells #[.slice A3 n3 c3] 72)).alloc (.cells #[Z 0] 24)):=((Below.refl _ _).alloc (Nat.le_refl _) _).alloc (by simp) _;refine aC (fun wx=>uG w wx d M p p room T G (fb p) x x7 (x7+1) A3 n3 c3 bs) ⟨HD.out.1.call o4.av,DStep.of_below o4.av,rfl,⟨o4.get 0 rfl,o4.get 2 rfl,o4.get 3 rfl,V.cO (aN H3.out.1 (Nat.zero_le _)) al⟩,fun q hq=>HD.out.1.fresh (by
  rcases hq with rfl | rfl | rfl | hq
  ·exact o4.geq 0 rfl
  ·exact o4.geq 2 rfl
  ·exact o4.geq 3 rfl
  ·exact (H3.out.2.2.2.lt q hq).1)⟩ ?_
 intro w4 h4;rw[<-hx7];have hx8:w.heap.size<=x7+1:=o4.geq 3 rfl;clear o4 al hx7;have H4:=zh h4;have u8:w4.cell? ⟨x7+1,0,none⟩=some (Z 0):=h4.sv.b8.cell 0;clear h4;go_wp2_with fail;clear u8;have hc4:=x9 w4 (x7+1) 237 #[.pointer (some ⟨x,0,none⟩),.pointer (some ⟨x7,0,none⟩)] (fun wx=>∃ p2,uG w wx d M p p2 room (T+n3) (G+1) (aV (fb p) iI ((fb p iI).getD [] ++ bs)) x x7 (x7+1) A3 n3 c3 bs) H4.out.sv.b8 (fun _=>by kernel_rfl)
  ((JH w4 d M p room T G x x7 n3 c3 A3 bs (H4.out.sv.b2.cell 0) (H4.out.sv.b7.cell 0) H4.out.dt H3.out.2.2.1.symm (H4.out.sl H3.out.2.2.1.symm) J hr1 hr J).mono (by
   rintro e wx ⟨rfl,p2,hd2,hs2,hf2⟩;exact⟨rfl,p2,H4.out.op hd2 hs2 hf2⟩)) (fun wx hx=>by obtain ⟨p2,h⟩:=hx;exact h.sv.b8)
 refine hc4.mono ?_;clear hc4;rintro e w5 ⟨rfl,wx,⟨p2,hx2⟩,hk,hb⟩;have H5:=zh (hx2.x8 hk hb hx8);clear hx2 hk hb;go_wp2_with fail;have hf5:fb p2 iI=some ((fb p iI).getD [] ++ bs):=by rw[H5.out.fe];exact iB _ _ _
 have hc5:=x9 w5 (x7+1) 238 #[.pointer (some ⟨x,0,none⟩)] (fun wx=>∃ p3,uG w wx d M p p3 room (T+n3) (G+2) (aV (fb p) iI ((fb p iI).getD [] ++ bs)) x x7 (x7+1) A3 n3 c3 bs) H5.out.sv.b8 (fun _=>by kernel_rfl)
  ((JI w5 d M p2 room (T+n3) (G+1) x _ (H5.out.sv.b2.cell 0) H5.out.dt hf5 J J).mono (by
   rintro e wx ⟨rfl,p3,hd2,hs2,hf2⟩;exact⟨rfl,p3,H5.out.op hd2 hs2 (hf2.trans H5.out.fe)⟩)) (fun wx hx=>by obtain ⟨p2,h⟩:=hx;exact h.sv.b8)
 refine hc5.mono ?_;clear hc5;rintro e w6 ⟨rfl,wx,⟨p3,hx2⟩,hk,hb⟩;have H6:=zh (hx2.x8 hk hb hx8);clear hx2 hk hb hf5;go_wp2_with fail;have hf6:fb p3 iI=some ((fb p iI).getD [] ++ bs):=by rw[H6.out.fe];exact iB _ _ _
 have hc6:=x9 w6 (x7+1) 239 #[.pointer (some ⟨x,0,none⟩)] (fun wx=>∃ p4,uG w wx d M p p4 room (T+n3) (G+3) (aV (fb p) oQ bs) x x7 (x7+1) A3 n3 c3 bs) H6.out.sv.b8 (fun _=>by kernel_rfl)
  ((JJ w6 d M p3 room (T+n3) (G+2) x _ (H6.out.sv.b2.cell 0) H6.out.dt hf6 J J).mono (by
   rintro e wx ⟨rfl,p4,hd2,hs2,hf2⟩;refine⟨rfl,p4,H6.out.op hd2 hs2 (hf2.trans ?_)⟩;have e2:=Ku (fb p) bs HD.out.2.1;rw[H6.out.fe];rw[HD.out.2.1] at e2 ⊢
   exact e2)) (fun wx hx=>by obtain ⟨p2,h⟩:=hx;exact h.sv.b8)
 refine hc6.mono ?_;clear hc6;rintro e w7 ⟨rfl,wx,⟨p4,hx2⟩,hk,hb⟩;have h7:=hx2.x8 hk hb hx8;have H7:=zh h7;have u8:w7.cell? ⟨x7+1,0,none⟩=some (Z 0):=h7.sv.b8.cell 0;clear hx2 hk hb hf6 h7;go_wp2_with fail;go_ret;exact⟨rfl,p4,bs,H7.out.dt.more J (Nat.le_refl _),H7.out.st,H7.out.fe⟩
end
end Go.Proofs.YtmffkpkgbdcnjaaGreatDoor
