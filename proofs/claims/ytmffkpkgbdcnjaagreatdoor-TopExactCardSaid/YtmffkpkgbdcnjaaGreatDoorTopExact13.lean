/-
  Proved: sums of the greatest and least values are exact, by points and by a tier's buckets: for all signs and all widths
  No condition beyond those of the given row. (The frame follows the kit's proof-skeleton; the walk is the text TopExactW of this claim.)
-/
import Derived.Test.YtmffkpkgbdcnjaaGreatDoorTopExact10
import Derived.Test.YtmffkpkgbdcnjaaGreatDoorTopExact11
import Derived.Test.YtmffkpkgbdcnjaaGreatDoorTopExact12
set_option linter.unusedVariables false
set_option linter.unusedSimpArgs false
set_option maxRecDepth 100000
set_option maxHeartbeats 20000000
namespace Go.Proofs.YtmffkpkgbdcnjaaGreatDoor
section
open Go.RowKit Go.Maps A
def yE(w:World)(W:Int)(s:Int->Option Ag)(e:Ending)(w':World): Prop:=
 ∃ (d:Array (Int × Ag)) (b:Bool) (A:Option Addr) (c:Nat) (At:Option Addr) (ct:Nat),e=.returned (.tuple #[.slice A b.toNat c,Z 0])/\b=decide (0 < d.size)/\P1 w' A b.toNat aY At ct d.size (qd W d)/\jG s d/\Below w.heap.size w w'
theorem EF{B:Nat}{w0 w:World}{e:Nat}{lg:Int}{room limit most:Nat}{x:bM}(h:bG B w0 w e lg room limit most x)(hn:0 < x.n)(hn2:x.n<=900)(W a b:Int)(tv:Array Value)(m:Bool)(u0:Int)(fl:ByteArray)(l:List Pt)(hsel:fK (fun j=>x.L.getD j ⟨0,0,0⟩) a b x.n=l)(hinc:Inc l)(hlen:l.length<=900)(hf:∀ p ∈ l,eU p)(hin:∀ p ∈ l,a<=p.t/\p.t < b)(hk:bP W 0)(ha:aP a)(hb:aP b)(hab:a<=b)(ma:(a-0).tmod W=0)(mb:(b-0).tmod W=0):
  Calls Tryz.prog 93 #[.pointer (some ⟨e,0,none⟩),.agg (dP W 0 u0 m fl),.agg #[.int .i64 a,.int .i64 b]] w (yE w W (dS W 0 (fun j=>l.getD j ⟨0,0,0⟩) l.length)):=by
 obtain⟨x0,hx⟩:∃ x,x=w.heap.size:=⟨_,rfl⟩
 have o0:=Own.eD w hx 169 (dP W 0 u0 m fl) 171 #[.int .i64 a,.int .i64 b]
 have k2:∀ wx,Below w.heap.size w wx->Calls Tryz.prog 108 #[.pointer (some ⟨e,0,none⟩),.string aY,.int .i64 a,.int .i64 b] wx (iw wx l):=fun wx hbx=>kD (h.call hbx) a b l hsel hinc J J
 have HD:=zh (zN h (zN o0 (zN hf (zN hin (zN hk (zN ha (zN hb (zN hab (zN ma mb)))))))));obtain⟨n,hnl⟩:∃ n,n=l.length:=⟨_,rfl⟩
 have HN:=zh hnl;rw[<-hnl] at hlen ⊢
 clear h o0 hf hin hk ha hb hab ma mb hsel hinc hnl;unfold dP
 go_enter Tryz.func93,Tryz.ntmps93
 go_upto_region 1 with (fail)
 rw[<-hx];clear hx;refine aC (Own w [(x0,169,dP W 0 u0 m fl),(x0+1,171,#[.int .i64 a,.int .i64 b])]) HD.out.2.1 ?_;intro w1 h1;have H1:=zh h1;clear h1;go_wp2_with fail;refine(Gy (HD.out.1.call H1.out.av) hn).mono ?_;rintro u w2 ⟨A2,c2,rfl,hr2,hb2⟩;obtain⟨A',c',e1,hcc,hg⟩:=aH hr2;injection e1 with ea eb ec
 obtain⟨g,hA',hgb,hgl⟩:=hg J;obtain rfl:A2=some ⟨g,0,none⟩:=ea.trans hA';have v0:=World.ownsRow.cells hr2 (g:=g) rfl 0 _ rfl;rw[iE] at v0
 have H2:=zh (zN (H1.out.call hb2) (zN v0 hgl));clear hr2 hb2 hcc hg hA' hgb hgl ea v0;go_wp2_with fail
 go_loopw [10,26] (fun o i wr=>(i=.int .i64 0/\o=.slice none 0 0/\wr=w2)\/(i=.int .i64 1/\∃ (d:Array (Int × Ag)) (bb:Bool) (A:Option Addr) (c:Nat) (At:Option Addr) (ct:Nat),o=.slice A bb.toNat c/\bb=decide (0 < d.size)/\P1 wr A bb.toNat aY At ct d.size (qd W d)/\jG (dS W 0 (fun j=>l.getD j ⟨0,0,0⟩) n) d/\Below w.heap.size w wr)) (fun _ i _=>1-(intOf i).toNat)
 case atStart=>exact .inl ⟨rfl,rfl,rfl⟩
 case round=>
  rcases hrel with ⟨rfl,rfl,rfl⟩ | ⟨rfl,d,bb,A,c,At,ct,rfl,hbb,hp,hbk,hbel⟩
  ·have v0:=H2.out.2.1
   have h2:=H2.out.1;have z0_0:=h2.c5 0;have z1_0:=h2.c2 1;clear h2;go_wp2_with fail;clear z0_0 z1_0 v0;refine(k2 wr H2.out.1.av).mono ?_;rintro u w3 ⟨A3,c3,rfl,hr3,hb3⟩;rw[<-HN.out] at hr3 ⊢
   have h3:=H2.out.1.call hb3;have z0_0:=h3.c5 0;have z1_0:=h3.c2 1;have H3:=zh (zN h3 hr3);clear h3 hr3 hb3;go_wp2_with fail;clear z0_0 z1_0;refine(JG w3 A3 n c3 l W 0 a b HN.out.symm (by
    have hr:=H3.out.2;have hlt:=hr.fB;rw[HN.out] at hr hlt ⊢
    exact(hr.sl).mono (fun q hq=>(hlt q hq.2).2)) hlen HD.out.2.2.1 HD.out.2.2.2.1 HD.out.2.2.2.2.1 HD.out.2.2.2.2.2.1 HD.out.2.2.2.2.2.2.1 HD.out.2.2.2.2.2.2.2.1 HD.out.2.2.2.2.2.2.2.2.1 HD.out.2.2.2.2.2.2.2.2.2).mono ?_
   rintro u w4 ⟨d,A4,c4,rfl,hr4,hb4,hbk⟩;rw[Ea] at hr4
   have hs4:jw w4 A4 d.size (qd W d):=dL.Fx hr4;have H4:=zh (zN (H3.out.1.call hb4) (zN hs4 hbk));obtain⟨ds,hds⟩:∃ z,z=d.size:=⟨_,rfl⟩
   rw[<-hds];have HDS:=zh hds;clear hr4 hb4 hbk hs4 hds;rcases Nat.eq_zero_or_pos ds with h0 | h0
   ·subst h0
    go_wp2_with fail
    go_roundw
    case rel=>exact .inr ⟨by first | rfl | go_num,d,false,none,0,none,0,rfl,by rw[<-HDS.out];rfl,P1.nil _ _ _ _ _ _,H4.out.2.2,H4.out.1.av⟩
    case measure=>simp[intOf]
   ·have dp:decide ((0:Int) < (ds:Int))=true:=decide_eq_true J
    have hz:w4.ownsRow w.heap.size 266 2 (.slice none 0 0) 0 []:=⟨rfl,.inl ⟨rfl,rfl⟩⟩
    obtain⟨A6,c6,w6,hrun,hap⟩:=iO (P:=Tryz.prog) (w:=w4) (t:=174) (ty:=174) (cs:=#[.string aY,.slice A4 ds c4]) Tryz.underlying174 vH rfl J hz rfl (List.all_eq_true.1 rfl) J J H4.out.1.size;have hr6:=hap.row;rw[List.nil_append] at hr6
    have hb6:Below w4.heap.size w4 w6:=(hap.keeps.mono (fun q _ h=>(nomatch h:False))).fF;have hs6:jw w6 A4 ds (qd W d):=by rw[HDS.out];exact H4.out.2.1.below hb6
    have hp6:P1 w6 A6 (true).toNat aY A4 c4 ds (qd W d):=Kn (b:=true) hr6 (fun _=>hs6);have H6:=zh (zN hp6 (V.aB H4.out.1.av hb6));clear hz hap hr6 hb6 hs6 hp6;go_wp2_with (at_builtin;refine wpList_append_run rfl (.tmp 59) (.tmp 63) rfl rfl rfl hrun ?_)
    go_roundw
    case rel=>exact .inr ⟨by first | rfl | go_num,d,true,A6,c6,A4,c4,rfl,by rw[<-HDS.out];exact (decide_eq_true h0).symm,by rw[<-HDS.out];exact H6.out.1,H4.out.2.2,H6.out.2⟩
    case measure=>simp[intOf]
  ·have HB:=zh (zN hbb (zN hp (zN hbk hbel)))
   clear hbb hp hbk hbel;go_wp2_with fail;go_ret2;exact⟨d,bb,A,c,At,ct,rfl,HB.out⟩
theorem EX(g:Nat->Int): ∀ (n:Nat) (l:List Int),l.Nodup->(∀ x ∈ l,∃ j,j < n/\x=g j)->l.length<=n
 | 0,l,_,h=>by
  match l,h with
  | [],_=>exact Nat.le_refl _
  | x :: l,h=>
   obtain⟨j,hj,-⟩:=h x List.mem_cons_self;exact absurd hj (Nat.not_lt_zero _)
 | n+1,l,hn,h=>by
  have h1:=EX g n (l.erase (g n)) (hn.erase _) (fun x hx=>by
   obtain⟨hne,hm⟩:=(hn.mem_erase_iff).1 hx;obtain⟨j,hj,e⟩:=h x hm;refine⟨j,?_,e⟩;rcases Nat.lt_or_ge j n with h2 | h2
   ·exact h2
   ·obtain rfl:j=n:=J
    exact absurd e hne)
  have h2:=List.length_erase (a:=g n) (l:=l)
  split at h2<;>omega
theorem lK{W O:Int}{f:Nat->Pt}{n:Nat}{d:Array (Int × Ag)}(h:jG (dS W O f n) d): d.size<=n:=by
 have:=EX (fun j=>aD W O (f j).t) n (d.toList.map (·.1)) (DK h) (fun x hx=>by
  obtain⟨p,hp,rfl⟩:=List.mem_map.1 hx;exact wC W O f n p.1 (by rw[h.val p hp];rfl))
 simpa using this
theorem MP{s:Int->Option Ag}{d:Array (Int × Ag)}(h:jG s d)(W:Int){i:Nat}(hi:i < d.size): s (qd W d i).a=some (qd W d i).x:=by
 have hl:i < d.toList.length:=hi;have e:d.toList.getD i (0,aQ)=d.toList[i]:=by rw[List.getD_eq_getElem?_getD,List.getElem?_eq_getElem hl];rfl
 show s (d.toList.getD i (0,aQ)).1=some (d.toList.getD i (0,aQ)).2
 rw[e];exact h.val _ (List.getElem_mem hl)
theorem zG{s:Int->Option Ag}{d:Array (Int × Ag)}(h:jG s d)(W:Int){i j:Nat}(hij:i < j)(hj:j < d.size): (qd W d i).a < (qd W d j).a:=by
 have hl:j < d.toList.length:=hj;have e:∀ i (hi:i < d.toList.length),d.toList.getD i (0,aQ)=d.toList[i]:=fun i hi=>by rw[List.getD_eq_getElem?_getD,List.getElem?_eq_getElem hi];rfl
 show (d.toList.getD i (0,aQ)).1 < (d.toList.getD j (0,aQ)).1
 rw[e i J,e j hl];exact List.pairwise_iff_getElem.1 h.inc i j J hl hij
section
variable {W:Int} {f:Nat->Pt} {n:Nat} {d:Array (Int × Ag)}
theorem uq(hf:∀ j,eU (f j))(ht:∀ j,j < n->0<=(f j).t/\(f j).t<=1000000)(hk:bP W 0)(hn:n<=900)(h:jG (dS W 0 f n) d){i:Nat}(hi:i < d.size): vS W 0 (qd W d i)/\jr (qd W d i).x/\∃ m,0 < m/\m<=n/\iq (qd W d i).x m:=
 QM hf ht hk J (MP h W hi)
theorem Pb(hf:∀ j,eU (f j))(ht:∀ j,j < n->0<=(f j).t/\(f j).t<=1000000)(hk:bP W 0)(hn:n<=900)(h:jG (dS W 0 f n) d){b:Bool}(hb:b=decide (0 < d.size)): sD W 0 b.toNat (fun _=>aY) (fun _=>d.size) (fun _=>qd W d):=by
 have hc:=lK h;have hb1:b.toNat<=1:=by cases b<;>decide
 refine⟨fun _ _=>sK,fun _ _=>by decide,fun j hj=>absurd hj J,fun j hj=>?_,?_,J,fun j hj i hi=>(uq hf ht hk hn h hi).1,fun j hj i hi=>zG h W (Nat.lt_succ_self i) hi⟩
 ·cases b with
  | false=>exact absurd hj (Nat.not_lt_zero _)
  | true=>exact of_decide_eq_true hb.symm
 ·exact Nat.le_trans (Cw (fun _=>d.size) hb1) (by show 0+d.size<=65536;omega)
theorem O9(hf:∀ j,eU (f j))(ht:∀ j,j < n->0<=(f j).t/\(f j).t<=1000000)(hk:bP W 0)(hn:n<=900)(h:jG (dS W 0 f n) d){b:Bool}(hb:b=decide (0 < d.size))(hbt:b=true): pV W 0 aY d.size (qd W d):=by
 have hc:=lK h;have hp:0 < d.size:=of_decide_eq_true (hb ▸ hbt);exact⟨sK,by decide,hp,J,fun i hi=>(uq hf ht hk hn h hi).1,fun i hi=>(uq hf ht hk hn h hi).2.1,fun i hi=>zG h W (Nat.lt_succ_self i) hi⟩
theorem SS(hf:∀ j,eU (f j))(ht:∀ j,j < n->0<=(f j).t/\(f j).t<=1000000)(hk:bP W 0)(hn:n<=900)(h:jG (dS W 0 f n) d)(b:Bool): (F.aZ 8 (rH b aY d.size (qd W d))).length<=120000:=by
 have hc:=lK h;have h2:=tJ (q:=qd W d) d.size (fun j hj=>⟨(uq hf ht hk hn h hj).1.ta,(uq hf ht hk hn h hj).2.1⟩);have h4:=V.aK (u:=aY.size) (by decide);have h6:=V.aK (u:=d.size) J;have h7:=V.fD aY;have h8:aY.size<=64:=by decide
 rw[F.bT]
 cases b with
 | false=>
  rw[vI];have h9:=V.aK (u:=0) J;simp only[List.length_append,List.length_nil];omega
 | true=>
  rw[yt];have h9:=V.aK (u:=1) J;simp only[qJ,List.length_append,List.length_nil];omega
end
theorem wR(c0 c1 c2 c3 c4 c5 c6 c7:Value)(w:World): (Instr.field 92 (.agg #[c0,c1,c2,c3,c4,c5,c6,c7]) 5).run Tryz.prog w=.ok c7 w:=by kernel_rfl
theorem vB(W O t:Int): (aD W O t-O).tmod W=0:=by
 unfold aD;have h:=Int.mul_ediv_add_emod (t-O) W;have e:t-(t-O)%W-O=W*((t-O) / W):=by
  obtain⟨m,hm⟩:∃ m,m=W*((t-O) / W):=⟨_,rfl⟩
  rw[<-hm] at h ⊢
  omega
 rw[e];exact Int.mul_tmod_right W _
theorem Fz{W:Int}(h:1<=W)(h2:W<=1000000): -1152921504606846976<=jN W/\jN W<=-1152921504606846976+W/\(jN W-0).tmod W=0:=by
 have s:=dD (W:=W) (O:=0) ⟨h,J,J,J⟩ (t:=-1152921504606846976);have o:=vB W 0 (-1152921504606846976);unfold jN;obtain⟨L,hL⟩:∃ z,z=aD W 0 (-1152921504606846976):=⟨_,rfl⟩
 rw[<-hL] at s o ⊢
 split
 ·refine ⟨J,J,?_⟩
  have h1:W ∣ L:=by
   rw[Int.sub_zero] at o
   exact Int.dvd_of_tmod_eq_zero o
  rw[Int.sub_zero];exact Int.tmod_eq_zero_of_dvd ((Int.dvd_add_left (Int.dvd_refl W)).2 h1)
 ·exact ⟨J,J,o⟩
theorem Ih{w:World}{A At:Option Addr}{b:Bool}{s:ByteArray}{ct nn nn':Nat}{q:Nat->bC}(h:P1 w A b.toNat s At ct nn q)(hn:b=true->nn=nn'): P1 w A b.toNat s At ct nn' q:=by
 cases b with
 | true=>rw[<-hn rfl];exact h
 | false=>exact ⟨fun h=>absurd h (Nat.lt_irrefl 0),fun j hj=>absurd hj (Nat.not_lt_zero _)⟩
def AV(x:bM)(p':ByteArray->Option FS)(g c:Nat)(W tq:Int)(bs:List Nat): bM:=
 { x with p:=p',T:=x.T+bs.length+(100+53*2),G:=x.G+5,N:=x.N+1,An:=some ⟨g,0,none⟩,nt:=1,cn:=c,ti:=lq W 0 tq (aW 114 x.N),rb:=some bs }
def xR(B:Nat)(w0:World)(e:Nat)(lg:Int)(room limit most:Nat)(x:bM)(W tq:Int)(s:Int->Option Ag)(u:Ending)(w':World): Prop:=
 u=.returned (Z 0)/\∃ (d:Array (Int × Ag)) (bb:Bool) (p':ByteArray->Option FS) (g c:Nat) (bs:List Nat),bb=decide (0 < d.size)/\jG s d/\bs=F.aZ 8 (rH bb aY d.size (qd W d))/\bs.length<=120000/\bG B w0 w' e lg room limit most (AV x p' g c W tq bs)
structure Dr(x:bM)(lg:Int)(room:Nat)(ga:Nat)(W wt:Int)(l:List Pt): Prop where
 an:x.An=some ⟨ga,0,none⟩
 nt:x.nt=1
 ti:x.ti=kT 1 W
 rb:x.rb=none
 n0:x.N=0
 w1:1<=W
 w2:W<=1000
 wa:V.kX x.s x.la lg=wt
 wb:V.oO x.s x.la lg=true
 wt1:0<=wt
 wt2:wt<=1000000
 n1:0 < x.n
 n2:x.n<=900
 sel:fK (fun j=>x.L.getD j ⟨0,0,0⟩) (jN W) (aD W 0 wt) x.n=l
 inc:Inc l
 len:l.length<=900
 ok:∀ p ∈ l,eU p
 inn:∀ p ∈ l,jN W<=p.t/\p.t < aD W 0 wt
 ok2:∀ j,eU (l.getD j ⟨0,0,0⟩)
 tm:∀ j,j < l.length->0<=(l.getD j ⟨0,0,0⟩).t/\(l.getD j ⟨0,0,0⟩).t<=1000000
 hT:x.T+120000+(100+53*2)<=1048576
 hG:x.G+5 < 512
 r1:1048576<=room
 r2:room<=1073741824
 lg:V.dx false 0 lg=true
theorem bG.ef{B:Nat}{w0 w:World}{e:Nat}{lg:Int}{room limit most:Nat}{x:bM}(h:bG B w0 w e lg room limit most x): ¬ aM x.d x.M x.p 0:=fun hf=>by
 have h1:=h.lo _ (.inl hf);have h2:=h.he.2;omega
theorem bG.rolled{B:Nat}{w0 w w':World}{e:Nat}{lg:Int}{room limit most:Nat}{x:bM}(h:bG B w0 w e lg room limit most x){p':ByteArray->Option FS}{g c:Nat}{W tq:Int}{bs:List Nat}(hd:bD w' x.d x.M p' room (x.T+bs.length+(100+53*2)) (x.G+5))(hn:lJ (fb p') (some bs))(hs:iN w' x.st x.d (x.N+1) 0 0 false 0 lg (some ⟨g,0,Option.none⟩) 1 c (lq W 0 tq (aW 114 x.N)))(ts:IW w w' x.st x.d x.M x.p p' g): bG B w0 w' e lg room limit most (AV x p' g c W tq bs) where
 blk:=h.blk.keeps ts.keep (fun hr=>hr.elim (fun hr=>h.de _ hr rfl) (fun hr=>h.se _ (.inl rfl) hr.symm))
 dt:=hd
 sto:=hs
 log:=h.log.keep ts.keep (fun q hq hr=>hr.elim (fun hr=>h.dl _ hr hq) (fun hr=>h.sl _ (.inl hr) hq))
 tab:=h.tab.keep ts.keep (fun q hq hr=>hr.elim (fun hr=>h.Hg _ hr hq) (fun hr=>h.Qk _ (.inl hr) hq))
 mne:=h.mne
 lo:=fun r hr=>by
  rcases hr with hr | hr | hr | hr | hr
  ·rcases Nat.lt_or_ge r w.heap.size with h1 | h1
   ·exact h.lo r (.inl (ts.dfar r h1 hr))
   ·exact Nat.le_trans h.size h1
  ·rcases hr with hr | hr
   ·exact h.lo r (.inr (.inl (.inl hr)))
   ·have hr:g=r:=by
     have hr:some g=some r:=hr;injection hr
    have:=ts.new;have:=h.size;omega
  ·exact h.lo r (.inr (.inr (.inl hr)))
  ·exact h.lo r (.inr (.inr (.inr (.inl hr))))
  ·exact h.lo r (.inr (.inr (.inr (.inr hr))))
 av:=h.av.trans (ts.keep.below h.size (fun k hk hr=>by
  rcases hr with hr | hr
  ·have:=h.lo k (.inl hr);omega
  ·have:=h.lo k (.inr (.inl (.inl hr)));omega))
 hB:=h.hB
 nam:=hn
 inc:=h.inc
 mark:=h.mark
 fsl:=h.fsl
 nm:=h.nm
 he:=h.he
theorem JY{B:Nat}{w0 w:World}{e:Nat}{lg:Int}{room limit most:Nat}{x:bM}(h:bG B w0 w e lg room limit most x){ga:Nat}{W wt:Int}{l:List Pt}(hi:Dr x lg room ga W wt l):
  Calls Tryz.prog 38 #[.pointer (some ⟨e,0,none⟩)] w (xR B w0 e lg room limit most x W (aD W 0 wt) (dS W 0 (fun j=>l.getD j ⟨0,0,0⟩) l.length)):=by
 have nt:∀ w:World,(Op.unary .not (.bool true)).run Tryz.prog w=.ok (.bool false) w:=bJ
 have ff:=wR;have hw1:=hi.w1;have hw2:=hi.w2;have hk:bP W 0:=⟨J,J,J,J⟩
 have sF:=Fz (W:=W) J J;have sT:=dD hk (t:=wt);have oT:=vB W 0 wt;have hsto:∀ wx,Below w.heap.size w wx->iN wx x.st x.d x.N 0 0 false 0 lg (some ⟨ga,0,none⟩) 1 x.cn (kT 1 W):=fun wx hb=>by
  have:=(h.call hb).sto;rw[hi.an,hi.nt,hi.ti] at this
  exact this
 have k1:∀ wx,Below w.heap.size w wx->Calls Tryz.prog 25 #[.pointer (some ⟨x.st,0,none⟩)] wx (qR wx x.N 0 0 false 0 lg 1 (kT 1 W)):=fun wx hb=>rU wx x.st x.d x.N 0 0 false 0 lg _ 1 x.cn _ (hsto wx hb)
 have k2:∀ wx,Below w.heap.size w wx->Calls Tryz.prog 92 #[.pointer (some ⟨e,0,none⟩),.agg (dP W 0 0 false ByteArray.empty)] wx fun u w'=>u=.returned (.tuple #[.agg #[.int .i64 (jN W),.int .i64 (aD W 0 wt)],.bool true])/\Below wx.heap.size wx w':=fun wx hb=>J2 (h.call hb) W wt J J hi.wa hi.wb (by have:=hi.wt1;have:=hi.wt2;omega)
 have k3:∀ wx,Below w.heap.size w wx->Calls Tryz.prog 93 #[.pointer (some ⟨e,0,none⟩),.agg (dP W 0 0 false ByteArray.empty),.agg #[.int .i64 (jN W),.int .i64 (aD W 0 wt)]] wx (yE wx W (dS W 0 (fun j=>l.getD j ⟨0,0,0⟩) l.length)):=fun wx hb=>EF (h.call hb) hi.n1 hi.n2 W (jN W) (aD W 0 wt) #[] false 0 ByteArray.empty l hi.sel hi.inc hi.len hi.ok hi.inn hk ⟨J,J⟩ ⟨by have:=hi.wt1;omega,by have:=hi.wt2;omega⟩ (by have:=hi.wt1;omega) sF.2.2 oT
 have z1:=tO h.blk;have HT:=zh (show aP (aD W 0 wt) from ⟨by have:=hi.wt1;omega,by have:=hi.wt2;omega⟩);have HD:=zh (zN h (zN hi (zN hk hsto)));obtain⟨Fa,hF⟩:∃ z,z=jN W:=⟨_,rfl⟩
 obtain⟨T,hT⟩:∃ z,z=aD W 0 wt:=⟨_,rfl⟩
 rw[<-hF,<-hT] at k2 k3
 rw[<-hT] at HT ⊢
 clear h hi hk hsto sF sT oT hF hT hw1 hw2;unfold dP at k2 k3
 go_enter Tryz.func38,Tryz.ntmps38
 go_wp2_with fail;refine(k1 w (Below.refl _ _)).mono ?_;rintro u w1 ⟨A8,c8,rfl,hT8,hb1⟩;obtain⟨g8,rfl,-,hgl,hc⟩:=hT8.GY;have H1:=zh (zN hb1 hc);clear hT8 hgl hc hb1 z1;unfold aX;go_wp2_with fail
 go_loopw [18] (fun i wr=>i=.int .i64 0/\wr=w1) (fun _ _=>0)
 case atStart=>exact ⟨rfl,rfl⟩
 case round=>
  obtain⟨rfl,rfl⟩:=hrel;have v0:=H1.out.2 0 _ rfl;have v1:=H1.out.2 1 _ rfl;have v2:=H1.out.2 2 _ rfl;have v3:=H1.out.2 3 _ rfl;have v4:=H1.out.2 4 _ rfl;go_upto_region 4 with (fail)
  obtain⟨y,hy⟩:∃ y,y=wr.heap.size:=⟨_,rfl⟩
  have oy:=((Own.start w).call H1.out.1).alloc hy 169 #[.int .i64 W,.int .i64 0,.int .i64 0,.bool false,.string ByteArray.empty]
  rw[<-hy];refine aC (Own w [(y,169,#[.int .i64 W,.int .i64 0,.int .i64 0,.bool false,.string ByteArray.empty])]) oy ?_;clear oy hy v0 v1 v2 v3 v4;intro w2 h2;have z0_0:=h2.c5 0;have H2:=zh h2;clear h2;go_wp2_with fail;clear z0_0;refine(k2 w2 H2.out.av).mono ?_;rintro u w3 ⟨rfl,hb3⟩;have H3:=zh (H2.out.call hb3);clear hb3;go_upto_region 5 with (fail)
  obtain⟨z,hz⟩:∃ y,y=w3.heap.size:=⟨_,rfl⟩
  have oz:=H3.out.alloc hz 171 #[.int .i64 Fa,.int .i64 T]
  rw[<-hz];refine aC (Own w [(y,169,#[.int .i64 W,.int .i64 0,.int .i64 0,.bool false,.string ByteArray.empty]),(z,171,#[.int .i64 Fa,.int .i64 T])]) oz ?_;clear oz hz;intro w4 h4;have z0_0:=h4.c5 0;have z1_0:=h4.c2 1;have H4:=zh h4;clear h4;go_wp2_with fail;clear z0_0 z1_0;refine(k3 w4 H4.out.av).mono ?_;rintro u w5 ⟨d,bb,A5,c5,At,ct,rfl,hbb,hp5,hbk,hb5⟩;have h5:=H4.out.call hb5;have z1:=tO (HD.out.1.call h5.av).blk;obtain⟨n1,hn1⟩:∃ z,z=bb.toNat:=⟨_,rfl⟩
  have hpn:∃ nn,0 < nn/\nn<=900/\(bb=true->nn=d.size)/\P1 w5 A5 bb.toNat aY At ct nn (qd W d):=by
   have hc:=lK hbk;have hl:=HD.out.2.1.len
   cases hb:bb with
   | true=>
    rw[hb] at hbb hp5
    exact⟨d.size,of_decide_eq_true hbb.symm,J,fun _=>rfl,hp5⟩
   | false=>
    rw[hb] at hp5
    exact⟨1,J,J,(fun h=>nomatch h),Ih hp5 (fun h=>nomatch h)⟩
  obtain⟨nn,hnn1,hnn2,hnn3,hpp⟩:=hpn;have H5:=zh (zN h5 (zN hpp (zN hbb (zN hbk (zN hnn1 (zN hnn2 hnn3))))));have HN1:=zh hn1;rw[<-hn1];clear h5 hp5 hb5 hpp hbb hbk hnn1 hnn2 hnn3 hn1;go_wp2_with fail;refine(JM w5 x.st x.d x.N 0 0 false 0 lg ga x.cn W (HD.out.2.2.2 w5 H5.out.1.av)).mono ?_;rintro u w6 ⟨rfl,hb6⟩;have H6:=zh (zN (H5.out.1.call hb6) (H5.out.2.1.below hb6));clear hb6 z1;go_wp2_with fail;refine(kC (HD.out.1.call H6.out.1.av)).mono ?_;rintro u w7 ⟨rfl,hb7⟩;have H7:=zh (zN (H6.out.1.call hb7) (H6.out.2.below hb7));clear hb7;go_wp2_with fail;refine(El w7 (-1152921504606846976)).mono ?_;rintro u w8 ⟨rfl,hb8⟩;have H8:=zh (zN (H7.out.1.call hb8) (H7.out.2.below hb8));clear hb8;go_wp2_with fail;have k5:=Ga w8 A5 bb c5 aY At ct nn (qd W d) H8.out.2 (by decide) H5.out.2.2.2.2.1 H5.out.2.2.2.2.2.1;rw[<-HN1.out] at k5
  refine k5.mono ?_;clear k5;rintro u w9 ⟨A9,c9,At9,ct9,rfl,hp9,hb9⟩;rw[HN1.out] at hp9
  have hp9':=Ih hp9 H5.out.2.2.2.2.2.2;rw[<-HN1.out] at hp9'
  have h9:=H8.out.1.call hb9;have H9:=zh (zN h9 hp9');clear h9 hp9 hp9' hb9;go_upto_region 15 with (fail)
  have hE:=HD.out.1.call H9.out.1.drew.av;have hS:ay w9.drew e 81 (dV x lg)/\ay w9.drew z 171 #[.int .i64 Fa,.int .i64 T]:=⟨hE.blk,H9.out.1.drew.get 1 rfl⟩
  obtain⟨bs,hbs⟩:∃ bs,bs=F.aZ 8 (rH bb aY d.size (qd W d)):=⟨_,rfl⟩
  have hbl:bs.length<=120000:=by rw[hbs];exact SS HD.out.2.1.ok2 HD.out.2.1.tm HD.out.2.2.1 HD.out.2.1.len H5.out.2.2.2.1 bb
  have hin:KO w9.drew x.st x.d x.M x.p room x.T x.G x.N 0 0 false 0 lg ga x.cn W T A9 n1 aY At9 ct9 d.size (qd W d) bs:={
   sto:=HD.out.2.2.2 _ H9.out.1.drew.av
   nfs:=fun hf=>hE.ds _ hf (.inl rfl)
   nfa:=fun hf=>hE.ds _ hf (.inr (by rw[HD.out.2.1.an];rfl))
   dt:=hE.dt
   nam:=by have:=hE.nam;rw[HD.out.2.1.rb] at this;exact this
   n0:=HD.out.2.1.n0
   num:=⟨by have:=HD.out.2.1.n0;omega,J,J,HD.out.2.1.lg⟩
   tier:=⟨HD.out.2.1.w1,by have:=HD.out.2.1.w2;omega,J,by have:=HD.out.2.1.w1;omega,HT.out,by rw[cu];omega,by rw[cu];omega⟩
   parts:=H9.out.2.below (Below.refl _ _).drew
   pok:=by rw[HN1.out];exact Pb HD.out.2.1.ok2 HD.out.2.1.tm HD.out.2.2.1 HD.out.2.1.len H5.out.2.2.2.1 H5.out.2.2.1
   full:=fun i hi=>(uq HD.out.2.1.ok2 HD.out.2.1.tm HD.out.2.2.1 HD.out.2.1.len H5.out.2.2.2.1 hi).2.1
   n1le:=by rw[HN1.out];cases bb<;>decide
   nnle:=by have:=lK H5.out.2.2.2.1;have:=HD.out.2.1.len;omega
   hbs:=by rw[HN1.out];exact hbs
   er:=hE.herr
   ef:=hE.ef
   hT:=by have:=HD.out.2.1.hT;omega
   r1:=HD.out.2.1.r1
   r2:=HD.out.2.1.r2
   hG:=HD.out.2.1.hG }
  have HI:=zh (zN hin (zN hbs hbl));clear hE hin hbs hbl;have hS:(fun wx=>ay wx e 81 (dV x lg)/\ay wx z 171 #[.int .i64 Fa,.int .i64 T]) (w9.drew):=hS;refine aA (fun wx=>ay wx e 81 (dV x lg)/\ay wx z 171 #[.int .i64 Fa,.int .i64 T]) (by kernel_rfl) hS ?_;refine zB [0,1,2,3,4,5,6,7] ?_;iterate 8 (refine zV ?_ ?_ hS ?_;rotate_left;(intro w' hSw;have z1:=tO hSw.1;have y1:=hSw.2.cell 1;go_simp<;>with_reducible rfl);try simp only[zP])
  refine zE ?_;refine zC 8 fun K HK=>?_
  go_simp;refine(Ey w9.drew x.st x.d x.M x.p room x.T x.G x.N 0 0 false 0 lg ga x.cn W T A9 c9 n1 aY At9 ct9 d.size (qd W d) bs HI.out.1).mono ?_;rintro u w10 ⟨rfl,p',g',c',hd10,hn10,hs10,ts10⟩;have hE10:=(HD.out.1.call H9.out.1.drew.av).rolled hd10 hn10 hs10 ts10;have hz10:ay w10 z 171 #[.int .i64 Fa,.int .i64 T]:=(H9.out.1.drew.get 1 rfl).keeps ts10.keep (fun hr=>by
   have h1:=H9.out.1.geq 1 rfl;rcases hr with hr | hr
   ·exact HD.out.1.dt.fresh h1 hr
   ·have h2:=HD.out.1.sto.blk.lt
    omega)
  have H10:=zh (show xR B w0 e lg room limit most x W T (dS W 0 (fun j=>l.getD j ⟨0,0,0⟩) l.length) (.returned (.int .i64 0)) w10 from ⟨rfl,d,bb,p',g',c',bs,H5.out.2.2.1,H5.out.2.2.2.1,HI.out.2.1,HI.out.2.2,hE10⟩);have hb10:ay w10 e 81 (dV x lg):=hE10.blk;clear hd10 hn10 hs10 ts10 hE10;go_wp2_with fail;refine HK.out.zt (fun wx=>ay wx e 81 (dV x lg)/\ay wx z 171 #[.int .i64 Fa,.int .i64 T]) (fun _ h=>h) (⟨hb10,hz10⟩) ?_;clear HK hS;intro hS;try simp only[zP]
  refine zt 9 hS ?_;try simp only[zP]
  refine zD ?_;try simp only[zP]
  clear hS hb10 hz10;go_wp2_with fail;go_ret;exact H10.out
theorem zl{B:Nat}{w0 w:World}{e:Nat}{lg:Int}{room limit most:Nat}{x:bM}(h:bG B w0 w e lg room limit most x){ga:Nat}{W wt:Int}{l:List Pt}(hi:Dr x lg room ga W wt l):
  Calls Tryz.prog 11 #[.pointer (some ⟨e,0,none⟩),Z 2] w (xR B w0 e lg room limit most x W (aD W 0 wt) (dS W 0 (fun j=>l.getD j ⟨0,0,0⟩) l.length)):=by
 obtain⟨y,hy⟩:∃ y,y=w.heap.size:=⟨_,rfl⟩
 have o0:=Own.bn w hy 27 #[.pointer (some ⟨e,0,none⟩)]
 have HD:=zh (zN h (zN o0 hi));clear h o0 hi
 go_enter Tryz.func11,Tryz.ntmps11
 go_wp2_with fail;rw[<-hy];clear hy;refine bQ (Own w [(y,27,#[.pointer (some ⟨e,0,none⟩)])]) HD.out.2.1 ?_;intro w1 h1;have H1:=zh h1;clear h1;refine(HD.out.1.call H1.out.av).none.mono ?_;rintro u w2 ⟨rfl,hb2⟩;have h2:=H1.out.call hb2;have z0:=h2.c 0 0;have z8:=Qd (HD.out.1.call h2.av).blk;have H2:=zh h2;clear h2 hb2;go_wp2_with fail;refine(JY (HD.out.1.call H2.out.av) HD.out.2.2).mono ?_;rintro u w3 ⟨rfl,h3⟩;have H3:=zh h3;clear h3 z0 z8;go_wp2_with fail;go_ret;exact⟨rfl,H3.out⟩
structure oV(fr tu W O a b:Int)(n:Nat)(f:Nat->Pt)(m:Nat)(q:Nat->bC)(K:Nat)(y:Ag)(nw:Nat): Prop where
 kind:bP W O
 le:m+n<=900
 lies:yC fr tu a b n f m q
 val:∀ j,j < n->bI (f j).v
 rise:sU (m+n) (iM m q f)
 join:∃ mm,mq W O (m+n) (iM m q f) mm
 K1:K<=1
 one:∀ x,gQ W O (iM m q f) (m+n) x=if 0 < K/\x=aD W O fr then some y else none
 pos:0 < y.n
 tf:aP fr
 tt:aP tu
 ft:fr < tu
 nwe:(aD W O (tu-1)-aD W O fr) / W+1=(nw:Nat)
 nw2:nw<=65536
 nw3:(nw:Int)*W<=2305843009213693952
theorem oV.ok{w:World}{fr tu W O a b:Int}{A A2:Option Addr}{n m c2:Nat}{f:Nat->Pt}{q:Nat->bC}{K:Nat}{y:Ag}{nw:Nat}(h:oV fr tu W O a b n f m q K y nw)(sl:dN w (fun q=>q < w.heap.size) A n f)(sb:jw w A2 m q)(nil:A2=none->m=0/\c2=0): KN w fr tu W O a b A n f A2 m c2 q K y nw:=
 ⟨h.kind,sl,sb,h.le,nil,h.lies,h.val,h.rise,h.join,h.K1,h.one,h.pos,h.tf,h.tt,h.ft,h.nwe,h.nw2,h.nw3⟩
theorem MN{w:World}{base c n:Nat}{A:Option Addr}{l:List Pt}(hn:n=l.length)(h:bB w base (.slice A n c) l): dN w (fun q=>q < w.heap.size) A n (fun j=>l.getD j ⟨0,0,0⟩):=by
 have hlt:=h.fB;subst hn;exact(h.sl).mono (fun q hq=>(hlt q hq.2).2)
theorem Gw{B:Nat}{w0 w:World}{e:Nat}{lg:Int}{room limit most:Nat}{x:bM}(h:bG B w0 w e lg room limit most x)(fr tu W O:Int)(l:List Pt)(hsel:fK (fun j=>x.L.getD j ⟨0,0,0⟩) fr tu x.n=l)(hinc:Inc l)(hn:x.n<=900)(hmx:max fr (-1152921504606846976)=fr)(K nw:Nat)(y:Ag)(q0:Nat->bC)(hp:oV fr tu W O fr fr l.length (fun j=>l.getD j ⟨0,0,0⟩) 0 q0 K y nw):
  Calls Tryz.prog 50 #[.pointer (some ⟨e,0,none⟩),.agg (qW 1 fr tu W O 0),.agg (dO (-1) fr fr)] w (iD w K (aD W O fr) (aD W O fr+W) (aj y.s) (au y.s)):=by
 obtain⟨x0,hx⟩:∃ x,x=w.heap.size:=⟨_,rfl⟩
 have o0:=Own.eD w hx 43 (qW 1 fr tu W O 0) 102 (dO (-1) fr fr);have k2:∀ wx,Below w.heap.size w wx->Calls Tryz.prog 108 #[.pointer (some ⟨e,0,none⟩),.string aY,Z fr,Z tu] wx (iw wx l):=fun wx hb=>kD (h.call hb) fr tu l hsel hinc J (by have:=hp.le;omega)
 obtain⟨n,hnl⟩:∃ n,n=l.length:=⟨_,rfl⟩
 have k3:∀ (wx:World) (A:Option Addr) (c:Nat),bB wx 0 (.slice A n c) l->Calls Tryz.prog 113 #[.agg (qW 1 fr tu W O 0),.agg (dO (-1) fr fr),.slice A n c,.slice none 0 0] wx (iD wx K (aD W O fr) (aD W O fr+W) (aj y.s) (au y.s)):=fun wx A c hr=>by
  refine BU wx fr tu W O (-1) fr fr A none n c 0 0 K nw (fun j=>l.getD j ⟨0,0,0⟩) q0 y (oV.ok ?_ (MN hnl hr) (fun h=>absurd h (Nat.lt_irrefl 0)) (fun _=>⟨rfl,rfl⟩));rw[hnl];exact hp
 have hK:=hp.K1;have HD:=zh (zN h (zN o0 hnl));clear h o0 hsel hinc hnl hp;unfold qW dO at k3 ⊢
 go_enter Tryz.func50,Tryz.ntmps50
 go_upto_region 1 with (fail)
 rw[<-hx];clear hx;refine aC (Own w [(x0,43,qW 1 fr tu W O 0),(x0+1,102,dO (-1) fr fr)]) HD.out.2.1 ?_;intro w1 h1;have H1:=zh h1.drew;have hS:=h1.drew;clear h1;have hS:(Own w [(x0,43,qW 1 fr tu W O 0),(x0+1,102,dO (-1) fr fr)]) (w1.drew):=hS;refine aA (Own w [(x0,43,qW 1 fr tu W O 0),(x0+1,102,dO (-1) fr fr)]) (by kernel_rfl) hS ?_;refine zB [0,1,2] ?_;iterate 3 (refine zV ?_ ?_ hS ?_;rotate_left;(intro w' hSw;have v4:=hSw.c 0 4;go_simp<;>with_reducible rfl);try simp only[zP])
 refine zE ?_;refine zC 3 fun K HK=>?_
 go_simp;refine(kC (HD.out.1.call H1.out.av)).mono ?_;rintro u w2 ⟨rfl,hb2⟩;have H2:=zh (H1.out.call hb2);clear hb2;go_wp2_with fail;refine HK.out.zt (Own w [(x0,43,qW 1 fr tu W O 0),(x0+1,102,dO (-1) fr fr)]) (fun _ h=>h) (H2.out) ?_;clear HK hS;intro hS;try simp only[zP]
 refine zB [4,5] ?_;iterate 2 (refine zv hS ?_;try simp only[zP])
 refine zE ?_;refine zD ?_;try simp only[zP]
 clear hS;have h2:=H2.out;have z0_0:=h2.c12 0;have z1_0:=h2.c3 1;clear h2;go_wp2_with fail;clear z0_0 z1_0;refine(k2 w2 H2.out.av).mono ?_;rintro u w3 ⟨A3,c3,rfl,hr3,hb3⟩;rw[<-HD.out.2.2] at hr3 ⊢
 have h3:=H2.out.call hb3;have z0_0:=h3.c12 0;have z1_0:=h3.c3 1;have H3:=zh (zN h3 (aN hr3 (Nat.zero_le _)));clear h3 hr3 hb3;go_wp2_with fail;clear z0_0 z1_0;refine(k3 w3 A3 c3 H3.out.2).mono ?_;rintro u w4 ⟨A4,c4,rfl,hr4,hb4⟩;have H4:=zh (zN (aN hr4 H3.out.1.size) (V.aB H3.out.1.av hb4));clear hr4 hb4;go_wp2_with fail;refine(tZ w4 A4 _ c4 J).mono ?_;rintro u w5 ⟨rfl,hb5⟩;have H5:=zh (zN (aG H4.out.1 (S:=fun _=>False) (Keeps.of_below hb5) (fun _ _ h=>h)) (V.aB H4.out.2 hb5));clear hb5;go_wp2_with fail;go_ret2;exact⟨A4,c4,rfl,H5.out⟩
theorem GI(w:World)(A A2:Option Addr)(n c c2:Nat)(h:n<=c)(ty:TypeId): (Builtin.append_ #[186,186] ty #[.slice A n c,.slice A2 0 c2]).run Tryz.prog w=.ok (.slice A n c) w:=by
 obtain⟨i,hi,hz,hs,hb⟩:=info_parts rW
 cases A<;>cases A2<;>simp[Builtin.append_,run_underlying Tryz.underlying186,sizeOf,typeInfo,hi,Builtin.lenOf,Builtin.firstCells,loadCells,storeCells,h]<;>rfl
structure KG(x:bM)(ga:Nat)(W1 tq:Int)(fl:ByteArray)(bb:Bool)(nn:Nat)(qq:Nat->bC)(bs:List Nat)(fr tu a b:Int)(m:Nat): Prop where
 an:x.An=some ⟨ga,0,none⟩
 nt:x.nt=1
 ti:x.ti=lq W1 0 tq fl
 file:fb x.p fl=some bs
 hbs:bs=F.aZ 8 (rH bb aY nn qq)
 tier:nZ W1 0 tq fl
 part:bb=true->pV W1 0 aY nn qq
 hT:x.T<=1048576
 hl:bs.length<=x.T
 s1:fK (fun j=>x.L.getD j ⟨0,0,0⟩) fr a x.n=[]
 s2:fK (fun j=>x.L.getD j ⟨0,0,0⟩) b tu x.n=[]
 hin:bb=true->∀ i,i < nn->a<=(qq i).a/\(qq i).b<=b
 nnle:nn<=900
 meq:m=if bb=true then nn else 0
 hn:x.n<=900
theorem ED{B:Nat}{w0 w:World}{e:Nat}{lg:Int}{room limit most:Nat}{x:bM}(h:bG B w0 w e lg room limit most x)(fr tu W O a b:Int)(ga:Nat)(W1 tq:Int)(fl:ByteArray)(bb:Bool)(nn:Nat)(qq:Nat->bC)(bs:List Nat)(m:Nat)(hi:KG x ga W1 tq fl bb nn qq bs fr tu a b m)(hmx:max fr (-1152921504606846976)=fr)(K nw:Nat)(y:Ag)(f0:Nat->Pt)(hp:oV fr tu W O a b 0 f0 m qq K y nw):
  Calls Tryz.prog 50 #[.pointer (some ⟨e,0,none⟩),.agg (qW 1 fr tu W O 0),.agg (dO 0 a b)] w (iD w K (aD W O fr) (aD W O fr+W) (aj y.s) (au y.s)):=by
 obtain⟨x0,hx⟩:∃ x,x=w.heap.size:=⟨_,rfl⟩
 have o0:=Own.eD w hx 43 (qW 1 fr tu W O 0) 102 (dO 0 a b);have k1:∀ wx,Below w.heap.size w wx->Calls Tryz.prog 94 #[.pointer (some ⟨x.st,0,none⟩),Z 0] wx (sS wx bb.toNat aY nn qq):=fun wx hb=>by
  have hE:=h.call hb;have hs:=hE.sto;rw[hi.an,hi.nt,hi.ti] at hs
  exact JN wx x.st x.d x.M x.p room x.T x.G x.N 0 0 false 0 lg ga x.cn W1 tq fl bb aY nn qq bs hs hE.dt hi.file hi.hbs hi.tier hi.part hi.hT hi.hl hE.herr
 have k2:∀ wx,Below w.heap.size w wx->Calls Tryz.prog 108 #[.pointer (some ⟨e,0,none⟩),.string aY,Z fr,Z a] wx (iw wx []):=fun wx hb=>kD (h.call hb) fr a [] hi.s1 List.Pairwise.nil (by have:=hi.hn;omega) (by simp)
 have k3:∀ wx,Below w.heap.size w wx->Calls Tryz.prog 108 #[.pointer (some ⟨e,0,none⟩),.string aY,Z b,Z tu] wx (iw wx []):=fun wx hb=>kD (h.call hb) b tu [] hi.s2 List.Pairwise.nil (by have:=hi.hn;omega) (by simp)
 have k5:∀ (wx:World) (A:Option Addr) (c:Nat) (At:Option Addr) (ct:Nat),P1 wx A bb.toNat aY At ct nn qq->Calls Tryz.prog 114 #[.slice A bb.toNat c,.string aY,.agg #[Z a,Z b]] wx (Di wx m qq):=fun wx A c At ct hp1=>by
  have hm:=hi.meq
  cases hbb:bb with
  | false=>
   rw[hbb] at hm
   rw[hm];refine(Jj wx A c aY a b).mono ?_;rintro u w' ⟨rfl,hb⟩;exact⟨none,0,rfl,⟨rfl,.inl ⟨rfl,rfl⟩⟩,hb⟩
  | true=>
   rw[hbb] at hm hp1
   rw[hm];exact Jk wx A c aY At ct nn qq a b hp1 (hi.hin hbb) hi.nnle
 have k6:∀ (wx:World) (A A2:Option Addr) (c c2:Nat),dL wx w.heap.size (.slice A2 m c2) qq m->Calls Tryz.prog 113 #[.agg (qW 1 fr tu W O 0),.agg (dO 0 a b),.slice A 0 c,.slice A2 m c2] wx (iD wx K (aD W O fr) (aD W O fr+W) (aj y.s) (au y.s)):=fun wx A A2 c c2 hr=>
  BU wx fr tu W O 0 a b A A2 0 c m c2 K nw f0 qq y (oV.ok hp (fun h=>absurd h (Nat.lt_irrefl 0)) hr.Fx (fun hn=>by
   rcases hr.2 with ⟨hv,h0⟩ | ⟨g,cap,cur,hv,-⟩
   ·injection hv with _ _ e3
    exact⟨h0,e3⟩
   ·rw[hn] at hv
    injection hv with e1
    cases e1))
 have hK:=hp.K1;obtain⟨n1,hn1⟩:∃ z,z=bb.toNat:=⟨_,rfl⟩
 rw[<-hn1] at k1 k5
 have HD:=zh (zN h (zN o0 hi));clear h o0 hi hp hn1;unfold qW dO at k6 ⊢
 go_enter Tryz.func50,Tryz.ntmps50
 go_upto_region 1 with (fail)
 rw[<-hx];clear hx;refine aC (Own w [(x0,43,qW 1 fr tu W O 0),(x0+1,102,dO 0 a b)]) HD.out.2.1 ?_;intro w1 h1;have H1:=zh h1.drew;have hS:=h1.drew;clear h1;have hS:(Own w [(x0,43,qW 1 fr tu W O 0),(x0+1,102,dO 0 a b)]) (w1.drew):=hS;refine aA (Own w [(x0,43,qW 1 fr tu W O 0),(x0+1,102,dO 0 a b)]) (by kernel_rfl) hS ?_;refine zB [0,1,2] ?_;iterate 3 (refine zV ?_ ?_ hS ?_;rotate_left;(intro w' hSw;have v4:=hSw.c 0 4;go_simp<;>with_reducible rfl);try simp only[zP])
 refine zE ?_;refine zC 3 fun K HK=>?_
 go_simp;refine(kC (HD.out.1.call H1.out.av)).mono ?_;rintro u w2 ⟨rfl,hb2⟩;have H2:=zh (H1.out.call hb2);clear hb2;go_wp2_with fail;refine HK.out.zt (Own w [(x0,43,qW 1 fr tu W O 0),(x0+1,102,dO 0 a b)]) (fun _ h=>h) (H2.out) ?_;clear HK hS;intro hS;try simp only[zP]
 refine zB [4,5] ?_;iterate 2 (refine zv hS ?_;try simp only[zP])
 refine zE ?_;refine zD ?_;try simp only[zP]
 clear hS;have h2:=H2.out;obtain⟨z0_0,z0_1,z0_2,z0_3,z0_4,z0_5,z0_6,z0_7,z0_8,z0_9,z0_10,z0_11⟩:=h2.c12 0;obtain⟨z1_0,z1_1,z1_2⟩:=h2.c3 1;clear h2;go_upto_region 10 with (fail)
 clear z0_0 z0_1 z0_2 z0_3 z0_4 z0_5 z0_6 z0_7 z0_8 z0_9 z0_10 z0_11 z1_0 z1_1 z1_2;have hS:=H2.out.drew;have hS:(Own w [(x0,43,qW 1 fr tu W O 0),(x0+1,102,dO 0 a b)]) (w2.drew):=hS;refine aA (Own w [(x0,43,qW 1 fr tu W O 0),(x0+1,102,dO 0 a b)]) (by kernel_rfl) hS ?_;refine zB [0,1,2,3,4,5] ?_;iterate 6 (refine zV ?_ ?_ hS ?_;rotate_left;(intro w' hSw;have z1:=tO (HD.out.1.call hSw.av).blk;have v0:=hSw.c 1 0;go_simp<;>with_reducible rfl);try simp only[zP])
 refine zE ?_;refine zC 6 fun K HK=>?_
 go_simp;refine(k1 w2.drew H2.out.drew.av).mono ?_;rintro u w3 ⟨A3,c3,At,ct,rfl,hp3,hb3⟩;have H3:=zh (zN (H2.out.drew.call hb3) hp3);clear hb3 hp3;go_wp2_with fail;refine HK.out.zt (Own w [(x0,43,qW 1 fr tu W O 0),(x0+1,102,dO 0 a b)]) (fun _ h=>h) (H3.out.1) ?_;clear HK hS;intro hS;try simp only[zP]
 refine zB [7,8,9,10,11] ?_;iterate 5 (refine zv hS ?_;try simp only[zP])
 refine zE ?_;refine zD ?_;try simp only[zP]
 clear hS;have h3:=H3.out.1;obtain⟨z0_0,z0_1,z0_2,z0_3,z0_4,z0_5,z0_6,z0_7,z0_8,z0_9,z0_10,z0_11⟩:=h3.c12 0;obtain⟨z1_0,z1_1,z1_2⟩:=h3.c3 1;clear h3;go_wp2_with fail;clear z0_0 z0_1 z0_2 z0_3 z0_4 z0_5 z0_6 z0_7 z0_8 z0_9 z0_10 z0_11 z1_0 z1_1 z1_2;have hl0:([]:List Pt).length=0:=rfl;refine(k2 w3 H3.out.1.av).mono ?_;rintro u w4 ⟨A4,c4,rfl,hr4,hb4⟩;rw[hl0] at hr4 ⊢
 have h4:=H3.out.1.call hb4;obtain⟨z0_0,z0_1,z0_2,z0_3,z0_4,z0_5,z0_6,z0_7,z0_8,z0_9,z0_10,z0_11⟩:=h4.c12 0;obtain⟨z1_0,z1_1,z1_2⟩:=h4.c3 1;have H4:=zh (zN h4 (zN (aN hr4 H3.out.1.size) (H3.out.2.below hb4)));clear h4 hr4 hb4;go_wp2_with fail;clear z0_0 z0_1 z0_2 z0_3 z0_4 z0_5 z0_6 z0_7 z0_8 z0_9 z0_10 z0_11 z1_0 z1_1 z1_2;refine(k3 w4 H4.out.1.av).mono ?_;rintro u w5 ⟨A5,c5,rfl,hr5,hb5⟩;rw[hl0];have H5:=zh (zN (H4.out.1.call hb5) (H4.out.2.2.below hb5));clear hr5 hb5 hl0;have hrun:=fun wx=>GI wx A4 A5 0 c4 c5 (Nat.zero_le _) 186
 go_upto_region 19 with (fail)
 have hS:=H5.out.1.drew;have hp5:=H5.out.2.below (Below.refl _ _).drew;have H6:=zh (zN hS hp5);clear hp5;have hS:(Own w [(x0,43,qW 1 fr tu W O 0),(x0+1,102,dO 0 a b)]) (w5.drew):=hS;refine aA (Own w [(x0,43,qW 1 fr tu W O 0),(x0+1,102,dO 0 a b)]) (by kernel_rfl) hS ?_;refine zB [0,1,2,3,5,6,7,8,9,10,11,12] ?_;iterate 12 (refine zV ?_ ?_ hS ?_;rotate_left;(intro w' hSw;obtain⟨v0,v1,v2,v3,v4,v5,v6,v7,v8,v9,v10,v11⟩:=hSw.c12 0;obtain⟨y0,y1,y2⟩:=hSw.c3 1;go_simp<;>with_reducible rfl);try simp only[zP])
 refine zE ?_;refine zC 4 fun K HK=>?_
 refine dA rfl (.tmp 95) (.tmp 96) rfl rfl rfl (hrun _) ?_;refine HK.out.zt (Own w [(x0,43,qW 1 fr tu W O 0),(x0+1,102,dO 0 a b)]) (fun _ h=>h) (hS) ?_;clear HK hS;intro hS;try simp only[zP]
 refine zC 13 fun K HK=>?_
 go_simp;refine(k5 w5.drew A3 c3 At ct H6.out.2).mono ?_;rintro u w7 ⟨A7,c7,rfl,hr7,hb7⟩;have H7:=zh (zN (H6.out.1.call hb7) (aN hr7 H6.out.1.size));clear hb7 hr7;go_wp2_with fail;refine HK.out.zt (Own w [(x0,43,qW 1 fr tu W O 0),(x0+1,102,dO 0 a b)]) (fun _ h=>h) (H7.out.1) ?_;clear HK hS;intro hS;try simp only[zP]
 refine zC 14 fun K HK=>?_
 go_simp;refine(k6 w7 A4 A7 c4 c7 H7.out.2).mono ?_;rintro u w8 ⟨A8,c8,rfl,hr8,hb8⟩;have H8:=zh (zN (H7.out.1.call hb8) (aN hr8 H7.out.1.size));clear hb8 hr8;go_wp2_with fail;refine HK.out.zt (Own w [(x0,43,qW 1 fr tu W O 0),(x0+1,102,dO 0 a b)]) (fun _ h=>h) (H8.out.1) ?_;clear HK hS;intro hS;try simp only[zP]
 refine zB [15,16,17,18,19] ?_;iterate 5 (refine zv hS ?_;try simp only[zP])
 refine zE ?_;refine zD ?_;try simp only[zP]
 clear hS;go_wp2_with fail;refine(tZ w8 A8 _ c8 J).mono ?_;rintro u w9 ⟨rfl,hb9⟩;have H9:=zh (zN (aG H8.out.2 (S:=fun _=>False) (Keeps.of_below hb9) (fun _ _ h=>h)) (V.aB H8.out.1.av hb9));clear hb9;go_wp2_with fail;go_ret2;exact⟨A8,c8,rfl,H9.out⟩
theorem EC{B:Nat}{w0 w:World}{e:Nat}{lg:Int}{room limit most:Nat}{x:bM}(h:bG B w0 w e lg room limit most x)(fr tu W O a b:Int)(ga:Nat)(W1 tq:Int)(fl:ByteArray)(han:x.An=some ⟨ga,0,none⟩)(hnt:x.nt=1)(hti:x.ti=lq W1 0 tq fl)(hall:∀ wx g c,g < wx.heap.size->(∀ i u',(dP W1 0 tq true fl)[i]? = some u'->wx.cell? ⟨g,i,none⟩=some u')->Calls Tryz.prog 51 #[.agg (qW 1 fr tu W O 0),.slice (some ⟨g,0,none⟩) 1 c,Z (-1152921504606846976)] wx (zY wx fr a b))(kk:Nat)(i ca cb:Int)(hcv:(kk=0/\i = -1/\ca=fr/\cb=fr)\/(kk=1/\i=0/\ca=a/\cb=b))(K:Nat)(ra rb hi lo:Int)(hby:∀ wx,Below w.heap.size w wx->Calls Tryz.prog 50 #[.pointer (some ⟨e,0,none⟩),.agg (qW 1 fr tu W O 0),.agg (dO i ca cb)] wx (iD wx K ra rb hi lo)):
  Calls Tryz.prog 14 #[.pointer (some ⟨e,0,none⟩),.agg (qW 1 fr tu W O 0),Z (kk:Nat)] w (iD w K ra rb hi lo):=by
 obtain⟨x0,hx⟩:∃ x,x=w.heap.size:=⟨_,rfl⟩
 have o0:=Own.bn w hx 43 (qW 1 fr tu W O 0);have ff:=wR;have k1:∀ wx,Below w.heap.size w wx->Calls Tryz.prog 25 #[.pointer (some ⟨x.st,0,none⟩)] wx (qR wx x.N 0 0 false 0 lg 1 (lq W1 0 tq fl)):=fun wx hb=>by
  have hs:=(h.call hb).sto;rw[han,hnt,hti] at hs
  exact rU wx x.st x.d x.N 0 0 false 0 lg _ 1 x.cn _ hs
 have hk2:kk < 2:=by rcases hcv with ⟨h,-⟩ | ⟨h,-⟩<;>omega
 have d1:decide ((kk:Int) < 0)=false:=decide_eq_false J;have d2:decide ((2:Int)<=(kk:Int))=false:=decide_eq_false J;have d3:(0:Int)<=(kk:Int):=J;have d4:(kk:Int) < 2:=J;have HD:=zh (zN h (zN o0 hcv));have HALL:=zh hall;have HBY:=zh hby;clear h o0 hcv hall hby han hnt hti hk2;have hq0:∀ z:Array Value,z=z:=fun z=>rfl
 unfold qW
 go_enter Tryz.func14,Tryz.ntmps14
 go_upto_region 1 with (fail)
 rw[<-hx];clear hx hq0;refine aC (Own w [(x0,43,qW 1 fr tu W O 0)]) HD.out.2.1 ?_;intro w1 h1;have H1:=zh h1;clear h1;go_wp2_with fail;refine(HD.out.1.call H1.out.av).none.mono ?_;rintro u w2 ⟨rfl,hb2⟩;have h2:=H1.out.call hb2;have H2:=zh h2.drew;have hS:=h2.drew;clear h2 hb2;go_upto_region 3 with (fail)
 have hS:(Own w [(x0,43,qW 1 fr tu W O 0)]) (w2.drew):=hS;refine aA (Own w [(x0,43,qW 1 fr tu W O 0)]) (by kernel_rfl) hS ?_;refine zB [0,1,2,3,4,7] ?_;iterate 6 (refine zV ?_ ?_ hS ?_;rotate_left;(intro w' hSw;have z1:=tO (HD.out.1.call hSw.av).blk;have v0:=hSw.c12 0;go_simp<;>with_reducible rfl);try simp only[zP])
 refine zE ?_;refine zC 5 fun K HK=>?_
 go_simp;refine(k1 w2.drew H2.out.av).mono ?_;rintro u w3 ⟨A3,c3,rfl,hr3,hb3⟩;obtain⟨g3,rfl,-,hgl,hgc⟩:=hr3.GY;have H3:=zh (zN (H2.out.call hb3) (zN hgl hgc));unfold aX;clear hr3 hgl hgc hb3;go_wp2_with fail;refine HK.out.zt (Own w [(x0,43,qW 1 fr tu W O 0)]) (fun _ h=>h) (H3.out.1) ?_;clear HK hS;intro hS;try simp only[zP]
 refine zt 6 hS ?_;try simp only[zP]
 refine zC 8 fun K HK=>?_
 go_simp;refine(kC (HD.out.1.call H3.out.1.av)).mono ?_;rintro u w4 ⟨rfl,hb4⟩;have H4:=zh (zN (H3.out.1.call hb4) (zN (Nat.lt_of_lt_of_le H3.out.2.1 hb4.size) (fun j v (hv:(lq W1 0 tq fl)[j]? = some v)=>(hb4.cell (p:=⟨g3,j,none⟩) H3.out.2.1).trans (H3.out.2.2 j v hv))));clear hb4;go_wp2_with fail;refine HK.out.zt (Own w [(x0,43,qW 1 fr tu W O 0)]) (fun _ h=>h) (H4.out.1) ?_;clear HK hS;intro hS;try simp only[zP]
 have k9:=HALL.out w4 g3 c3 H4.out.2.1 (fun i u' hu=>H4.out.2.2 i u' (by rw[<-hu];simp[lq,dP]));unfold qW at k9
 refine zC 9 fun K HK=>?_
 go_simp;refine(k9).mono ?_;rintro u w5 ⟨A5,c5,rfl,hr5,hb5⟩;clear k9;obtain⟨A',c',e1,hcc,hg⟩:=aH hr5;injection e1 with ea eb ec
 obtain⟨gc,hA',hgb,hgl⟩:=hg J;obtain rfl:A5=some ⟨gc,0,none⟩:=ea.trans hA';have hcell:=fun j v hv=>World.ownsRow.cells hr5 (g:=gc) rfl j v hv
 simp only[iE] at hcell
 have y0:w5.cell? ⟨gc,kk*3,none⟩=some (Z i):=by
  rcases HD.out.2.2 with ⟨rfl,rfl,rfl,rfl⟩ | ⟨rfl,rfl,rfl,rfl⟩
  ·exact hcell 0 _ rfl
  ·exact hcell 3 _ rfl
 have y1:w5.cell? ⟨gc,kk*3+1,none⟩=some (Z ca):=by
  rcases HD.out.2.2 with ⟨rfl,rfl,rfl,rfl⟩ | ⟨rfl,rfl,rfl,rfl⟩
  ·exact hcell 1 _ rfl
  ·exact hcell 4 _ rfl
 have y2:w5.cell? ⟨gc,kk*3+2,none⟩=some (Z cb):=by
  rcases HD.out.2.2 with ⟨rfl,rfl,rfl,rfl⟩ | ⟨rfl,rfl,rfl,rfl⟩
  ·exact hcell 2 _ rfl
  ·exact hcell 5 _ rfl
 have H5:=zh (zN (H4.out.1.call hb5) (zN hgl (zN y0 (zN y1 y2))));clear hr5 hb5 hcc hg hA' hgb hgl ea hcell y0 y1 y2;go_wp2_with fail;refine HK.out.zt (Own w [(x0,43,qW 1 fr tu W O 0)]) (fun _ h=>h) (H5.out.1) ?_;clear HK hS;intro hS;try simp only[zP]
 refine zB [10,11,12,13,14] ?_;iterate 5 (refine zv hS ?_;try simp only[zP])
 refine zE ?_;refine zD ?_;try simp only[zP]
 clear hS;go_upto_region 8 with (fail)
 have hS:=H5.out.1.drew;have hgl:=H5.out.2.1;have HS5:=zh hS;have hS:(fun wx=>Own w [(x0,43,qW 1 fr tu W O 0)] wx/\wx.cell? ⟨gc,kk*3,none⟩=some (Z i)/\wx.cell? ⟨gc,kk*3+1,none⟩=some (Z ca)/\wx.cell? ⟨gc,kk*3+2,none⟩=some (Z cb)) w5.drew:=⟨hS,H5.out.2.2⟩
 have hS:(fun wx=>Own w [(x0,43,qW 1 fr tu W O 0)] wx/\wx.cell? ⟨gc,kk*3,none⟩=some (Z i)/\wx.cell? ⟨gc,kk*3+1,none⟩=some (Z ca)/\wx.cell? ⟨gc,kk*3+2,none⟩=some (Z cb)) (w5.drew):=hS;refine aA (fun wx=>Own w [(x0,43,qW 1 fr tu W O 0)] wx/\wx.cell? ⟨gc,kk*3,none⟩=some (Z i)/\wx.cell? ⟨gc,kk*3+1,none⟩=some (Z ca)/\wx.cell? ⟨gc,kk*3+2,none⟩=some (Z cb)) (by kernel_rfl) hS ?_;refine zB [0,1,2,3,4,5] ?_;iterate 6 (refine zV ?_ ?_ hS ?_;rotate_left;(intro w' hSw;obtain ⟨hSo,y0,y1,y2⟩:=hSw;have v0:=hSo.c12 0;go_simp<;>with_reducible rfl);try simp only[zP])
 refine zE ?_;have k6:=HBY.out w5.drew HS5.out.av;unfold qW dO at k6
 refine zC 6 fun K HK=>?_
 go_simp;refine(k6).mono ?_;rintro u w8 ⟨A8,c8,rfl,hr8,hb8⟩;clear k6;have hc8:∀ j v,w5.drew.cell? ⟨gc,j,none⟩=some v->w8.cell? ⟨gc,j,none⟩=some v:=fun j v hv=>(hb8.cell (p:=⟨gc,j,none⟩) hgl).trans hv
 have H8:=zh (zN (HS5.out.call hb8) (aN hr8 HS5.out.size));have hS8:(fun wx=>Own w [(x0,43,qW 1 fr tu W O 0)] wx/\wx.cell? ⟨gc,kk*3,none⟩=some (Z i)/\wx.cell? ⟨gc,kk*3+1,none⟩=some (Z ca)/\wx.cell? ⟨gc,kk*3+2,none⟩=some (Z cb)) w8:=⟨H8.out.1,hc8 _ _ hS.2.1,hc8 _ _ hS.2.2.1,hc8 _ _ hS.2.2.2⟩
 clear hr8 hb8 hc8;go_wp2_with fail;refine HK.out.zt (fun wx=>Own w [(x0,43,qW 1 fr tu W O 0)] wx/\wx.cell? ⟨gc,kk*3,none⟩=some (Z i)/\wx.cell? ⟨gc,kk*3+1,none⟩=some (Z ca)/\wx.cell? ⟨gc,kk*3+2,none⟩=some (Z cb)) (fun _ h=>h) (hS8) ?_;clear HK hS;intro hS;try simp only[zP]
 refine zB [7,8,9,10] ?_;iterate 4 (refine zv hS ?_;try simp only[zP])
 refine zE ?_;refine zD ?_;try simp only[zP]
 clear hS hS8;go_wp2_with fail;go_ret2;exact⟨A8,c8,rfl,H8.out.2,H8.out.1.av⟩
theorem BX(w:World)(A1 A2:Option Addr)(n c1 c2:Nat)(a b hi lo:Int)(h1:rM w A1 n a b hi lo)(h2:rM w A2 n a b hi lo)(hn:n<=1):
  Calls Tryz.prog 15 #[.slice A1 n c1,.slice A2 n c2] w fun e w'=>e=.returned (.bool true)/\Below w.heap.size w w':=by
 have HD:=zh (zN h1 h2);clear h1 h2
 go_enter Tryz.func15,Tryz.ntmps15
 go_wp2_with fail
 go_loopw [5] (fun i wr=>∃ k:Nat,k<=n/\i=.int .i64 (k:Nat)/\Below w.heap.size w wr) (fun i _=>n-(intOf i).toNat)
 case atStart=>exact ⟨0,Nat.zero_le _,rfl,Below.refl _ _⟩
 case round=>
  obtain⟨k,hk,rfl,hb⟩:=hrel
  by_cases hlt:k < n
  ·obtain ⟨g1,rfl,hg1,-⟩:=HD.out.1 J
   obtain⟨g2,rfl,hg2,-⟩:=HD.out.2 J;obtain rfl:k=0:=J;have d0:(0:Int) < (n:Int):=J;have hS:=hb.drew;have HB:=zh (zN hb (zN hg1 hg2));clear hb hg1 hg2;go_upto_region 6 with (fail)
   have hS:(Below w.heap.size w) (wr.drew):=hS;refine aA (Below w.heap.size w) (by kernel_rfl) hS ?_;refine zB [0,1,2,3] ?_;iterate 4 (refine zV ?_ ?_ hS ?_;rotate_left;(intro w' hSw;obtain ⟨g,e,-,u0,u1,u2,u3,u4⟩:=HD.out.1 J;injection e with e;injection e with e;subst e;have v0:=(hSw.cell (p:=⟨g1,0,none⟩) HB.out.2.1).trans u0;have v1:=(hSw.cell (p:=⟨g1,1,none⟩) HB.out.2.1).trans u1;have v2:=(hSw.cell (p:=⟨g1,2,none⟩) HB.out.2.1).trans u2;have v3:=(hSw.cell (p:=⟨g1,3,none⟩) HB.out.2.1).trans u3;have v4:=(hSw.cell (p:=⟨g1,4,none⟩) HB.out.2.1).trans u4;go_simp<;>with_reducible rfl);try simp only[zP])
   refine zE ?_;refine zB [4,5,6,7,8] ?_;iterate 5 (refine zV ?_ ?_ hS ?_;rotate_left;(intro w' hSw;obtain ⟨g,e,-,u0,u1,u2,u3,u4⟩:=HD.out.2 J;injection e with e;injection e with e;subst e;have v0:=(hSw.cell (p:=⟨g2,0,none⟩) HB.out.2.2).trans u0;have v1:=(hSw.cell (p:=⟨g2,1,none⟩) HB.out.2.2).trans u1;have v2:=(hSw.cell (p:=⟨g2,2,none⟩) HB.out.2.2).trans u2;have v3:=(hSw.cell (p:=⟨g2,3,none⟩) HB.out.2.2).trans u3;have v4:=(hSw.cell (p:=⟨g2,4,none⟩) HB.out.2.2).trans u4;go_simp<;>with_reducible rfl);try simp only[zP])
   refine zE ?_;refine zD ?_;try simp only[zP]
   clear hS;go_wp2_with fail
   go_roundw
   case rel=>exact ⟨1,J,by first | rfl | go_num,HB.out.1.drew⟩
   case measure=>simp[intOf]<;>omega
  ·obtain rfl:k=n:=J
   have HB:=zh hb;clear hb;go_wp2_with fail;go_ret;exact⟨rfl,HB.out⟩
def vE(b:Bool): Int:=if b then -9223372036854775808 else 9223372036854775807
theorem vM(b:Bool): bI (vE b):=by cases b<;>(unfold vE bI;decide)
def uJ(sg:Nat->Bool)(j:Nat): Pt:=⟨(j:Nat),vE (sg j),(j:Nat)⟩
def lE(sg:Nat->Bool)(n:Nat): List Pt:=(List.range n).map (uJ sg)
theorem Hy(sg:Nat->Bool)(n:Nat): lE sg (n+1)=lE sg n ++ [uJ sg n]:=by unfold lE;rw[List.range_succ,List.map_append];rfl
theorem jQ(sg:Nat->Bool)(n:Nat): (lE sg n).length=n:=by unfold lE;simp
theorem sJ{sg:Nat->Bool}{n:Nat}{p:Pt}(h:p ∈ lE sg n): ∃ j,j < n/\p=uJ sg j:=by
 obtain⟨j,hj,rfl⟩:=List.mem_map.1 h;exact⟨j,List.mem_range.1 hj,rfl⟩
theorem EG(sg:Nat->Bool): ∀ n,Inc (lE sg n)
 | 0=>List.Pairwise.nil
 | n+1=>by
  unfold Inc;rw[Hy];refine List.pairwise_append.2 ⟨EG sg n,List.pairwise_singleton _ _,fun a ha b hb=>?_⟩;obtain⟨j,hj,rfl⟩:=sJ ha;rw[List.mem_singleton.1 hb];show (j:Int) < (n:Int)
  omega
theorem jP{sg:Nat->Bool}{n j:Nat}(h:j < n): (lE sg n).getD j ⟨0,0,0⟩=uJ sg j:=by
 unfold lE;rw[List.getD_eq_getElem?_getD,List.getElem?_map,List.getElem?_range h];rfl
theorem MK(sg:Nat->Bool)(j:Nat)(h:j<=1000000): eU (uJ sg j):=⟨by unfold bI uJ;simp only;omega,vM _,by unfold bI uJ;simp only;omega⟩
theorem EH(sg:Nat->Bool)(n:Nat)(hn:n<=64)(j:Nat): eU ((lE sg n).getD j ⟨0,0,0⟩):=by
 rcases Nat.lt_or_ge j n with h | h
 ·rw[jP h];exact MK sg j J
 ·rw[List.getD_eq_getElem?_getD,List.getElem?_eq_none (by rw[jQ];exact h)]
  exact⟨by unfold bI;decide,by unfold bI;decide,by unfold bI;decide⟩
theorem zH(L:List Pt)(a b:Int): fK (fun j=>L.getD j ⟨0,0,0⟩) a b L.length=L.filter (jZ a b):=by
 have key:∀ k,k<=L.length->fK (fun j=>L.getD j ⟨0,0,0⟩) a b k=(L.take k).filter (jZ a b):=by
  intro k
  induction k with
  | zero=>intro _;rfl
  | succ k ih=>
   intro hk;have e:L.getD k ⟨0,0,0⟩=L[k]:=by rw[List.getD_eq_getElem?_getD,List.getElem?_eq_getElem J];rfl
   have et:L.take (k+1)=L.take k ++ [L[k]]:=by rw[List.take_add_one,List.getElem?_eq_getElem J];rfl
   show (if jZ a b (L.getD k ⟨0,0,0⟩)=true then fK _ a b k ++ [L.getD k ⟨0,0,0⟩] else fK _ a b k)=_
   rw[ih J,e,et,List.filter_append]
   by_cases h:jZ a b L[k]=true<;>simp[h]
 have:=key L.length (Nat.le_refl _)
 rwa [List.take_length] at this
theorem SX{sg:Nat->Bool}{n:Nat}(hn:n<=64){a b:Int}(h1:a<=0)(h2:64<=b)(h3:b<=512): fK (fun j=>(lE sg n ++ [(⟨512,0,(n:Nat)⟩:Pt)]).getD j ⟨0,0,0⟩) a b (n+1)=lE sg n:=by
 have hl:(lE sg n ++ [(⟨512,0,(n:Nat)⟩:Pt)]).length=n+1:=by rw[List.length_append,jQ];rfl
 rw[<-hl,zH,List.filter_append];have e1:(lE sg n).filter (jZ a b)=lE sg n:=List.filter_eq_self.2 fun p hp=>by
  obtain⟨j,hj,rfl⟩:=sJ hp;unfold jZ uJ;simp only;rw[decide_eq_true J,decide_eq_true J];rfl
 have e2:[(⟨512,0,(n:Nat)⟩:Pt)].filter (jZ a b)=[]:=by
  refine List.filter_eq_nil_iff.2 fun p hp=>?_
  rw[List.mem_singleton.1 hp];unfold jZ;simp only;rw[decide_eq_false (show ¬ ((512:Int) < b) by omega)];simp
 rw[e1,e2,List.append_nil]
theorem Ip{sg:Nat->Bool}{n:Nat}{a b:Int}(hn:n<=64)(h:b<=0\/(64<=a/\b<=512)): fK (fun j=>(lE sg n ++ [(⟨512,0,(n:Nat)⟩:Pt)]).getD j ⟨0,0,0⟩) a b (n+1)=[]:=by
 have hl:(lE sg n ++ [(⟨512,0,(n:Nat)⟩:Pt)]).length=n+1:=by rw[List.length_append,jQ];rfl
 rw[<-hl,zH];refine List.filter_eq_nil_iff.2 fun p hp=>?_
 have hb:¬ (a<=p.t/\p.t < b):=by
  rcases List.mem_append.1 hp with hp | hp
  ·obtain ⟨j,hj,rfl⟩:=sJ hp
   show ¬ (a<=(j:Int)/\(j:Int) < b)
   omega
  ·rw[List.mem_singleton.1 hp]
   show ¬ (a<=512/\(512:Int) < b)
   omega
 unfold jZ;intro hh;simp only[Bool.and_eq_true,decide_eq_true_eq] at hh
 exact hb hh
theorem MC(p:Pt): dM (bR p)=true:=by
 have hc:∀ t:Int,A.bL t t=0:=fun t=>by unfold A.bL;simp
 unfold dM bR;simp[dQ,oU,hc,uU]
theorem SH(p:Pt)(h:bI p.v): iq (bR p) 1:=⟨rfl,by unfold bI at h;show _<=p.v/\p.v<=_;omega,h,h⟩
def je(sg:Nat->Bool)(b:Bool): Nat->Nat
 | 0=>0
 | k+1=>je sg b k+(if sg k=b then 1 else 0)
theorem vX(sg:Nat->Bool): ∀ k,je sg false k+je sg true k=k
 | 0=>rfl
 | k+1=>by
  have:=vX sg k;show je sg false k+(if sg k=false then 1 else 0)+(je sg true k+(if sg k=true then 1 else 0))=k+1
  cases sg k<;>simp<;>omega
theorem Bh(sg:Nat->Bool): ∀ k,gY (fun j=>vE (sg j)) k=9223372036854775807*(je sg false k:Int)-9223372036854775808*(je sg true k:Int)
 | 0=>rfl
 | k+1=>by
  have:=Bh sg k;show gY _ k+vE (sg k)=9223372036854775807*((je sg false k+(if sg k=false then 1 else 0):Nat):Int)-9223372036854775808*((je sg true k+(if sg k=true then 1 else 0):Nat):Int)
  rw[this];unfold vE
  cases sg k<;>simp<;>omega
theorem mV{W t:Int}(h0:0<=t)(h1:t < W): aD W 0 t=0:=by
 unfold aD;rw[Int.sub_zero,Int.emod_eq_of_lt h0 h1];omega
theorem EI{W t:Int}(hW:1<=W)(h0:0<=t): 0<=aD W 0 t:=by
 unfold aD;rw[Int.sub_zero];have h1:=Int.mul_ediv_add_emod t W;have h2:0<=W*(t / W):=Int.mul_nonneg J (Int.ediv_nonneg h0 J);obtain⟨m,hm⟩:∃ m,m=W*(t / W):=⟨_,rfl⟩
 rw[<-hm] at h1 h2
 omega
theorem Tq{W:Int}(h1:1<=W)(h2:W<=8): ∃ nw:Nat,(aD (64*W) 0 (512-1)-aD (64*W) 0 0) / (64*W)+1=(nw:Nat)/\nw<=65536/\(nw:Int)*(64*W)<=2305843009213693952:=by
 rcases(show W=1\/W=2\/W=3\/W=4\/W=5\/W=6\/W=7\/W=8 by omega) with rfl | rfl | rfl | rfl | rfl | rfl | rfl | rfl
 ·exact ⟨8,by decide,by decide,by decide⟩
 ·exact ⟨4,by decide,by decide,by decide⟩
 ·exact ⟨3,by decide,by decide,by decide⟩
 ·exact ⟨2,by decide,by decide,by decide⟩
 ·exact ⟨2,by decide,by decide,by decide⟩
 ·exact ⟨2,by decide,by decide,by decide⟩
 ·exact ⟨2,by decide,by decide,by decide⟩
 ·exact ⟨1,by decide,by decide,by decide⟩
theorem Ik{W a b:Int}{n m:Nat}{f:Nat->Pt}{q:Nat->bC}{mm:Nat->Nat}(h1:1<=W)(h2:W<=8)(hj:mq (64*W) 0 (m+n) (iM m q f) mm)(hw:∀ j,j < m+n->aD (64*W) 0 (iM m q f j).a=0)(hle:m+n<=900)(hl:yC 0 512 a b n f m q)(hv:∀ j,j < n->bI (f j).v)(hr:sU (m+n) (iM m q f)):
  ∃ (y:Ag) (nw:Nat),oV 0 512 (64*W) 0 a b n f m q (if m+n=0 then 0 else 1) y nw/\(0 < m+n->y.s=gY (fun j=>(iM m q f j).x.s) (m+n)):=by
 obtain⟨nw,e1,e2,e3⟩:=Tq h1 h2;have hz:aD (64*W) 0 0=0:=mV J J;obtain⟨⟨j1,j2⟩,j3,j4⟩:=Hu hj hle hw (m+n) (Nat.le_refl _);have hK:bP (64*W) 0:=⟨J,J,J,J⟩
 rcases Nat.eq_zero_or_pos (m+n) with h0 | h0
 ·refine ⟨bR ⟨0,0,0⟩,nw,⟨hK,hle,hl,hv,hr,⟨mm,hj⟩,by rw[if_pos h0];omega,fun x=>?_,by decide,by unfold aP;omega,by unfold aP;omega,J,e1,e2,e3⟩,fun h=>absurd h J⟩
  rw[if_pos h0,if_neg (fun h=>absurd h.1 J),h0];rfl
 ·obtain ⟨y,hy,hp⟩:=j3 h0
  refine⟨y,nw,⟨hK,hle,hl,hv,hr,⟨mm,hj⟩,by rw[if_neg J];omega,fun x=>?_,hp,by unfold aP;omega,by unfold aP;omega,J,e1,e2,e3⟩,fun _=>?_⟩
  ·have hk:(if m+n=0 then 0 else 1)=1:=if_neg J
   rw[hk,hz]
   by_cases hx:x=0
   ·rw[if_pos ⟨J,hx⟩,hx];exact hy
   ·rw[if_neg (fun h=>hx h.2)];exact j4 x hx
  ·rw[hy,Option.getD_some] at j1
   exact j1
theorem Pn(sg:Nat->Bool)(n:Nat)(hn:n<=64){W:Int}(h1:1<=W)(h2:W<=8)(q0:Nat->bC):
  ∃ (y:Ag) (nw:Nat),oV 0 512 (64*W) 0 0 0 (lE sg n).length (fun j=>(lE sg n).getD j ⟨0,0,0⟩) 0 q0 (if n=0 then 0 else 1) y nw/\(0 < n->y.s=gY (fun j=>vE (sg j)) n):=by
 rw[jQ];have hq:∀ j,j < n->iM 0 q0 (fun j=>(lE sg n).getD j ⟨0,0,0⟩) j=⟨(j:Nat),(j:Int)+1,bR (uJ sg j)⟩:=fun j hj=>by
  have:=MO 0 q0 (fun j=>(lE sg n).getD j ⟨0,0,0⟩) j;rw[Nat.zero_add] at this
  rw[this,jP hj];rfl
 have hw:∀ t:Int,0<=t->t < 64->aD (64*W) 0 t=0:=fun t ht1 ht2=>mV ht1 J
 have hj:mq (64*W) 0 (0+n) (iM 0 q0 (fun j=>(lE sg n).getD j ⟨0,0,0⟩)) (fun _=>1):=by
  rw[Nat.zero_add];refine⟨fun j hj=>?_,fun j hj=>?_,fun j hj=>?_,fun j hj=>?_,fun j hj=>?_,fun _ _=>J,fun j hj=>?_,fun _ _=>J⟩
  ·rw[hq j hj]
   refine⟨by unfold aP;simp only;omega,by unfold aP;simp only;omega,?_⟩;simp only;rw[hw _ J J,hw _ J J]
  ·rw[hq j hj];unfold aP;simp only;omega
  ·rw[hq j hj];simp only;omega
  ·rw[hq j J,hq (j+1) hj];simp only;omega
  ·rw[hq j hj];exact MC _
  ·rw[hq j hj];exact SH _ (vM _)
 obtain⟨y,nw,hp,hs⟩:=Ik (a:=0) (b:=0) h1 h2 hj (fun j hj=>by
   rw[Nat.zero_add] at hj
   rw[hq j hj];exact hw _ (by simp only;omega) (by simp only;omega)) J
  ⟨J,J,J,fun j hj=>by rw[jP hj];show (0:Int)<=(j:Int);omega,fun j hj=>by rw[jP hj];show (j:Int) < 512;omega,fun j hj=>by rw[jP hj,jP J];show (j:Int) < ((j+1:Nat):Int);omega,fun j hj=>absurd hj (Nat.not_lt_zero _),fun j hj=>absurd hj (Nat.not_lt_zero _),fun j hj=>absurd hj (Nat.not_lt_zero _)⟩
  (fun j hj=>by rw[jP hj];exact vM _)
  ⟨fun j hj=>by rw[Nat.zero_add] at hj;rw[hq j hj];unfold aP;simp only;omega,fun i j hij hj=>by rw[Nat.zero_add] at hj;rw[hq j hj,hq i J];simp only;omega⟩
 rw[Nat.zero_add] at hp hs
 refine⟨y,nw,hp,fun h0=>?_⟩;rw[hs h0];exact pR n (fun j hj=>by rw[hq j hj];rfl)
theorem OZ{W x y:Int}(hW:1<=W)(hx:(x-0).tmod W=0)(hy:(y-0).tmod W=0)(h:x < y): x+W<=y:=by
 rw[Int.sub_zero] at hx hy
 obtain⟨k,rfl⟩:=Int.dvd_of_tmod_eq_zero hx;obtain⟨l,rfl⟩:=Int.dvd_of_tmod_eq_zero hy;have hkl:k < l:=Int.lt_of_mul_lt_mul_left h J;have h2:W*(k+1)<=W*l:=Int.mul_le_mul_of_nonneg_left J J;rw[Int.mul_add,Int.mul_one] at h2
 exact h2
theorem gW(m:Nat)(q:Nat->bC)(f:Nat->Pt){j:Nat}(hj:j < m): iM m q f j=q j:=by unfold iM;rw[if_pos hj]
theorem MU(sg:Nat->Bool)(n:Nat)(hn:n<=64){W:Int}(h1:1<=W)(h2:W<=8)(f0:Nat->Pt){d:Array (Int × Ag)}(h:jG (dS W 0 (fun j=>(lE sg n).getD j ⟨0,0,0⟩) (lE sg n).length) d):
  (∃ (y:Ag) (nw:Nat),oV 0 512 (64*W) 0 0 (aD W 0 512) 0 f0 d.size (qd W d) (if n=0 then 0 else 1) y nw/\(0 < n->y.s=gY (fun j=>vE (sg j)) n))/\∀ i,i < d.size->0<=(qd W d i).a/\(qd W d i).b<=aD W 0 512:=by
 have hf:=EH sg n hn;have hk:bP W 0:=⟨h1,J,J,J⟩
 have hsum:=RQ hf (by rw[jQ];omega) h;have hcnt:=lK h;rw[jQ] at h hsum hcnt
 have ht:∀ j,j < n->0<=((lE sg n).getD j ⟨0,0,0⟩).t/\((lE sg n).getD j ⟨0,0,0⟩).t<=1000000:=fun j hj=>by rw[jP hj];show 0<=(j:Int)/\(j:Int)<=1000000;omega
 have hq:=fun i hi=>uq (i:=i) hf ht hk J h hi
 have hab:∀ i,i < d.size->0<=(qd W d i).a/\(qd W d i).a<=63:=fun i hi=>by
  have hs:(dS W 0 (fun j=>(lE sg n).getD j ⟨0,0,0⟩) n (qd W d i).a).isSome=true:=by rw[MP h W hi];rfl
  obtain⟨j,hj,e⟩:=wC W 0 _ n _ hs;rw[e];rw[jP hj];have h3:=EI h1 (t:=(uJ sg j).t) (show (0:Int)<=(j:Int) by omega);have h4:=(dD hk (t:=(uJ sg j).t)).1;have h5:(uJ sg j).t=(j:Int):=rfl;omega
 have hT:=dD hk (t:=512);have hb:∀ i,i < d.size->(qd W d i).b=(qd W d i).a+W:=fun i hi=>(hq i hi).1.wd
 have hst:∀ j,j+1 < d.size->(qd W d j).b<=(qd W d (j+1)).a:=fun j hj=>by
  rw[hb j J];exact OZ h1 (hq j J).1.off (hq (j+1) hj).1.off (zG h W (Nat.lt_succ_self j) hj)
 have hin:∀ i,i < d.size->0<=(qd W d i).a/\(qd W d i).b<=aD W 0 512:=fun i hi=>by
  have:=hab i hi;have:=hb i hi;omega
 refine⟨?_,hin⟩;have hch:∀ j,∃ m:Nat,j < d.size->0 < m/\m<=n/\iq (qd W d j).x m:=fun j=>by
  rcases Nat.lt_or_ge j d.size with hj | hj
  ·obtain ⟨-,-,m,hm⟩:=hq j hj
   exact⟨m,fun _=>hm⟩
  ·exact ⟨0,fun h=>absurd h J⟩
 obtain⟨mm,hmm⟩:=Classical.axiomOfChoice hch;have hle:∀ i j,i<=j->j < d.size->(qd W d i).a<=(qd W d j).a:=fun i j hij hj=>by
  rcases Nat.eq_or_lt_of_le hij with rfl | hlt
  ·omega
  ·have:=zG h W hlt hj;omega
 have hj:mq (64*W) 0 (d.size+0) (iM d.size (qd W d) f0) mm:=by
  rw[Nat.add_zero];refine⟨fun j hj=>?_,fun j hj=>?_,fun j hj=>?_,fun j hj=>?_,fun j hj=>?_,fun j hj=>(hmm j hj).1,fun j hj=>?_,fun j hj=>by have:=(hmm j hj).2.1;omega⟩
  ·rw[gW _ _ _ hj]
   have ha:=hab j hj;have hbj:=hb j hj;refine⟨by unfold aP;omega,by unfold aP;omega,?_⟩;rw[mV ha.1 J,mV J J]
  ·rw[gW _ _ _ hj];have:=hab j hj;have:=hb j hj;unfold aP;omega
  ·rw[gW _ _ _ hj];have:=hb j hj;omega
  ·rw[gW _ _ _ hj,gW _ _ _ J];exact hst j hj
  ·rw[gW _ _ _ hj];exact (hq j hj).1.valid
  ·rw[gW _ _ _ hj];exact (hmm j hj).2.2
 obtain⟨y,nw,hp,hs⟩:=Ik (a:=0) (b:=aD W 0 512) h1 h2 hj (fun j hj=>by
   rw[Nat.add_zero] at hj
   rw[gW _ _ _ hj];have:=hab j hj;exact mV this.1 J) J
  ⟨J,J,J,fun j hj=>absurd hj (Nat.not_lt_zero _),fun j hj=>absurd hj (Nat.not_lt_zero _),fun j hj=>absurd hj (Nat.not_lt_zero _),fun j hj=>(hab j hj).1,fun j hj=>(hin j hj).2,hst⟩
  (fun j hj=>absurd hj (Nat.not_lt_zero _))
  ⟨fun j hj=>by rw[Nat.add_zero] at hj;rw[gW _ _ _ hj];have:=hab j hj;unfold aP;omega,fun i j hij hj=>by rw[Nat.add_zero] at hj;rw[gW _ _ _ hj,gW _ _ _ J];exact hle i j hij hj⟩
 rw[Nat.add_zero] at hp hs
 have hpos:0 < n->0 < d.size:=fun h0=>by
  have hs:(dS W 0 (fun j=>(lE sg n).getD j ⟨0,0,0⟩) n (aD W 0 ((lE sg n).getD 0 ⟨0,0,0⟩).t)).isSome=true:=by
   rcases wB W 0 (fun j=>(lE sg n).getD j ⟨0,0,0⟩) hf n J (aD W 0 ((lE sg n).getD 0 ⟨0,0,0⟩).t) with ⟨-,h2⟩ | ⟨a,h1,-⟩
   ·have:(fun j=>(lE sg n).getD j (⟨0,0,0⟩:Pt)) 0 ∈ sH W 0 (fun j=>(lE sg n).getD j ⟨0,0,0⟩) n (aD W 0 ((lE sg n).getD 0 ⟨0,0,0⟩).t):=by
     unfold sH;rw[List.mem_filter,yA];exact⟨⟨0,h0,rfl⟩,by simp⟩
    rw[h2] at this
    cases this
   ·rw[h1];rfl
  obtain⟨p,hp,-⟩:=h.all _ hs;have:=List.length_pos_of_mem hp
  simpa using this
 have hkk:(if d.size=0 then 0 else 1)=(if n=0 then 0 else 1):=by
  rcases Nat.eq_zero_or_pos n with h0 | h0
  ·rw[if_pos h0,if_pos J]
  ·have:=hpos h0
   rw[if_neg J,if_neg J]
 rw[hkk] at hp
 refine⟨y,nw,hp,fun h0=>?_⟩;rw[hs (hpos h0)];have e1:gY (fun j=>(iM d.size (qd W d) f0 j).x.s) d.size=gY (fun j=>(d.toList.getD j (0,aQ)).2.s) d.size:=pR _ (fun j hj=>by rw[gW _ _ _ hj];rfl);rw[e1];refine Eq.trans hsum ?_;exact pR n (fun j hj=>by rw[jP hj];rfl)
structure qg(B:Nat)(w0 w:World)(e:Nat)(W:Int)(ga:Nat)(sg:Nat->Bool)(k:Nat)(x:bM): Prop where
 eng:bG B w0 w e 0 16777216 500 500 x
 L:x.L=lE sg k
 n:x.n=k
 q:x.q=k
 U:x.U=k
 nx:x.nx=k
 T:x.T<=72*k
 G:x.G<=2*k
 kl:x.kl<=k
 sz:x.sz<=72*k
 la:0 < k->x.la=(k:Int)-1
 s:x.s=decide (0 < k)
 an:x.An=some ⟨ga,0,none⟩
 nt:x.nt=1
 ti:x.ti=kT 1 W
 rb:x.rb=none
 n0:x.N=0
theorem RP{s:Bool}{la tm:Int}(h:la<=tm)(h0:0<=tm): V.kX s la 0<=tm:=by
 unfold V.kX
 split<;>omega
theorem qg.late{B:Nat}{w0 w:World}{e:Nat}{W:Int}{ga:Nat}{sg:Nat->Bool}{k:Nat}{x:bM}(h:qg B w0 w e W ga sg k x){tm:Int}(ht:(k:Int)<=tm): (∀ p ∈ x.L,p.t < tm)/\(x.s=true->V.kX x.s x.la 0<=tm)/\(x.s=true->x.la<=tm):=by
 have hla:x.s=true->x.la<=tm:=fun hs=>by
  rw[h.s] at hs
  have:=h.la (of_decide_eq_true hs);omega
 refine⟨fun p hp=>?_,fun hs=>RP (hla hs) J,hla⟩;rw[h.L] at hp
 obtain⟨j,hj,rfl⟩:=sJ hp;show (j:Int) < tm
 omega
theorem qg.call{B:Nat}{w0 w w':World}{e:Nat}{W:Int}{ga:Nat}{sg:Nat->Bool}{k:Nat}{x:bM}(h:qg B w0 w e W ga sg k x)(hb:Below w.heap.size w w'): qg B w0 w' e W ga sg k x:={ h with eng:=h.eng.call hb }
theorem mM{B:Nat}{w0 w:World}{e:Nat}{W:Int}{ga:Nat}{sg:Nat->Bool}{k:Nat}{x:bM}(h:qg B w0 w e W ga sg k x)(hk:k<=64){y:Nat}{w':World}{tm v:Int}(hy:y=w.heap.size)(o:Own w [(y,35,#[.string aY,Z tm,Z v])] w')(ht:(k:Int)<=tm)(ht2:tm<=512)(hv:bI v):
  Calls Tryz.prog 9 #[.pointer (some ⟨e,0,none⟩),.slice (some ⟨y,0,none⟩) 1 1] w' (yG B w0 w e 0 16777216 500 500 x tm v):=by
 have h':=h.call o.av;obtain⟨l1,l2,l3⟩:=h.late ht;have hT:=h.T;have hG:=h.G;have hkl:=h.kl;have hsz:=h.sz;exact xu h'.eng (fun q=>q=y) (some ⟨y,0,none⟩) 1 tm v (Fb hy o) (fun r hr hf=>by
  have h1:=h.eng.dY hf;have h3:r=y:=hr;omega) J hv l1 l2 l3 (by rw[h.n];omega) (by decide) (by rw[h.U];omega) (by rw[h.q];omega) J J (by decide) (by decide) J J (by rw[h.nx];omega) (by decide)
theorem qg.next{B:Nat}{w0 w w':World}{e:Nat}{W:Int}{ga:Nat}{sg:Nat->Bool}{k:Nat}{x:bM}(h:qg B w0 w e W ga sg k x){v:Int}(hv:v=vE (sg k)){p':ByteArray->Option FS}{Al:Option Addr}{cl:Nat}{fs:Nat->Nat}{kl sz:Nat}{At:Option Addr}{ct:Nat}(hkl:kl<=x.kl+1)(hsz:sz<=x.sz+72)(hE:bG B w0 w' e 0 16777216 500 500 { x with p:=p',T:=x.T+72,G:=x.G+2,Al:=Al,cl:=cl,fs:=fs,kl:=kl,sz:=sz,nx:=x.nx+1,At:=At,ct:=ct,L:=x.L ++ [⟨(k:Nat),v,(x.q:Nat)⟩],n:=x.n+1,U:=x.U+1,s:=true,la:=(k:Nat),q:=x.q+1 }):
  qg B w0 w' e W ga sg (k+1) { x with p:=p',T:=x.T+72,G:=x.G+2,Al:=Al,cl:=cl,fs:=fs,kl:=kl,sz:=sz,nx:=x.nx+1,At:=At,ct:=ct,L:=x.L ++ [⟨(k:Nat),v,(x.q:Nat)⟩],n:=x.n+1,U:=x.U+1,s:=true,la:=(k:Nat),q:=x.q+1 } where
 eng:=hE
 L:=by show x.L ++ [_]=_;rw[h.L,Hy,h.q,hv];rfl
 n:=by show x.n+1=_;rw[h.n]
 q:=by show x.q+1=_;rw[h.q]
 U:=by show x.U+1=_;rw[h.U]
 nx:=by show x.nx+1=_;rw[h.nx]
 T:=by have:=h.T;show x.T+72<=_;omega
 G:=by have:=h.G;show x.G+2<=_;omega
 kl:=by have:=h.kl;show kl<=_;omega
 sz:=by have:=h.sz;show sz<=_;omega
 la:=fun _=>by show (k:Int)=((k+1:Nat):Int)-1;omega
 s:=by show true=_;simp
 an:=h.an
 nt:=h.nt
 ti:=h.ti
 rb:=h.rb
 n0:=h.n0
structure TD(x:bM)(W:Int)(g:Nat)(sg:Nat->Bool)(k:Nat)(d:Array (Int × Ag))(bb:Bool)(bs:List Nat): Prop where
 an:x.An=some ⟨g,0,none⟩
 nt:x.nt=1
 ti:x.ti=lq W 0 (aD W 0 512) (aW 114 0)
 rb:x.rb=some bs
 L:x.L=lE sg k ++ [(⟨512,0,(k:Nat)⟩:Pt)]
 n:x.n=k+1
 T:x.T<=1048576
 Tb:bs.length<=x.T
 k64:k<=64
 w1:1<=W
 w8:W<=8
 bk:jG (dS W 0 (fun j=>(lE sg k).getD j ⟨0,0,0⟩) (lE sg k).length) d
 hb:bb=decide (0 < d.size)
 hbs:bs=F.aZ 8 (rH bb aY d.size (qd W d))
theorem tQ{B:Nat}{w0 w:World}{e:Nat}{x:bM}{W:Int}{g:Nat}{sg:Nat->Bool}{k:Nat}{d:Array (Int × Ag)}{bb:Bool}{bs:List Nat}(h:bG B w0 w e 0 16777216 500 500 x)(hr:TD x W g sg k d bb bs)(i:Nat)(hi:i<=1):
  ∃ y:Ag,(0 < k->y.s=gY (fun j=>vE (sg j)) k)/\∀ wx,Below w.heap.size w wx->Calls Tryz.prog 14 #[.pointer (some ⟨e,0,none⟩),.agg (qW 1 0 512 (64*W) 0 0),Z (i:Nat)] wx (iD wx (if k=0 then 0 else 1) (aD (64*W) 0 0) (aD (64*W) 0 0+64*W) (aj y.s) (au y.s)):=by
 have hw1:=hr.w1;have hw8:=hr.w8;have hk:bP W 0:=⟨J,J,J,J⟩
 have hK:bP (64*W) 0:=⟨J,J,J,J⟩
 have hT:=dD hk (t:=512);have hTo:=vB W 0 512;obtain⟨tq,htq⟩:∃ z,z=aD W 0 512:=⟨_,rfl⟩
 have hmod:tq-(tq-0)%W=tq:=by
  have h1:W ∣ tq-0:=Int.dvd_of_tmod_eq_zero (by rw[htq];exact hTo);rw[Int.emod_eq_zero_of_dvd h1];omega
 have hall:∀ wx gx c,gx < wx.heap.size->(∀ i u',(dP W 0 tq true (aW 114 0))[i]? = some u'->wx.cell? ⟨gx,i,none⟩=some u')->Calls Tryz.prog 51 #[.agg (qW 1 0 512 (64*W) 0 0),.slice (some ⟨gx,0,none⟩) 1 c,Z (-1152921504606846976)] wx (zY wx 0 0 tq):=fun wx gx c hg ht=>
  L9 wx 1 0 512 (64*W) 0 W 0 tq (-1152921504606846976) 0 tq 0 tq gx c (aW 114 0) hK hk (by rw[Int.mul_comm];exact Int.mul_tmod_right W 64) (by simp) J J J J J J J (by decide) (by rw[<-htq] at hT;exact Int.min_eq_right hT.1) J J J J (by simp) hmod J hg ht
 have hlen:x.L.length=k+1:=by rw[hr.L,List.length_append,jQ];rfl
 have hkn:x.n<=900:=by rw[hr.n];have:=hr.k64;omega
 rcases(show i=0\/i=1 by omega) with rfl | rfl
 ·obtain ⟨y,nw,hp,hs⟩:=Pn sg k hr.k64 hw1 hw8 (fun _=>⟨0,0,aQ⟩)
  refine⟨y,hs,fun wx hb=>?_⟩;have hE:=h.call hb;have hby:∀ wy,Below wx.heap.size wx wy->Calls Tryz.prog 50 #[.pointer (some ⟨e,0,none⟩),.agg (qW 1 0 512 (64*W) 0 0),.agg (dO (-1) 0 0)] wy (iD wy (if k=0 then 0 else 1) (aD (64*W) 0 0) (aD (64*W) 0 0+64*W) (aj y.s) (au y.s)):=fun wy hby=>by
   refine Gw (hE.call hby) 0 512 (64*W) 0 (lE sg k) ?_ (EG sg k) hkn (by decide) _ nw y _ hp;rw[hr.L,hr.n];exact SX hr.k64 J J J
  exact EC hE 0 512 (64*W) 0 0 tq g W tq (aW 114 0) hr.an hr.nt (by rw[htq];exact hr.ti) hall 0 (-1) 0 0 (.inl ⟨rfl,rfl,rfl,rfl⟩) _ _ _ _ _ hby
 ·obtain ⟨⟨y,nw,hp,hs⟩,hin⟩:=MU sg k hr.k64 hw1 hw8 (fun _=>⟨0,0,0⟩) hr.bk
  have hc:=lK hr.bk;rw[jQ] at hc
  rw[<-htq] at hp hin hT
  refine⟨y,hs,fun wx hb=>?_⟩;have hE:=h.call hb;have ht2:KG x g W tq (aW 114 0) bb d.size (qd W d) bs 0 512 0 tq d.size:={
   an:=hr.an
   nt:=hr.nt
   ti:=by rw[htq];exact hr.ti
   file:=h.nam.rf bs hr.rb
   hbs:=hr.hbs
   tier:=⟨hw1,J,J,J,⟨J,J⟩,by rw[cu];omega,by rw[cu];omega⟩
   part:=O9 (EH sg k hr.k64) (fun j hj=>by rw[jQ] at hj;rw[jP hj];have:=hr.k64;show 0<=(j:Int)/\(j:Int)<=1000000;omega) hk (by rw[jQ];have:=hr.k64;omega) hr.bk hr.hb
   hT:=hr.T
   hl:=hr.Tb
   s1:=by rw[hr.L,hr.n];exact Ip hr.k64 (.inl J)
   s2:=by rw[hr.L,hr.n];exact Ip hr.k64 (.inr ⟨J,J⟩)
   hin:=fun _=>hin
   nnle:=by have:=hr.k64;omega
   meq:=by
    have hb:=hr.hb
    cases hbb:bb with
    | true=>rw[if_pos rfl]
    | false=>
     rw[hbb] at hb
     have:=of_decide_eq_false hb.symm;rw[if_neg (by decide)];omega
   hn:=hkn }
  have hby:∀ wy,Below wx.heap.size wx wy->Calls Tryz.prog 50 #[.pointer (some ⟨e,0,none⟩),.agg (qW 1 0 512 (64*W) 0 0),.agg (dO 0 0 tq)] wy (iD wy (if k=0 then 0 else 1) (aD (64*W) 0 0) (aD (64*W) 0 0+64*W) (aj y.s) (au y.s)):=fun wy hby=>
   ED (hE.call hby) 0 512 (64*W) 0 0 tq g W tq (aW 114 0) bb d.size (qd W d) bs d.size ht2 (by decide) _ nw y _ hp
  exact EC hE 0 512 (64*W) 0 0 tq g W tq (aW 114 0) hr.an hr.nt (by rw[htq];exact hr.ti) hall 1 0 0 tq (.inr ⟨rfl,rfl,rfl,rfl⟩) _ _ _ _ _ hby
theorem qg.MS{B:Nat}{w0 w:World}{e:Nat}{W:Int}{ga:Nat}{sg:Nat->Bool}{k:Nat}{x:bM}(h:qg B w0 w e W ga sg k x)(hk:k<=64)(hw1:1<=W)(hw8:W<=8){p':ByteArray->Option FS}{Al:Option Addr}{cl:Nat}{fs:Nat->Nat}{kl sz:Nat}{At:Option Addr}{ct:Nat}:
  Dr { x with p:=p',T:=x.T+72,G:=x.G+2,Al:=Al,cl:=cl,fs:=fs,kl:=kl,sz:=sz,nx:=x.nx+1,At:=At,ct:=ct,L:=x.L ++ [⟨512,0,(x.q:Nat)⟩],n:=x.n+1,U:=x.U+1,s:=true,la:=512,q:=x.q+1 } 0 16777216 ga W 512 (lE sg k):=by
 have hkk:bP W 0:=⟨J,J,J,J⟩
 have hT:=dD hkk (t:=512);have hF:=Fz hw1 J;have hsel:fK (fun j=>(x.L ++ [(⟨512,0,(x.q:Nat)⟩:Pt)]).getD j ⟨0,0,0⟩) (jN W) (aD W 0 512) (x.n+1)=lE sg k:=by
  rw[h.L,h.q,h.n];exact SX hk J J J
 exact {
  an:=h.an
  nt:=h.nt
  ti:=h.ti
  rb:=h.rb
  n0:=h.n0
  w1:=hw1
  w2:=J
  wa:=by show V.kX true 512 0=512;decide
  wb:=by show V.oO true 512 0=true;decide
  wt1:=J
  wt2:=J
  n1:=by show 0 < x.n+1;omega
  n2:=by have:=h.n;show x.n+1<=900;omega
  sel:=hsel
  inc:=EG sg k
  len:=by rw[jQ];omega
  ok:=fun p hp=>by
   obtain⟨j,hj,rfl⟩:=sJ hp;exact MK sg j J
  inn:=fun p hp=>by
   obtain⟨j,hj,rfl⟩:=sJ hp;show jN W<=(j:Int)/\(j:Int) < aD W 0 512
   omega
  ok2:=EH sg k hk
  tm:=fun j hj=>by rw[jQ] at hj;rw[jP hj];show 0<=(j:Int)/\(j:Int)<=1000000;omega
  hT:=by have:=h.T;show x.T+72+120000+(100+53*2)<=1048576;omega
  hG:=by have:=h.G;show x.G+2+5 < 512;omega
  r1:=J
  r2:=J
  lg:=by decide }
theorem qg.Qe{B:Nat}{w0 w:World}{e:Nat}{W:Int}{ga:Nat}{sg:Nat->Bool}{k:Nat}{x:bM}(h:qg B w0 w e W ga sg k x)(hk:k<=64)(hw1:1<=W)(hw8:W<=8){p' p7:ByteArray->Option FS}{Al:Option Addr}{cl:Nat}{fs:Nat->Nat}{kl sz:Nat}{At:Option Addr}{ct g7 c7:Nat}{d:Array (Int × Ag)}{bb:Bool}{bs:List Nat}(hbb:bb=decide (0 < d.size))(hbk:jG (dS W 0 (fun j=>(lE sg k).getD j ⟨0,0,0⟩) (lE sg k).length) d)(hbs:bs=F.aZ 8 (rH bb aY d.size (qd W d)))(hbl:bs.length<=120000):
  TD (AV { x with p:=p',T:=x.T+72,G:=x.G+2,Al:=Al,cl:=cl,fs:=fs,kl:=kl,sz:=sz,nx:=x.nx+1,At:=At,ct:=ct,L:=x.L ++ [⟨512,0,(x.q:Nat)⟩],n:=x.n+1,U:=x.U+1,s:=true,la:=512,q:=x.q+1 } p7 g7 c7 W (aD W 0 512) bs) W g7 sg k d bb bs where
 an:=rfl
 nt:=rfl
 ti:=by show lq W 0 _ (aW 114 x.N)=_;rw[h.n0]
 rb:=rfl
 L:=by show x.L ++ [_]=_;rw[h.L,h.q]
 n:=by show x.n+1=_;rw[h.n]
 T:=by have:=h.T;show x.T+72+bs.length+(100+53*2)<=1048576;omega
 Tb:=by show bs.length<=x.T+72+bs.length+(100+53*2);omega
 k64:=hk
 w1:=hw1
 w8:=hw8
 bk:=hbk
 hb:=hbb
 hbs:=hbs
theorem Jh(w:World)(hv:V.dh w)(A0:Option Addr)(ns c0:Nat)(sg:Nat->Bool)(hsl:Sl w (fun q=>q < w.heap.size) A0 ns (fun j=>.bool (sg j)))(a:Int):
  Calls Tryz.prog 4 #[.slice A0 ns c0,.int .i64 a] w fun u w'=>u=.returned (.bool true)/\Below w.heap.size w w':=by
 have HV:=zh (zN hv hsl);have nt:∀ w:World,(Op.unary .not (.bool true)).run Tryz.prog w=.ok (.bool false) w:=bJ
 obtain⟨W,hW⟩:∃ m:Int,m=1+a%8:=⟨_,rfl⟩
 have hA:wrap64 (1+bits .and .i64 a 7)=W:=by rw[show bits .and .i64 a 7=((a%8).toNat:Int) from qm a 3 J];unfold wrap64;omega
 have hW1:1<=W:=J;have hW8:W<=8:=J;clear hv hsl hW;obtain⟨nn,hnn⟩:∃ n:Nat,n=min ns 64:=⟨_,rfl⟩
 have HN:=zh (show nn<=64/\nn<=ns/\(nn=ns\/nn=64) by omega);clear hnn
 go_enter Tryz.func4,Tryz.ntmps4
 go_wp2_with fail;refine(J3 w HV.out.1).mono ?_;rintro u w1 ⟨rfl,hb1⟩;have H1:=zh hb1;clear hb1;go_wp2_with fail;rw[hA];clear hA;refine(Lh w1 16777216 (by decide)).mono ?_;rintro u w2 ⟨d,M,rfl,hM,hd,hD,hb2⟩;have H2:=zh (zN hM (zN hd (zN hD (V.aB H1.out hb2))));clear hM hd hD hb2;go_wp2_with fail;obtain⟨y,hy⟩:∃ y,y=w2.heap.size:=⟨_,rfl⟩
 have hY:=zh hy;rw[<-hy];clear hy;refine bQ (Own w2 [(y,46,#[.int .i64 W,.int .i64 0])]) (Own.bn w2 hY.out _ _) ?_;intro w3 o3;have hcf:Bn w3 (some ⟨y,0,none⟩) 1 1 W:=⟨Nat.le_refl _,fun h=>absurd h J,fun _=>⟨y,rfl,(o3.get 0 rfl).lt,o3.cell 0 0 rfl rfl,o3.cell 0 1 rfl rfl⟩,hW1,J⟩
 refine(zk w.heap.size w w3 d M 16777216 0 0 500 500 (some ⟨y,0,none⟩) 1 1 W hcf (Nat.le_refl _) (V.aB H2.out.2.2.2 o3.av) (H2.out.2.2.1.call o3.av) (fun r hr=>by
  rcases hr with rfl | rfl | ⟨s,a,ha,-⟩
  ·exact Nat.le_trans H1.out.size H2.out.2.1
  ·exact Nat.le_trans H1.out.size H2.out.1
  ·cases ha) ⟨HV.out.1,Ee HV.out.1⟩ (by decide) (by decide) (by decide) (by decide) (by decide)).mono ?_
 rintro u w4 ⟨e,st,l,t,Mt,An,cn,rfl,hE,hb4⟩;clear hcf;obtain⟨ga,rfl,-,-,-⟩:=bN.GY (show bN w4 0 An 1 cn (kT 1 W) from hE.sto.row);have hI:qg w.heap.size w w4 e W ga sg 0 (newX st d M l t Mt 0 (some ⟨ga,0,none⟩) 1 cn W):=⟨hE,rfl,rfl,rfl,rfl,rfl,Nat.le_refl _,Nat.le_refl _,Nat.le_refl _,Nat.le_refl _,fun h=>absurd h (Nat.lt_irrefl 0),rfl,rfl,rfl,rfl,rfl,rfl⟩
 have H4:=zh hI;clear hE hb4 hI o3;go_wp2_with fail
 go_loopw [8,9,10] (fun p m i wr=>∃ (k:Nat) (x:bM),k<=nn/\i=.int .i64 (k:Nat)/\p=.int .i64 (je sg false k:Nat)/\m=.int .i64 (je sg true k:Nat)/\qg w.heap.size w wr e W ga sg k x) (fun _ _ i _=>nn-(intOf i).toNat)
 case atStart=>exact ⟨0,_,Nat.zero_le _,rfl,rfl,rfl,H4.out⟩
 case round=>
  obtain⟨k,x,hk,rfl,rfl,rfl,hI⟩:=hrel
  by_cases hlt:k < nn
  ·have d1:decide ((k:Int) < (ns:Int))=true:=decide_eq_true (by have:=HN.out;omega)
   have d2:decide ((k:Int) < 64)=true:=decide_eq_true (by have:=HN.out;omega);have d3:(k:Int) < (ns:Int):=by have:=HN.out;omega
   have d4:(0:Int)<=(k:Int):=J;have hk64:k<=63:=by have:=HN.out;omega
   have hP:IntKind.i64.wrap ((je sg false k:Int)+1)=(je sg false k:Int)+1:=by have:=vX sg k;simp only[IntKind.wrap_i64];omega
   have hM:IntKind.i64.wrap ((je sg true k:Int)+1)=(je sg true k:Int)+1:=by have:=vX sg k;simp only[IntKind.wrap_i64];omega
   obtain⟨bb,off,rfl,hd,hc⟩:=HV.out.2 J;have u0:wr.cell? ⟨bb,off+k,none⟩=some (.bool (sg k)):=(hI.eng.av.cell (p:=⟨bb,off+k,none⟩) hd).trans (hc k J);obtain⟨bv,hbv⟩:∃ z,z=sg k:=⟨_,rfl⟩
   rw[<-hbv] at u0
   have HI:=zh (zN hI hbv);obtain⟨y2,hy2⟩:∃ y,y=wr.heap.size:=⟨_,rfl⟩
   have hY2:=zh hy2;clear hI hd hc hbv
   cases bv with
   | false=>
    go_wp2_with fail;rw[<-hy2];clear hy2 u0;refine bQ (Own wr [(y2,35,#[.string aY,.int .i64 (k:Nat),.int .i64 (9223372036854775807)])]) (Own.bn wr hY2.out _ _) ?_;intro w5 o5;refine(mM HI.out.1 J hY2.out o5 (Int.le_refl _) J (vM false)).mono ?_;clear o5;rintro u w6 ⟨rfl,p',Al,cl,fs,kl,sz,At,ct,hkl,hsz,hE6⟩;have h6:=HI.out.1.next (v:=9223372036854775807) (by rw[<-HI.out.2];rfl) hkl hsz hE6;have H6:=zh h6;clear hE6 h6;go_wp2_with fail
    go_roundw
    case rel=>
     refine⟨k+1,_,J,by first | rfl | go_num,?_,?_,H6.out⟩
     ·refine congrArg (Value.int .i64) ?_
      show _=((je sg false k+(if sg k=false then 1 else 0):Nat):Int)
      rw[<-HI.out.2];simp
     ·refine congrArg (Value.int .i64) ?_
      show _=((je sg true k+(if sg k=true then 1 else 0):Nat):Int)
      rw[<-HI.out.2];simp
    case measure=>simp[intOf]<;>omega
   | true=>
    go_wp2_with fail;rw[<-hy2];clear hy2 u0;refine bQ (Own wr [(y2,35,#[.string aY,.int .i64 (k:Nat),.int .i64 (-9223372036854775808)])]) (Own.bn wr hY2.out _ _) ?_;intro w5 o5;refine(mM HI.out.1 J hY2.out o5 (Int.le_refl _) J (vM true)).mono ?_;clear o5;rintro u w6 ⟨rfl,p',Al,cl,fs,kl,sz,At,ct,hkl,hsz,hE6⟩;have h6:=HI.out.1.next (v:=-9223372036854775808) (by rw[<-HI.out.2];rfl) hkl hsz hE6;have H6:=zh h6;clear hE6 h6;go_wp2_with fail
    go_roundw
    case rel=>
     refine⟨k+1,_,J,by first | rfl | go_num,?_,?_,H6.out⟩
     ·refine congrArg (Value.int .i64) ?_
      show _=((je sg false k+(if sg k=false then 1 else 0):Nat):Int)
      rw[<-HI.out.2];simp
     ·refine congrArg (Value.int .i64) ?_
      show _=((je sg true k+(if sg k=true then 1 else 0):Nat):Int)
      rw[<-HI.out.2];simp
    case measure=>simp[intOf]<;>omega
  ·obtain rfl:k=nn:=J
   have hcs:=vX sg k;obtain⟨P,hP⟩:∃ z,z=je sg false k:=⟨_,rfl⟩
   obtain⟨Q,hQ⟩:∃ z,z=je sg true k:=⟨_,rfl⟩
   have hk64:=HN.out.1;rw[<-hP,<-hQ] at hcs ⊢
   have g1:IntKind.i64.wrap ((P:Int)+(Q:Int))=(k:Int):=by simp only[IntKind.wrap_i64];omega
   have g2:IntKind.i64.wrap (64*W)=64*W:=by simp only[IntKind.wrap_i64];omega
   have HI:=zh (zN hI (zN hP hQ));clear hI hP hQ
   by_cases hns:k < ns
   ·have d1:decide ((k:Int) < (ns:Int))=true:=decide_eq_true J
    have d2:decide ((k:Int) < 64)=false:=decide_eq_false (by have:=HN.out;omega);go_wp2_with fail;obtain⟨y2,hy2⟩:∃ y,y=wr.heap.size:=⟨_,rfl⟩
    have hY2:=zh hy2;rw[<-hy2];clear hy2;refine bQ (Own wr [(y2,35,#[.string aY,.int .i64 512,.int .i64 0])]) (Own.bn wr hY2.out _ _) ?_;intro w5 o5;refine(mM HI.out.1 hk64 hY2.out o5 J J (by unfold bI;decide)).mono ?_;clear o5;rintro u w6 ⟨rfl,p',Al,cl,fs,kl,sz,At,ct,hkl,hsz,hE6⟩;have H6:=zh hE6;clear hE6;go_wp2_with fail;refine(zl H6.out (HI.out.1.MS hk64 hW1 hW8)).mono ?_;rintro u w7 ⟨rfl,d7,bb,p7,g7,c7,bs,hbb,hbk,hbs,hbl,hE7⟩;obtain⟨ya,hsa,hBa⟩:=tQ hE7 (HI.out.1.Qe hk64 hW1 hW8 hbb hbk hbs hbl) 0 J;obtain⟨yb,hsb,hBb⟩:=tQ hE7 (HI.out.1.Qe hk64 hW1 hW8 hbb hbk hbs hbl) 1 J;obtain⟨n1,hn1⟩:∃ z:Nat,z=(if k=0 then 0 else 1):=⟨_,rfl⟩
    simp only[<-hn1] at hBa hBb
    have HK1:=zh (show n1<=1/\(k=0->n1=0)/\(0 < k->n1=1) by rw[hn1];split<;>omega);clear hn1;have H7:=zh (zN hE7.av (zN hsa (zN hsb (zN hBa hBb))));clear hbb hbk hbs hbl hE7 hsa hsb hBa hBb;go_upto_region 25 with (fail)
    obtain⟨z,hz⟩:∃ y,y=w7.heap.size:=⟨_,rfl⟩
    have oz:=Own.bn w7 hz 43 (qW 1 0 512 (64*W) 0 0);rw[<-hz];refine aC (Own w7 [(z,43,qW 1 0 512 (64*W) 0 0)]) oz ?_;clear oz hz;intro w8 h8;have z0_0:=h8.c12 0;have H8:=zh h8;clear h8;go_wp2_with fail;clear z0_0;have ca:=H7.out.2.2.2.1 w8 H8.out.av;unfold qW at ca
    refine ca.mono ?_;clear ca;rintro u w9 ⟨A9,c9,rfl,hr9,hb9⟩;have h9:=H8.out.call hb9;have z0_0:=h9.c12 0;have H9:=zh (zN h9 (sQ hr9));clear h9 hr9 hb9;go_wp2_with fail;clear z0_0;have cb:=H7.out.2.2.2.2 w9 H9.out.1.av;unfold qW at cb
    refine cb.mono ?_;clear cb;rintro u w10 ⟨A10,c10,rfl,hr10,hb10⟩;have H10:=zh (zN (H9.out.1.call hb10) (zN (H9.out.2.below hb10) (sQ hr10)));clear hr10 hb10;go_wp2_with fail;have hsame:rM w10 A10 n1 (aD (64*W) 0 0) (aD (64*W) 0 0+64*W) (aj ya.s) (au ya.s):=by
     rcases Nat.eq_zero_or_pos k with h0 | h0
     ·exact fun hh=>absurd (HK1.out.2.1 h0) J
     ·have h1:=H7.out.2.1 h0
      have h2:=H7.out.2.2.1 h0;rw[h1,<-h2];exact H10.out.2.2
    refine(BX w10 A9 A10 n1 c9 c10 _ _ _ _ H10.out.2.1 hsame HK1.out.1).mono ?_;clear hsame;rintro u w11 ⟨rfl,hb11⟩;have H11:=zh (zN (V.aB H7.out.1 (H10.out.1.call hb11).av) (H10.out.2.1.below hb11));clear hb11;rcases Nat.eq_zero_or_pos k with h0 | h0
    ·obtain rfl:n1=0:=HK1.out.2.1 h0
     have dk:((k:Int) == 0)=true:=by rw[h0];rfl
     clear h0;go_wp2_with fail;go_ret;exact⟨rfl,H11.out.1⟩
    ·obtain rfl:n1=1:=HK1.out.2.2 h0
     have dk:((k:Int) == 0)=false:=by simp;omega
     obtain⟨g9,rfl,hg9,-,-,-,v3,v4⟩:=H11.out.2 J;have hs:=H7.out.2.1 h0;rw[Bh,<-HI.out.2.1,<-HI.out.2.2] at hs
     have ex:=yS P Q J ya.s hs;rw[ex.1] at v3
     rw[ex.2] at v4
     have eb:bits .and .i64 ((P:Int)-(Q:Int)) 1=((P:Int)-(Q:Int))%2:=by
      have:=qm ((P:Int)-(Q:Int)) 1 J;rw[show bits .and .i64 ((P:Int)-(Q:Int)) 1=((((P:Int)-(Q:Int))%2).toNat:Int) from this];omega
     obtain⟨r,hr⟩:∃ r,r=((P:Int)-(Q:Int))%2:=⟨_,rfl⟩
     have hr2:r=0\/r=1:=J;rw[<-hr] at eb v3 v4
     have w1:IntKind.u64.wrap r=r:=by simp only[IntKind.wrap_u64];omega
     have w2:IntKind.u64.wrap (r*9223372036854775808)=r*9223372036854775808:=by simp only[IntKind.wrap_u64];omega
     have w3:IntKind.u64.wrap (P:Int)=(P:Int):=by simp only[IntKind.wrap_u64];omega
     have w4:IntKind.u64.wrap (r*9223372036854775808-(P:Int))=(r*9223372036854775808-(P:Int))%18446744073709551616:=by simp only[IntKind.wrap_u64]
     have w5:IntKind.i64.wrap ((P:Int)-(Q:Int))=(P:Int)-(Q:Int):=by simp only[IntKind.wrap_i64];omega
     have w6:IntKind.i64.wrap (((P:Int)-(Q:Int)) / 2-1)=((P:Int)-(Q:Int)) / 2-1:=by simp only[IntKind.wrap_i64];omega
     clear h0 hs ex hr hr2
     by_cases hlp:r*9223372036854775808 < (P:Int)
     ·have dl:decide (r*9223372036854775808 < (P:Int))=true:=decide_eq_true hlp
      rw[if_pos hlp] at v3
      clear hlp;go_wp2_with fail;go_ret;exact⟨rfl,H11.out.1⟩
     ·have dl:decide (r*9223372036854775808 < (P:Int))=false:=decide_eq_false hlp
      rw[if_neg hlp,Int.sub_zero] at v3
      clear hlp;go_wp2_with fail;go_ret;exact⟨rfl,H11.out.1⟩
   ·have d1:decide ((k:Int) < (ns:Int))=false:=decide_eq_false J
    go_wp2_with fail;obtain⟨y2,hy2⟩:∃ y,y=wr.heap.size:=⟨_,rfl⟩
    have hY2:=zh hy2;rw[<-hy2];clear hy2;refine bQ (Own wr [(y2,35,#[.string aY,.int .i64 512,.int .i64 0])]) (Own.bn wr hY2.out _ _) ?_;intro w5 o5;refine(mM HI.out.1 hk64 hY2.out o5 J J (by unfold bI;decide)).mono ?_;clear o5;rintro u w6 ⟨rfl,p',Al,cl,fs,kl,sz,At,ct,hkl,hsz,hE6⟩;have H6:=zh hE6;clear hE6;go_wp2_with fail;refine(zl H6.out (HI.out.1.MS hk64 hW1 hW8)).mono ?_;rintro u w7 ⟨rfl,d7,bb,p7,g7,c7,bs,hbb,hbk,hbs,hbl,hE7⟩;obtain⟨ya,hsa,hBa⟩:=tQ hE7 (HI.out.1.Qe hk64 hW1 hW8 hbb hbk hbs hbl) 0 J;obtain⟨yb,hsb,hBb⟩:=tQ hE7 (HI.out.1.Qe hk64 hW1 hW8 hbb hbk hbs hbl) 1 J;obtain⟨n1,hn1⟩:∃ z:Nat,z=(if k=0 then 0 else 1):=⟨_,rfl⟩
    simp only[<-hn1] at hBa hBb
    have HK1:=zh (show n1<=1/\(k=0->n1=0)/\(0 < k->n1=1) by rw[hn1];split<;>omega);clear hn1;have H7:=zh (zN hE7.av (zN hsa (zN hsb (zN hBa hBb))));clear hbb hbk hbs hbl hE7 hsa hsb hBa hBb;go_upto_region 25 with (fail)
    obtain⟨z,hz⟩:∃ y,y=w7.heap.size:=⟨_,rfl⟩
    have oz:=Own.bn w7 hz 43 (qW 1 0 512 (64*W) 0 0);rw[<-hz];refine aC (Own w7 [(z,43,qW 1 0 512 (64*W) 0 0)]) oz ?_;clear oz hz;intro w8 h8;have z0_0:=h8.c12 0;have H8:=zh h8;clear h8;go_wp2_with fail;clear z0_0;have ca:=H7.out.2.2.2.1 w8 H8.out.av;unfold qW at ca
    refine ca.mono ?_;clear ca;rintro u w9 ⟨A9,c9,rfl,hr9,hb9⟩;have h9:=H8.out.call hb9;have z0_0:=h9.c12 0;have H9:=zh (zN h9 (sQ hr9));clear h9 hr9 hb9;go_wp2_with fail;clear z0_0;have cb:=H7.out.2.2.2.2 w9 H9.out.1.av;unfold qW at cb
    refine cb.mono ?_;clear cb;rintro u w10 ⟨A10,c10,rfl,hr10,hb10⟩;have H10:=zh (zN (H9.out.1.call hb10) (zN (H9.out.2.below hb10) (sQ hr10)));clear hr10 hb10;go_wp2_with fail;have hsame:rM w10 A10 n1 (aD (64*W) 0 0) (aD (64*W) 0 0+64*W) (aj ya.s) (au ya.s):=by
     rcases Nat.eq_zero_or_pos k with h0 | h0
     ·exact fun hh=>absurd (HK1.out.2.1 h0) J
     ·have h1:=H7.out.2.1 h0
      have h2:=H7.out.2.2.1 h0;rw[h1,<-h2];exact H10.out.2.2
    refine(BX w10 A9 A10 n1 c9 c10 _ _ _ _ H10.out.2.1 hsame HK1.out.1).mono ?_;clear hsame;rintro u w11 ⟨rfl,hb11⟩;have H11:=zh (zN (V.aB H7.out.1 (H10.out.1.call hb11).av) (H10.out.2.1.below hb11));clear hb11;rcases Nat.eq_zero_or_pos k with h0 | h0
    ·obtain rfl:n1=0:=HK1.out.2.1 h0
     have dk:((k:Int) == 0)=true:=by rw[h0];rfl
     clear h0;go_wp2_with fail;go_ret;exact⟨rfl,H11.out.1⟩
    ·obtain rfl:n1=1:=HK1.out.2.2 h0
     have dk:((k:Int) == 0)=false:=by simp;omega
     obtain⟨g9,rfl,hg9,-,-,-,v3,v4⟩:=H11.out.2 J;have hs:=H7.out.2.1 h0;rw[Bh,<-HI.out.2.1,<-HI.out.2.2] at hs
     have ex:=yS P Q J ya.s hs;rw[ex.1] at v3
     rw[ex.2] at v4
     have eb:bits .and .i64 ((P:Int)-(Q:Int)) 1=((P:Int)-(Q:Int))%2:=by
      have:=qm ((P:Int)-(Q:Int)) 1 J;rw[show bits .and .i64 ((P:Int)-(Q:Int)) 1=((((P:Int)-(Q:Int))%2).toNat:Int) from this];omega
     obtain⟨r,hr⟩:∃ r,r=((P:Int)-(Q:Int))%2:=⟨_,rfl⟩
     have hr2:r=0\/r=1:=J;rw[<-hr] at eb v3 v4
     have w1:IntKind.u64.wrap r=r:=by simp only[IntKind.wrap_u64];omega
     have w2:IntKind.u64.wrap (r*9223372036854775808)=r*9223372036854775808:=by simp only[IntKind.wrap_u64];omega
     have w3:IntKind.u64.wrap (P:Int)=(P:Int):=by simp only[IntKind.wrap_u64];omega
     have w4:IntKind.u64.wrap (r*9223372036854775808-(P:Int))=(r*9223372036854775808-(P:Int))%18446744073709551616:=by simp only[IntKind.wrap_u64]
     have w5:IntKind.i64.wrap ((P:Int)-(Q:Int))=(P:Int)-(Q:Int):=by simp only[IntKind.wrap_i64];omega
     have w6:IntKind.i64.wrap (((P:Int)-(Q:Int)) / 2-1)=((P:Int)-(Q:Int)) / 2-1:=by simp only[IntKind.wrap_i64];omega
     clear h0 hs ex hr hr2
     by_cases hlp:r*9223372036854775808 < (P:Int)
     ·have dl:decide (r*9223372036854775808 < (P:Int))=true:=decide_eq_true hlp
      rw[if_pos hlp] at v3
      clear hlp;go_wp2_with fail;go_ret;exact⟨rfl,H11.out.1⟩
     ·have dl:decide (r*9223372036854775808 < (P:Int))=false:=decide_eq_false hlp
      rw[if_neg hlp,Int.sub_zero] at v3
      clear hlp;go_wp2_with fail;go_ret;exact⟨rfl,H11.out.1⟩
theorem CY(a0:Option Addr)(len0 cap0:Nat)(f0:Nat->Bool)(a1:Int)(w:World)(w0:Sl w (fun q=>q < w.heap.size) a0 len0 (fun j=>.bool (f0 j)))(w1:(Lit.int .i64 a1).wf=true)(hv:V.dh w):
  Calls Tryz.prog 4 #[.slice a0 len0 cap0,Z a1] w fun e w'=>e=.returned (.bool true)/\Below w.heap.size w w':=
 Jh w hv a0 len0 cap0 f0 w0 a1
end
namespace topExact
open Go.ChangeShapes Go.WideShapes Go.ChangeAt Go.RowKit
open Go.ChangeMaps (open_string shut_string)
theorem own: ownKnob Tryz.prog.godebug=none:=by kernel_rfl
theorem laidOut: laidOutB Tryz.prog=true:=by kernel_rfl
theorem errAt: Tryz.prog.globalNamed "errors.errorType" = some 0:=by kernel_rfl
theorem rtAt: (Tryz.prog.cutTypes.find? (·.1 == "internal/reflectlite.rtype")).map (·.2)=some 426:=by kernel_rfl
theorem oneRow: ((List.range Tryz.prog.types.size).filter fun t=>Tryz.prog.rowNamed t [101,114,114,111,114])=[223]:=by kernel_rfl
theorem herr{W:World}(h:laidMetH Tryz.prog Rows.topExactRow.laid W): V.dh W:=by
 have h':laidMet Tryz.prog [] W/\handlesMet Tryz.prog Rows.topExactRow.laid W:=h;obtain⟨name,u,ty,e1,e2,e3,e4,e5⟩:=h'.2 _ (List.mem_singleton.2 rfl);have en:name=[101,114,114,111,114]:=(Option.some.inj e1).symm;subst en;obtain rfl:=Option.some.inj (rtAt.symm.trans e2);have hm:ty ∈ (List.range Tryz.prog.types.size).filter fun t=>Tryz.prog.rowNamed t [101,114,114,111,114]:=List.mem_filter.2 ⟨List.mem_range.2 e3,e4⟩
 rw[oneRow] at hm
 obtain rfl:=List.mem_singleton.1 hm;have hh:typeHandle Tryz.prog 223=.pointer (some ⟨4,223,none⟩):=by kernel_rfl
 rw[hh] at e5
 have:=World.var?_cell errAt e5 0
 simpa [V.dh] using this
noncomputable def laidWorld(os:Os): World:=
 let w0:=World.holding Tryz.prog os ⟨#[],#[],[]⟩
 { w0 with heap:=w0.heap.modify 0 fun
   | .cells _ t frozen=>.cells #[.iface 426 (.agg #[.pointer (some ⟨4,223,none⟩)])] t frozen
   | o=>o }
theorem laid_met(os:Os)(args:Array Value): laidMetH Tryz.prog Rows.topExactRow.laid ((laidWorld os).forCall (fun _ _=>0) ⟨#[],args,[]⟩).memory:=
 laidMetH_of_parts (laidMet_nil _ _) (by kernel_rfl)
theorem reads(os:Os){H:Type}(enc:TypeId × Value->H): ∃ places,DataW.whole enc Tryz.prog ((laidWorld os).forCall (fun _ _=>0) ⟨#[],#[.slice none 0 0,Z 0],[]⟩).memory Tryz.f4.params.toList Rows.topExactSpec.vars false #[.slice none 0 0,Z 0].toList 8=some ([.nil,.lit (.int .i64 0)],[],places):=
 ⟨[],by kernel_rfl⟩
theorem lifted(os:Os)(started:os.Started)(H:Type)(enc:TypeId × Value->H)(F:Stop.Interp):
  ReturnsInHanded {} Tryz.checked os 4 .any ((OpenSpec.ofChange Rows.topExactSpec).preRow enc Tryz.prog Tryz.f4 Rows.topExactRow.domain false Rows.topExactRow.laid) (((OpenSpec.ofChange Rows.topExactSpec).at F).post enc Tryz.prog Tryz.f4 false true false false):=by
 obtain⟨places,hx⟩:=reads os enc;refine returnsInHanded_of_row (C:=Tryz.checked) (s:=OpenSpec.ofChange Rows.topExactSpec) own started (by kernel_rfl) Tryz.func4
  (witness_row_at (enc:=enc) (C:=Tryz.checked) false (laidWorld os) #[.slice none 0 0,Z 0] rfl (by kernel_rfl) (by kernel_rfl) (by kernel_rfl)
   (OpenSpec.preRow_of_cond 8 hx (by kernel_rfl) (fun k hk=>by cases hk) (by kernel_rfl) (laid_met os _))) ?_
 intro W base args ds gs before hval0 hW hcnd _ hsz0 hL _ _;have hErr:=herr hL;have hval:∀ (j:Nat) t v,Tryz.f4.params[j]? = some t->args[j]? = some v->Value.okWide Tryz.prog W .any base t v:=hval0
 have hW':=hW;obtain⟨p,q,hA0,hV,rfl,hfz,hnd⟩:=hW;have hA:DataW.TrodAll enc Tryz.prog W 0 (fun _=>true) true Tryz.f4.params.toList args.toList ds p:=hA0;rw[Tryz.params4] at hA hval
 obtain⟨v0,vs0,d0,ds0,p0,q0,hargs,rfl,rfl,h0,r0⟩:=trodAll_cons hA;obtain⟨v1,vs1,d1,ds1,p1,q1,rfl,rfl,rfl,h1,r1⟩:=trodAll_cons r0;obtain⟨rfl,rfl,rfl⟩:=trodAll_nil r1;obtain rfl:args=#[v0,v1]:=by cases args;simp_all
 obtain⟨rfl,rfl⟩:=trodVars_none hV;obtain⟨a0,len0,cap0,rfl⟩:=okWide_slice Tryz.underlying45 (hval 0 45 v0 rfl rfl);have k0:=h0;have lt0:∀ x ∈ p0,x.block < W.heap.size:=by obtain ⟨m,hm⟩:=k0;exact DataW.trod_lt m _ _ _ hm
 obtain⟨f0,w0⟩:∃ f:Nat->Bool,Sl W (fun q=>q < W.heap.size) a0 len0 (fun j=>.bool (f j)):=by
  obtain⟨fuel,hf⟩:=h0;exact Oj hf
 obtain⟨a1,rfl,rfl,rfl,w1⟩:=open_int Tryz.underlying3 (hval 1 3 v1 rfl rfl) h1;clear hA0 hval0;refine(CY a0 len0 cap0 f0 a1 W w0 w1 hErr).mono fun e W' ⟨he,av⟩=>?_
 subst he;exact⟨_,rfl,_,_,_,[],_,[],hW',trodAll_mk1 (shut_bool Tryz.underlying4 _),(trodAll_cons_mk (Below.trod laidOut (by kernel_rfl) (of_decide_eq_true (by kernel_rfl)) k0 av lt0) (trodAll_cons_mk (shut_int Tryz.underlying3 w1) trodAll_mk0)),rfl,av.frame _,fun h=>by cases h⟩
theorem said: Rows.TopExactSaid:=
 OpenClaim.holds_of_cond 4 Tryz.f4 rfl rfl rfl rfl rfl rfl rfl ⟨rfl,rfl,rfl,rfl,rfl⟩ rfl rfl rfl rfl rfl (by kernel_rfl) Tryz.func4 closed
  (of_decide_eq_true (by kernel_rfl)) (by unfold Func.isWrapper;first | (rw[if_pos (by decide +kernel)];kernel_rfl) | (rw[if_neg (by decide +kernel)];exact ⟨rfl,rfl⟩))
  (fun os started H enc _ F=>by rw[OpenClaim.pre_eq_preRow];exact lifted os started H enc F)
theorem plainArgs(f:FuncId)(fn:Func)(hf:Tryz.pinned.checked.prog.funcNamed "tidemill/tidemilltop.TopExact" = some f)(hfn:Tryz.pinned.checked.prog.funcs[f]? = some fn):
  true=Tryz.pinned.checked.prog.looks []/\∀ (j:Nat) t,fn.params[j]? = some t->Tryz.pinned.checked.prog.wantsStandIn t=false:=by
 obtain rfl:f=4:=Option.some.inj ((show Tryz.prog.funcNamed "tidemill/tidemilltop.TopExact" = some 4 by kernel_rfl).symm.trans hf) |>.symm
 obtain rfl:fn=Tryz.f4:=(Option.some.inj (Tryz.func4.symm.trans hfn)).symm;refine⟨by kernel_rfl,fun j t ht=>?_⟩;rw[Tryz.params4] at ht
 have hall:([45,3]:List TypeId).all (fun t=>Tryz.prog.wantsStandIn t == false)=true:=by kernel_rfl
 have hm:t ∈ ([45,3]:List TypeId):=by simpa using Array.mem_of_getElem? ht
 have hr:Tryz.prog.wantsStandIn t=false:=by simpa using List.all_eq_true.1 hall t hm
 exact hr
theorem proved: Rows.TopExactCardSaid:=
 Claim7.holds_tied_plain_at .later [] _ _ _ _ said (fun _ h=>by cases h) (by as_aux_lemma=>kernel_rfl) (fun _ h=>by cases h) topExact_row_tie rfl ⟨rfl,rfl⟩ (by as_aux_lemma=>kernel_rfl) rfl plainArgs (QL rfl SC)
#print axioms proved
end topExact
end Go.Proofs.YtmffkpkgbdcnjaaGreatDoor
