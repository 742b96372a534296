/-
  Texts of this proof, joined.
-/
import Derived.BigFrame
import Derived.Test.YtmffkpkgbdcnjaaGreatDoorTopExact02
set_option linter.unusedVariables false
set_option linter.unusedSimpArgs false
set_option maxRecDepth 100000
set_option maxHeartbeats 20000000
namespace Go.Proofs.YtmffkpkgbdcnjaaGreatDoor
section
open Go.RowKit
def dZ(l:List Pt): List Value:=l.flatMap fun p=>[Z p.t,Z p.v,Z p.s]
theorem sN(l l':List Pt): dZ (l ++ l')=dZ l ++ dZ l':=by simp[dZ]
theorem AQ(l:List Pt): (dZ l).length=l.length*3:=by
 induction l with
 | nil=>rfl
 | cons p l ih=>
  show (Z p.t :: Z p.v :: Z p.s :: dZ l).length=_
  simp only[List.length_cons,ih];omega
theorem zF: ∀ (l:List Pt) (j:Nat) (p:Pt),l[j]? = some p->(dZ l)[j*3]? = some (Z p.t)/\(dZ l)[j*3+1]? = some (Z p.v)/\(dZ l)[j*3+2]? = some (Z p.s)
 | [],_,_,h=>by simp at h
 | q :: l,0,p,h=>by
  simp at h
  subst h;exact⟨rfl,rfl,rfl⟩
 | q :: l,j+1,p,h=>by
  simp at h
  obtain⟨h1,h2,h3⟩:=zF l j p h;have e:dZ (q :: l)=Z q.t :: Z q.v :: Z q.s :: dZ l:=rfl;rw[e,show (j+1)*3=j*3+1+1+1 by omega];simp only[List.getElem?_cons_succ];exact⟨h1,h2,h3⟩
def bB(w:World)(base:Nat)(v:Value)(l:List Pt): Prop:=w.ownsRow base 149 3 v l.length (dZ l)
namespace bB
variable {w w':World} {base:Nat} {v:Value} {l:List Pt}
theorem nil(w:World)(base:Nat): bB w base (.slice none 0 0) []:=⟨rfl,.inl ⟨rfl,rfl⟩⟩
theorem form(h:bB w base v l): ∃ A c,v=.slice A l.length c/\l.length<=c:=by
 obtain⟨A,c,h1,h2,-⟩:=aH h;exact⟨A,c,h1,h2⟩
theorem sl{A:Option Addr}{c:Nat}(h:bB w base (.slice A l.length c) l): dN w (fun k=>base<=k/\(Value.slice A l.length c).ownBlock=some k) A l.length (fun j=>l.getD j ⟨0,0,0⟩):=by
 intro hn;obtain⟨g,hA,hb⟩:∃ g,A=some ⟨g,0,none⟩/\base<=g:=by
  rcases h.2 with ⟨_,h0⟩ | ⟨g,_,_,hv,hb,_⟩
  ·omega
  ·exact ⟨g,by injection hv,hb⟩
 subst hA;refine⟨g,0,rfl,⟨hb,rfl⟩,fun j hj=>?_⟩;have hadd:∀ i,(⟨g,0,none⟩:Addr).add i=⟨g,0+i,none⟩:=fun i=>by unfold Addr.add;split<;>simp_all
 obtain⟨h1,h2,h3⟩:=zF l j l[j] (List.getElem?_eq_getElem hj);have e:(fun j=>l.getD j (⟨0,0,0⟩:Pt)) j=l[j]:=by simp[List.getD_eq_getElem?_getD,hj]
 rw[e];have c1:=World.ownsRow.cells h (g:=g) rfl _ _ h1;have c2:=World.ownsRow.cells h (g:=g) rfl _ _ h2;have c3:=World.ownsRow.cells h (g:=g) rfl _ _ h3;rw[hadd] at c1 c2 c3
 exact⟨c1,c2,c3⟩
theorem keeps{S:Nat->Prop}(h:bB w base v l)(hk:Keeps S w w')(hne:∀ g,v.ownBlock=some g->¬ S g): bB w' base v l:=aG h hk hne
theorem below(h:bB w base v l)(hb:Below w.heap.size w w'): bB w' base v l:=aG h (Keeps.of_below (S:=fun _=>False) hb) (fun _ _ h=>h)
theorem fB(h:bB w base v l): ∀ g,v.ownBlock=some g->base<=g/\g < w.heap.size:=by
 intro g hg;rcases h.2 with ⟨rfl,_⟩ | ⟨g',cap,cur,rfl,hb,hh,_⟩
 ·simp[Value.ownBlock] at hg
 ·have:g'=g:=by simpa [Value.ownBlock] using hg
  subst this;exact⟨hb,(Array.getElem?_eq_some_iff.1 hh).1⟩
end bB
theorem Own.grown{w0 w w':World}{L:List (Nat × TypeId × Array Value)}{row:Option Nat}(h:Own w0 L w)(hg:w.grownBy w' row)(hrow:∀ k,row=some k->w0.heap.size<=k/\∀ b ∈ L,b.1≠k): Own w0 L w':=by
 have hk:Keeps (fun k=>row=some k) w w':=(Keeps.refl _ w).grown hg (fun k e _=>e);refine⟨?_,fun b hb=>⟨(h.blk b hb).1,(h.blk b hb).2.keeps hk (fun e=>(hrow _ e).2 b hb rfl)⟩,h.nd⟩;exact h.av.trans (hk.below h.av.size (fun k hlt e=>by have:=(hrow k e).1;omega))
theorem rW: (Tryz.prog.info? 149).map (fun i=>(i.zero,i.size,i.bytes))=some (some (.agg #[Z 0,Z 0,Z 0]),3,24):=by kernel_rfl
theorem oM{w:World}{base g:Nat}{v:Value}{l:List Pt}{p:Pt}{c:Nat}{ty:TypeId}(hown:bB w base v l)(hg:ay w g 149 #[Z p.t,Z p.v,Z p.s])(h63:l.length < 4294967296)(hbase:base<=w.heap.size):
  ∃ v' w',(Builtin.append_ #[186,186] ty #[v,.slice (some ⟨g,0,none⟩) 1 c]).run Tryz.prog w=.ok v' w'/\bB w' base v' (l ++ [p])/\w.grownBy w' v.ownBlock/\(v'.ownBlock=v.ownBlock\/v'.ownBlock=some w.heap.size):=by
 obtain⟨i,hi,hz,hs,hb⟩:=info_parts rW;have hadd:∀ i,(⟨g,0,none⟩:Addr).add i=⟨g,0+i,none⟩:=fun i=>by unfold Addr.add;split<;>simp_all
 obtain⟨v',w',h1,h2,h3,_,h4⟩:=run_append_own_at (P:=Tryz.prog) w base 186 ty 149 i _ 3 24 Tryz.underlying186 hi hz hs hb rfl (by decide) v l.length (dZ l) hown ⟨g,0,none⟩ 1 c [Z p.t,Z p.v,Z p.s] rfl
  (fun j u hu=>by
   rw[hadd,Nat.zero_add,hg.cell j]
   simpa using hu)
  (by intro u hu;simp at hu;rcases hu with rfl | rfl | rfl<;>rfl) (by unfold maxLen;omega) J hbase
 refine⟨v',w',h1,?_,h3,h4⟩;unfold bB;rw[sN,List.length_append];exact h2
theorem lU{w:World}{base g:Nat}{v:Value}{l:List Pt}{p:Pt}{c:Nat}{ops:Array Oper}{rest:List Oper}{o:Oper}{a:Act}{Q:Exit->Act->World->Prop}(hgd:o.guard=none)(s x:Operand)(ho:o.op=.call { callee:=.builtin .append,args:=#[s,x],argTypes:=#[186,186] })(hs:a.eval s=v)(hx:a.eval x=.slice (some ⟨g,0,none⟩) 1 c)(hown:bB w base v l)(hg:ay w g 149 #[Z p.t,Z p.v,Z p.s])(h63:l.length < 4294967296)(hbase:base<=w.heap.size)(h:∀ v' w',bB w' base v' (l ++ [p])->w.grownBy w' v.ownBlock->(v'.ownBlock=v.ownBlock\/v'.ownBlock=some w.heap.size)->wpList Tryz.prog ops Q rest (a.put o.dst v') w'): wpList Tryz.prog ops Q (o :: rest) a w:=by
 refine wpList_plain hgd fun K hK=>?_
 obtain⟨v',w',hrun,h2,h3,h4⟩:=oM (ty:=o.type) (c:=c) hown hg h63 hbase;unfold Oper.wp execOp;simp only[ho,resolve,invoke,builtin,Sem.run_bind,Sem.run_pure,Result.andThen_ok,List.map_toArray,List.map_cons,List.map_nil,hs,hx,hrun];exact hK _ _ (h v' w' h2 h3 h4)
theorem xE: ∀ (l:List Pt) (j:Nat) (u:Value),(dZ l)[j]? = some u->∃ p,l[j / 3]? = some p/\u=(if j%3=0 then Z p.t else if j%3=1 then Z p.v else Z p.s)
 | [],j,u,h=>by simp[dZ] at h
 | p :: l,0,u,h=>by
  have h:some (Z p.t)=some u:=h;injection h with h
  exact⟨p,rfl,h.symm⟩
 | p :: l,1,u,h=>by
  have h:some (Z p.v)=some u:=h;injection h with h
  exact⟨p,rfl,h.symm⟩
 | p :: l,2,u,h=>by
  have h:some (Z p.s)=some u:=h;injection h with h
  exact⟨p,rfl,h.symm⟩
 | p :: l,j+3,u,h=>by
  have h':(dZ l)[j]? = some u:=h;obtain⟨q,h1,h2⟩:=xE l j u h';refine⟨q,?_,?_⟩
  ·rw[show (j+3) / 3=j / 3+1 by omega];exact h1
  ·rw[show (j+3)%3=j%3 by omega];exact h2
theorem GH(l:List Pt): ∀ u ∈ dZ l,u.oneCell'=true:=fun u hu=>by
 unfold dZ at hu
 obtain⟨p,-,hp⟩:=List.mem_flatMap.1 hu;simp at hp
 rcases hp with rfl | rfl | rfl<;>rfl
theorem uO.sl{w:World}{g n:Nat}{f:Nat->Pt}{D:Nat->Prop}(h:uO w g n n f)(hg:D g): dN w D (some ⟨g,0,none⟩) n f:=fun _=>by
 obtain⟨cur,h1,-,h3⟩:=h.blk;refine⟨g,0,rfl,hg,fun j hj=>?_⟩;rw[Nat.zero_add,h1.cell,h1.cell,h1.cell];exact h3 j hj
end
section
def par(i:Nat): Nat:=(i-1) / 2
def jl(f:Nat->Nat)(n:Nat): Prop:=∀ j,0 < j->j < n->f (par j)<=f j
def j6(f:Nat->Nat)(n i:Nat): Prop:=(∀ j,0 < j->j < n->j≠i->f (par j)<=f j)/\(∀ j,0 < j->j < n->par j=i->0 < i->f (par i)<=f j)
def nY(f:Nat->Nat)(n i:Nat): Prop:=(∀ j,0 < j->j < n->par j≠i->f (par j)<=f j)/\(∀ j,0 < j->j < n->par j=i->0 < i->f (par i)<=f j)
def dB{α:Type}(f:Nat->α)(i k:Nat): Nat->α:=fun j=>if j=i then f k else if j=k then f i else f j
theorem oD{j:Nat}(h:0 < j): par j < j:=by unfold par;omega
theorem jl.root{f:Nat->Nat}{n:Nat}(h:jl f n): ∀ j,j < n->f 0<=f j:=by
 intro j
 induction j using Nat.strongRecOn with
 | _ j ih=>
  intro hj
  by_cases h0:j=0
  ·rw[h0];exact Nat.le_refl _
  ·have hp:=oD (j:=j) J
   exact Nat.le_trans (ih _ hp J) (h j J hj)
theorem jl.up{f:Nat->Nat}{n:Nat}(h:jl f n): j6 f (n+1) n:=
 ⟨fun j h0 hj hne=>h j h0 J,fun j h0 hj hp=>by have:=oD h0;omega⟩
theorem j6.Qa{f:Nat->Nat}{n:Nat}(h:j6 f n 0): jl f n:=fun j h0 hj=>h.1 j h0 hj J
theorem j6.done{f:Nat->Nat}{n i:Nat}(h:j6 f n i)(hi:f (par i)<=f i): jl f n:=fun j h0 hj=>by
 by_cases e:j=i
 ·rw[e];exact hi
 ·exact h.1 j h0 hj e
theorem j6.step{f:Nat->Nat}{n i:Nat}(h:j6 f n i)(h0:0 < i)(hi:i < n)(hlt:f i < f (par i)): j6 (dB f i (par i)) n (par i):=by
 have hpi:=oD h0;have vi:dB f i (par i) i=f (par i):=by unfold dB;rw[if_pos rfl]
 have vp:dB f i (par i) (par i)=f i:=by unfold dB;rw[if_neg J,if_pos rfl]
 have vo:∀ x,x≠i->x≠par i->dB f i (par i) x=f x:=fun x h1 h2=>by unfold dB;rw[if_neg h1,if_neg h2]
 refine⟨fun j j0 hj hne=>?_,fun j j0 hj hpj hpp=>?_⟩
 ·by_cases e:j=i
  ·rw[e,vi,vp];omega
  ·rw[vo j e hne]
   by_cases e2:par j=i
   ·rw[e2,vi]
    exact h.2 j j0 hj e2 h0
   ·by_cases e3:par j=par i
    ·rw[e3,vp]
     have:=h.1 j j0 hj e;rw[e3] at this
     omega
    ·rw[vo _ e2 e3]
     exact h.1 j j0 hj e
 ·have h1:f (par (par i))<=f (par i):=h.1 (par i) hpp J J
  have hpp2:=oD hpp;rw[vo (par (par i)) J J]
  by_cases e:j=i
  ·rw[e,vi];exact h1
  ·have hjp:j≠par i:=fun e2=>by rw[e2] at hpj;omega
   rw[vo j e hjp];have:=h.1 j j0 hj e;rw[hpj] at this
   omega
theorem jl.down{f:Nat->Nat}{n:Nat}(h:jl f (n+1)): nY (fun j=>if j=0 then f n else f j) n 0:=
 ⟨fun j h0 hj hne=>by
  show (if par j=0 then f n else f (par j))<=if j=0 then f n else f j
  rw[if_neg hne,if_neg J];exact h j h0 J,fun j h0 hj hp h1=>absurd h1 (Nat.lt_irrefl _)⟩
theorem nY.done{f:Nat->Nat}{n i:Nat}(h:nY f n i)(hc:∀ j,0 < j->j < n->par j=i->f i<=f j): jl f n:=fun j h0 hj=>by
 by_cases e:par j=i
 ·rw[e];exact hc j h0 hj e
 ·exact h.1 j h0 hj e
theorem nY.step{f:Nat->Nat}{n i k:Nat}(h:nY f n i)(hk0:0 < k)(hk:k < n)(hpk:par k=i)(hlt:f k < f i)(hleast:∀ j,0 < j->j < n->par j=i->f k<=f j): nY (dB f i k) n k:=by
 have hik:i < k:=by have:=oD hk0;omega
 have vi:dB f i k i=f k:=by unfold dB;rw[if_pos rfl]
 have vk:dB f i k k=f i:=by unfold dB;rw[if_neg J,if_pos rfl]
 have vo:∀ x,x≠i->x≠k->dB f i k x=f x:=fun x h1 h2=>by unfold dB;rw[if_neg h1,if_neg h2]
 refine⟨fun j j0 hj hne=>?_,fun j j0 hj hpj _=>?_⟩
 ·by_cases e:j=k
  ·rw[e,hpk,vi,vk];omega
  ·by_cases e2:j=i
   ·rw[e2] at j0
    have hp:=oD j0;rw[e2,vi,vo _ J J];exact h.2 k hk0 hk hpk j0
   ·rw[vo j e2 e]
    by_cases e3:par j=i
    ·rw[e3,vi]
     exact hleast j j0 hj e3
    ·rw[vo _ e3 hne]
     exact h.1 j j0 hj e3
 ·rw[hpk,vi]
  have hp:=oD j0;rw[vo j J J];have:=h.1 j j0 hj J;rw[hpj] at this
  exact this
structure Holds(f:Nat->Nat)(n:Nat)(S:Nat->Prop): Prop where
 inj:∀ i j,i < n->j < n->f i=f j->i=j
 mem:∀ j,j < n->S (f j)
 all:∀ x,S x->∃ j,j < n/\f j=x
theorem Holds.swap{f:Nat->Nat}{n:Nat}{S:Nat->Prop}(h:Holds f n S){i k:Nat}(hi:i < n)(hk:k < n): Holds (dB f i k) n S:=by
 let g:Nat->Nat:=fun j=>if j=i then k else if j=k then i else j
 have hg:∀ j,dB f i k j=f (g j):=fun j=>by
  show dB f i k j=f (if j=i then k else if j=k then i else j)
  unfold dB
  split
  ·rfl
  ·split<;>rfl
 have hgl:∀ j,j < n->g j < n:=fun j hj=>by
  show (if j=i then k else if j=k then i else j) < n
  split
  ·exact hk
  ·split
   ·exact hi
   ·exact hj
 have hgg:∀ j,g (g j)=j:=fun j=>by
  show (if (if j=i then k else if j=k then i else j)=i then k else if (if j=i then k else if j=k then i else j)=k then i else (if j=i then k else if j=k then i else j))=j
  by_cases e1:j=i
  ·rw[if_pos e1]
   by_cases e2:k=i
   ·rw[if_pos e2,e2,e1]
   ·rw[if_neg e2,if_pos rfl,e1]
  ·rw[if_neg e1]
   by_cases e2:j=k
   ·rw[if_pos e2,if_pos rfl,e2]
   ·rw[if_neg e2,if_neg e1,if_neg e2]
 refine⟨fun a b ha hb e=>?_,fun j hj=>by rw[hg];exact h.mem _ (hgl j hj),fun x hx=>?_⟩
 ·rw[hg,hg] at e
  have:=h.inj _ _ (hgl a ha) (hgl b hb) e;rw[<-hgg a,this,hgg]
 ·obtain ⟨j,hj,rfl⟩:=h.all x hx
  exact⟨g j,hgl j hj,by rw[hg,hgg]⟩
theorem Holds.push{f:Nat->Nat}{n:Nat}{S:Nat->Prop}(h:Holds f n S){x:Nat}(hx:¬ S x): Holds (fun j=>if j=n then x else f j) (n+1) (fun y=>S y\/y=x):=by
 refine⟨fun a b ha hb e=>?_,fun j hj=>?_,fun y hy=>?_⟩
 ·split at e<;>split at e
  ·omega
  ·exact absurd (e ▸ h.mem b J) hx
  ·exact absurd (e ▸ h.mem a J) hx
  ·exact h.inj a b J J e
 ·split
  ·exact .inr rfl
  ·exact .inl (h.mem j J)
 ·rcases hy with hy | rfl
  ·obtain ⟨j,hj,rfl⟩:=h.all y hy
   exact⟨j,J,by rw[if_neg J]⟩
  ·exact ⟨n,J,by simp⟩
theorem Holds.pop{f:Nat->Nat}{n:Nat}{S:Nat->Prop}(h:Holds f (n+1) S): Holds (fun j=>if j=0 then f n else f j) n (fun y=>S y/\y≠f 0):=by
 refine⟨fun a b ha hb e=>?_,fun j hj=>?_,fun y hy=>?_⟩
 ·split at e<;>split at e
  ·omega
  ·have:=h.inj _ _ J J e;omega
  ·have:=h.inj _ _ J J e;omega
  ·exact h.inj _ _ J J e
 ·split
  ·exact ⟨h.mem n J,fun e=>by have:=h.inj _ _ J J e;omega⟩
  ·exact ⟨h.mem j J,fun e=>by have:=h.inj _ _ J J e;omega⟩
 ·obtain ⟨j,hj,rfl⟩:=h.all y hy.1
  have hj0:j≠0:=fun e=>hy.2 (by rw[e])
  by_cases e:j=n
  ·exact ⟨0,J,by simp[e]⟩
  ·exact ⟨j,J,by rw[if_neg hj0]⟩
end
end Go.Proofs.YtmffkpkgbdcnjaaGreatDoor
