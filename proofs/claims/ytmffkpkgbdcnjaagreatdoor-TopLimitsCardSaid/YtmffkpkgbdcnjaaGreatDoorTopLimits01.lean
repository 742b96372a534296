/-
  Texts of this proof, joined.
-/
import Derived.Deep.RegionHeld3
import Derived.WalkKit
import Derived.KernelRfl
import Derived.Below
import Derived.Laws.OwnMore
import Derived.Deep.Draws
import Derived.Laws.Rows
import Derived.OwnWalk
import Derived.Maps.AppendAt
import Derived.RegionTactic
import Derived.Lib.Hide
import Derived.Test.YtmffkpkgbdcnjaaGreatDoorRows
import Derived.BigFrame
import Derived.Test.YtmffkpkgbdcnjaaGreatDoorProg
import Derived.Laws.Externs
import Derived.WalkMore
import Derived.Laws.Closers25b
import Derived.Deep.DeepCutAuto
import Derived.Maps.Own
import Derived.Maps.OwnOps
import Derived.Maps.OwnSet
import Derived.Maps.RangeWalk
import Derived.Deep.OwnRows
import Derived.WalkSpells
import Derived.WalkLawsBesides
import Derived.Outline
import Derived.Deep.Cut
import Derived.LaidEql
import Derived.Stop.Asserts
import Derived.RowKitTokens
import Derived.Lib.IfaceEq
import Derived.ProofKit
import Derived.OpenShut
import Derived.Laws.BitsAllLaws
import Derived.Laws.BitsLemmas
import Derived.Lib.Zigzag
import Derived.ArgAppend
import Derived.Lib.AppendStr
import Derived.Laws.BytesArg
import Derived.Deep.QuietTactic
import Derived.BigQuiet
import Derived.Great.BuildSlice
set_option linter.unusedVariables false
set_option linter.unusedSimpArgs false
set_option maxRecDepth 100000
set_option maxHeartbeats 20000000
namespace Go.Proofs.YtmffkpkgbdcnjaaGreatDoor
section
section
variable {P:Program} {ops:Array Oper} {Q:Exit→Act→World→Prop} {S S':World→Prop}
theorem nU(himp:∀ w,S' w→S w): ∀ (fuel:Nat) (listed:Array Bool) (a:Act) (w:World),wpAnyH P .any ops Q S' fuel listed a w→wpAnyH P .any ops Q S fuel listed a w
 | 0,_,_,_,h=>h
 | fuel+1,_,_,_,h=>⟨h.1,fun i hi=>wpOp_mono (fun a' w' h'=>⟨himp _ h'.1,nU himp fuel _ a' w' h'.2⟩) (h.2 i hi)⟩
theorem aH{c:Code}{a:Act}{w:World}(S:World→Prop)(hS:S w)(h:∀ w,S w→c.wp P Q a w): c.wp P Q a w:=h w hS
theorem av{id:Nat}{a:Act}{w:World}(S:World→Prop)(hm:P.follows .mixedOrders=true)(hS:S w.drew)(h:wpAnyH P .any ops Q S ops.size (Array.replicate ops.size false) a w.drew): (Code.region id ops true).wp P Q a w:=
 wp_region_held_drew hm hS (fun _=>h)
theorem mg{i:Nat}{oi:Oper}{v:Value}{fuel:Nat}{listed:Array Bool}{a:Act}{w:World}(hi:ops[i]? = some oi)(hs:Region.noSelect ops=true)(hf:Region.free .any ops listed i=true)(hr:(Region.ready .any ops listed).contains i=true)(hQ:∀ c a w,Q (.panic c) (a.put oi.dst v) w→Q (.panic c) a w)(hy:YieldsIf P ops S oi v a)(hS:S w)(h:wpAnyH P .any ops Q S fuel (listed.setIfInBounds i true) (a.put oi.dst v) w): wpAnyH P .any ops Q S (fuel+1) listed a w:=
 wpAnyH_take hi hs hf hr hQ hy hS h
def Then(P:Program)(ops:Array Oper)(Q:Exit→Act→World→Prop)(S:World→Prop)(fuel:Nat)(listed:Array Bool)(K:Act→World→Prop): Prop:=
 ∀ (S':World→Prop) (a:Act) (w:World),(∀ w,S' w→S w)→S' w→wpAnyH P .any ops Q S' fuel listed a w→K a w
theorem Then.to{fuel:Nat}{listed:Array Bool}{K:Act→World→Prop}(h:Then P ops Q S fuel listed K)(S':World→Prop){a:Act}{w:World}(himp:∀ w,S' w→S w)(hS:S' w)(k:wpAnyH P .any ops Q S' fuel listed a w): K a w:=h S' a w himp hS k
theorem Then.go{fuel:Nat}{listed:Array Bool}{K:Act→World→Prop}(h:Then P ops Q S fuel listed K)(S':World→Prop){a:Act}{w:World}(himp:∀ w,S' w→S w)(hS:S' w)(k:∀ w,S' w→wpAnyH P .any ops Q S' fuel listed a w): K a w:=h S' a w himp hS (k w hS)
theorem Qh{i:Nat}{o:Oper}{fuel:Nat}{listed:Array Bool}{a:Act}{w:World}(ho:ops[i]? = some o)(hr:Region.ready .any ops listed=[i])(h:∀ K:Act→World→Prop,Then P ops Q S fuel (listed.setIfInBounds i true) K→if Region.wanted o (yielded ops a.tmps)=true then Oper.wp P o a w K Q else K (a.put o.dst undef) w):
  wpAnyH P .any ops Q S (fuel+1) listed a w:=
 wpAnyH_ready hr (by simp) (AllReadyH.cons ho (fun K hK=>h K (fun _ a w himp hS hW=>hK.out a w (himp _ hS) (fun _=>nU himp _ _ _ _ hW))) AllReadyH.nil)
theorem jk{i j:Nat}{o o':Oper}{fuel:Nat}{listed:Array Bool}{a:Act}{w:World}(ho:ops[i]? = some o)(ho':ops[j]? = some o')(hr:Region.ready .any ops listed=[i,j])(h:∀ K:Act→World→Prop,Then P ops Q S fuel (listed.setIfInBounds i true) K→if Region.wanted o (yielded ops a.tmps)=true then Oper.wp P o a w K Q else K (a.put o.dst undef) w)(h':∀ K:Act→World→Prop,Then P ops Q S fuel (listed.setIfInBounds j true) K→if Region.wanted o' (yielded ops a.tmps)=true then Oper.wp P o' a w K Q else K (a.put o'.dst undef) w):
  wpAnyH P .any ops Q S (fuel+1) listed a w:=
 wpAnyH_ready hr (by simp) (AllReadyH.cons ho (fun K hK=>h K (fun _ a w himp hS hW=>hK.out a w (himp _ hS) (fun _=>nU himp _ _ _ _ hW)))
  (AllReadyH.cons ho' (fun K hK=>h' K (fun _ a w himp hS hW=>hK.out a w (himp _ hS) (fun _=>nU himp _ _ _ _ hW))) AllReadyH.nil))
end
end
section
theorem zP : ((∀ {α : Type} {xs : List α} {i : Nat} (h : i < xs.toArray.size), xs.toArray[i] = xs[i]'h) ∧ (∀ {α : Type} (a : α) (l : List α) (i : Nat) (h : i + 1 < (a :: l).length), (a :: l)[i + 1] = l[i]'(Nat.lt_of_succ_lt_succ h)) ∧ (∀ {α : Type} (a : α) (l : List α) (h : 0 < (a :: l).length), (a :: l)[0] = a)) ∧
  ((∀ (a : Act) (d : Option Tmp) (v : Value), a.put d v = match d with
    | some t => { a with tmps := a.tmps.setIfInBounds t v }
    | none => a) ∧ (∀ {α : Type} (l : List α) (i : Nat) (a : α), l.toArray.setIfInBounds i a = (l.set i a).toArray) ∧ (∀ {α : Type} (x : α) (xs : List α) (a : α), (x :: xs).set 0 a = a :: xs) ∧ (∀ {α : Type} (x : α) (xs : List α) (i : Nat) (a : α), (x :: xs).set (i + 1) a = x :: xs.set i a)) :=
  ⟨⟨fun _ => rfl, fun _ _ _ _ => rfl, fun _ _ _ => rfl⟩, fun _ _ _ => rfl, fun l i a => by simp, fun _ _ _ => rfl, fun _ _ _ _ => rfl⟩
theorem zh {p : Prop} (h : p) : Go.RowKit.Hid p := h
theorem zN {p q : Prop} (x : p) (y : q) : p ∧ q := ⟨x, y⟩
section
variable {P : Program} {ops : Array Oper} {Q : Exit → Act → World → Prop} {S : World → Prop} {fuel : Nat} {listed : Array Bool} {a : Act} {w : World} {oi : Oper} {is : List Nat} {X : Prop}
theorem zT (i : Nat) (v : Value) (hy : ∀ w, S w → (execOp a.eval oi).run P w = .ok (.value v) w) (hS : S w) (h : wpAnyH P .any ops Q S fuel (listed.setIfInBounds i true) (a.put oi.dst v) w)
    (hi : ops[i]? = some oi := by exact rfl) (hs : Region.noSelect ops = true := by kernel_rfl) (hf : Region.free .any ops listed i = true := by kernel_rfl) (hr : (Region.ready .any ops listed).contains i = true := by kernel_rfl)
    (hQ : ∀ c a w, Q (.panic c) (a.put oi.dst v) w → Q (.panic c) a w := by exact fun _ _ _ h => h) (hw : Region.wanted oi (yielded ops a.tmps) = true := by kernel_rfl) : wpAnyH P .any ops Q S (fuel + 1) listed a w :=
  mg hi hs hf hr hQ (.inl ⟨hw, hy⟩) hS h
theorem zU (i : Nat) (hS : S w) (h : wpAnyH P .any ops Q S fuel (listed.setIfInBounds i true) (a.put oi.dst undef) w)
    (hi : ops[i]? = some oi := by exact rfl) (hs : Region.noSelect ops = true := by kernel_rfl) (hf : Region.free .any ops listed i = true := by kernel_rfl) (hr : (Region.ready .any ops listed).contains i = true := by kernel_rfl)
    (hQ : ∀ c a w, Q (.panic c) (a.put oi.dst undef) w → Q (.panic c) a w := by exact fun _ _ _ h => h) (hw : Region.wanted oi (yielded ops a.tmps) = false := by kernel_rfl) : wpAnyH P .any ops Q S (fuel + 1) listed a w :=
  mg hi hs hf hr hQ (.inr ⟨hw, rfl⟩) hS h
def zK (_ : List Nat) (X : Prop) : Prop := X
theorem zB (is : List Nat) (h : zK is X) : X := h
theorem zE (h : X) : zK [] X := h
theorem zV {i : Nat} (v : Value) (hy : ∀ w, S w → (execOp a.eval oi).run P w = .ok (.value v) w) (hS : S w) (h : zK is (wpAnyH P .any ops Q S fuel (listed.setIfInBounds i true) (a.put oi.dst v) w))
    (hi : ops[i]? = some oi := by exact rfl) (hs : Region.noSelect ops = true := by kernel_rfl) (hf : Region.free .any ops listed i = true := by kernel_rfl) (hr : (Region.ready .any ops listed).contains i = true := by kernel_rfl)
    (hQ : ∀ c a w, Q (.panic c) (a.put oi.dst v) w → Q (.panic c) a w := by exact fun _ _ _ h => h) (hw : Region.wanted oi (yielded ops a.tmps) = true := by kernel_rfl) : zK (i :: is) (wpAnyH P .any ops Q S (fuel + 1) listed a w) :=
  mg hi hs hf hr hQ (.inl ⟨hw, hy⟩) hS h
theorem zW {i : Nat} (hS : S w) (h : zK is (wpAnyH P .any ops Q S fuel (listed.setIfInBounds i true) (a.put oi.dst undef) w))
    (hi : ops[i]? = some oi := by exact rfl) (hs : Region.noSelect ops = true := by kernel_rfl) (hf : Region.free .any ops listed i = true := by kernel_rfl) (hr : (Region.ready .any ops listed).contains i = true := by kernel_rfl)
    (hQ : ∀ c a w, Q (.panic c) (a.put oi.dst undef) w → Q (.panic c) a w := by exact fun _ _ _ h => h) (hw : Region.wanted oi (yielded ops a.tmps) = false := by kernel_rfl) : zK (i :: is) (wpAnyH P .any ops Q S (fuel + 1) listed a w) :=
  mg hi hs hf hr hQ (.inr ⟨hw, rfl⟩) hS h
theorem zC (i : Nat) (h : ∀ K : Act → World → Prop, Go.RowKit.Hid (Then P ops Q S fuel (listed.setIfInBounds i true) K) → if Region.wanted oi (yielded ops a.tmps) = true then Oper.wp P oi a w K Q else K (a.put oi.dst undef) w)
    (ho : ops[i]? = some oi := by exact rfl) (hr : Region.ready .any ops listed = [i] := by kernel_rfl) : wpAnyH P .any ops Q S (fuel + 1) listed a w := Qh ho hr fun K hK => h K (zh hK)
theorem Then.zt {K : Act → World → Prop} (h : Then P ops Q S fuel listed K) (S' : World → Prop) (himp : ∀ w, S' w → S w) (hS : S' w) (k : S' w → wpAnyH P .any ops Q S' fuel listed a w) : K a w := h S' a w himp hS (k hS)
theorem zD (h : Q .normal a w) (hr : Region.ready .any ops listed = [] := by kernel_rfl) : wpAnyH P .any ops Q S fuel listed a w := wpAnyH_done hr h _
end
end
section
open Go.RowKit
structure Keeps(S:Nat→Prop)(w w':World): Prop where
 os:w'.os=w.os
 tape:w'.tape=w.tape
 output:w'.output=w.output
 size:w.heap.size≤w'.heap.size
 block:∀ k,k < w.heap.size→¬ S k→w'.heap[k]? = w.heap[k]?
namespace Keeps
variable {S T:Nat→Prop} {a b c w w':World}
theorem refl(S:Nat→Prop)(w:World): Keeps S w w:=⟨rfl,rfl,rfl,Nat.le_refl _,fun _ _ _=>rfl⟩
theorem trans(h:Keeps S a b)(k:Keeps T b c)(hT:∀ x,x < a.heap.size→T x→S x): Keeps S a c:=
 ⟨k.os.trans h.os,k.tape.trans h.tape,k.output.trans h.output,Nat.le_trans h.size k.size,
  fun i hi hn=>(k.block i (Nat.lt_of_lt_of_le hi h.size) (fun ht=>hn (hT i hi ht))).trans (h.block i hi hn)⟩
theorem trans'(h:Keeps S a b)(k:Keeps S b c): Keeps S a c:=h.trans k fun _ _ hx=>hx
theorem mono(h:Keeps S a b)(hT:∀ x,x < a.heap.size→S x→T x): Keeps T a b:=
 ⟨h.os,h.tape,h.output,h.size,fun i hi hn=>h.block i hi fun hs=>hn (hT i hi hs)⟩
theorem drew(h:Keeps S a w): Keeps S a w.drew:=⟨h.os,h.tape,h.output,h.size,h.block⟩
theorem drewN(h:Keeps S a w)(n:Nat): Keeps S a (w.drewN n):=⟨h.os,h.tape,h.output,h.size,h.block⟩
theorem alloc(h:Keeps S a w)(o:Obj): Keeps S a (w.alloc o):=
 h.trans (T:=fun _=>False) ⟨rfl,rfl,rfl,by simp,fun k hk _=>Below.heap_alloc _ _ _ hk⟩ (fun _ _ hx=>hx.elim)
theorem setCell(h:Keeps S a w){p:Addr}(hp:p.block < a.heap.size→S p.block)(u:Value): Keeps S a (w.setCell p u):=
 h.trans (T:=fun k=>k=p.block) ⟨rfl,rfl,rfl,by simp[World.setCell],fun k _ hn=>Below.heap_setCell _ _ _ _ hn⟩ (fun x hx hp'=>by subst hp';exact hp hx)
theorem grown{row:Option Nat}(h:Keeps S a w)(hg:w.grownBy w' row)(hr:∀ k,row=some k→k < a.heap.size→S k): Keeps S a w':=
 h.trans (T:=fun k=>row=some k) ⟨hg.os,hg.tape,hg.output,hg.size,fun k hk hn=>hg.block k hk (fun e=>hn e.symm)⟩ (fun x hx e=>hr x e hx)
theorem below(h:Keeps S a b){B:Nat}(hB:B≤a.heap.size)(hS:∀ k,k < B→¬ S k): Below B a b:=
 ⟨h.os,h.tape,h.output,h.size,fun k hk=>h.block k (by omega) (hS k hk)⟩
theorem of_below(h:Below a.heap.size a b): Keeps S a b:=⟨h.os,h.tape,h.output,h.size,fun k hk _=>h.block k hk⟩
theorem bM(h:Keeps (fun _=>False) a b): Below a.heap.size a b:=h.below (Nat.le_refl _) fun _ _ hx=>hx
end Keeps
def Sl(w:World)(D:Nat→Prop)(A:Option Addr)(n:Nat)(f:Nat→Value): Prop:=
 0 < n→∃ b off,A=some ⟨b,off,none⟩∧D b∧∀ j,j < n→w.cell? ⟨b,off+j,none⟩=some (f j)
namespace Sl
variable {w w':World} {D E:Nat→Prop} {A:Option Addr} {n m:Nat} {f g:Nat→Value}
theorem keep(h:Sl w D A n f)(hk:∀ k,D k→k < w.heap.size→w'.heap[k]? = w.heap[k]?): Sl w' D A n f:=fun hn=>by
 obtain⟨b,off,e,hd,hc⟩:=h hn
 have hlt:b < w.heap.size:=World.block_lt_of_cell? w _ (hc 0 hn)
 exact⟨b,off,e,hd,fun j hj=>(World.cell?_of_block (w:=w) (a:=⟨b,off+j,none⟩) (hk b hd hlt)).trans (hc j hj)⟩
theorem keeps{S:Nat→Prop}(h:Sl w D A n f)(hk:Keeps S w w')(hd:∀ k,D k→¬ S k): Sl w' D A n f:=
 h.keep fun k hD hlt=>hk.block k hlt (hd k hD)
theorem below{B:Nat}(h:Sl w D A n f)(hk:Below B w w')(hd:∀ k,D k→k < w.heap.size→k < B): Sl w' D A n f:=
 h.keep fun k hD hlt=>hk.block k (hd k hD hlt)
theorem mono(h:Sl w D A n f)(hd:∀ k,D k→E k): Sl w E A n f:=fun hn=>by
 obtain⟨b,off,e,hD,hc⟩:=h hn
 exact⟨b,off,e,hd b hD,hc⟩
theorem take(h:Sl w D A n f)(hm:m≤n): Sl w D A m f:=fun hn=>by
 obtain⟨b,off,e,hD,hc⟩:=h (by omega)
 exact⟨b,off,e,hD,fun j hj=>hc j (by omega)⟩
theorem congr(h:Sl w D A n f)(hf:∀ j,j < n→f j=g j): Sl w D A n g:=fun hn=>by
 obtain⟨b,off,e,hD,hc⟩:=h hn
 exact⟨b,off,e,hD,fun j hj=>(hc j hj).trans (by rw[hf j hj])⟩
theorem nil(w:World)(D:Nat→Prop)(A:Option Addr)(f:Nat→Value): Sl w D A 0 f:=fun h=>absurd h (by omega)
theorem lQ{base:Nat}{e:TypeId}{c:Nat}{xs:List Value}(h:w.ownsRow base e 1 (.slice A n c) n xs)(hf:∀ j u,xs[j]? = some u→u=f j):
  Sl w (fun k=>(Value.slice A n c).ownBlock=some k) A n f:=fun hn=>by
 obtain⟨g,hA⟩:∃ g,A=some ⟨g,0,none⟩:=by
  rcases h.2 with ⟨_,h0⟩ | ⟨g,_,_,hv,_⟩
  ·omega
  ·exact ⟨g,by injection hv⟩
 subst hA
 refine⟨g,0,rfl,rfl,fun j hj=>?_⟩
 have hl:j < xs.length:=by have:=h.1;omega
 have:=h.cells (g:=g) rfl j xs[j] (List.getElem?_eq_getElem hl)
 rw[hf j xs[j] (List.getElem?_eq_getElem hl)] at this
 have hadd:(⟨g,0,none⟩:Addr).add j=⟨g,0+j,none⟩:=by unfold Addr.add;split<;>simp_all
 rw[hadd] at this
 exact this
end Sl
def au(w:World)(g:Nat)(t:TypeId)(cs:Array Value): Prop:=w.heap[g]? = some (.cells cs t (0,0))
namespace au
variable {w w':World} {g:Nat} {t:TypeId} {cs:Array Value}
theorem lt(h:au w g t cs): g < w.heap.size:=by
 rcases Nat.lt_or_ge g w.heap.size with hlt | hge
 ·exact hlt
 ·unfold au at h;rw[Array.getElem?_eq_none hge] at h;cases h
theorem cell(h:au w g t cs)(i:Nat): w.cell? ⟨g,i,none⟩=cs[i]?:=cell_of_row w g i cs t (0,0) h
theorem frozen(h:au w g t cs)(i:Nat): w.frozen? ⟨g,i,none⟩=false:=by
 unfold au at h
 simp[World.frozen?,h]
theorem fresh(w:World)(t:TypeId)(cs:Array Value): au (w.alloc (.cells cs t)) w.heap.size t cs:=heap_alloc_new w _
theorem drew(h:au w g t cs): au w.drew g t cs:=h
theorem drewN(h:au w g t cs)(n:Nat): au (w.drewN n) g t cs:=h
theorem alloc(h:au w g t cs)(o:Obj): au (w.alloc o) g t cs:=(Below.heap_alloc w o g h.lt).trans h
theorem set(h:au w g t cs)(i:Nat)(u:Value): au (w.setCell ⟨g,i,none⟩ u) g t (cs.setIfInBounds i u):=by
 unfold au at h ⊢
 simp[World.setCell,Array.getElem?_modify,h]
theorem far(h:au w g t cs){p:Addr}(hp:g≠p.block)(u:Value): au (w.setCell p u) g t cs:=(Below.heap_setCell w p u g hp).trans h
theorem keeps{S:Nat→Prop}(h:au w g t cs)(hk:Keeps S w w')(hg:¬ S g): au w' g t cs:=(hk.block g h.lt hg).trans h
theorem below{B:Nat}(h:au w g t cs)(hb:Below B w w')(hg:g < B): au w' g t cs:=(hb.block g hg).trans h
theorem ne{g':Nat}{t':TypeId}{cs':Array Value}(h:au w g t cs)(h':au w g' t' cs')(hne:t≠t'): g≠g':=by
 rintro rfl
 unfold au at h h'
 rw[h] at h'
 injection h' with h'
 injection h' with _ ht
 exact hne ht
end au
theorem own_ne{w:World}{base:Nat}{e t:TypeId}{size n g:Nat}{v:Value}{xs:List Value}{cs:Array Value}(h:w.ownsRow base e size v n xs)(hg:au w g t cs)(hne:e≠t): v.ownBlock≠some g:=by
 rcases h.2 with ⟨rfl,_⟩ | ⟨g',cap,cur,rfl,_,hh,_⟩
 ·simp[Value.ownBlock]
 ·intro he
  have:g'=g:=by simpa [Value.ownBlock] using he
  subst this
  exact au.ne (t:=e) hh hg hne rfl
theorem aF{w w':World}{S:Nat→Prop}{base:Nat}{e:TypeId}{size n:Nat}{v:Value}{xs:List Value}(h:w.ownsRow base e size v n xs)(hk:Keeps S w w')(hne:∀ g,v.ownBlock=some g→¬ S g): w'.ownsRow base e size v n xs:=by
 refine⟨h.1,?_⟩
 rcases h.2 with hn | ⟨g,cap,cur,rfl,hb,hgg,rest⟩
 ·exact .inl hn
 ·refine .inr ⟨g,cap,cur,rfl,hb,?_,rest⟩
  rw[hk.block g (Array.getElem?_eq_some_iff.1 hgg).1 (hne g rfl)]
  exact hgg
theorem aU{w:World}{base base':Nat}{e:TypeId}{size n:Nat}{v:Value}{xs:List Value}(h:w.ownsRow base e size v n xs)(hb:base'≤base): w.ownsRow base' e size v n xs:=by
 refine⟨h.1,?_⟩
 rcases h.2 with hn | ⟨g,cap,cur,rfl,hb',rest⟩
 ·exact .inl hn
 ·exact .inr ⟨g,cap,cur,rfl,by omega,rest⟩
theorem aA{w:World}{base:Nat}{e:TypeId}{size n:Nat}{v:Value}{xs:List Value}(h:w.ownsRow base e size v n xs): ∃ A c,v=.slice A n c∧n≤c∧(0 < n→∃ g,A=some ⟨g,0,none⟩∧base≤g∧g < w.heap.size):=by
 rcases h.2 with ⟨rfl,rfl⟩ | ⟨g,cap,cur,rfl,hb,hgg,hc,rest⟩
 ·exact ⟨none,0,rfl,Nat.le_refl _,fun h=>absurd h (by omega)⟩
 ·exact ⟨_,_,rfl,hc,fun _=>⟨g,rfl,hb,(Array.getElem?_eq_some_iff.1 hgg).1⟩⟩
def dL(P:Program)(t e:TypeId)(z:Value)(bytes:Nat): Prop:=
 P.underlying t=some (.slice e)∧z.cells.size=1∧∃ i,P.info? e=some i∧i.zero=some z∧i.size=1∧i.bytes=bytes
theorem dL.mk'{P:Program}{t e:TypeId}{z:Value}{bytes:Nat}(ht:P.underlying t=some (.slice e))(hz:z.cells.size=1)(h:(P.info? e).map (fun i=>(i.zero,i.size,i.bytes))=some (some z,1,bytes)): dL P t e z bytes:=by
 obtain⟨i,hi,h0,h1,h2⟩:=info_parts h
 exact⟨ht,hz,i,hi,h0,h1,h2⟩
section
variable {P:Program} {w:World} {t e ty:TypeId} {z:Value} {bytes base n m c:Nat} {v:Value} {xs:List Value} {D:Nat→Prop} {A:Option Addr} {f:Nat→Value}
theorem uq(he:dL P t e z bytes)(hown:w.ownsRow base e 1 v n xs)(hsl:Sl w D A m f)(h1:∀ j,j < m→(f j).oneCell'=true)(h63:n+m≤maxLen)(hbytes:(n+m)*bytes≤140737488355328)(hbase:base≤w.heap.size):
  ∃ v' w',(Builtin.append_ #[t,t] ty #[v,.slice A m c]).run P w=.ok v' w'∧w'.ownsRow base e 1 v' (n+m) (xs ++ (List.range m).map f)∧w.grownBy w' v.ownBlock∧
   (v'.ownBlock=v.ownBlock∨v'.ownBlock=some w.heap.size):=by
 obtain⟨ht,hz1,i,hi,hz,hs,hb⟩:=he
 rcases A with _ | ad
 ·have hm:m=0:=by
   rcases Nat.eq_zero_or_pos m with h0 | h0
   ·exact h0
   ·obtain ⟨b,off,h,_⟩:=hsl h0
    cases h
  subst hm
  refine⟨v,w,?_,by simpa using hown,World.grownBy.refl w _,.inl rfl⟩
  rcases hown.2 with ⟨rfl,rfl⟩ | ⟨g,cap,cur,rfl,_,_,hnc,_⟩
  ·simp[Builtin.append_,run_underlying ht,sizeOf,typeInfo,hi,Builtin.lenOf,Builtin.firstCells]
  ·simp[Builtin.append_,run_underlying ht,sizeOf,typeInfo,hi,Builtin.lenOf,Builtin.firstCells,hnc,storeCells]
 ·have hcells:∀ j u,((List.range m).map f)[j]? = some u→w.cell? (ad.add j)=some u:=by
   intro j u hu
   rcases Nat.eq_zero_or_pos m with h0 | h0
   ·subst h0
    simp at hu
   ·obtain ⟨b,off,h,_,hc⟩:=hsl h0
    injection h with h
    subst h
    rw[List.getElem?_map] at hu
    rcases Nat.lt_or_ge j m with hj | hj
    ·rw[List.getElem?_range hj] at hu
     simp at hu
     subst hu
     have hadd:(⟨b,off,none⟩:Addr).add j=⟨b,off+j,none⟩:=by unfold Addr.add;split<;>simp_all
     rw[hadd]
     exact hc j hj
    ·rw[List.getElem?_eq_none (by simpa using hj)] at hu
     cases hu
  obtain⟨v',w',hrun,h2,h3,_,h5⟩:=run_append_own_at (P:=P) w base t ty e i z 1 bytes ht hi hz hs hb hz1 (by omega) v n xs hown ad m c ((List.range m).map f) (by simp) hcells
   (by intro u hu;rw[List.mem_map] at hu;obtain ⟨j,hj,rfl⟩:=hu;exact h1 j (by simpa using hj)) h63 hbytes hbase
  exact⟨v',w',hrun,h2,h3,h5⟩
theorem vw{o:Oper}{a:Act}{K:Act→World→Prop}{Q:Exit→Act→World→Prop}(he:dL P t e z bytes)(s x:Operand)(ho:o.op=.call { callee:=.builtin .append,args:=#[s,x],argTypes:=#[t,t] })(hs:a.eval s=v)(hx:a.eval x=.slice A m c)(hown:w.ownsRow base e 1 v n xs)(hsl:Sl w D A m f)(h1:∀ j,j < m→(f j).oneCell'=true)(h63:n+m≤maxLen)(hbytes:(n+m)*bytes≤140737488355328)(hbase:base≤w.heap.size)(h:∀ v' w',w'.ownsRow base e 1 v' (n+m) (xs ++ (List.range m).map f)→w.grownBy w' v.ownBlock→(v'.ownBlock=v.ownBlock∨v'.ownBlock=some w.heap.size)→K (a.put o.dst v') w'): o.wp P a w K Q:=by
 obtain⟨v',w',hrun,h2,h3,h4⟩:=uq (P:=P) (ty:=o.type) (c:=c) he hown hsl h1 h63 hbytes hbase
 unfold Oper.wp execOp
 simp only[ho,resolve,invoke,builtin,Sem.run_bind,Sem.run_pure,Result.andThen_ok,List.map_toArray,List.map_cons,List.map_nil,hs,hx,hrun]
 exact h v' w' h2 h3 h4
theorem aW{ops:Array Oper}{rest:List Oper}{o:Oper}{a:Act}{Q:Exit→Act→World→Prop}(he:dL P t e z bytes)(hgd:o.guard=none)(s x:Operand)(ho:o.op=.call { callee:=.builtin .append,args:=#[s,x],argTypes:=#[t,t] })(hs:a.eval s=v)(hx:a.eval x=.slice A m c)(hown:w.ownsRow base e 1 v n xs)(hsl:Sl w D A m f)(h1:∀ j,j < m→(f j).oneCell'=true)(h63:n+m≤maxLen)(hbytes:(n+m)*bytes≤140737488355328)(hbase:base≤w.heap.size)(h:∀ v' w',w'.ownsRow base e 1 v' (n+m) (xs ++ (List.range m).map f)→w.grownBy w' v.ownBlock→(v'.ownBlock=v.ownBlock∨v'.ownBlock=some w.heap.size)→wpList P ops Q rest (a.put o.dst v') w'): wpList P ops Q (o :: rest) a w:=
 wpList_plain hgd fun _ hK=>vw he s x ho hs hx hown hsl h1 h63 hbytes hbase fun v' w' h2 h3 h4=>hK _ _ (h v' w' h2 h3 h4)
theorem lF{ops:Array Oper}{o:Oper}{a:Act}{K:Act→World→Prop}{Q:Exit→Act→World→Prop}{E:Prop}(he:dL P t e z bytes)(hgd:o.guard=none)(s x:Operand)(ho:o.op=.call { callee:=.builtin .append,args:=#[s,x],argTypes:=#[t,t] })(hs:a.eval s=v)(hx:a.eval x=.slice A m c)(hown:w.ownsRow base e 1 v n xs)(hsl:Sl w D A m f)(h1:∀ j,j < m→(f j).oneCell'=true)(h63:n+m≤maxLen)(hbytes:(n+m)*bytes≤140737488355328)(hbase:base≤w.heap.size)(h:∀ v' w',w'.ownsRow base e 1 v' (n+m) (xs ++ (List.range m).map f)→w.grownBy w' v.ownBlock→(v'.ownBlock=v.ownBlock∨v'.ownBlock=some w.heap.size)→K (a.put o.dst v') w'):
  if Region.wanted o (yielded ops a.tmps)=true then Oper.wp P o a w K Q else E:=by
 have hw:Region.wanted o (yielded ops a.tmps)=true:=by simp[Region.wanted,hgd]
 rw[if_pos hw]
 exact vw he s x ho hs hx hown hsl h1 h63 hbytes hbase h
end
theorem kS(w:World)(t:TypeId)(u:Value): Sl (w.alloc (.cells #[u] t)) (fun k=>k=w.heap.size) (some ⟨w.heap.size,0,none⟩) 1 (fun _=>u):=fun _=>
 ⟨_,_,rfl,rfl,fun j hj=>by
  obtain rfl:j=0:=by omega
  rw[(au.fresh w t #[u]).cell (0+0)]
  rfl⟩
end
section
open Go.RowKit
theorem AQ{α:Type}: ∀ (L:List α) (i:Nat) (h:i < L.length),L.Perm (L[i] :: L.eraseIdx i)
 | _ :: _,0,_=>List.Perm.refl _
 | a :: l,i+1,h=>((AQ l i (by simpa using h)).cons a).trans (List.Perm.swap _ _ _)
structure Own(w0:World)(L:List (Nat × TypeId × Array Value))(w:World): Prop where
 bel:Below w0.heap.size w0 w
 blk:∀ b ∈ L,w0.heap.size≤b.1∧au w b.1 b.2.1 b.2.2
 nd:L.Pairwise (fun a b=>a.1≠b.1)
namespace Own
variable {w0 w w':World} {L:List (Nat × TypeId × Array Value)} {g:Nat} {t:TypeId} {cs:Array Value}
theorem start(w:World): Own w [] w:=⟨Below.refl _ _,fun _ h=>(List.not_mem_nil h).elim,List.Pairwise.nil⟩
theorem lt(h:Own w0 L w): ∀ b ∈ L,b.1 < w.heap.size:=fun b hb=>(h.blk b hb).2.lt
theorem size(h:Own w0 L w): w0.heap.size≤w.heap.size:=h.bel.size
theorem alloc(h:Own w0 L w)(hg:g=w.heap.size)(t:TypeId)(cs:Array Value): Own w0 (L ++ [(g,t,cs)]) (w.alloc (.cells cs t)):=by
 subst hg
 refine⟨h.bel.alloc h.bel.size _,?_,?_⟩
 ·intro b hb
  rcases List.mem_append.1 hb with hb | hb
  ·exact ⟨(h.blk b hb).1,(h.blk b hb).2.alloc _⟩
  ·obtain rfl:=List.mem_singleton.1 hb
   exact⟨h.bel.size,au.fresh _ _ _⟩
 ·refine List.pairwise_append.2 ⟨h.nd,List.pairwise_singleton _ _,?_⟩
  intro a ha b hb
  obtain rfl:=List.mem_singleton.1 hb
  exact Nat.ne_of_lt (h.lt a ha)
theorem call(h:Own w0 L w)(hb:Below w.heap.size w w'): Own w0 L w':=
 ⟨h.bel.trans (hb.mono h.bel.size),fun b hm=>⟨(h.blk b hm).1,(h.blk b hm).2.below hb (h.lt b hm)⟩,h.nd⟩
theorem drew(h:Own w0 L w): Own w0 L w.drew:=h.call (Below.refl _ _).drew
theorem drewN(h:Own w0 L w)(n:Nat): Own w0 L (w.drewN n):=h.call ((Keeps.refl (fun _=>False) w).drewN n).bM
theorem cell(h:Own w0 L w)(i j:Nat){v:Value}(hi:L[i]? = some (g,t,cs))(hj:cs.toList[j]? = some v): w.cell? ⟨g,j,none⟩=some v:=by
 have hb:=(h.blk _ (List.mem_of_getElem? hi)).2
 rw[hb.cell j,←Array.getElem?_toList]
 exact hj
theorem free(h:Own w0 L w)(i:Nat)(hi:L[i]? = some (g,t,cs)): ∀ j,w.frozen? ⟨g,j,none⟩=false:=
 ((h.blk _ (List.mem_of_getElem? hi)).2).frozen
theorem get(h:Own w0 L w)(i:Nat)(hi:L[i]? = some (g,t,cs)): au w g t cs:=(h.blk _ (List.mem_of_getElem? hi)).2
theorem geq(h:Own w0 L w)(i:Nat)(hi:L[i]? = some (g,t,cs)): w0.heap.size≤g:=(h.blk _ (List.mem_of_getElem? hi)).1
theorem ne(h:Own w0 L w){i j g':Nat}{t':TypeId}{cs':Array Value}(hi:L[i]? = some (g,t,cs))(hj:L[j]? = some (g',t',cs'))(hij:i≠j): g≠g':=by
 have hl:=List.getElem?_eq_some_iff.1 hi
 have hl':=List.getElem?_eq_some_iff.1 hj
 obtain⟨hi1,hi2⟩:=hl
 obtain⟨hj1,hj2⟩:=hl'
 have hp:=List.pairwise_iff_getElem.1 h.nd
 rcases Nat.lt_or_gt_of_ne hij with hlt | hlt
 ·have:=hp i j hi1 hj1 hlt
  rw[hi2,hj2] at this
  exact this
 ·have:=hp j i hj1 hi1 hlt
  rw[hi2,hj2] at this
  exact fun e=>this e.symm
theorem set(h:Own w0 L w)(i j:Nat)(hi:L[i]? = some (g,t,cs))(v:Value): Own w0 (L.set i (g,t,cs.setIfInBounds j v)) (w.setCell ⟨g,j,none⟩ v):=by
 refine⟨h.bel.setCell (p:=⟨g,j,none⟩) (h.geq i hi) v,?_,?_⟩
 ·intro b hb
  obtain⟨k,hk⟩:=List.mem_iff_getElem?.1 hb
  by_cases hki:i=k
  ·subst hki
   have hlen:i < L.length:=(List.getElem?_eq_some_iff.1 hi).1
   rw[List.getElem?_set_self hlen] at hk
   injection hk with hk
   subst hk
   exact⟨h.geq i hi,(h.get i hi).set j v⟩
  ·rw[List.getElem?_set_ne hki] at hk
   obtain⟨g',t',cs'⟩:=b
   exact⟨h.geq k hk,(h.get k hk).far (p:=⟨g,j,none⟩) (h.ne hk hi (fun e=>hki e.symm)) v⟩
 ·have e:(L.set i (g,t,cs.setIfInBounds j v)).map (fun a=>a.1)=L.map (fun a=>a.1):=by
   apply List.ext_getElem?
   intro k
   rw[List.getElem?_map,List.getElem?_map]
   by_cases hki:i=k
   ·subst hki
    have hlen:i < L.length:=(List.getElem?_eq_some_iff.1 hi).1
    rw[List.getElem?_set_self hlen,hi]
    rfl
   ·rw[List.getElem?_set_ne hki]
  have h1:(L.map (fun a=>a.1)).Pairwise (·≠·):=List.pairwise_map.2 h.nd
  rw[←e] at h1
  exact List.pairwise_map.1 h1
theorem sub{M:List (Nat × TypeId × Array Value)}(h:Own w0 L w)(hs:M.Sublist L): Own w0 M w:=⟨h.bel,fun b hb=>h.blk b (hs.subset hb),h.nd.sublist hs⟩
theorem take(h:Own w0 L w)(n:Nat): Own w0 (L.take n) w:=h.sub (List.take_sublist n L)
theorem front(h:Own w0 L w)(i:Nat){b:Nat × TypeId × Array Value}(hi:L[i]? = some b): Own w0 (b :: L.eraseIdx i) w:=by
 obtain⟨hl,rfl⟩:=List.getElem?_eq_some_iff.1 hi
 have hp:L.Perm (L[i] :: L.eraseIdx i):=AQ L i hl
 exact⟨h.bel,fun b hb=>h.blk b (hp.mem_iff.2 hb),(hp.pairwise_iff (fun e e'=>e e'.symm)).1 h.nd⟩
theorem keeps(h:Own w0 L w): Keeps (fun _=>False) w0 w:=Keeps.of_below h.bel
theorem eX(w:World){x:Nat}(hx:x=w.heap.size)(t:TypeId)(c:Array Value): Own w [(x,t,c)] (w.alloc (.cells c t)):=(start w).alloc hx t c
theorem oJ(w:World){x:Nat}(hx:x=w.heap.size)(t:TypeId)(c:Array Value)(t1:TypeId)(c1:Array Value): Own w [(x,t,c),(x+1,t1,c1)] ((w.alloc (.cells c t)).alloc (.cells c1 t1)):=
 (eX w hx t c).alloc (by simp[hx]) t1 c1
theorem Tg(w:World){x:Nat}(hx:x=w.heap.size)(t:TypeId)(c:Array Value)(t1:TypeId)(c1:Array Value)(t2:TypeId)(c2:Array Value):
  Own w [(x,t,c),(x+1,t1,c1),(x+1+1,t2,c2)] (((w.alloc (.cells c t)).alloc (.cells c1 t1)).alloc (.cells c2 t2)):=
 (oJ w hx t c t1 c1).alloc (by simp[hx]) t2 c2
theorem SL(w:World){x:Nat}(hx:x=w.heap.size)(t:TypeId)(c:Array Value)(t1:TypeId)(c1:Array Value)(t2:TypeId)(c2:Array Value)(t3:TypeId)(c3:Array Value):
  Own w [(x,t,c),(x+1,t1,c1),(x+1+1,t2,c2),(x+1+1+1,t3,c3)] ((((w.alloc (.cells c t)).alloc (.cells c1 t1)).alloc (.cells c2 t2)).alloc (.cells c3 t3)):=
 (Tg w hx t c t1 c1 t2 c2).alloc (by simp[hx]) t3 c3
end Own
def setFrom(w:World)(g k:Nat): List Value→World
 | []=>w
 | v :: vs=>setFrom (w.setCell ⟨g,k,none⟩ v) g (k+1) vs
def iY(cs:Array Value)(k:Nat): List Value→Array Value
 | []=>cs
 | v :: vs=>iY (cs.setIfInBounds k v) (k+1) vs
theorem xU: ∀ (vs:List Value) (k:Nat) (cs:Array Value),(iY cs k vs).size=cs.size
 | [],_,_=>rfl
 | v :: vs,k,cs=>by unfold iY;rw[xU vs];simp
theorem Am: ∀ (vs:List Value) (k:Nat) (cs:Array Value) (i:Nat),i < k→(iY cs k vs)[i]? = cs[i]?
 | [],_,_,_,_=>rfl
 | v :: vs,k,cs,i,h=>by
  unfold iY
  rw[Am vs (k+1) _ i (by omega),Array.getElem?_setIfInBounds]
  rw[if_neg (by omega)]
theorem Ag: ∀ (vs:List Value) (k:Nat) (cs:Array Value) (i:Nat),k+vs.length≤cs.size→(iY cs k vs)[k+i]? = if i < vs.length then vs[i]? else cs[k+i]?
 | [],_,_,_,_=>by simp[iY]
 | v :: vs,k,cs,0,h=>by
  unfold iY
  simp at h
  rw[Am vs (k+1) _ (k+0) (by omega),Array.getElem?_setIfInBounds]
  simp
  omega
 | v :: vs,k,cs,i+1,h=>by
  unfold iY
  simp at h
  have:=Ag vs (k+1) (cs.setIfInBounds k v) i (by simp;omega)
  have e:k+(i+1)=k+1+i:=by omega
  rw[e,this]
  simp only[List.length_cons,Nat.add_lt_add_iff_right,List.getElem?_cons_succ]
  have e2:(cs.setIfInBounds k v)[k+1+i]? = cs[k+1+i]?:=by rw[Array.getElem?_setIfInBounds,if_neg (show ¬ k=k+1+i by omega)]
  rw[e2]
theorem Own.xR{w0:World}{L:List (Nat × TypeId × Array Value)}{g:Nat}{t:TypeId}: ∀ (vs:List Value) (k:Nat) (w:World) (cs:Array Value),Own w0 ((g,t,cs) :: L) w→Own w0 ((g,t,iY cs k vs) :: L) (setFrom w g k vs)
 | [],_,_,_,h=>h
 | v :: vs,k,_,_,h=>Own.xR vs (k+1) _ _ (h.set 0 k rfl v)
def fu(w0:World)(g:Nat)(t:TypeId)(n:Nat)(L:List (Nat × TypeId × Array Value))(w:World): Prop:=∃ cs:Array Value,cs.size=n∧Own w0 ((g,t,cs) :: L) w
namespace fu
variable {w0 w w':World} {L:List (Nat × TypeId × Array Value)} {g n:Nat} {t:TypeId} {cs:Array Value}
theorem of(h:Own w0 ((g,t,cs) :: L) w)(hn:cs.size=n): fu w0 g t n L w:=⟨cs,hn,h⟩
theorem call(h:fu w0 g t n L w)(hb:Below w.heap.size w w'): fu w0 g t n L w':=by
 obtain⟨cs,hn,ho⟩:=h
 exact⟨cs,hn,ho.call hb⟩
theorem rest(h:fu w0 g t n L w): Own w0 L w:=by
 obtain⟨cs,hn,ho⟩:=h
 exact ho.sub (List.sublist_cons_self _ _)
theorem put(h:fu w0 g t n L w)(vs:List Value)(hl:vs.length=n): Own w0 ((g,t,vs.toArray) :: L) (setFrom w g 0 vs):=by
 obtain⟨cs,hn,ho⟩:=h
 have:=Own.xR vs 0 w cs ho
 have e:iY cs 0 vs=vs.toArray:=by
  apply Array.ext
  ·rw[xU];simp[hn,hl]
  ·intro i h1 h2
   have h3:i < vs.length:=by simpa using h2
   have:=Ag vs 0 cs i (by omega)
   rw[Nat.zero_add,Array.getElem?_eq_getElem h1,if_pos h3,List.getElem?_eq_getElem h3] at this
   exact Option.some.inj this
 rw[e] at this
 exact this
theorem one(h:fu w0 g t 1 L w): ∃ a,Own w0 ((g,t,#[a]) :: L) w:=by
 obtain⟨⟨cs⟩,hn,ho⟩:=h
 obtain _ | ⟨a,_ | ⟨b,cs⟩⟩:=cs<;>simp at hn
 exact⟨a,ho⟩
theorem two(h:fu w0 g t 2 L w): ∃ a b,Own w0 ((g,t,#[a,b]) :: L) w:=by
 obtain⟨⟨cs⟩,hn,ho⟩:=h
 obtain _ | ⟨a,_ | ⟨b,_ | ⟨c,cs⟩⟩⟩:=cs<;>simp at hn
 exact⟨a,b,ho⟩
theorem three(h:fu w0 g t 3 L w): ∃ a b c,Own w0 ((g,t,#[a,b,c]) :: L) w:=by
 obtain⟨⟨cs⟩,hn,ho⟩:=h
 obtain _ | ⟨a,_ | ⟨b,_ | ⟨c,_ | ⟨d,cs⟩⟩⟩⟩:=cs<;>simp at hn
 exact⟨a,b,c,ho⟩
end fu
end
section
open Go.RowKit
structure Pt where
 t: Int
 v:Int
 s:Int
deriving DecidableEq
def dS(x:Int): Prop:=-9223372036854775808≤x∧x≤9223372036854775807
structure oM(p:Pt): Prop where
 t:dS p.t
 v:dS p.v
 s:dS p.s
def dO(w:World)(D:Nat→Prop)(A:Option Addr)(n:Nat)(f:Nat→Pt): Prop:=
 0 < n→∃ b off,A=some ⟨b,off,none⟩∧D b∧∀ j,j < n→w.cell? ⟨b,off+j*3,none⟩=some (.int .i64 (f j).t)∧w.cell? ⟨b,off+j*3+1,none⟩=some (.int .i64 (f j).v)∧w.cell? ⟨b,off+j*3+2,none⟩=some (.int .i64 (f j).s)
namespace dO
variable {w w':World} {D E:Nat→Prop} {A:Option Addr} {n m:Nat} {f g:Nat→Pt}
theorem nil(w:World)(D:Nat→Prop)(A:Option Addr)(f:Nat→Pt): dO w D A 0 f:=fun h=>absurd h (by omega)
theorem keep(h:dO w D A n f)(hk:∀ k,D k→k < w.heap.size→w'.heap[k]? = w.heap[k]?): dO w' D A n f:=fun hn=>by
 obtain⟨b,off,e,hd,hc⟩:=h hn
 have hlt:b < w.heap.size:=World.block_lt_of_cell? w _ (hc 0 hn).1
 refine⟨b,off,e,hd,fun j hj=>?_⟩
 obtain⟨h1,h2,h3⟩:=hc j hj
 exact⟨(World.cell?_of_block (w:=w) (a:=⟨b,_,none⟩) (hk b hd hlt)).trans h1,(World.cell?_of_block (w:=w) (a:=⟨b,_,none⟩) (hk b hd hlt)).trans h2,(World.cell?_of_block (w:=w) (a:=⟨b,_,none⟩) (hk b hd hlt)).trans h3⟩
theorem below(h:dO w D A n f)(hk:Below w.heap.size w w'): dO w' D A n f:=h.keep fun k _ hlt=>hk.block k hlt
theorem keeps(h:dO w D A n f)(hk:Keeps (fun _=>False) w w'): dO w' D A n f:=h.keep fun k _ hlt=>hk.block k hlt (fun h=>h)
theorem mono(h:dO w D A n f)(hd:∀ k,D k→E k): dO w E A n f:=fun hn=>by
 obtain⟨b,off,e,hD,hc⟩:=h hn
 exact⟨b,off,e,hd b hD,hc⟩
theorem take(h:dO w D A n f)(hm:m≤n): dO w D A m f:=fun hn=>by
 obtain⟨b,off,e,hD,hc⟩:=h (by omega)
 exact⟨b,off,e,hD,fun j hj=>hc j (by omega)⟩
theorem congr(h:dO w D A n f)(hf:∀ j,j < n→f j=g j): dO w D A n g:=fun hn=>by
 obtain⟨b,off,e,hD,hc⟩:=h hn
 exact⟨b,off,e,hD,fun j hj=>by rw[←hf j hj];exact hc j hj⟩
theorem drop{b off:Nat}(h:dO w D (some ⟨b,off,none⟩) (m+n) f): dO w D (some ⟨b,off+m*3,none⟩) n (fun j=>f (m+j)):=fun hn=>by
 obtain⟨b',off',e,hD,hc⟩:=h (by omega)
 simp only[Option.some.injEq,Addr.mk.injEq] at e
 obtain⟨rfl,rfl,-⟩:=e
 refine⟨b,_,rfl,hD,fun j hj=>?_⟩
 have:=hc (m+j) (by omega)
 rw[show off+(m+j)*3=off+m*3+j*3 by omega] at this
 exact this
end dO
end
section
open Go.RowKit
def dW(l:List Pt): List Value:=l.flatMap fun p=>[.int .i64 p.t,.int .i64 p.v,.int .i64 p.s]
theorem rT(l l':List Pt): dW (l ++ l')=dW l ++ dW l':=by simp[dW]
theorem BA(l:List Pt): (dW l).length=l.length*3:=by
 induction l with
 | nil=>rfl
 | cons p l ih=>
  show (Value.int .i64 p.t :: Value.int .i64 p.v :: Value.int .i64 p.s :: dW l).length=_
  simp only[List.length_cons,ih]
  omega
theorem yZ: ∀ (l:List Pt) (j:Nat) (p:Pt),l[j]? = some p→(dW l)[j*3]? = some (.int .i64 p.t)∧(dW l)[j*3+1]? = some (.int .i64 p.v)∧(dW l)[j*3+2]? = some (.int .i64 p.s)
 | [],_,_,h=>by simp at h
 | q :: l,0,p,h=>by
  simp at h
  subst h
  exact⟨rfl,rfl,rfl⟩
 | q :: l,j+1,p,h=>by
  simp at h
  obtain⟨h1,h2,h3⟩:=yZ l j p h
  have e:dW (q :: l)=.int .i64 q.t :: .int .i64 q.v :: .int .i64 q.s :: dW l:=rfl
  rw[e,show (j+1)*3=j*3+1+1+1 by omega]
  simp only[List.getElem?_cons_succ]
  exact⟨h1,h2,h3⟩
def aX(w:World)(base:Nat)(v:Value)(l:List Pt): Prop:=w.ownsRow base 149 3 v l.length (dW l)
namespace aX
variable {w w':World} {base:Nat} {v:Value} {l:List Pt}
theorem nil(w:World)(base:Nat): aX w base (.slice none 0 0) []:=⟨rfl,.inl ⟨rfl,rfl⟩⟩
theorem form(h:aX w base v l): ∃ A c,v=.slice A l.length c∧l.length≤c:=by
 obtain⟨A,c,h1,h2,-⟩:=aA h
 exact⟨A,c,h1,h2⟩
theorem sl{A:Option Addr}{c:Nat}(h:aX w base (.slice A l.length c) l): dO w (fun k=>base≤k∧(Value.slice A l.length c).ownBlock=some k) A l.length (fun j=>l.getD j ⟨0,0,0⟩):=by
 intro hn
 obtain⟨g,hA,hb⟩:∃ g,A=some ⟨g,0,none⟩∧base≤g:=by
  rcases h.2 with ⟨_,h0⟩ | ⟨g,_,_,hv,hb,_⟩
  ·omega
  ·exact ⟨g,by injection hv,hb⟩
 subst hA
 refine⟨g,0,rfl,⟨hb,rfl⟩,fun j hj=>?_⟩
 have hadd:∀ i,(⟨g,0,none⟩:Addr).add i=⟨g,0+i,none⟩:=fun i=>by unfold Addr.add;split<;>simp_all
 obtain⟨h1,h2,h3⟩:=yZ l j l[j] (List.getElem?_eq_getElem hj)
 have e:(fun j=>l.getD j (⟨0,0,0⟩:Pt)) j=l[j]:=by simp[List.getD_eq_getElem?_getD,hj]
 rw[e]
 have c1:=World.ownsRow.cells h (g:=g) rfl _ _ h1
 have c2:=World.ownsRow.cells h (g:=g) rfl _ _ h2
 have c3:=World.ownsRow.cells h (g:=g) rfl _ _ h3
 rw[hadd] at c1 c2 c3
 exact⟨c1,c2,c3⟩
theorem keeps{S:Nat→Prop}(h:aX w base v l)(hk:Keeps S w w')(hne:∀ g,v.ownBlock=some g→¬ S g): aX w' base v l:=aF h hk hne
theorem below(h:aX w base v l)(hb:Below w.heap.size w w'): aX w' base v l:=aF h (Keeps.of_below (S:=fun _=>False) hb) (fun _ _ h=>h)
theorem fC(h:aX w base v l): ∀ g,v.ownBlock=some g→base≤g∧g < w.heap.size:=by
 intro g hg
 rcases h.2 with ⟨rfl,_⟩ | ⟨g',cap,cur,rfl,hb,hh,_⟩
 ·simp[Value.ownBlock] at hg
 ·have:g'=g:=by simpa [Value.ownBlock] using hg
  subst this
  exact⟨hb,(Array.getElem?_eq_some_iff.1 hh).1⟩
end aX
theorem Own.grown{w0 w w':World}{L:List (Nat × TypeId × Array Value)}{row:Option Nat}(h:Own w0 L w)(hg:w.grownBy w' row)(hrow:∀ k,row=some k→w0.heap.size≤k∧∀ b ∈ L,b.1≠k): Own w0 L w':=by
 have hk:Keeps (fun k=>row=some k) w w':=(Keeps.refl _ w).grown hg (fun k e _=>e)
 refine⟨?_,fun b hb=>⟨(h.blk b hb).1,(h.blk b hb).2.keeps hk (fun e=>(hrow _ e).2 b hb rfl)⟩,h.nd⟩
 exact h.bel.trans (hk.below h.bel.size (fun k hlt e=>by have:=(hrow k e).1;omega))
theorem xK: (Tryz.prog.info? 149).map (fun i=>(i.zero,i.size,i.bytes))=some (some (.agg #[.int .i64 0,.int .i64 0,.int .i64 0]),3,24):=by kernel_rfl
theorem uz{w:World}{base g:Nat}{v:Value}{l:List Pt}{p:Pt}{c:Nat}{ty:TypeId}(hown:aX w base v l)(hg:au w g 149 #[.int .i64 p.t,.int .i64 p.v,.int .i64 p.s])(h63:l.length < 4294967296)(hbase:base≤w.heap.size):
  ∃ v' w',(Builtin.append_ #[186,186] ty #[v,.slice (some ⟨g,0,none⟩) 1 c]).run Tryz.prog w=.ok v' w'∧aX w' base v' (l ++ [p])∧w.grownBy w' v.ownBlock∧(v'.ownBlock=v.ownBlock∨v'.ownBlock=some w.heap.size):=by
 obtain⟨i,hi,hz,hs,hb⟩:=info_parts xK
 have hadd:∀ i,(⟨g,0,none⟩:Addr).add i=⟨g,0+i,none⟩:=fun i=>by unfold Addr.add;split<;>simp_all
 obtain⟨v',w',h1,h2,h3,_,h4⟩:=run_append_own_at (P:=Tryz.prog) w base 186 ty 149 i _ 3 24 Tryz.underlying186 hi hz hs hb rfl (by decide) v l.length (dW l) hown ⟨g,0,none⟩ 1 c [.int .i64 p.t,.int .i64 p.v,.int .i64 p.s] rfl
  (fun j u hu=>by
   rw[hadd,Nat.zero_add,hg.cell j]
   simpa using hu)
  (by intro u hu;simp at hu;rcases hu with rfl | rfl | rfl<;>rfl) (by unfold maxLen;omega) (by omega) hbase
 refine⟨v',w',h1,?_,h3,h4⟩
 unfold aX
 rw[rT,List.length_append]
 exact h2
theorem jM{w:World}{base g:Nat}{v:Value}{l:List Pt}{p:Pt}{c:Nat}{ops:Array Oper}{rest:List Oper}{o:Oper}{a:Act}{Q:Exit→Act→World→Prop}(hgd:o.guard=none)(s x:Operand)(ho:o.op=.call { callee:=.builtin .append,args:=#[s,x],argTypes:=#[186,186] })(hs:a.eval s=v)(hx:a.eval x=.slice (some ⟨g,0,none⟩) 1 c)(hown:aX w base v l)(hg:au w g 149 #[.int .i64 p.t,.int .i64 p.v,.int .i64 p.s])(h63:l.length < 4294967296)(hbase:base≤w.heap.size)(h:∀ v' w',aX w' base v' (l ++ [p])→w.grownBy w' v.ownBlock→(v'.ownBlock=v.ownBlock∨v'.ownBlock=some w.heap.size)→wpList Tryz.prog ops Q rest (a.put o.dst v') w'): wpList Tryz.prog ops Q (o :: rest) a w:=by
 refine wpList_plain hgd fun K hK=>?_
 obtain⟨v',w',hrun,h2,h3,h4⟩:=uz (ty:=o.type) (c:=c) hown hg h63 hbase
 unfold Oper.wp execOp
 simp only[ho,resolve,invoke,builtin,Sem.run_bind,Sem.run_pure,Result.andThen_ok,List.map_toArray,List.map_cons,List.map_nil,hs,hx,hrun]
 exact hK _ _ (h v' w' h2 h3 h4)
end
section
open Go.RowKit
theorem xq: ∀ (l:List Pt) (j:Nat) (u:Value),(dW l)[j]? = some u→∃ p,l[j / 3]? = some p∧u=(if j%3=0 then .int .i64 p.t else if j%3=1 then .int .i64 p.v else .int .i64 p.s)
 | [],j,u,h=>by simp[dW] at h
 | p :: l,0,u,h=>by
  have h:some (Value.int .i64 p.t)=some u:=h
  injection h with h
  exact⟨p,rfl,h.symm⟩
 | p :: l,1,u,h=>by
  have h:some (Value.int .i64 p.v)=some u:=h
  injection h with h
  exact⟨p,rfl,h.symm⟩
 | p :: l,2,u,h=>by
  have h:some (Value.int .i64 p.s)=some u:=h
  injection h with h
  exact⟨p,rfl,h.symm⟩
 | p :: l,j+3,u,h=>by
  have h':(dW l)[j]? = some u:=h
  obtain⟨q,h1,h2⟩:=xq l j u h'
  refine⟨q,?_,?_⟩
  ·rw[show (j+3) / 3=j / 3+1 by omega];exact h1
  ·rw[show (j+3)%3=j%3 by omega];exact h2
theorem FI(l:List Pt): ∀ u ∈ dW l,u.oneCell'=true:=fun u hu=>by
 unfold dW at hu
 obtain⟨p,-,hp⟩:=List.mem_flatMap.1 hu
 simp at hp
 rcases hp with rfl | rfl | rfl<;>rfl
end
section
open Go.RowKit
def marks: ByteArray:={ data:=#[95,46,45,58,47,61,44] }
def qm(c:Nat): Bool:=(decide (97≤bits .or .u8 (c:Int) 32) && decide (bits .or .u8 (c:Int) 32≤122)) || ((decide (48≤(c:Int)) && decide ((c:Int)≤57)) || decide (0≤firstIdx marks ((c:Int).toNat.toUInt8)))
theorem Jy(c:Int)(w:World): (callFunc 299 #[.string marks,.int .u8 c]).run Tryz.prog w=.ok (.value (.int .i64 (firstIdx marks c.toNat.toUInt8))) w:=by
 rw[run_callFunc_extern Tryz.func299 (by kernel_rfl) (by kernel_rfl) (by kernel_rfl) (e:=Extern.BytealgIndexByte.indexByte) (by kernel_rfl),run_indexByte_string]
 rfl
theorem Dq(c:Int)(w:World): Calls Tryz.prog 135 #[.string marks,.int .u8 c] w fun e w'=>e=.returned (.int .i64 (firstIdx marks c.toNat.toUInt8))∧Below w.heap.size w w':=by
 have h:=Jy c
 have h1:∀ w,Calls Tryz.prog 208 #[.string marks,.int .u8 c] w fun e w'=>e=.returned (.int .i64 (firstIdx marks c.toNat.toUInt8))∧Below w.heap.size w w':=by
  intro w
  go_enter Tryz.func208,Tryz.ntmps208
  go_wp2_with fail
  go_ret
  exact⟨rfl,Below.refl _ _⟩
 clear h
 go_enter Tryz.func135,Tryz.ntmps135
 go_wp2_with fail
 refine(h1 _).mono ?_
 rintro e w1 ⟨rfl,hb⟩
 have HB:=zh hb
 clear hb h1
 go_wp2_with fail
 go_ret
 exact⟨rfl,HB.out⟩
theorem om{w wr w1:World}(h:Below w.heap.size w wr)(hb:Below wr.heap.size wr w1): Below w.heap.size w w1:=((Own.start w).call h).call hb |>.bel
def dI(s:ByteArray): Bool:=(List.range s.size).all (fun j=>qm (s[j]!).toNat) && (decide (1≤s.size) && decide (s.size≤64))
theorem Qr{s:ByteArray}(h:∀ j,j < s.size→qm (s[j]!).toNat=true): dI s=(decide (1≤s.size) && decide (s.size≤64)):=by
 unfold dI
 rw[List.all_eq_true.2 (fun j hj=>h j (List.mem_range.1 hj))]
 rfl
theorem sP{s:ByteArray}{k:Nat}(hk:k < s.size)(h:qm (s[k]!).toNat=false): dI s=false:=by
 unfold dI
 have e:(List.range s.size).all (fun j=>qm (s[j]!).toNat)=false:=by
  rw[List.all_eq_false]
  exact⟨k,List.mem_range.2 hk,by rw[h];simp⟩
 rw[e]
 rfl
theorem o9(s:ByteArray)(hs:s.size≤9223372036854775807)(w:World): Calls Tryz.prog 70 #[.string s] w fun e w'=>e=.returned (.bool (dI s))∧Below w.heap.size w w':=by
 have hi:=Dq
 have HI:=zh hi
 clear hi
 go_enter Tryz.func70,Tryz.ntmps70
 go_wp2_with fail
 go_loopw [8] (fun i wr=>∃ k:Nat,k≤s.size∧i=.int .i64 (k:Nat)∧(∀ j,j < k→qm (s[j]!).toNat=true)∧Below w.heap.size w wr) (fun i _=>s.size-(intOf i).toNat)
 case atStart=>exact ⟨0,by omega,rfl,fun j hj=>absurd hj (by omega),Below.refl _ _⟩
 case round=>
  obtain⟨k,hk,rfl,hall,hbel⟩:=hrel
  have HA:=zh (zN hall hbel)
  clear hall hbel
  by_cases hlt:k < s.size
  ·go_upto_region 6 with (fail)
   obtain⟨c,hc⟩:∃ c:Nat,c=s[k].toNat:=⟨_,rfl⟩
   have hc':(s[k]!).toNat=c:=by rw[hc,getElem!_pos s k hlt]
   have hc256:c < 256:=by rw[hc];exact UInt8.toNat_lt _
   rw[←hc]
   obtain⟨lw,hlw⟩:∃ z,z=bits .or .u8 (c:Int) 32:=⟨_,rfl⟩
   rw[←hlw]
   obtain⟨ix,hix⟩:∃ z,z=firstIdx marks ((c:Int).toNat.toUInt8):=⟨_,rfl⟩
   have hic:=HI.out (c:Int)
   rw[←hix] at hic
   have hch:qm c=((decide (97≤lw) && decide (lw≤122)) || ((decide (48≤(c:Int)) && decide ((c:Int)≤57)) || decide (0≤ix))):=by unfold qm;rw[←hlw,←hix]
   have HC:=zh (zN hc' (zN hch hic))
   have HW:=zh (show ∀ j,j < k→qm (s[j]!).toNat=true from HA.out.1)
   clear hc hc' hch hic hlw hix
   by_cases e1:97≤lw
   ·have d1:decide (97≤lw)=true:=by simp[e1]
    by_cases e2:lw≤122
    ·have d2:decide (lw≤122)=true:=by simp[e2]
     have HT:=zh (show qm c=true by rw[HC.out.2.1];simp[e1,e2])
     clear e1 e2
     go_wp2_with fail
     go_roundw
     case rel=>
      refine⟨k+1,by omega,by go_num,fun j hj=>?_,HA.out.2⟩
      rcases Nat.lt_or_ge j k with h | h
      ·exact HW.out j h
      ·obtain rfl:j=k:=by omega
       rw[HC.out.1];exact HT.out
     case measure=>simp[intOf]<;>omega
    ·have d2:decide (lw≤122)=false:=by simp;omega
     by_cases e3:48≤(c:Int)
     ·have d3:decide (48≤(c:Int))=true:=by simp;omega
      by_cases e4:(c:Int)≤57
      ·have d4:decide ((c:Int)≤57)=true:=by simp;omega
       have HT:=zh (show qm c=true by rw[HC.out.2.1];simp[d3,d4])
       clear e1 e2 e3 e4
       go_wp2_with fail
       go_roundw
       case rel=>
        refine⟨k+1,by omega,by go_num,fun j hj=>?_,HA.out.2⟩
        rcases Nat.lt_or_ge j k with h | h
        ·exact HW.out j h
        ·obtain rfl:j=k:=by omega
         rw[HC.out.1];exact HT.out
       case measure=>simp[intOf]<;>omega
      ·have d4:decide ((c:Int)≤57)=false:=by simp;omega
       clear e1 e2 e3 e4
       go_wp2_with fail
       refine(HC.out.2.2 _).mono ?_
       rintro e w1 ⟨rfl,hb⟩
       have HB:=zh (om HA.out.2 hb)
       clear hb
       by_cases e5:0≤ix
       ·have d5:decide (0≤ix)=true:=by simp[e5]
        have HT:=zh (show qm c=true by rw[HC.out.2.1,d5];simp)
        clear e5
        go_wp2_with fail
        go_roundw
        case rel=>
         refine⟨k+1,by omega,by go_num,fun j hj=>?_,HB.out⟩
         rcases Nat.lt_or_ge j k with h | h
         ·exact HW.out j h
         ·obtain rfl:j=k:=by omega
          rw[HC.out.1];exact HT.out
        case measure=>simp[intOf]<;>omega
       ·have d5:decide (0≤ix)=false:=by simp;omega
        have HT:=zh (show dI s=false from sP hlt (by rw[HC.out.1,HC.out.2.1,d5];simp[d1,d2,d3,d4]))
        clear e5
        go_wp2_with fail
        go_ret
        exact⟨by rw[HT.out];rfl,HB.out⟩
     ·have d3:decide (48≤(c:Int))=false:=by simp;omega
      clear e1 e2 e3
      go_wp2_with fail
      refine(HC.out.2.2 _).mono ?_
      rintro e w1 ⟨rfl,hb⟩
      have HB:=zh (om HA.out.2 hb)
      clear hb
      by_cases e5:0≤ix
      ·have d5:decide (0≤ix)=true:=by simp[e5]
       have HT:=zh (show qm c=true by rw[HC.out.2.1,d5];simp)
       clear e5
       go_wp2_with fail
       go_roundw
       case rel=>
        refine⟨k+1,by omega,by go_num,fun j hj=>?_,HB.out⟩
        rcases Nat.lt_or_ge j k with h | h
        ·exact HW.out j h
        ·obtain rfl:j=k:=by omega
         rw[HC.out.1];exact HT.out
       case measure=>simp[intOf]<;>omega
      ·have d5:decide (0≤ix)=false:=by simp;omega
       have HT:=zh (show dI s=false from sP hlt (by rw[HC.out.1,HC.out.2.1,d5];simp[d1,d2,d3]))
       clear e5
       go_wp2_with fail
       go_ret
       exact⟨by rw[HT.out];rfl,HB.out⟩
   ·have d1:decide (97≤lw)=false:=by simp;omega
    by_cases e3:48≤(c:Int)
    ·have d3:decide (48≤(c:Int))=true:=by simp;omega
     by_cases e4:(c:Int)≤57
     ·have d4:decide ((c:Int)≤57)=true:=by simp;omega
      have HT:=zh (show qm c=true by rw[HC.out.2.1];simp[d3,d4])
      clear e1 e3 e4
      go_wp2_with fail
      go_roundw
      case rel=>
       refine⟨k+1,by omega,by go_num,fun j hj=>?_,HA.out.2⟩
       rcases Nat.lt_or_ge j k with h | h
       ·exact HW.out j h
       ·obtain rfl:j=k:=by omega
        rw[HC.out.1];exact HT.out
      case measure=>simp[intOf]<;>omega
     ·have d4:decide ((c:Int)≤57)=false:=by simp;omega
      clear e1 e3 e4
      go_wp2_with fail
      refine(HC.out.2.2 _).mono ?_
      rintro e w1 ⟨rfl,hb⟩
      have HB:=zh (om HA.out.2 hb)
      clear hb
      by_cases e5:0≤ix
      ·have d5:decide (0≤ix)=true:=by simp[e5]
       have HT:=zh (show qm c=true by rw[HC.out.2.1,d5];simp)
       clear e5
       go_wp2_with fail
       go_roundw
       case rel=>
        refine⟨k+1,by omega,by go_num,fun j hj=>?_,HB.out⟩
        rcases Nat.lt_or_ge j k with h | h
        ·exact HW.out j h
        ·obtain rfl:j=k:=by omega
         rw[HC.out.1];exact HT.out
       case measure=>simp[intOf]<;>omega
      ·have d5:decide (0≤ix)=false:=by simp;omega
       have HT:=zh (show dI s=false from sP hlt (by rw[HC.out.1,HC.out.2.1,d5];simp[d1,d3,d4]))
       clear e5
       go_wp2_with fail
       go_ret
       exact⟨by rw[HT.out];rfl,HB.out⟩
    ·have d3:decide (48≤(c:Int))=false:=by simp;omega
     clear e1 e3
     go_wp2_with fail
     refine(HC.out.2.2 _).mono ?_
     rintro e w1 ⟨rfl,hb⟩
     have HB:=zh (om HA.out.2 hb)
     clear hb
     by_cases e5:0≤ix
     ·have d5:decide (0≤ix)=true:=by simp[e5]
      have HT:=zh (show qm c=true by rw[HC.out.2.1,d5];simp)
      clear e5
      go_wp2_with fail
      go_roundw
      case rel=>
       refine⟨k+1,by omega,by go_num,fun j hj=>?_,HB.out⟩
       rcases Nat.lt_or_ge j k with h | h
       ·exact HW.out j h
       ·obtain rfl:j=k:=by omega
        rw[HC.out.1];exact HT.out
      case measure=>simp[intOf]<;>omega
     ·have d5:decide (0≤ix)=false:=by simp;omega
      have HT:=zh (show dI s=false from sP hlt (by rw[HC.out.1,HC.out.2.1,d5];simp[d1,d3]))
      clear e5
      go_wp2_with fail
      go_ret
      exact⟨by rw[HT.out];rfl,HB.out⟩
  ·obtain rfl:k=s.size:=by omega
   have hn:=Qr HA.out.1
   by_cases h0:s.size=0
   ·obtain rfl:s=ByteArray.empty:=by
     apply ByteArray.ext
     exact Array.eq_empty_of_size_eq_zero h0
    have HN:=zh (show dI ByteArray.empty=false from hn)
    clear hn
    go_wp2_with fail
    go_ret
    exact⟨by rw[HN.out];rfl,HA.out.2⟩
   ·have hne:s≠ByteArray.empty:=fun h=>h0 (by rw[h];rfl)
    have h1:1≤s.size:=by omega
    have d0:s.toList.isEmpty=false:=by
     cases h:s.toList with
     | nil=>exact absurd ((toList_nil_iff_emptyBytes s).1 h) hne
     | cons a l=>rfl
    by_cases h64:s.size≤64
    ·have HN:=zh (show dI s=true by rw[hn];simp[h1,h64])
     have d1:decide ((s.size:Int)≤64)=true:=by simp;omega
     clear hn h64
     go_wp2_with fail
     go_ret
     exact⟨by rw[HN.out];rfl,HA.out.2⟩
    ·have HN:=zh (show dI s=false by rw[hn];simp[h64])
     have d1:decide ((s.size:Int)≤64)=false:=by simp;omega
     clear hn h64
     go_wp2_with fail
     go_ret
     exact⟨by rw[HN.out];rfl,HA.out.2⟩
end
section
open Go.RowKit Go.Maps
open Go.WideMaps (keyOf_string_mk)
theorem law: Keyed Tryz.prog 9:=string_keyed Tryz.underlying9
theorem GJ(w:World): (zeroValue 3).run Tryz.prog w=.ok (.int .i64 0) w:=by kernel_rfl
def bP(s:ByteArray): Lit:=.string s.data.toList
theorem iQ{s t:ByteArray}(h:bP s=bP t): s=t:=by
 unfold bP at h
 injection h with h
 apply ByteArray.ext
 exact Array.toList_inj.1 h
theorem jo(s:ByteArray): WideAt.IsKeyLit (bP s):=by unfold bP;simp[WideAt.IsKeyLit]
theorem kD{s:ByteArray}(h:s.size≤maxLen): keyOf Tryz.prog 9 (.string s)=some (bP s):=keyOf_string_mk Tryz.underlying9 h
def Dn(nm:Nat→ByteArray): Nat→DataW Unit
 | 0=>.map []
 | k+1=>(Dn nm k).put (bP (nm k)) (.lit (.int .i64 k))
theorem yK(nm:Nat→ByteArray): ∀ k,IsMap (Dn nm k)
 | 0=>isMap_empty
 | k+1=>(yK nm k).put _ _
theorem Hg(nm:Nat→ByteArray): ∀ k,Tidy (Dn nm k)
 | 0=>tidy_empty
 | k+1=>(Hg nm k).put (jo _) _
theorem uY(nm:Nat→ByteArray)(s:ByteArray): ∀ k,Maps.has (Dn nm k) (bP s)=true↔∃ j,j < k∧nm j=s
 | 0=>by
  constructor
  ·intro h;cases h
  ·rintro ⟨j,hj,_⟩;omega
 | k+1=>by
  by_cases e:nm k=s
  ·subst e
   constructor
   ·intro _;exact ⟨k,by omega,rfl⟩
   ·intro _;exact has_put_same (yK nm k) (jo _) _
  ·have hne:bP s≠bP (nm k):=fun h=>e (iQ h).symm
   show Maps.has ((Dn nm k).put (bP (nm k)) _) (bP s)=true↔_
   rw[has_put_other hne,uY nm s k]
   constructor
   ·rintro ⟨j,hj,h⟩;exact ⟨j,by omega,h⟩
   ·rintro ⟨j,hj,h⟩
    have:j≠k:=fun h'=>e (by rw[←h',h])
    exact⟨j,by omega,h⟩
def Apart(nm:Nat→ByteArray)(k:Nat): Prop:=∀ i j,i < j→j < k→nm i≠nm j
theorem rH(nm:Nat→ByteArray): ∀ k,Apart nm k→Maps.size (Dn nm k)=k
 | 0,_=>rfl
 | k+1,h=>by
  show Maps.size ((Dn nm k).put (bP (nm k)) _)=k+1
  have hh:¬ Maps.has (Dn nm k) (bP (nm k))=true:=by
   rw[uY]
   rintro ⟨j,hj,e⟩
   exact h j k hj (by omega) e
  rw[size_put (Hg nm k),if_neg hh,rH nm k (fun i j h1 h2=>h i j h1 (by omega))]
theorem QJ(nm:Nat→ByteArray)(z:DataW Unit): ∀ k,Apart nm k→∀ j,j < k→(Dn nm k).atKey (bP (nm j)) z=.lit (.int .i64 j)
 | 0,_,j,hj=>by omega
 | k+1,h,j,hj=>by
  show ((Dn nm k).put (bP (nm k)) _).atKey (bP (nm j)) z=_
  by_cases e:j=k
  ·subst e
   rw[atKey_put_same (yK nm j) (jo _)]
  ·rw[atKey_put_other (fun h'=>h j k (by omega) (by omega) (iQ h')),QJ nm z k (fun i j h1 h2=>h i j h1 (by omega)) j (by omega)]
def sJ(w:World)(m k:Nat)(nm:Nat→ByteArray): Prop:=w.ownsMap Tryz.prog 9 (plainElem (H:=Unit) Tryz.prog 3) m k (Dn nm k)
theorem sJ.block{w w':World}{m k:Nat}{nm:Nat→ByteArray}(h:sJ w m k nm)(hb:w'.heap[m]? = w.heap[m]?): sJ w' m k nm:=by
 obtain⟨es,clock,h1,r⟩:=h
 exact⟨es,clock,by rw[hb];exact h1,r⟩
theorem sJ.call{w w':World}{m k:Nat}{nm:Nat→ByteArray}(h:sJ w m k nm)(hb:Below w.heap.size w w'): sJ w' m k nm:=
 h.block (hb.block m (World.ownsMap.lt h))
theorem Own.SH{w0 w w':World}{L:List (Nat × TypeId × Array Value)}{m:Nat}(h:Own w0 L w)(hg:w.grownBy w' (some m))(hm:∀ b ∈ L,b.1≠m)(hge:w0.heap.size≤m): Own w0 L w':=by
 refine⟨⟨hg.os.trans h.bel.os,hg.tape.trans h.bel.tape,hg.output.trans h.bel.output,Nat.le_trans h.bel.size hg.size,fun q hq=>?_⟩,fun b hb=>⟨(h.blk b hb).1,?_⟩,h.nd⟩
 ·rw[hg.block q (Nat.lt_of_lt_of_le hq h.bel.size) (fun e=>by injection e with e;omega)]
  exact h.bel.block q hq
 ·show w'.heap[b.1]? = _
  rw[hg.block b.1 (h.lt b hb) (fun e=>by injection e with e;exact hm b hb e)]
  exact(h.blk b hb).2
structure dA(w0:World)(L:List (Nat × TypeId × Array Value))(d m k:Nat)(nm:Nat→ByteArray)(w:World): Prop where
 own:Own w0 ((d,445,#[.map (some m)]) :: L) w
 map:sJ w m k nm
 ge:w0.heap.size≤m
 ne:∀ b ∈ (d,445,#[Value.map (some m)]) :: L,b.1≠m
theorem dA.call{w0 w w':World}{L:List (Nat × TypeId × Array Value)}{d m k:Nat}{nm:Nat→ByteArray}(h:dA w0 L d m k nm w)(hb:Below w.heap.size w w'): dA w0 L d m k nm w':=⟨h.own.call hb,h.map.call hb,h.ge,h.ne⟩
theorem dmap_none(m:Nat)(w:World): (binOp .eql 443 (.map (some m)) (.map none)).run Tryz.prog w=.ok (.bool false) w:=by kernel_rfl
theorem ML(d:Nat)(w:World): (binOp .eql 340 (.pointer (some ⟨d,0,none⟩)) (.pointer none)).run Tryz.prog w=.ok (.bool false) w:=by kernel_rfl
theorem qD(w:World)(d m:Nat)(hc:w.cell? ⟨d,0,none⟩=some (.map (some m))): Calls Tryz.prog 305 #[.pointer (some ⟨d,0,none⟩)] w fun e w'=>e=.returned (.bool false)∧Below w.heap.size w w':=by
 have q1:=dmap_none m
 have q2:=ML d
 go_enter Tryz.func305,Tryz.ntmps305
 go_wp2_with fail
 go_ret
 exact⟨rfl,Below.refl _ _⟩
theorem DK(w:World)(nm:Nat→ByteArray): Calls Tryz.prog 303 #[] w fun e w'=>e=.returned (.pointer (some ⟨w.heap.size+1,0,none⟩))∧dA w [] (w.heap.size+1) w.heap.size 0 nm w':=by
 have hmm:=@run_makeMap Tryz.prog
 go_enter Tryz.func303,Tryz.ntmps303
 go_wp2_with fail
 go_ret
 refine⟨rfl,⟨((Own.start w).call ((Below.refl _ _).alloc (Nat.le_refl _) (.map #[] 0))).alloc (by simp) _ _,(World.ownsMap_made _ _ _ _:World.ownsMap _ _ _ _ _ _ _).alloc _,Nat.le_refl _,?_⟩⟩
 intro b hb
 obtain rfl:=List.mem_singleton.1 hb
 show w.heap.size+1≠w.heap.size
 omega
def Uo(w0:World)(L:List (Nat × TypeId × Array Value))(d m k:Nat)(nm:Nat→ByteArray)(e:Ending)(w':World): Prop:=
 (dI (nm k)=false∧e=.returned (.tuple #[.int .i64 0,.int .i64 2])∧dA w0 L d m k nm w')∨
 (dI (nm k)=true∧(∃ j,j < k∧nm j=nm k)∧∃ c,e=.returned (.tuple #[.int .i64 c,.int .i64 0])∧dA w0 L d m k nm w')∨
 (dI (nm k)=true∧¬ (∃ j,j < k∧nm j=nm k)∧e=.returned (.tuple #[.int .i64 (k:Nat),.int .i64 0])∧dA w0 L d m (k+1) nm w')
theorem DT(w0 w:World)(L:List (Nat × TypeId × Array Value))(d m k:Nat)(nm:Nat→ByteArray)(h:dA w0 L d m k nm w)(hk:k < 1024)(hap:Apart nm k)(hs:(nm k).size≤maxLen):
  Calls Tryz.prog 304 #[.pointer (some ⟨d,0,none⟩),.string (nm k)] w (Uo w0 L d m k nm):=by
 have hkey:=kD hs
 have hz:=rH nm k hap
 have hh:=uY nm (nm k) k
 have H0:=zh (zN h (zN hkey (zN hz hh)))
 have HSZ:=zh hs
 clear h hkey hz hh hap hs
 obtain⟨s,hs⟩:∃ s,s=nm k:=⟨_,rfl⟩
 rw[←hs]
 have HNS:=zh hs
 clear hs
 go_enter Tryz.func304,Tryz.ntmps304
 go_wp2_with fail
 refine(qD _ d m (H0.out.1.own.cell 0 0 rfl rfl)).mono ?_
 rintro e w1 ⟨rfl,hb⟩
 have H1:=zh (H0.out.1.call hb)
 clear hb
 go_wp2_with fail
 refine(o9 s (by rw[HNS.out];have:=HSZ.out;unfold maxLen at this;omega) _).mono ?_
 rintro e w2 ⟨rfl,hb⟩
 have H2:=zh (H1.out.call hb)
 clear hb H1
 have hn:dI s=dI (nm k):=by rw[HNS.out]
 cases hv:dI (nm k) with
 | false=>
  rw[hn,hv]
  have HV:=zh hv
  clear hv hn
  go_wp2_with fail
  go_ret2
  exact .inl ⟨HV.out,rfl,H2.out⟩
 | true=>
  rw[hn,hv]
  have HV:=zh hv
  clear hv hn
  have hc:=H2.out.own.cell 0 0 rfl rfl
  have hown:World.ownsMap w2 Tryz.prog 9 (plainElem (H:=Unit) Tryz.prog 3) m k (Dn nm k):=H2.out.map
  have hkey:keyOf Tryz.prog 9 (.string s)=some (bP (nm k)):=by rw[HNS.out];exact H0.out.2.1
  cases hx:Maps.has (Dn nm k) (bP (nm k)) with
  | true=>
   have HX:=zh hx
   go_wp2_with (at_lookup;refine wpList_lookup_own_ok_int _ rfl _ _ 443 rfl 9 3 .i64 law Tryz.underlying443 Tryz.underlying3 (GJ _) m k (Dn nm k) rfl hown _ _ rfl hkey ?_;intro c hat hwc)
   go_ret2
   exact .inr (.inl ⟨HV.out,(H0.out.2.2.2).1 HX.out,c,rfl,H2.out⟩)
  | false=>
   have HX:=zh (show ¬ ∃ j,j < k∧nm j=nm k from fun h=>by rw[(H0.out.2.2.2).2 h] at hx;cases hx)
   have hsz:=H0.out.2.2.1
   have dk:decide ((1024:Int)≤(k:Int))=false:=by simp;omega
   have hkm:k < maxLen:=by unfold maxLen;omega
   go_wp2_with (first
    | (at_lookup;refine wpList_lookup_own_ok_int _ rfl _ _ 443 rfl 9 3 .i64 law Tryz.underlying443 Tryz.underlying3 (GJ _) m k (Dn nm k) rfl hown _ _ rfl hkey ?_;intro c hat hwc)
    | (at_len;refine wpList_len_own _ rfl _ 443 rfl 9 3 Tryz.underlying443 _ m k _ rfl hown ?_;rw[hsz])
    | (at_mapUpdate;refine wpList_mapUpdate_own _ rfl _ _ _ 443 rfl 9 3 law Tryz.underlying443 _ m k _ rfl hown hkm _ _ _ rfl rfl hkey _ [] (plainElem_int Tryz.underlying3 (WalkArith.wf_i64 (by omega))) ?_;intro w3 hown3 hgrow3))
   go_ret2
   exact .inr (.inr ⟨HV.out,HX.out,rfl,⟨H2.out.own.SH hgrow3 H2.out.ne H2.out.ge,hown3,H2.out.ge,H2.out.ne⟩⟩)
end
section
open Go.RowKit Go.Maps
theorem Iy: (Tryz.prog.info? 9).map (fun i=>(i.zero,i.size,i.bytes))=some (some (.string ByteArray.empty),1,16):=by kernel_rfl
theorem jY{key:Value}{kl:Lit}(h:keyOf Tryz.prog 9 key=some kl): ∃ s:ByteArray,key=.string s∧kl=bP s:=by
 simp only[keyOf,mapKey,Tryz.underlying9] at h
 cases key<;>simp at h
 rename_i s
 exact⟨s,rfl,by unfold bP;exact h.2.symm⟩
def yA(left:Lit→Bool)(nm:Nat→ByteArray)(j:Nat): ByteArray:=if left (bP (nm j))=true then ByteArray.empty else nm j
theorem mJ(w:World)(g j:Nat)(v:Value): w.grownBy (w.setCell ⟨g,j,none⟩ v) (some g):=
 have b:Below 0 w (w.setCell ⟨g,j,none⟩ v):=(Below.refl 0 w).setCell (p:=⟨g,j,none⟩) (Nat.zero_le _) v
 ⟨b.os,b.tape,b.output,b.size,fun q _ hq=>Below.heap_setCell _ _ _ _ (fun e=>hq (by rw[e]))⟩
def Mg(k:Nat)(nm:Nat→ByteArray)(w:World)(e:Ending)(w':World): Prop:=
 ∃ o cs,e=.returned (.slice (some ⟨o,0,none⟩) k k)∧w.heap.size≤o∧au w' o 9 cs∧cs.size=k∧(∀ j,j < k→cs[j]? = some (.string (nm j)))∧Below w.heap.size w w'
theorem Ae(w0 w:World)(L:List (Nat × TypeId × Array Value))(d m k:Nat)(nm:Nat→ByteArray)(h:dA w0 L d m k nm w)(hk:k≤1024)(hap:Apart nm k):
  Calls Tryz.prog 230 #[.pointer (some ⟨d,0,none⟩)] w (Mg k nm w):=by
 have hmk:=run_make_row' (P:=Tryz.prog) 110 9 (.string ByteArray.empty) 16 Tryz.underlying110 Iy rfl .i64 .i64 k (by omega) (by omega)
 have hz:=rH nm k hap
 have H0:=zh (zN h hap)
 clear h hap
 go_enter Tryz.func230,Tryz.ntmps230
 go_wp2_with fail
 refine(qD _ d m (H0.out.1.own.cell 0 0 rfl rfl)).mono ?_
 rintro e w1 ⟨rfl,hb⟩
 have h1:=H0.out.1.call hb
 have HB:=zh hb
 have H1:=zh h1
 clear hb h1
 have hc:=H1.out.own.cell 0 0 rfl rfl
 have hown:World.ownsMap w1 Tryz.prog 9 (plainElem (H:=Unit) Tryz.prog 3) m k (Dn nm k):=H1.out.map
 go_upto_region 4 with (at_len;refine wpList_len_own _ rfl _ 443 rfl 9 3 Tryz.underlying443 _ m k _ rfl hown ?_;rw[hz])
 obtain⟨o,ho⟩:∃ o,o=w1.heap.size:=⟨_,rfl⟩
 rw[←ho]
 have hal:Below w1.heap.size w1 (w1.alloc (.cells (madeCells #[.string ByteArray.empty] k) 9)):=(Below.refl _ _).alloc (Nat.le_refl _) _
 refine aH (fun wx=>dA w0 L d m k nm wx∧au wx o 9 (madeCells #[.string ByteArray.empty] k)∧Below w.heap.size w wx∧w.heap.size≤o) ⟨H1.out.call hal,by rw[ho];exact au.fresh _ _ _,HB.out.trans (hal.mono HB.out.size),by rw[ho];exact HB.out.size⟩ ?_
 rintro w2 ⟨h2,hb2,hl2,hwo⟩
 clear hc hown hal hmk H1 HB ho
 have hc:=h2.own.cell 0 0 rfl rfl
 have hown:World.ownsMap w2 Tryz.prog 9 (plainElem (H:=Unit) Tryz.prog 3) m k (Dn nm k):=h2.map
 have hol:=hb2.lt
 have H2:=zh (zN h2 (zN hb2 hl2))
 clear h2 hb2 hl2
 go_wp2_with (at_range;refine wpList_range_own _ rfl _ 443 rfl 9 3 law Tryz.underlying443 _ m k _ rfl hown ?_;intro w3 hrg0 hg0 hs0)
 try go_frame
 obtain⟨r,hr⟩:∃ r,r=w2.heap.size:=⟨_,rfl⟩
 rw[←hr] at hrg0 ⊢
 have hro:o≠r:=by omega
 have hom:o≠m:=fun e=>by
  have h1:=H2.out.2.1
  obtain⟨es,clock,h3,_⟩:=hown
  rw[←e] at h3
  have:w2.heap[o]? = some (.cells (madeCells #[.string ByteArray.empty] k) 9 (0,0)):=h1
  rw[this] at h3
  cases h3
 have hl3:Below w.heap.size w w3:=by
  refine⟨hg0.os.trans H2.out.2.2.os,hg0.tape.trans H2.out.2.2.tape,hg0.output.trans H2.out.2.2.output,Nat.le_trans H2.out.2.2.size hg0.size,fun q hq=>?_⟩
  rw[hg0.block q (Nat.lt_of_lt_of_le hq H2.out.2.2.size) (fun e=>by cases e)]
  exact H2.out.2.2.block q hq
 have hb3:au w3 o 9 (madeCells #[.string ByteArray.empty] k):=by
  show w3.heap[o]? = _
  rw[hg0.block o hol (fun e=>by cases e)]
  exact H2.out.2.1
 have HR:=zh (zN hrg0 (zN hb3 (zN hl3 (zN hom (show w.heap.size≤r by rw[hr];exact H2.out.2.2.size)))))
 clear hrg0 hb3 hl3 hom hg0 hs0 hown hc hol hr
 go_loopw [4] (fun _ wr=>∃ (left:Lit→Bool) (cnt:Nat) (cs:Array Value),wr.ranges Tryz.prog 9 (plainElem (H:=Unit) Tryz.prog 3) m r k (Dn nm k) left cnt∧au wr o 9 cs∧cs.size=k∧(∀ j,j < k→cs[j]? = some (.string (yA left nm j)))∧Below w.heap.size w wr)
  (fun _ wr=>wr.rangeLeft m r)
 case atStart=>
  refine⟨_,_,_,HR.out.1,HR.out.2.1,size_madeCells _ _,fun j hj=>?_,HR.out.2.2.1⟩
  have hh:Maps.has (Dn nm k) (bP (nm j))=true:=(uY nm (nm j) k).2 ⟨j,hj,rfl⟩
  unfold yA
  rw[if_pos hh]
  simp[madeCells,hj,Nat.mod_one]
 case round=>
  obtain⟨left,cnt,cs,hrg,hblk,hsz,hcs,hbel⟩:=hrel
  go_wp2_with (at_next;refine wpList_next_ranges _ rfl _ rfl 9 law (plainElem (H:=Unit) Tryz.prog 3) Value.string (Value.int .i64) (fun key kl h=>(jY h).imp fun _ h=>h.1) (fun v y h=>by obtain ⟨c,rfl,_⟩:=plainElem_int_inv Tryz.underlying3 h;exact ⟨c,rfl⟩) m r k _ _ _ rfl hrg ?_ ?_)
  ·intro hc0 hl0
   have HF:=zh (zN hl0 (zN hblk (zN hsz (zN hcs hbel))))
   clear hl0 hblk hsz hcs hbel hrg hc0
   go_wp2_with fail
   go_ret
   refine⟨o,cs,rfl,hwo,HF.out.2.1,HF.out.2.2.1,fun j hj=>?_,HF.out.2.2.2.2⟩
   rw[HF.out.2.2.2.1 j hj]
   unfold yA
   rw[HF.out.1]
   rfl
  ·intro x c kl y1 y2 w4 cnt1 hkx hlx hvy hat hrg1 hlt hg1 hs1 hen
   obtain⟨s',e1,rfl⟩:=jY hkx
   injection e1 with e1
   subst e1
   obtain⟨j,hjk,rfl⟩:=(uY nm x k).1 (has_true_of_atKey hat)
   have hcj:c=(j:Int):=by
    obtain⟨c',ec,ey,hw⟩:=plainElem_int_inv Tryz.underlying3 hvy
    have h1:=hat .nil
    rw[QJ nm .nil k H0.out.2 j hjk] at h1
    injection ec with _ ec
    injection ey with ey _
    rw[ey] at h1
    injection h1 with h1
    injection h1 with _ h1
    rw[ec,←h1]
   subst hcj
   have hb4:au w4 o 9 cs:=by
    show w4.heap[o]? = _
    rw[hg1.block o hblk.lt (fun e=>by injection e with e;exact hro e)]
    exact hblk
   have hl4:Below w.heap.size w w4:=by
    have hrw:w.heap.size≤r:=HR.out.2.2.2.2
    refine⟨hg1.os.trans hbel.os,hg1.tape.trans hbel.tape,hg1.output.trans hbel.output,Nat.le_trans hbel.size hg1.size,fun q hq=>?_⟩
    rw[hg1.block q (Nat.lt_of_lt_of_le hq hbel.size) (fun e=>by injection e with e;omega)]
    exact hbel.block q hq
   have zc:w4.cell? ⟨o,j,none⟩=some (.string (yA left nm j)):=by rw[hb4.cell j];exact hcs j hjk
   have zf:=hb4.frozen
   have hrg2:=hrg1.kept (mJ w4 o j (.string (nm j))) (fun e=>by injection e with e;exact HR.out.2.2.2.1 e.symm) (fun e=>by injection e with e;exact hro e.symm)
   have hb5:=hb4.set j (.string (nm j))
   have hl5:=hl4.setCell (p:=⟨o,j,none⟩) hwo (.string (nm j))
   have hout:∀ i,i < k→(cs.setIfInBounds j (.string (nm j)))[i]? = some (.string (yA (fun z=>left z && !z.sameKey (bP (nm j))) nm i)):=by
    intro i hi
    by_cases e:i=j
    ·subst e
     rw[Array.getElem?_setIfInBounds_self_of_lt (by omega)]
     unfold yA
     simp[WideAt.sameKey_self (jo (nm i))]
    ·rw[Array.getElem?_setIfInBounds_ne (fun h=>e h.symm),hcs i hi]
     have hne:bP (nm i)≠bP (nm j):=fun h=>by
      rcases Nat.lt_or_gt_of_ne e with h1 | h1
      ·exact H0.out.2 i j h1 hjk (iQ h)
      ·exact H0.out.2 j i h1 hi (iQ h).symm
     unfold yA
     simp[sameKey_ne hne]
   have HS:=zh (zN hrg2 (zN hb5 (zN hl5 (zN hout (zN hrg.left_eq hlt)))))
   have hjk':(j:Int) < (k:Int):=by omega
   clear hrg2 hb5 hl5 hout hrg hlt hb4 hl4 hrg1 hat hvy hkx hlx hcs hbel hblk hg1 hs1
   go_wp2_with fail
   go_roundw
   case rel=>exact ⟨_,cnt1,_,HS.out.1,HS.out.2.1,by rw[Array.size_setIfInBounds];exact hsz,HS.out.2.2.2.1,HS.out.2.2.1⟩
   case measure=>rw[HS.out.1.left_eq,HS.out.2.2.2.2.1];exact HS.out.2.2.2.2.2
end
namespace V
open Go.RowKit Go.Extern.Stop Go.Stop Go.Extern
theorem P5(v:Value)(w:World): (Extern.ReflectliteType.typeOf #[.iface 24 v]).run Tryz.prog w=.ok (.iface 426 (.agg #[.pointer (some ⟨4,24,none⟩)])) w:=by kernel_rfl
theorem D5(w:World): ((Extern.ReflectliteType.method fun t=>do Rtype.noPackHeld "Comparable" t;(fun a=>Value.bool a.comparable) <$> typeInfo t) #[.agg #[.pointer (some ⟨4,24,none⟩)]]).run Tryz.prog w=.ok (.bool true) w:=by kernel_rfl
theorem TI(v:Value)(xT:TypeId)(w:World): (Instr.typeAssert (.iface 24 v) xT 480 true).run Tryz.prog w=.ok (.tuple #[.nilIface,.bool false]) w:=run_typeAssert_lacksB Tryz.underlying480 (by kernel_rfl) (by kernel_rfl) v xT w
theorem Ms(v:Value)(xT:TypeId)(w:World): (Instr.typeAssert (.iface 24 v) xT 433 true).run Tryz.prog w=.ok (.tuple #[.nilIface,.bool false]) w:=run_typeAssert_lacksB Tryz.underlying433 (by kernel_rfl) (by kernel_rfl) v xT w
theorem Jl(v:Value)(xT:TypeId)(w:World): (Instr.typeAssert (.iface 24 v) xT 435 true).run Tryz.prog w=.ok (.tuple #[.nilIface,.bool false]) w:=run_typeAssert_lacksB Tryz.underlying435 (by kernel_rfl) (by kernel_rfl) v xT w
theorem Ua(v:Value)(xT:TypeId)(w:World): (Instr.typeAssert (.iface 330 v) xT 480 true).run Tryz.prog w=.ok (.tuple #[.nilIface,.bool false]) w:=run_typeAssert_lacksB Tryz.underlying480 (by kernel_rfl) (by kernel_rfl) v xT w
theorem NS(v:Value)(xT:TypeId)(w:World): (Instr.typeAssert (.iface 330 v) xT 433 true).run Tryz.prog w=.ok (.tuple #[.iface 330 v,.bool true]) w:=run_typeAssert_hasB Tryz.underlying433 (by kernel_rfl) v xT w
theorem Rs(v:Value)(w:World): (Go.method 674 426 v "Comparable").run Tryz.prog w=.ok (434,v) w:=by kernel_rfl
theorem Li(v:Value)(w:World): (Go.method 674 330 v "Unwrap").run Tryz.prog w=.ok (431,v) w:=by kernel_rfl
theorem M8(v:Value)(w:World):
  Calls Tryz.prog 202 #[.nilIface,.iface 24 v] w fun e w'=>e=.returned (.bool false)∧w=w':=by
 have hn:=run_eql_iface_nil_left (P:=Tryz.prog) w 24 v Tryz.underlying223
 go_enter Tryz.func202,Tryz.ntmps202
 go_wp2
 go_ret
 exact⟨rfl,rfl⟩
theorem NZ(i k:Int)(w:World):
  Calls Tryz.prog 202 #[.iface 330 (.agg #[.int .i64 i,.int .i64 k]),.iface 24 (.int .i64 10)] w fun e w'=>e=.returned (.bool (k == 10))∧Below w.heap.size w w':=by
 have h8:=@run_callFunc_extern Tryz.prog 294 _ Extern.ReflectliteType.typeOf Tryz.func294 (by kernel_rfl) (by kernel_rfl) (by kernel_rfl) (by kernel_rfl)
 have h32:=@run_callFunc_extern Tryz.prog 434 _ (Extern.ReflectliteType.method fun t=>do Rtype.noPackHeld "Comparable" t;pure (.bool (←typeInfo t).comparable)) Tryz.func434 (by kernel_rfl) (by kernel_rfl) (by kernel_rfl) (by kernel_rfl)
 have tT:=P5
 have cT:=D5
 have nE:=TI
 have uE:=Ms
 have vE:=Jl
 have nF:=Ua
 have uF:=NS
 have mC:=Rs
 have mU:=Li
 have heq:=fun w=>Lib.run_eql_iface_int (P:=Tryz.prog) w (k:=.i64) (t:=223) (tx:=24) k 10 Tryz.underlying223 (by kernel_rfl) Tryz.underlying24
 have hty:=fun w=>run_eql_iface_types (P:=Tryz.prog) 330 24 (.agg #[.int .i64 i,.int .i64 k]) (.int .i64 10) Tryz.underlying223 (by decide) w
 go_enter Tryz.func202,Tryz.ntmps202
 go_wp2
 refine wp_loop_rounds 2 ?_
 rw[rounds_succ]
 go_wp2
 by_cases hk:k=10
 ·subst hk
  rw[rounds_succ]
  go_wp2
  go_ret
  exact⟨rfl,(Below.refl _ _).alloc (Nat.le_refl _) _⟩
 ·rw[rounds_succ]
  go_wp2
  go_ret
  exact⟨by rw[show (k == 10)=false by simp[hk]];rfl,(Below.refl _ _).alloc (Nat.le_refl _) _⟩
end V
namespace V
open Go.RowKit Go.Extern.Stop Go.Stop Go.Extern
theorem Tq(t:Value)(w:World):
  Calls Tryz.prog 128 #[.nilIface,t] w fun e w'=>e=.returned (.bool false)∧w=w':=by
 go_enter Tryz.func128,Tryz.ntmps128
 go_wp2
 go_ret
 exact⟨rfl,rfl⟩
theorem JO(t:Addr)(w:World): (ReflectliteValue.unpack (.iface 331 (.pointer (some t)))).run Tryz.prog w
  = .ok (.agg #[.pointer (some ⟨4,331,none⟩),.pointer (some ⟨w.heap.size,0,none⟩),.int .u64 150]) (w.alloc (.cells #[.pointer (some t)] 331)):=by kernel_rfl
theorem Rc(a:Addr)(w:World): (ReflectliteValue.methodAny (ReflectliteValue.valueError "reflectlite.Value.Type" 0) (fun t _ _ _=>ReflectliteType.toType t) #[.agg #[.pointer (some ⟨4,331,none⟩),.pointer (some a),.int .u64 150]]).run Tryz.prog w
  = .ok (.iface 426 (.agg #[.pointer (some ⟨4,331,none⟩)])) w:=by kernel_rfl
theorem QT(h:Value)(w:World): (Go.method 674 426 (.agg #[h]) "Kind").run Tryz.prog w=.ok (420,h) w:=by kernel_rfl
theorem Rw(w:World): ((ReflectliteType.abiMethod fun t=>(fun a:Nat=>Value.int IntKind.u8 (a:Int)) <$> Rtype.kind t) #[.pointer (some ⟨4,331,none⟩)]).run Tryz.prog w=.ok (.int .u8 22) w:=by kernel_rfl
theorem R4(w:World): ((ReflectliteType.abiMethod fun t=>(fun a:Nat=>Value.int IntKind.u8 (a:Int)) <$> Rtype.kind t) #[.pointer (some ⟨4,330,none⟩)]).run Tryz.prog w=.ok (.int .u8 25) w:=by kernel_rfl
theorem Uf(z:Sem Value)(f:TypeId→Addr→Nat→Nat→Sem Value)(v:Value):
  ReflectliteValue.method z f #[v]=(do match ←ReflectliteValue.parts v with | none=>z | some (t,a,fl)=>f t a fl (fl%32)):=rfl
theorem EX(a:Addr)(w:World): (ReflectliteValue.parts (.agg #[.pointer (some ⟨4,331,none⟩),.pointer (some a),.int .u64 150])).run Tryz.prog w=.ok (some (331,a,150)) w:=by kernel_rfl
theorem OC(a p:Addr)(W:World)(ha:W.cell? a=some (.pointer (some p))):
  (ReflectliteValue.method (ReflectliteValue.valueError "reflectlite.Value.IsNil" 0) ReflectliteValue.isNil #[.agg #[.pointer (some ⟨4,331,none⟩),.pointer (some a),.int .u64 150]]).run Tryz.prog W=.ok (.bool false) W:=by
 rw[Uf]
 simp only[Sem.run_bind,EX,Result.andThen]
 simp[ReflectliteValue.isNil,loadVar,isAgg,underlying,Tryz.underlying331,ha,Result.andThen]
theorem Rz(h:Value)(w:World): (Go.method 674 426 (.agg #[h]) "Elem").run Tryz.prog w=.ok (435,.agg #[h]) w:=by kernel_rfl
theorem QN(h:Value)(w:World): (Go.method 674 426 (.agg #[h]) "Implements").run Tryz.prog w=.ok (436,.agg #[h]) w:=by kernel_rfl
theorem Sw(h:Value)(w:World): (Go.method 674 426 (.agg #[h]) "AssignableTo").run Tryz.prog w=.ok (433,.agg #[h]) w:=by kernel_rfl
theorem QS(w:World): (ReflectliteType.method ReflectliteType.elem #[.agg #[.pointer (some ⟨4,331,none⟩)]]).run Tryz.prog w=.ok (.iface 426 (.agg #[.pointer (some ⟨4,330,none⟩)])) w:=by kernel_rfl
theorem RX(w:World): (ReflectliteType.relation "Implements" ReflectliteType.implements_ #[.agg #[.pointer (some ⟨4,330,none⟩)],.iface 426 (.agg #[.pointer (some ⟨4,223,none⟩)])]).run Tryz.prog w=.ok (.bool true) w:=by kernel_rfl
theorem Nn(v:Value)(w:World): (ReflectliteType.typeOf #[.iface 330 v]).run Tryz.prog w=.ok (.iface 426 (.agg #[.pointer (some ⟨4,330,none⟩)])) w:=by kernel_rfl
theorem TA(w:World): (ReflectliteType.relation "AssignableTo" ReflectliteType.assignableTo #[.agg #[.pointer (some ⟨4,330,none⟩)],.iface 426 (.agg #[.pointer (some ⟨4,330,none⟩)])]).run Tryz.prog w=.ok (.bool true) w:=by kernel_rfl
theorem Jp(i k:Int)(w:World): (ReflectliteValue.unpack (.iface 330 (.agg #[.int .i64 i,.int .i64 k]))).run Tryz.prog w
  = .ok (.agg #[.pointer (some ⟨4,330,none⟩),.pointer (some ⟨w.heap.size,0,none⟩),.int .u64 153]) (w.alloc (.cells #[.int .i64 i,.int .i64 k] 330)):=by kernel_rfl
theorem MW(w:World): (Rtype.elem? 331).run Tryz.prog w=.ok (some 330) w:=by kernel_rfl
theorem TN(p:Addr)(w:World): (ReflectliteValue.mk 330 p ReflectliteValue.flagAddr).run Tryz.prog w=.ok (.agg #[.pointer (some ⟨4,330,none⟩),.pointer (some p),.int .u64 409]) w:=by kernel_rfl
theorem Qp(a p:Addr)(W:World)(ha:W.cell? a=some (.pointer (some p))):
  (ReflectliteValue.method (ReflectliteValue.valueError "reflectlite.Value.Elem" 0) ReflectliteValue.elem #[.agg #[.pointer (some ⟨4,331,none⟩),.pointer (some a),.int .u64 150]]).run Tryz.prog W
   = .ok (.agg #[.pointer (some ⟨4,330,none⟩),.pointer (some p),.int .u64 409]) W:=by
 rw[Uf]
 simp only[Sem.run_bind,EX,Result.andThen]
 simp[ReflectliteValue.elem,loadVar,isAgg,underlying,Tryz.underlying331,ha,Result.andThen,MW,TN]
theorem rls(v x:Value): ReflectliteValue.set #[v,x]=(do
  let (some (dst,a,fl),some (src,b,_)):=(←ReflectliteValue.parts v,←ReflectliteValue.parts x)
   | unsupported (.noEntry "extern/(internal/reflectlite.Value).Set.zeroValue")
  if fl / ReflectliteValue.flagAddr%2 == 0 then unsupported (.noEntry "extern/(internal/reflectlite.Value).Set.unaddressable")
  let val ←loadVar src b
  if ←Rtype.directlyAssignable dst src then storeVar dst a val
  else if ←Rtype.implements dst src then
   if (←Rtype.kind src) == 20 then
    match val with
    | .nilIface=>unsupported (.noEntry "extern/reflectlite: a nil value of one interface type handed on as a value of another")
    | _=>storeVar dst a val
   else storeVar dst a (.iface src val)
  else panicString ("reflectlite.Set: value of type " ++ (←Rtype.spelt src) ++ " is not assignable to type " ++ (←Rtype.spelt dst))
  pure (.tuple #[])):=rfl
theorem Ld(a:Addr)(w:World): (ReflectliteValue.parts (.agg #[.pointer (some ⟨4,330,none⟩),.pointer (some a),.int .u64 409])).run Tryz.prog w=.ok (some (330,a,409)) w:=by kernel_rfl
theorem Qg(a:Addr)(w:World): (ReflectliteValue.parts (.agg #[.pointer (some ⟨4,330,none⟩),.pointer (some a),.int .u64 153])).run Tryz.prog w=.ok (some (330,a,153)) w:=by kernel_rfl
theorem ME(w:World): (Rtype.directlyAssignable 330 330).run Tryz.prog w=.ok true w:=by kernel_rfl
theorem Tv(g b:Nat)(i k:Int)(o1 o2:Value)(W:World)(hb:au W b 330 #[.int .i64 i,.int .i64 k])(hg:au W g 330 #[o1,o2]):
  (ReflectliteValue.set #[.agg #[.pointer (some ⟨4,330,none⟩),.pointer (some ⟨g,0,none⟩),.int .u64 409],.agg #[.pointer (some ⟨4,330,none⟩),.pointer (some ⟨b,0,none⟩),.int .u64 153]]).run Tryz.prog W
   = .ok (.tuple #[]) ((W.setCell ⟨g,0,none⟩ (.int .i64 i)).setCell ⟨g,1,none⟩ (.int .i64 k)):=by
 rw[rls]
 simp only[Sem.run_bind,Ld,Qg,Result.andThen]
 have c0:W.cell? ⟨b,0,none⟩=some (.int .i64 i):=by rw[hb.cell 0];rfl
 have c1:W.cell? ⟨b,1,none⟩=some (.int .i64 k):=by rw[hb.cell 1];rfl
 have d0:W.cell? ⟨g,0,none⟩=some o1:=by rw[hg.cell 0];rfl
 have hg2:=hg.set 0 (.int .i64 i)
 have d1:(W.setCell ⟨g,0,none⟩ (.int .i64 i)).cell? ⟨g,1,none⟩=some o2:=by rw[hg2.cell 1];rfl
 have f0:=hg.frozen 0
 have f1:=hg2.frozen 1
 have hl:(loadCells ⟨b,0,none⟩ 2).run Tryz.prog W=.ok #[.int .i64 i,.int .i64 k] W:=by
  simp[loadCells,loadCellsFrom,Addr.add,c0,c1,Result.andThen]
 have e1:(store ⟨g,0,none⟩ (.int .i64 i)).run Tryz.prog W=.ok () (W.setCell ⟨g,0,none⟩ (.int .i64 i)):=by
  rw[run_store _ _ _ _ _ (by rfl),d0];simp[f0]
 have e2:(store ⟨g,1,none⟩ (.int .i64 k)).run Tryz.prog (W.setCell ⟨g,0,none⟩ (.int .i64 i))=.ok () ((W.setCell ⟨g,0,none⟩ (.int .i64 i)).setCell ⟨g,1,none⟩ (.int .i64 k)):=by
  rw[run_store _ _ _ _ _ (by rfl),d1];simp[f1]
 have hs:(storeCells ⟨g,0,none⟩ [.int .i64 i,.int .i64 k]).run Tryz.prog W=.ok () ((W.setCell ⟨g,0,none⟩ (.int .i64 i)).setCell ⟨g,1,none⟩ (.int .i64 k)):=by
  unfold storeCells
  rw[Sem.run_bind,show (⟨g,0,none⟩:Addr).add 0=⟨g,0,none⟩ by rfl,e1]
  show (storeCells ⟨g,0,none⟩ [.int .i64 k] (0+1)).run Tryz.prog _=_
  unfold storeCells
  rw[Sem.run_bind,show (⟨g,0,none⟩:Addr).add (0+1)=⟨g,1,none⟩ by rfl,e2]
  rfl
 simp[ReflectliteValue.flagAddr,loadVar,isAgg,underlying,Tryz.underlying330,hl,Result.andThen,ME,storeVar,Value.cells,hs]
def Tn(g:Nat)(i k:Int)(w:World)(e:Ending)(w':World): Prop:=
 e=.returned (.bool true)∧Keeps (fun x=>x=g) w w'∧au w' g 330 #[.int .i64 i,.int .i64 k]
theorem P7(g:Nat)(i k:Int)(o1 o2:Value)(w:World)(hv:w.cell? ⟨0,0,none⟩=some (.iface 426 (.agg #[.pointer (some ⟨4,223,none⟩)])))(hg:au w g 330 #[o1,o2]):
  Calls Tryz.prog 128 #[.iface 330 (.agg #[.int .i64 i,.int .i64 k]),.iface 331 (.pointer (some ⟨g,0,none⟩))] w (Tn g i k w):=by
 have hE1:=@run_callFunc_extern Tryz.prog 203 _ (fun args=>ReflectliteValue.unpack (args.getD 0 (.tuple #[]))) Tryz.func203 (by kernel_rfl) (by kernel_rfl) (by kernel_rfl) (by kernel_rfl)
 have hE2:=@run_callFunc_extern Tryz.prog 204 _ (ReflectliteValue.methodAny (ReflectliteValue.valueError "reflectlite.Value.Type" 0) (fun t _ _ _=>ReflectliteType.toType t)) Tryz.func204 (by kernel_rfl) (by kernel_rfl) (by kernel_rfl) (by kernel_rfl)
 have hE3:=@run_callFunc_extern Tryz.prog 205 _ (ReflectliteValue.method (ReflectliteValue.valueError "reflectlite.Value.IsNil" 0) ReflectliteValue.isNil) Tryz.func205 (by kernel_rfl) (by kernel_rfl) (by kernel_rfl) (by kernel_rfl)
 have hE4:=@run_callFunc_extern Tryz.prog 420 _ (ReflectliteType.abiMethod fun t=>do pure (.int .u8 (←Rtype.kind t))) Tryz.func420 (by kernel_rfl) (by kernel_rfl) (by kernel_rfl) (by kernel_rfl)
 have hE5:=@run_callFunc_extern Tryz.prog 435 _ (ReflectliteType.method ReflectliteType.elem) Tryz.func435 (by kernel_rfl) (by kernel_rfl) (by kernel_rfl) (by kernel_rfl)
 have hE6:=@run_callFunc_extern Tryz.prog 436 _ (ReflectliteType.relation "Implements" ReflectliteType.implements_) Tryz.func436 (by kernel_rfl) (by kernel_rfl) (by kernel_rfl) (by kernel_rfl)
 have hE7:=@run_callFunc_extern Tryz.prog 294 _ ReflectliteType.typeOf Tryz.func294 (by kernel_rfl) (by kernel_rfl) (by kernel_rfl) (by kernel_rfl)
 have hE8:=@run_callFunc_extern Tryz.prog 433 _ (ReflectliteType.relation "AssignableTo" ReflectliteType.assignableTo) Tryz.func433 (by kernel_rfl) (by kernel_rfl) (by kernel_rfl) (by kernel_rfl)
 have hE9:=@run_callFunc_extern Tryz.prog 296 _ (ReflectliteValue.method (ReflectliteValue.valueError "reflectlite.Value.Elem" 0) ReflectliteValue.elem) Tryz.func296 (by kernel_rfl) (by kernel_rfl) (by kernel_rfl) (by kernel_rfl)
 have hE10:=@run_callFunc_extern Tryz.prog 297 _ ReflectliteValue.set Tryz.func297 (by kernel_rfl) (by kernel_rfl) (by kernel_rfl) (by kernel_rfl)
 have q1:=JO
 have q2:=Rc
 have q3:=QT
 have q4:=Rw
 have q5:=R4
 have q6:=Rz
 have q7:=QN
 have q8:=Sw
 have q9:=QS
 have q10:=RX
 have q11:=Nn
 have q12:=TA
 have q13:=Jp i k
 obtain⟨x,hx⟩:∃ x,x=w.heap.size:=⟨_,rfl⟩
 have hlt:g < x:=by rw[hx];exact hg.lt
 have o1':=(Own.eX w hx 331 #[.pointer (some ⟨g,0,none⟩)])
 have o2':=o1'.alloc (show x+1=_ by simp[hx]) 319 #[.pointer (some ⟨4,331,none⟩),.pointer (some ⟨x,0,none⟩),.int .u64 150]
 have o3':=o2'.alloc (show x+1+1=_ by simp[hx]) 319 #[.pointer (some ⟨4,331,none⟩),.pointer (some ⟨x,0,none⟩),.int .u64 150]
 have o4':=o3'.alloc (show x+1+1+1=_ by simp[hx]) 330 #[.int .i64 i,.int .i64 k]
 have n8:=OC ⟨x,0,none⟩ ⟨g,0,none⟩ _ (o2'.cell 0 0 rfl rfl)
 have el:=Qp ⟨x,0,none⟩ ⟨g,0,none⟩ _ (o3'.cell 0 0 rfl rfl)
 have bb:=o4'.get 3 rfl
 have bg:=hg.below o4'.bel (by rw[←hx];exact hlt)
 have st:=Tv g (x+1+1+1) i k o1 o2 _ bb bg
 have hv2:=(World.cell?_of_block (w:=w) (a:=⟨0,0,none⟩) (o2'.bel.block 0 (World.block_lt_of_cell? w _ hv))).trans hv
 rw[hx] at n8 el st hv2
 have HB:=zh (zN bg (zN o4'.keeps (zN hx hlt)))
 clear o1' o2' o3' o4' bb bg hx hlt hv
 go_enter Tryz.func128,Tryz.ntmps128
 go_wp2
 refine wp_loop_rounds 1 ?_
 rw[rounds_succ]
 go_wp2
 go_ret
 have hB:=HB.out
 rw[←hB.2.2.1]
 have b1:=hB.1.set 0 (.int .i64 i)
 have b2:=b1.set 1 (.int .i64 k)
 have k1:Keeps (fun x=>x=g) w _:=hB.2.1.mono (T:=fun x=>x=g) (fun _ _ h=>h.elim)
 have k2:Keeps (fun x=>x=g) w _:=k1.setCell (p:=⟨g,0,none⟩) (fun _=>rfl) (.int .i64 i)
 have k3:Keeps (fun x=>x=g) w _:=k2.setCell (p:=⟨g,1,none⟩) (fun _=>rfl) (.int .i64 k)
 exact⟨rfl,k3,b2⟩
end V
section
open Go.RowKit
def aD(bs:List Nat)(j:Nat): Value:=.int .u8 ((bs.getD j 0:Nat):Int)
end
namespace V
def aC(u:Nat): List Nat:=if u < 128 then [u] else (u%128+128) :: aC (u / 128)
termination_by u
decreasing_by omega
theorem lq{u:Nat}(h:u < 128): aC u=[u]:=by rw[aC,if_pos h]
theorem nP{u:Nat}(h:¬ u < 128): aC u=(u%128+128) :: aC (u / 128):=by rw[aC,if_neg h]
theorem cK(u:Nat): ∀ b ∈ aC u,b < 256:=by
 induction u using aC.induct with
 | case1 u h=>rw[lq h];simp;omega
 | case2 u h ih=>rw[nP h];intro b hb;rcases List.mem_cons.1 hb with rfl | hb;omega;exact ih b hb
theorem PX(k:Nat): ∀ u,u < 128 ^ k→0 < k→(aC u).length≤k:=by
 induction k with
 | zero=>intro _ _ h;omega
 | succ k ih=>
  intro u hu _
  by_cases h:u < 128
  ·rw[lq h];simp
  ·rw[nP h,List.length_cons]
   have h1:u / 128 < 128 ^ k:=by rw[Nat.div_lt_iff_lt_mul (by omega)];rw[Nat.pow_succ] at hu;exact hu
   have hk:0 < k:=by
    rcases Nat.eq_zero_or_pos k with h0 | h0
    ·subst h0;simp at h1;omega
    ·exact h0
   have:=ih _ h1 hk
   omega
theorem aR{u:Nat}(h:u < 18446744073709551616): (aC u).length≤10:=PX 10 u (by omega) (by omega)
theorem PL(u:Nat): 0 < (aC u).length:=by
 by_cases h:u < 128
 ·rw[lq h];simp
 ·rw[nP h];simp
theorem DC(u:Nat): bits .or .u8 (IntKind.u8.wrap (u:Int)) 128=((u%128+128:Nat):Int):=by
 rw[IntKind.wrap_u8',show (u:Int)%256=((u%256:Nat):Int) from by omega,show (128:Int)=((128:Nat):Int) from rfl,u8_or_nat _ _ (by omega) (by omega)]
 have key:∀ x:Fin 256,(x.val ||| 128)=x.val%128+128:=by decide +kernel
 have:=key ⟨u%256,Nat.mod_lt _ (by omega)⟩
 simp only at this
 rw[this]
 omega
theorem K5(u:Nat): bits .or .u8 ((u:Int)%256) 128=((u%128+128:Nat):Int):=by
 rw[←DC,IntKind.wrap_u8']
end V
namespace V
def ji: Nat→List Nat→Nat
 | 0,_=>0
 | _+1,[]=>0
 | f+1,b :: l=>if 128≤b then ji f l+1 else 0
def lead(l:List Nat): Nat:=ji 10 l
theorem FC: ∀ (f k:Nat) (l:List Nat),k≤f→k≤l.length→(∀ j,j < k→128≤l.getD j 0)→(k < f→k < l.length→l.getD k 0 < 128)→ji f l=k
 | 0,k,_,h1,_,_,_=>by unfold ji;omega
 | f+1,k,[],_,h2,_,_=>by simp at h2;unfold ji;omega
 | f+1,0,b :: l,_,_,_,h4=>by
  have:=h4 (by omega) (by simp)
  simp at this
  unfold ji
  rw[if_neg (by omega)]
 | f+1,k+1,b :: l,h1,h2,h3,h4=>by
  have hb:=h3 0 (by omega)
  simp at hb h2
  unfold ji
  rw[if_pos hb,FC f k l (by omega) h2 (fun j hj=>by have:=h3 (j+1) (by omega);simpa using this) (fun a b=>by have:=h4 (by omega) (by simpa using b);simpa using this)]
theorem wP{l:List Nat}{k:Nat}(h1:k≤10)(h2:k≤l.length)(h3:∀ j,j < k→128≤l.getD j 0)(h4:k < 10→k < l.length→l.getD k 0 < 128): lead l=k:=
 FC 10 k l h1 h2 h3 h4
theorem zx: ∀ (f:Nat) (l:List Nat),ji f l≤f∧ji f l≤l.length∧(∀ j,j < ji f l→128≤l.getD j 0)∧(ji f l < f→ji f l < l.length→l.getD (ji f l) 0 < 128)
 | 0,l=>by unfold ji;simp
 | f+1,[]=>by unfold ji;simp
 | f+1,b :: l=>by
  obtain⟨h1,h2,h3,h4⟩:=zx f l
  unfold ji
  by_cases hb:128≤b
  ·rw[if_pos hb]
   refine⟨by omega,by simpa using h2,?_,?_⟩
   ·intro j hj
    cases j with
    | zero=>simpa using hb
    | succ j=>have:=h3 j (by omega);simpa using this
   ·intro a c
    have:=h4 (by omega) (by simpa using c)
    simpa using this
  ·rw[if_neg hb]
   refine⟨by omega,by omega,fun j hj=>by omega,fun _ _=>by simp;omega⟩
theorem oz(l:List Nat): lead l≤10∧lead l≤l.length∧(∀ j,j < lead l→128≤l.getD j 0)∧(lead l < 10→lead l < l.length→l.getD (lead l) 0 < 128):=zx 10 l
def fD: List Nat→Nat
 | []=>0
 | b :: l=>b%128+128*fD l
theorem wW: ∀ (l m:List Nat),fD (l ++ m)=fD l+128 ^ l.length*fD m
 | [],m=>by simp[fD]
 | b :: l,m=>by
  rw[List.cons_append,fD,fD,wW l m,List.length_cons,Nat.pow_succ,Nat.mul_add,←Nat.mul_assoc,Nat.mul_comm 128 (128 ^ l.length)]
  omega
theorem Ie: ∀ (l:List Nat),fD l < 128 ^ l.length
 | []=>by simp[fD]
 | b :: l=>by
  have:=Ie l
  rw[fD,List.length_cons,Nat.pow_succ]
  omega
theorem Qm{l:List Nat}{k:Nat}(h:k < l.length): l.take (k+1)=l.take k ++ [l.getD k 0]:=by
 rw[List.take_succ_eq_append_getElem h,List.getD_eq_getElem?_getD,List.getElem?_eq_getElem h]
 rfl
theorem uQ{l:List Nat}{k:Nat}(h:k < l.length): fD (l.take (k+1))=fD (l.take k)+128 ^ k*(l.getD k 0%128):=by
 rw[Qm h,wW,List.length_take,Nat.min_eq_left (by omega)]
 simp[fD]
theorem pX(l:List Nat)(k:Nat): fD (l.take k) < 128 ^ k:=by
 have h:=Ie (l.take k)
 have:(l.take k).length≤k:=by rw[List.length_take];omega
 exact Nat.lt_of_lt_of_le h (Nat.pow_le_pow_right (by omega) this)
def aB(l:List Nat): Nat × Nat × Nat:=
 if lead l=10 then (0,0,11)
 else if lead l=l.length then (0,0,10)
 else if (lead l=9∧1 < l.getD 9 0)∨(0 < lead l∧l.getD (lead l) 0=0) then (0,0,11)
 else (fD (l.take (lead l+1)),lead l+1,0)
theorem BZ{l:List Nat}(h:lead l=10): aB l=(0,0,11):=by unfold aB;rw[if_pos h]
theorem PN{l:List Nat}(h:lead l=l.length)(h':l.length < 10): aB l=(0,0,10):=by unfold aB;rw[if_neg (by omega),if_pos h]
theorem L6{l:List Nat}(h:lead l < 10)(h':lead l < l.length)(hb:(lead l=9∧1 < l.getD 9 0)∨(0 < lead l∧l.getD (lead l) 0=0)): aB l=(0,0,11):=by
 unfold aB;rw[if_neg (by omega),if_neg (by omega),if_pos hb]
theorem Ij{l:List Nat}(h:lead l < 10)(h':lead l < l.length)(hb:¬ ((lead l=9∧1 < l.getD 9 0)∨(0 < lead l∧l.getD (lead l) 0=0))): aB l=(fD (l.take (lead l+1)),lead l+1,0):=by
 unfold aB;rw[if_neg (by omega),if_neg (by omega),if_neg hb]
theorem K9{l:List Nat}{k:Nat}(h:k < 10)(hl:k < l.length)(h9:k=9→l.getD 9 0≤1): fD (l.take (k+1)) < 18446744073709551616:=by
 by_cases hk:k=9
 ·subst hk
  have h1:=uQ hl
  have h2:=pX l 9
  have h3:=h9 rfl
  have h4:128 ^ 9*(l.getD 9 0%128)≤128 ^ 9*1:=Nat.mul_le_mul_left _ (by omega)
  omega
 ·have h2:=pX l (k+1)
  have h3:(128:Nat) ^ (k+1)≤128 ^ 9:=Nat.pow_le_pow_right (by omega) (by omega)
  omega
theorem sN(l:List Nat):
  (aB l=(0,0,11)∨aB l=(0,0,10))∨
  (lead l < 10∧lead l < l.length∧l.getD (lead l) 0 < 128∧(∀ j,j < lead l→128≤l.getD j 0)∧(lead l=9→l.getD 9 0≤1)∧(0 < lead l→l.getD (lead l) 0≠0)∧aB l=(fD (l.take (lead l+1)),lead l+1,0)):=by
 obtain⟨h1,h2,h3,h4⟩:=oz l
 unfold aB
 by_cases c1:lead l=10
 ·rw[if_pos c1];exact .inl (.inl rfl)
 rw[if_neg c1]
 by_cases c2:lead l=l.length
 ·rw[if_pos c2];exact .inl (.inr rfl)
 rw[if_neg c2]
 by_cases c3:(lead l=9∧1 < l.getD 9 0)∨(0 < lead l∧l.getD (lead l) 0=0)
 ·rw[if_pos c3];exact .inl (.inl rfl)
 rw[if_neg c3]
 refine .inr ⟨by omega,by omega,h4 (by omega) (by omega),h3,fun h=>?_,fun h h0=>?_,rfl⟩
 ·exact Nat.le_of_not_lt fun hc=>c3 (.inl ⟨h,hc⟩)
 ·exact c3 (.inr ⟨h,h0⟩)
theorem nH(l:List Nat): (aB l).1 < 18446744073709551616∧(aB l).2.1≤10∧(aB l).2.1≤l.length:=by
 rcases sN l with (h | h) | ⟨h1,h2,_,_,h5,_,h⟩
 ·rw[h];simp
 ·rw[h];simp
 ·rw[h];exact ⟨K9 h1 h2 h5,by show lead l+1≤10;omega,by show lead l+1≤_;omega⟩
theorem M6(l:List Nat): (aB l).2.2=0∨((aB l).2.2=10∨(aB l).2.2=11)∧(aB l).1=0∧(aB l).2.1=0:=by
 rcases sN l with (h | h) | ⟨_,_,_,_,_,_,h⟩<;>rw[h]<;>simp
theorem Ca: ∀ (k:Nat) (l:List Nat),k < l.length→(∀ j,j < k→128≤l.getD j 0)→l.getD k 0 < 128→(0 < k→l.getD k 0≠0)→(∀ j,l.getD j 0 < 256)→aC (fD (l.take (k+1)))=l.take (k+1)∧(0 < k→0 < fD (l.take (k+1)))∧(l.getD k 0≠0→0 < fD (l.take (k+1)))
 | 0,b :: l,_,_,h3,_,_=>by
  have hb:b < 128:=by simpa using h3
  have e:fD ((b :: l).take (0+1))=b:=by
   rw[show (b :: l).take (0+1)=[b] by rfl]
   unfold fD
   simp[fD];omega
  rw[e,lq hb]
  refine⟨rfl,by omega,fun h=>by simp at h;omega⟩
 | k+1,b :: l,h1,h2,h3,h4,h5=>by
  have hb:128≤b:=by have:=h2 0 (by omega);simpa using this
  have hb2:b < 256:=by have:=h5 0;simpa using this
  have hk:l.getD k 0≠0:=by have:=h4 (by omega);simpa using this
  obtain⟨i1,_,i3⟩:=Ca k l (by simpa using h1) (fun j hj=>by have:=h2 (j+1) (by omega);simpa using this) (by simpa using h3) (fun _=>hk) (fun j=>by have:=h5 (j+1);simpa using this)
  have hp:=i3 hk
  have e:(b :: l).take (k+1+1)=b :: l.take (k+1):=rfl
  rw[e]
  unfold fD
  generalize fD (l.take (k+1))=x at *
  have e2:¬ b%128+128*x < 128:=by omega
  rw[nP e2,show (b%128+128*x) / 128=x by omega,i1,show (b%128+128*x)%128+128=b by omega]
  exact⟨rfl,by omega,by omega⟩
 | _,[],h,_,_,_,_=>by simp at h
theorem yS{l:List Nat}(hb:∀ j,l.getD j 0 < 256)(h:(aB l).2.2=0): 1≤(aB l).2.1∧(aB l).2.1≤l.length∧aC (aB l).1=l.take (aB l).2.1:=by
 rcases sN l with (h' | h') | ⟨h1,h2,h3,h4,h5,h6,h'⟩
 ·rw[h'] at h;simp at h
 ·rw[h'] at h;simp at h
 ·rw[h']
  exact⟨by show 1≤lead l+1;omega,by show lead l+1≤_;omega,(Ca _ _ h2 h4 h3 h6 hb).1⟩
theorem IU(u:Nat): ∃ k,(aC u).length=k+1∧(∀ j,j < k→128≤(aC u).getD j 0)∧(aC u).getD k 0 < 128∧(0 < k→(aC u).getD k 0≠0)∧fD (aC u)=u∧(u≠0→(aC u).getD k 0≠0):=by
 induction u using aC.induct with
 | case1 u h=>
  rw[lq h]
  exact⟨0,rfl,fun j hj=>by omega,by simpa using h,by omega,by simp[fD];omega,by simp⟩
 | case2 u h ih=>
  obtain⟨k,i1,i2,i3,i4,i5,i6⟩:=ih
  rw[nP h]
  refine⟨k+1,by simp[i1],?_,by simpa using i3,fun _=>?_,?_,fun _=>?_⟩
  ·intro j hj
   cases j with
   | zero=>simp
   | succ j=>have:=i2 j (by omega);simpa using this
  ·have:=i6 (by omega)
   simpa using this
  ·unfold fD;rw[i5];omega
  ·have:=i6 (by omega)
   simpa using this
theorem sw{l m:List Nat}{j:Nat}(h:j < l.length): (l ++ m).getD j 0=l.getD j 0:=by
 rw[List.getD_eq_getElem?_getD,List.getD_eq_getElem?_getD,List.getElem?_append_left h]
theorem iA(u:Nat)(more:List Nat)(hu:u < 18446744073709551616): aB (aC u ++ more)=(u,(aC u).length,0):=by
 obtain⟨k,i1,i2,i3,i4,i5,_⟩:=IU u
 have hl:=aR hu
 have e:lead (aC u ++ more)=k:=wP (by omega) (by simp;omega) (fun j hj=>by rw[sw (by omega)];exact i2 j hj) (fun _ _=>by rw[sw (by omega)];exact i3)
 have et:(aC u ++ more).take (k+1)=aC u:=by rw[←i1,List.take_left]
 rw[Ij (by omega) (by rw[e];simp;omega),e,et,i5,i1]
 rw[e]
 rintro (⟨h9,hb⟩ | ⟨hk,hb⟩)
 ·rw[sw (by omega)] at hb
  have h1:=uQ (l:=aC u) (k:=9) (by omega)
  have h2:(aC u).take (9+1)=aC u:=List.take_of_length_le (by omega)
  rw[h2,i5] at h1
  have h4:(aC u).getD 9 0 < 128:=by rw[←h9];exact i3
  have h3:128 ^ 9*2≤128 ^ 9*((aC u).getD 9 0%128):=Nat.mul_le_mul_left _ (by omega)
  omega
 ·rw[sw (by omega)] at hb
  exact i4 hk hb
end V
namespace V
open Go.RowKit
def cu(w:World): Prop:=w.cell? ⟨0,0,none⟩=some (.iface 426 (.agg #[.pointer (some ⟨4,223,none⟩)]))
theorem cu.keeps{S:Nat→Prop}{w w':World}(h:cu w)(hk:Keeps S w w')(hS:¬ S 0): cu w':=by
 unfold cu at h ⊢
 rw[←h]
 exact World.cell?_of_block (w:=w) (a:=⟨0,0,none⟩) (hk.block _ (World.block_lt_of_cell? w _ h) hS)
theorem cu.below{w w':World}(h:cu w)(hb:Below w.heap.size w w'): cu w':=h.keeps (S:=fun _=>False) (Keeps.of_below hb) (fun h=>h)
theorem cu.lt{w:World}(h:cu w): 0 < w.heap.size:=World.block_lt_of_cell? w _ h
theorem JF(w:World): Calls Tryz.prog 133 #[.nilIface] w fun e w'=>e=.returned (.int .i64 0)∧Below w.heap.size w w':=by
 have o:=(Own.eX w rfl 330 #[.int .i64 0,.int .i64 0]).bel
 have HO:=zh o
 clear o
 go_enter Tryz.func133,Tryz.ntmps133
 go_wp2_with fail
 refine(M8 _ _).mono ?_
 rintro e w' ⟨rfl,rfl⟩
 go_wp2_with fail
 refine(Tq _ _).mono ?_
 rintro e w' ⟨rfl,rfl⟩
 go_wp2_with fail
 go_ret
 exact⟨rfl,HO.out⟩
theorem EN(i k:Int)(w:World)(hv:cu w): Calls Tryz.prog 133 #[.iface 330 (.agg #[.int .i64 i,.int .i64 k])] w fun e w'=>e=.returned (.int .i64 k)∧Below w.heap.size w w':=by
 obtain⟨x,hx⟩:∃ x,x=w.heap.size:=⟨_,rfl⟩
 have o:=Own.eX w hx 330 #[.int .i64 0,.int .i64 0]
 have hv2:=hv.below o.bel
 have hlt:=hv.lt
 have HO:=zh (zN hx (zN o (zN hv2 hlt)))
 clear hx o hv hv2 hlt
 go_enter Tryz.func133,Tryz.ntmps133
 go_wp2_with fail
 rw[←HO.out.1]
 refine(NZ i k _).mono ?_
 rintro e w1 ⟨rfl,hb⟩
 have o:=HO.out.2.1.call hb
 by_cases hk:k=10
 ·subst hk
  have HP:=zh o
  clear o hb
  go_wp2_with fail
  go_ret
  exact⟨rfl,HP.out.bel⟩
 ·have d0:(k == 10)=false:=by simp[hk]
  rw[d0]
  have hv3:=HO.out.2.2.1.below hb
  have HP:=zh (zN o hv3)
  clear d0 hk hv3 o hb
  go_wp2_with fail
  refine(P7 x i k (.int .i64 0) (.int .i64 0) _ HP.out.2 (HP.out.1.get 0 rfl)).mono ?_
  rintro e w2 ⟨rfl,hk2,hblk⟩
  have c1:=hblk.cell 1
  have HQ:=zh hk2
  clear hk2 hblk
  go_wp2_with fail
  go_ret
  refine⟨rfl,?_⟩
  have h1:Keeps (fun q=>q=x) w w2:=(HP.out.1.keeps.mono (fun _ _ h=>h.elim)).trans' HQ.out
  exact h1.below (Nat.le_refl _) (fun q hq e=>by have:=HO.out.1;omega)
end V
namespace V
open Go.RowKit
def Ef(l:List Nat)(w:World)(e:Ending)(w':World): Prop:=
 ∃ er:Value,e=.returned (.tuple #[.int .u64 ((aB l).1:Nat),.int .i64 ((aB l).2.1:Nat),er])∧(((aB l).2.2=0∧er=.nilIface)∨∃ i:Int,er=.iface 330 (.agg #[.int .i64 i,.int .i64 ((aB l).2.2:Nat)]))∧w=w'
theorem Sc(x v k:Nat)(hx:x < 128 ^ k)(hk:k≤9)(hv:v < 256):
  ∃ y:Nat,bits .or .u64 (x:Int) (IntKind.u64.wrap (IntKind.u64.wrap (bits .and .u8 (v:Int) 127)*2 ^ (7*k)))=(y:Int)∧y < 18446744073709551616∧(k≤8∨v≤1→y=x+128 ^ k*(v%128)):=by
 have e1:bits .and .u8 (v:Int) 127=((v%128:Nat):Int):=by
  rw[show (127:Int)=((127:Nat):Int) from rfl,u8_and_nat _ _ hv (by omega),show v &&& 127=v%128 from Nat.and_two_pow_sub_one_eq_mod v 7]
 have p9:(128:Nat) ^ k≤128 ^ 9:=Nat.pow_le_pow_right (by omega) hk
 have ep:(2:Nat) ^ (7*k)=128 ^ k:=by rw[Nat.pow_mul]
 have e2:(IntKind.u64.wrap ((v%128:Nat):Int))*2 ^ (7*k)=((128 ^ k*(v%128):Nat):Int):=by
  rw[show IntKind.u64.wrap ((v%128:Nat):Int)=((v%128:Nat):Int) by rw[IntKind.wrap_u64];omega,←ep,Nat.mul_comm (2 ^ (7*k))]
  simp
 have e3:IntKind.u64.wrap (((128 ^ k*(v%128):Nat):Int))=((128 ^ k*(v%128)%18446744073709551616:Nat):Int):=by
  rw[IntKind.wrap_u64];rfl
 rw[e1,e2,e3,u64_or_nat _ _ (by omega) (Nat.mod_lt _ (by omega))]
 refine⟨_,rfl,?_,?_⟩
 ·exact Nat.or_lt_two_pow (n:=64) (by omega) (Nat.mod_lt _ (by omega))
 ·intro h
  have hlt:128 ^ k*(v%128) < 18446744073709551616:=by
   rcases h with h | h
   ·have p8:(128:Nat) ^ k≤128 ^ 8:=Nat.pow_le_pow_right (by omega) h
    have:128 ^ k*(v%128)≤128 ^ 8*127:=Nat.mul_le_mul p8 (by omega)
    omega
   ·have:128 ^ k*(v%128)≤128 ^ 9*1:=Nat.mul_le_mul p9 (by omega)
    omega
  rw[Nat.mod_eq_of_lt hlt,Nat.or_comm,Nat.mul_comm,←ep,←Nat.shiftLeft_eq,←Nat.shiftLeft_add_eq_or_of_lt (by rw[ep];exact hx)]
  omega
theorem Pm(w:World)(D:Nat→Prop)(A:Option Addr)(len c:Nat)(l:List Nat)(hl:l.length=len)(hb:∀ j,l.getD j 0 < 256)(hsl:Sl w D A len (aD l))(hm:len≤9223372036854775807):
  Calls Tryz.prog 132 #[.slice A len c] w (Ef l w):=by
 have HS:=zh (zN hl (zN hb hsl))
 clear hl hb hsl
 go_enter Tryz.func132,Tryz.ntmps132
 go_wp2_with fail
 go_loop [2,9] (fun s2 s9=>∃ k x:Nat,k≤len∧k≤10∧s9=.int .i64 (k:Nat)∧s2=.int .u64 (x:Nat)∧(k≤9→x=fD (l.take k))∧∀ j,j < k→128≤l.getD j 0) (fun _ s9=>len-(intOf s9).toNat)
 case atStart=>exact ⟨0,0,by omega,by omega,rfl,rfl,fun _=>by simp[fD],fun j hj=>by omega⟩
 case round=>
  obtain⟨k,x,hk,hk10,rfl,rfl,hx,hj⟩:=hrel
  have HJ:=zh hj
  have HX:=zh hx
  clear hj hx
  by_cases hlt:k < len
  ·obtain ⟨b,off,rfl,-,hc⟩:=HS.out.2.2 (by omega)
   have ck:=hc k hlt
   unfold aD at ck
   have hc256:=HS.out.2.1 k
   obtain⟨v,hv⟩:∃ v,v=l.getD k 0:=⟨_,rfl⟩
   rw[←hv] at ck hc256
   have HV:=zh hv
   clear hv hc
   by_cases h10:k=10
   ·subst h10
    have HG:=zh (BZ (wP (l:=l) (k:=10) (by omega) (by have:=HS.out.1;omega) HJ.out (fun h=>by omega)))
    go_wp2_with fail
    go_ret3
    exact⟨_,by rw[HG.out];rfl,.inr ⟨10,by rw[HG.out];rfl⟩,rfl⟩
   ·have hk9:k≤9:=by omega
    have hxl:x < 128 ^ k:=by rw[HX.out hk9];exact pX l k
    obtain⟨y,ey,hy,hy2⟩:=Sc x v k hxl hk9 hc256
    have hy3:k≤8∨v≤1→y=fD (l.take (k+1)):=fun h=>by
     rw[hy2 h,uQ (by have:=HS.out.1;omega),HX.out hk9,HV.out]
    have HY:=zh hy3
    have d10:((k:Int) == 10)=false:=by simp;omega
    clear hxl hy2 hy3 h10
    by_cases hbig:128≤v
    ·go_wp2_with fail
     go_round
     case rel=>exact ⟨k+1,y,by omega,by omega,by go_num,rfl,fun h=>HY.out (.inl (by omega)),fun j hj=>by
      rcases Nat.lt_or_ge j k with h | h
      ·exact HJ.out j h
      ·rw[show j=k by omega,←HV.out];exact hbig⟩
     case measure=>simp[intOf];omega
    ·have hlead:lead l=k:=wP (by omega) (by have:=HS.out.1;omega) HJ.out (fun _ _=>by rw[←HV.out];omega)
     have hkl:k < l.length:=by have:=HS.out.1;omega
     have dbig:decide ((128:Int)≤(v:Int))=false:=by simp;omega
     by_cases hform:(k=9∧1 < v)∨(0 < k∧v=0)
     ·have HG:=zh (L6 (l:=l) (by omega) (by omega) (by
       rw[hlead,←HV.out]
       rcases hform with ⟨h1,h2⟩ | h
       ·refine .inl ⟨h1,?_⟩
        rw[←h1,←HV.out];exact h2
       ·exact .inr h))
      clear hlead hkl
      rcases hform with ⟨rfl,h2⟩ | ⟨h1,rfl⟩
      ·have d1:decide ((1:Int) < (v:Int))=true:=by simp;omega
       go_wp2_with fail
       go_ret3
       exact⟨_,by rw[HG.out];rfl,.inr ⟨_,by rw[HG.out];rfl⟩,rfl⟩
      ·have d1:decide ((0:Int) < (k:Int))=true:=by simp;omega
       by_cases hk9:k=9
       ·subst hk9
        go_wp2_with fail
        go_ret3
        exact⟨_,by rw[HG.out];rfl,.inr ⟨_,by rw[HG.out];rfl⟩,rfl⟩
       ·have d9:((k:Int) == 9)=false:=by simp;omega
        go_wp2_with fail
        go_ret3
        exact⟨_,by rw[HG.out];rfl,.inr ⟨_,by rw[HG.out];rfl⟩,rfl⟩
     ·have hG:=Ij (l:=l) (by omega) (by omega) (by
       rw[hlead,←HV.out]
       rintro (⟨h1,h2⟩ | h)
       ·exact hform (.inl ⟨h1,by rw[←h1,←HV.out] at h2;exact h2⟩)
       ·exact hform (.inr h))
      rw[hlead,←HY.out (by omega)] at hG
      have HG:=zh hG
      clear hlead hkl hG
      have hfin:Ef l w (.returned (.tuple #[.int .u64 (y:Nat),.int .i64 ((k:Int)+1),.nilIface])) w:=⟨_,by rw[HG.out];rfl,.inl ⟨by rw[HG.out],rfl⟩,rfl⟩
      have HFN:=zh hfin
      clear hfin
      have hcase:(k=9∧¬ 1 < v∧¬ v=0)∨(¬ k=9∧k=0∧v=0)∨(¬ k=9∧¬ v=0):=by omega
      rcases hcase with ⟨h1,h2,h3⟩ | ⟨h1,h2,h3⟩ | ⟨h1,h3⟩
      ·have d1:decide ((1:Int) < (v:Int))=false:=by simp;omega
       have d9:((k:Int) == 9)=true:=by simp;omega
       have hv0:((v:Int) == 0)=false:=by simp;omega
       clear h1 h2 h3 hform
       go_wp2_with fail
       go_ret3
       exact HFN.out
      ·have d9:((k:Int) == 9)=false:=by simp;omega
       have d0:((v:Int) == 0)=true:=by simp;omega
       have dk:¬ 0 < k:=by omega
       have dk2:decide (0 < k)=false:=by simp;omega
       clear h1 h2 h3 hform
       go_wp2_with fail
       go_ret3
       exact HFN.out
      ·have d9:((k:Int) == 9)=false:=by simp;omega
       have d0:((v:Int) == 0)=false:=by simp;omega
       clear h1 h3 hform
       go_wp2_with fail
       go_ret3
       exact HFN.out
  ·obtain rfl:k=len:=by omega
   have hlead:lead l=k:=wP (by omega) (by have:=HS.out.1;omega) HJ.out (fun _ h=>by have:=HS.out.1;omega)
   by_cases h10:k=10
   ·subst h10
    have HG:=zh (BZ hlead)
    clear hlead
    go_wp2_with fail
    go_ret3
    exact⟨_,by rw[HG.out];rfl,.inr ⟨10,by rw[HG.out];rfl⟩,rfl⟩
   ·have HG:=zh (PN (l:=l) (by rw[hlead,HS.out.1]) (by have:=HS.out.1;omega))
    have d10:decide ((10:Int)≤(k:Int))=false:=by simp;omega
    clear hlead h10
    go_wp2_with fail
    go_ret3
    exact⟨_,by rw[HG.out];rfl,.inr ⟨_,by rw[HG.out];rfl⟩,rfl⟩
def Mr(l:List Nat)(w:World)(e:Ending)(w':World): Prop:=
 e=.returned (.tuple #[.int .u64 ((aB l).1:Nat),.int .i64 ((aB l).2.1:Nat),.int .i64 ((aB l).2.2:Nat)])∧Below w.heap.size w w'
theorem kT(w:World)(D:Nat→Prop)(A:Option Addr)(len c:Nat)(l:List Nat)(hl:l.length=len)(hb:∀ j,l.getD j 0 < 256)(hsl:Sl w D A len (aD l))(hm:len≤9223372036854775807)(hv:cu w):
  Calls Tryz.prog 66 #[.slice A len c] w (Mr l w):=by
 have HS:=zh (zN hl (zN hb (zN hsl (zN hm hv))))
 clear hl hb hsl hm hv
 go_enter Tryz.func66,Tryz.ntmps66
 go_wp2_with fail
 refine(Pm w D A len c l HS.out.1 HS.out.2.1 HS.out.2.2.1 HS.out.2.2.2.1).mono ?_
 rintro e w1 ⟨er,rfl,her,rfl⟩
 obtain⟨u,hu⟩:∃ u,u=(aB l).1:=⟨_,rfl⟩
 obtain⟨n,hn⟩:∃ n,n=(aB l).2.1:=⟨_,rfl⟩
 obtain⟨k,hk⟩:∃ k,k=(aB l).2.2:=⟨_,rfl⟩
 rw[←hk] at her
 rw[←hu,←hn]
 have HU:=zh (zN hu (zN hn hk))
 clear hu hn hk
 rcases her with ⟨h0,rfl⟩ | ⟨i,rfl⟩
 ·have H0:=zh h0
  clear h0
  go_wp2_with fail
  refine(JF _).mono ?_
  rintro e w2 ⟨rfl,hb⟩
  have HB:=zh hb
  clear hb
  go_wp2_with fail
  go_ret3
  exact⟨by rw[←HU.out.1,←HU.out.2.1,←HU.out.2.2,H0.out];rfl,HB.out⟩
 ·go_wp2_with fail
  refine(EN i k _ HS.out.2.2.2.2).mono ?_
  rintro e w2 ⟨rfl,hb⟩
  have HB:=zh hb
  clear hb
  go_wp2_with fail
  go_ret3
  exact⟨by rw[←HU.out.1,←HU.out.2.1,←HU.out.2.2];rfl,HB.out⟩
end V
section
open Go.RowKit
def zig(n:Int): Nat:=if 0≤n then (2*n).toNat else (-2*n-1).toNat
theorem jc{n:Int}(h0 : -9223372036854775808≤n)(h1:n≤9223372036854775807): zig n < 18446744073709551616:=by unfold zig;split<;>omega
theorem Ho{a b:Int}(h:a=b): Ending.returned (.int .u64 a)=.returned (.int .u64 b):=by rw[h]
theorem Ro(n:Int)(h0:0≤n)(h1:n≤9223372036854775807): bits .xor .u64 (IntKind.u64.wrap (IntKind.u64.wrap n*2)) (IntKind.u64.wrap 0)=(zig n:Int):=by
 rw[IntKind.wrap_u64,IntKind.wrap_u64,IntKind.wrap_u64,show n%18446744073709551616*2%18446744073709551616=(((2*n).toNat:Nat):Int) from by omega,show (0:Int)%18446744073709551616=((0:Nat):Int) from by omega,u64_xor_nat _ _ (by omega) (by omega),Nat.xor_zero]
 unfold zig;rw[if_pos h0]
theorem QU(n:Int)(h0:n < 0)(h1 : -9223372036854775808≤n): bits .xor .u64 (IntKind.u64.wrap (IntKind.u64.wrap n*2)) (IntKind.u64.wrap (-1))=(zig n:Int):=by
 rw[IntKind.wrap_u64,IntKind.wrap_u64,IntKind.wrap_u64,show n%18446744073709551616*2%18446744073709551616=(((18446744073709551616+2*n).toNat:Nat):Int) from by omega,show (-1:Int)%18446744073709551616=((18446744073709551615:Nat):Int) from by omega,u64_xor_nat _ _ (by omega) (by omega),Nat.xor_comm]
 have:=Lib.xor_ones64 (18446744073709551616+2*n).toNat (by omega)
 rw[show (18446744073709551615:Nat)=2 ^ 64-1 from rfl,this]
 unfold zig;rw[if_neg (by omega)]
 omega
theorem GZ{n X Y:Int}(h0 : -9223372036854775808≤n)(h1:n≤9223372036854775807)(hX:X=(n*2)%18446744073709551616)(hY:Y=if 0≤n then 0 else 18446744073709551615): bits .xor .u64 X Y=(zig n:Int):=by
 by_cases hn:0≤n
 ·rw[if_pos hn] at hY
  rw[←Ro n hn h1,IntKind.wrap_u64,IntKind.wrap_u64,IntKind.wrap_u64,hX,hY]
  congr 1
  omega
 ·rw[if_neg hn] at hY
  rw[←QU n (by omega) h0,IntKind.wrap_u64,IntKind.wrap_u64,IntKind.wrap_u64,hX,hY]
  congr 1
  omega
theorem Ik(n:Int)(w:World)(h0 : -9223372036854775808≤n)(h1:n≤9223372036854775807):
  Calls Tryz.prog 143 #[.int .i64 n] w fun e w'=>e=.returned (.int .u64 (zig n:Nat))∧w=w':=by
 by_cases hn:0≤n
 ·have e2:n / 9223372036854775808=0:=by omega
  go_enter Tryz.func143,Tryz.ntmps143
  go_wp2
  go_ret
  refine⟨Ho (GZ h0 h1 ?_ ?_),rfl⟩
  ·try simp only[IntKind.wrap_u64]
   omega
  ·rw[if_pos hn];try simp only[IntKind.wrap_u64]
   try omega
 ·have e2:n / 9223372036854775808 = -1:=by omega
  go_enter Tryz.func143,Tryz.ntmps143
  go_wp2
  go_ret
  refine⟨Ho (GZ h0 h1 ?_ ?_),rfl⟩
  ·try simp only[IntKind.wrap_u64]
   omega
  ·rw[if_neg (by omega)];try simp only[IntKind.wrap_u64]
   try omega
end
section
open Go.RowKit
def zag(z:Nat): Int:=if z%2=0 then (z / 2:Nat) else -((z / 2:Nat):Int)-1
theorem MP{z:Nat}(h:z < 18446744073709551616): -9223372036854775808≤zag z∧zag z≤9223372036854775807:=by unfold zag;split<;>omega
theorem AX(n:Int): zag (zig n)=n:=by unfold zag zig;split<;>split<;>omega
theorem Rb(z:Nat): zig (zag z)=z:=by unfold zag zig;split<;>split<;>omega
theorem EZ{k:IntKind}{a b:Int}(h:a=b): Ending.returned (.int k a)=.returned (.int k b):=by rw[h]
theorem Ei(x:Nat)(hx:x < 9223372036854775808): bits .xor .i64 (x:Int) 0=(x:Int):=by
 show IntKind.i64.wrap ((BitVec.ofInt 64 (x:Int) ^^^ BitVec.ofInt 64 0).toNat:Int)=_
 have h2:(BitVec.ofInt 64 (x:Int)).toNat=x:=by
  rw[BitVec.ofInt_natCast,BitVec.toNat_ofNat];exact Nat.mod_eq_of_lt (by omega)
 have h1:(BitVec.ofInt 64 0).toNat=0:=by decide
 rw[BitVec.toNat_xor,h1,h2,Nat.xor_zero,IntKind.wrap_i64]
 omega
theorem Fx(x:Nat)(hx:x < 9223372036854775808): bits .xor .i64 (x:Int) (-1) = -(x:Int)-1:=by
 rw[←Lib.i64_not x hx]
 show IntKind.i64.wrap ((BitVec.ofInt 64 (x:Int) ^^^ BitVec.ofInt 64 (-1)).toNat:Int)=IntKind.i64.wrap ((BitVec.ofInt 64 (-1) ^^^ BitVec.ofInt 64 (x:Int)).toNat:Int)
 rw[BitVec.xor_comm]
theorem GI(z:Nat)(w:World)(hz:z < 18446744073709551616):
  Calls Tryz.prog 134 #[.int .u64 (z:Nat)] w fun e w'=>e=.returned (.int .i64 (zag z))∧w=w':=by
 have e1:bits .and .u64 (z:Int) 1=((z%2:Nat):Int):=by rw[Lib.u64_and1 _ (by omega) (by omega)];omega
 have e2:wrap64 ((z:Int) / 2)=((z / 2:Nat):Int):=by rw[show (z:Int) / 2=((z / 2:Nat):Int) by omega];exact IntWalk.wrap64_in _ (by omega)
 have e2':IntKind.i64.wrap ((z:Int) / 2)=((z / 2:Nat):Int):=by rw[show (z:Int) / 2=((z / 2:Nat):Int) by omega];exact IntWalk.i64_in _ (by omega)
 have HZ:=zh hz
 clear hz
 rcases(show z%2=0∨z%2=1 by omega) with h | h
 ·have e3:((z%2:Nat):Int)=0:=by omega
  have e4:=Ei (z / 2) (by have:=HZ.out;omega)
  have HH:=zh h
  rw[e3] at e1
  clear h e3
  go_enter Tryz.func134,Tryz.ntmps134
  go_wp2_with fail
  go_ret
  refine⟨EZ ?_,rfl⟩
  unfold zag
  rw[if_pos HH.out]
  first
  | exact e4
  | (rw[e2];exact e4)
  | (rw[e2'];exact e4)
  | skip
 ·have e3:((z%2:Nat):Int)=1:=by omega
  have e4:=Fx (z / 2) (by have:=HZ.out;omega)
  have HH:=zh h
  rw[e3] at e1
  clear h e3
  go_enter Tryz.func134,Tryz.ntmps134
  go_wp2_with fail
  go_ret
  refine⟨EZ ?_,rfl⟩
  unfold zag
  rw[if_neg (by have:=HH.out;omega)]
  first
  | exact e4
  | (rw[e2];exact e4)
  | (rw[e2'];exact e4)
  | skip
end
section
open Go.RowKit
def Tl(w:World)(e:TypeId)(base:Nat)(v:Value)(n:Nat)(xs:List Value): Prop:=
 w.ownsRow base e 1 v n xs∨∃ A,v=.slice A n n∧xs.length=n∧(0 < n→∃ b off,A=some ⟨b,off,none⟩∧b < base∧∀ j u,xs[j]? = some u→w.cell? ⟨b,off+j,none⟩=some u)
theorem Tl.alloc{w:World}{e:TypeId}{base n:Nat}{v:Value}{xs:List Value}(h:Tl w e base v n xs)(hb:base≤w.heap.size)(o:Obj): Tl (w.alloc o) e base v n xs:=by
 rcases h with h | ⟨A,rfl,hl,hA⟩
 ·exact .inl (h.alloc o)
 ·refine .inr ⟨A,rfl,hl,fun hn=>?_⟩
  obtain⟨b,off,rfl,hlt,hc⟩:=hA hn
  exact⟨b,off,rfl,hlt,fun j u hu=>(World.cell?_alloc_lt w o _ (by show b < _;omega)).trans (hc j u hu)⟩
section
variable {P:Program} {w:World} {t e:TypeId} {z:Value} {bytes base n m c:Nat} {v:Value} {xs:List Value} {f:Nat→Value} {b off:Nat}
theorem qd{ops:Array Oper}{rest:List Oper}{o:Oper}{a:Act}{Q:Exit→Act→World→Prop}(he:dL P t e z bytes)(hgd:o.guard=none)(s x:Operand)(ho:o.op=.call { callee:=.builtin .append,args:=#[s,x],argTypes:=#[t,t] })(hs:a.eval s=v)(hx:a.eval x=.slice (some ⟨b,off,none⟩) m c)(h:Tl w e base v n xs)(hm:0 < m)(hc:∀ j,j < m→w.cell? ⟨b,off+j,none⟩=some (f j))(h1:∀ j,j < m→(f j).oneCell'=true)(h63:n+m≤maxLen)(hbytes:(n+m)*bytes≤140737488355328)(hbase:base≤w.heap.size)(k:∀ v' w',w'.ownsRow base e 1 v' (n+m) (xs ++ (List.range m).map f)→Below base w w'→wpList P ops Q rest (a.put o.dst v') w'): wpList P ops Q (o :: rest) a w:=by
 rcases h with h | ⟨A,rfl,hl,hA⟩
 ·refine aW (D:=fun _=>True) (A:=some ⟨b,off,none⟩) (f:=f) he hgd s x ho hs hx h (fun _=>⟨b,off,rfl,trivial,hc⟩) h1 h63 hbytes hbase ?_
  intro v' w' hown hg _
  exact k v' w' hown ((Below.refl base w).grown hg hbase (fun q hq=>(h.lt q hq).1))
 ·obtain ⟨ht,hz1,i,hi,hz,hs1,hb1⟩:=he
  refine wpList_append_grows w hgd s x t ho e i z 1 bytes ht hi hz hs1 hb1 hz1 (by omega) A n n xs hs ?_ (by omega) ?_ ⟨b,off,none⟩ m c ((List.range m).map f) hx (by simp) ?_ ?_ (by omega) h63 hbytes ?_
  ·intro hA0
   rcases Nat.eq_zero_or_pos n with h0 | h0
   ·exact ⟨h0,h0⟩
   ·obtain ⟨b',off',e',_⟩:=hA h0
    rw[hA0] at e';cases e'
  ·intro b' e' j u hu
   have hj:j < xs.length:=(List.getElem?_eq_some_iff.1 hu).1
   obtain⟨b2,off2,e2,_,hc2⟩:=hA (by omega)
   rw[e'] at e2
   injection e2 with e2
   subst e2
   have hadd:(⟨b2,off2,none⟩:Addr).add j=⟨b2,off2+j,none⟩:=by unfold Addr.add;split<;>simp_all
   rw[hadd]
   exact hc2 j u hu
  ·intro j u hu
   rw[List.getElem?_map] at hu
   rcases Nat.lt_or_ge j m with hj | hj
   ·rw[List.getElem?_range hj] at hu
    simp at hu
    subst hu
    have hadd:(⟨b,off,none⟩:Addr).add j=⟨b,off+j,none⟩:=by unfold Addr.add;split<;>simp_all
    rw[hadd]
    exact hc j hj
   ·rw[List.getElem?_eq_none (by simpa using hj)] at hu
    cases hu
  ·intro u hu
   rw[List.mem_map] at hu
   obtain⟨j,hj,rfl⟩:=hu
   exact h1 j (by simpa using hj)
  ·intro v' w' hown hg
   exact k v' w' (aU hown hbase) ((Below.refl base w).grown hg hbase (fun q hq=>by cases hq))
end
theorem yR(w:World)(t:TypeId)(u:Value): ∀ j,j < 1→(w.alloc (.cells #[u] t)).cell? ⟨w.heap.size,0+j,none⟩=some u:=by
 intro j hj
 obtain rfl:j=0:=by omega
 rw[(au.fresh w t #[u]).cell (0+0)]
 rfl
end
namespace V
open Go.RowKit
def aI(b:Nat): Value:=.int .u8 (b:Int)
theorem byteElem: dL Tryz.prog 72 5 (.int .u8 0) 1:=dL.mk' Tryz.underlying72 rfl (by kernel_rfl)
def qo(w:World)(bs:List Nat)(e:Ending)(w':World): Prop:=
 ∃ v,e=.returned v∧w'.ownsRow w.heap.size 5 1 v bs.length (bs.map aI)∧Below w.heap.size w w'
theorem Pq{w:World}{A:Option Addr}{bs:List Nat}{len:Nat}(hl:bs.length=len)(h:Sl w (fun k=>k < w.heap.size) A len (aD bs)): Tl w 5 w.heap.size (.slice A len len) len (bs.map aI):=by
 refine .inr ⟨A,rfl,by simpa using hl,fun hn=>?_⟩
 obtain⟨b,off,rfl,hb,hc⟩:=h hn
 refine⟨b,off,rfl,hb,fun j u hu=>?_⟩
 rw[List.getElem?_map] at hu
 cases hj:bs[j]? with
 | none=>rw[hj] at hu;cases hu
 | some x=>
  rw[hj] at hu
  simp at hu
  have hjl:j < bs.length:=(List.getElem?_eq_some_iff.1 hj).1
  rw[hc j (by omega),←hu]
  unfold aD aI
  rw[List.getD_eq_getElem?_getD,hj]
  rfl
theorem gW(w:World)(A:Option Addr)(len c:Nat)(bs:List Nat)(u:Int)(hl:bs.length=len)(hsl:Sl w (fun k=>k < w.heap.size) A len (aD bs))(hlc:len≤c)(hsm:len≤1099511627776)(h0:0≤u)(hu:u < 18446744073709551616):
  Calls Tryz.prog 81 #[.slice A len c,.int .u64 u] w (qo w (bs ++ aC u.toNat)):=by
 obtain⟨u,rfl⟩:=Int.eq_ofNat_of_zero_le h0
 have HT:=zh (Pq hl hsl)
 have HL:=zh hl
 have HU:=zh (show u < 18446744073709551616 by omega)
 clear hsl hl hu h0
 go_enter Tryz.func81,Tryz.ntmps81
 go_wp2_with fail
 go_loopw [1,5] (fun s1 s5 wr=>∃ (x:Nat) (p:List Nat),s1=.int .u64 x∧x≤u∧p ++ aC x=bs ++ aC u∧Tl wr 5 w.heap.size s5 p.length (p.map aI)∧Below w.heap.size w wr)
  (fun s1 _ _=>(intOf s1).toNat)
 case atStart=>exact ⟨u,bs,rfl,Nat.le_refl _,rfl,by rw[HL.out];exact HT.out,Below.refl _ _⟩
 case round=>
  obtain⟨x,p,rfl,hxu,hp,htl,hbel⟩:=hrel
  have hplen:p.length≤len+10:=by
   have h1:=congrArg List.length hp
   rw[List.length_append,List.length_append] at h1
   have h2:=aR HU.out
   have h3:=HL.out
   omega
  have HP:=zh hp
  clear hp
  by_cases hx:x < 128
  ·go_wp2_with (at_builtin;refine qd (f:=fun _=>aI x) (base:=w.heap.size) (n:=p.length) (xs:=p.map aI) byteElem rfl (.tmp 22) (.tmp 25) rfl rfl rfl ?h ?hm ?hc ?h1 ?h63 ?hby ?hbase ?_)
   case h=>exact htl.alloc hbel.size _
   case hm=>omega
   case hc=>exact yR _ _ _
   case h1=>intro j _;rfl
   case h63=>unfold maxLen;omega
   case hby=>omega
   case hbase=>have:=hbel.size;simp;omega
   intro v1 w1 hown1 hb1
   have HO:=zh hown1
   have HB:=zh hb1
   clear hown1 hb1
   go_wp2_with fail
   go_ret
   refine⟨v1,rfl,?_,(hbel.alloc hbel.size _).trans HB.out⟩
   have e:bs ++ aC u=p ++ [x]:=by rw[←HP.out,lq hx]
   show w1.ownsRow _ _ _ _ (bs ++ aC u).length ((bs ++ aC u).map aI)
   rw[e,List.length_append,List.map_append]
   exact HO.out
  ·have e1:=DC x
   have e2:=K5 x
   have hx0:128≤x:=by omega
   go_wp2_with (at_builtin;refine qd (f:=fun _=>aI (x%128+128)) (base:=w.heap.size) (n:=p.length) (xs:=p.map aI) byteElem rfl (.tmp 16) (.tmp 20) rfl rfl rfl ?g ?gm ?gc ?g1 ?g63 ?gby ?gbase ?_)
   case g=>exact htl.alloc hbel.size _
   case gm=>omega
   case gc=>exact yR _ _ _
   case g1=>intro j _;rfl
   case g63=>unfold maxLen;omega
   case gby=>omega
   case gbase=>have:=hbel.size;simp;omega
   intro v1 w1 hown1 hb1
   have HO:=zh hown1
   have HB:=zh hb1
   clear hown1 hb1 e1 e2
   go_wp2_with fail
   go_roundw
   case rel=>
    refine⟨x / 128,p ++ [x%128+128],rfl,by omega,?_,?_,(hbel.alloc hbel.size _).trans HB.out⟩
    ·rw[←HP.out,nP hx,List.append_assoc];rfl
    ·rw[List.length_append,List.map_append]
     exact .inl HO.out
   case measure=>simp[intOf];omega
end V
namespace V
open Go.RowKit
theorem fE{bs:List Nat}{len:Nat}(hl:bs.length=len): bs.map aI=(List.range len).map (aD bs):=by
 apply List.ext_getElem?
 intro j
 rw[List.getElem?_map,List.getElem?_map]
 rcases Nat.lt_or_ge j len with hj | hj
 ·rw[List.getElem?_range hj,List.getElem?_eq_getElem (by omega)]
  unfold aD aI
  simp only[Option.map_some]
  rw[List.getD_eq_getElem?_getD,List.getElem?_eq_getElem (by omega)]
  rfl
 ·rw[List.getElem?_eq_none (by omega),List.getElem?_eq_none (by simpa using hj)];rfl
theorem jO(w:World)(A:Option Addr)(len c:Nat)(bs:List Nat)(n:Int)(hl:bs.length=len)(hsl:Sl w (fun k=>k < w.heap.size) A len (aD bs))(hlc:len≤c)(hsm:len≤1099511627776)(h0 : -9223372036854775808≤n)(h1:n≤9223372036854775807):
  Calls Tryz.prog 82 #[.slice A len c,.int .i64 n] w (qo w (bs ++ aC (zig n))):=by
 have HZ:=zh (zN h0 h1)
 have HS:=zh (zN hl hsl)
 clear h0 h1 hl hsl
 go_enter Tryz.func82,Tryz.ntmps82
 go_wp2_with fail
 refine(Ik _ _ HZ.out.1 HZ.out.2).mono ?_
 rintro e w' ⟨rfl,rfl⟩
 go_wp2_with fail
 refine(gW _ _ _ _ bs _ HS.out.1 HS.out.2 hlc hsm (by omega) (by have:=jc HZ.out.1 HZ.out.2;omega)).mono ?_
 rintro e w1 ⟨v1,rfl,hown1,hb1⟩
 go_wp2_with fail
 go_ret
 exact⟨v1,rfl,hown1,hb1⟩
def txt(s:ByteArray): List Nat:=s.data.toList.map UInt8.toNat
theorem Nh(s:ByteArray): (txt s).map aI=Lib.strCells s:=by
 unfold txt Lib.strCells
 rw[List.map_map];rfl
theorem iZ(s:ByteArray): (txt s).length=s.size:=by unfold txt;simp
theorem rW(s:ByteArray): ∀ b ∈ txt s,b < 256:=by
 unfold txt
 intro b hb
 rw[List.mem_map] at hb
 obtain⟨x,_,rfl⟩:=hb
 exact x.toNat_lt
theorem jU(w:World)(A:Option Addr)(len c:Nat)(bs:List Nat)(s:ByteArray)(hl:bs.length=len)(hsl:Sl w (fun k=>k < w.heap.size) A len (aD bs))(hlc:len≤c)(hsm:len≤1099511627776)(hs:s.size≤1099511627776):
  Calls Tryz.prog 83 #[.slice A len c,.string s] w (qo w (bs ++ aC s.size ++ txt s)):=by
 obtain⟨ht,-,i,hi,hz,hs1,hby⟩:=byteElem
 have HI:=zh (zN hs1 hby)
 have HS:=zh (zN hl hsl)
 clear hl hsl hs1 hby
 go_enter Tryz.func83,Tryz.ntmps83
 go_wp2_with fail
 refine(gW _ _ _ _ bs _ HS.out.1 HS.out.2 hlc hsm (by omega) (by omega)).mono ?_
 rintro e w1 ⟨v1,rfl,hown1,hb1⟩
 have hn1:(bs ++ aC s.size).length≤len+10:=by
  rw[List.length_append]
  have:=aR (u:=s.size) (by omega)
  have:=HS.out.1
  omega
 have HO:=zh (zN hown1 hb1)
 clear hown1 hb1
 go_wp2_with (refine Lib.wpList_append_own_string w1 rfl (.tmp 9) (.tmp 10) 72 9 rfl w.heap.size 5 i ht Tryz.underlying9 hi hz HI.out.1 HI.out.2 v1 (bs ++ aC s.size).length ((bs ++ aC s.size).map aI) rfl HO.out.1 s rfl ?h63 ?hby2 ?hbase ?_)
 case h63=>unfold maxLen;omega
 case hby2=>omega
 case hbase=>exact HO.out.2.size
 intro v2 w2 hown2 hg2 _
 have HO2:=zh (zN hown2 (HO.out.2.grown hg2 HO.out.2.size (fun k hk=>(HO.out.1.lt k hk).1)))
 clear hown2 hg2
 go_wp2_with fail
 go_ret
 refine⟨v2,rfl,?_,HO2.out.2⟩
 have e5:(bs ++ aC s.size ++ txt s).length=(bs ++ aC s.size).length+s.size:=by rw[List.length_append,iZ]
 have e6:(bs ++ aC s.size ++ txt s).map aI=(bs ++ aC s.size).map aI ++ Lib.strCells s:=by rw[List.map_append,Nh]
 rw[e5,e6,List.length_append,List.map_append,List.append_assoc]
 exact HO2.out.1
end V
section
open Go.RowKit
def bY(bs:List Nat): ByteArray:=⟨(bs.map fun b=>UInt8.ofNat b).toArray⟩
theorem nN{P:Program}{w:World}{D:Nat→Prop}{A:Option Addr}{len c:Nat}{bs:List Nat}(src e dst:TypeId)(hs:P.underlying src=some (.slice e))(he:P.underlying e=some (.int .u8))(hd:P.underlying dst=some .string)(hl:bs.length=len)(h:Sl w D A len (aD bs)): (convert src dst (.slice A len c)).run P w=.ok (.string (bY bs)) w:=by
 rcases Nat.eq_zero_or_pos len with h0 | h0
 ·subst h0
  obtain rfl:bs=[]:=List.eq_nil_of_length_eq_zero hl
  rw[run_convert_bytes_string w src dst e _ 0 c hs he hd]
  cases A with
  | none=>simp[Conv.bytesToString];rfl
  | some a=>
   have:=run_bytesToString (P:=P) w a 0 c [] (run_loadCells_list (P:=P) w a [] (fun j v hj=>by simp at hj))
   exact this
 ·obtain ⟨b,off,rfl,-,hc⟩:=h h0
  have:=run_convert_bytes_arg (P:=P) w src e hs he b off len c (bs.map fun b:Nat=>(b:Int)) (by simpa using hl) (fun i hi=>by
   rw[hc i hi]
   unfold aD
   rw[List.getD_eq_getElem?_getD,List.getD_eq_getElem?_getD,List.getElem?_map,List.getElem?_eq_getElem (by omega)]
   rfl) dst hd
  rw[this]
  unfold bY strOfNums
  simp
theorem PU{a b:List Nat}(ha:∀ j,a.getD j 0 < 256)(hb:∀ j,b.getD j 0 < 256)(h:bY a=bY b): a=b:=by
 unfold bY at h
 injection h with h
 have h2:a.map (fun b=>UInt8.ofNat b)=b.map (fun b=>UInt8.ofNat b):=by simpa using h
 have hl:a.length=b.length:=by simpa using congrArg List.length h2
 apply List.ext_getElem hl
 intro i h1 h3
 have h4:(a.map (fun b=>UInt8.ofNat b))[i]? = (b.map (fun b=>UInt8.ofNat b))[i]?:=by rw[h2]
 rw[List.getElem?_map,List.getElem?_map,List.getElem?_eq_getElem h1,List.getElem?_eq_getElem h3] at h4
 simp at h4
 have a1:=ha i
 have b1:=hb i
 rw[List.getD_eq_getElem?_getD,List.getElem?_eq_getElem h1] at a1
 rw[List.getD_eq_getElem?_getD,List.getElem?_eq_getElem h3] at b1
 have:=congrArg UInt8.toNat h4
 simp at this a1 b1
 omega
end
namespace V
open Go.RowKit
theorem iF{w w':World}{A:Option Addr}{n:Nat}{f:Nat→Value}(h:Sl w (fun k=>k < w.heap.size) A n f)(hb:Below w.heap.size w w'): Sl w' (fun k=>k < w'.heap.size) A n f:=
 (h.below hb (fun _ hk _=>hk)).mono (fun _ hk=>Nat.lt_of_lt_of_le hk hb.size)
theorem bH{w w':World}{base:Nat}{e:TypeId}{v:Value}{n:Nat}{xs:List Value}(h:w.ownsRow base e 1 v n xs)(hb:Below w.heap.size w w'): w'.ownsRow base e 1 v n xs:=
 aF (S:=fun _=>False) h (Keeps.of_below hb) (fun _ _ h=>h)
theorem ay{w w1 w2:World}(h:Below w.heap.size w w1)(k:Below w1.heap.size w1 w2): Below w.heap.size w w2:=h.trans (k.mono h.size)
theorem dN{w:World}{base:Nat}{A:Option Addr}{n c:Nat}{bs:List Nat}(h:w.ownsRow base 5 1 (.slice A n c) n (bs.map aI)): Sl w (fun k=>k < w.heap.size) A n (aD bs):=by
 have h1:Sl w (fun k=>(Value.slice A n c).ownBlock=some k) A n (aD bs):=by
  refine Sl.lQ h ?_
  intro j u hu
  rw[List.getElem?_map] at hu
  cases hb:bs[j]? with
  | none=>rw[hb] at hu;cases hu
  | some b=>
   rw[hb] at hu
   simp at hu
   unfold aD
   rw[List.getD_eq_getElem?_getD,hb,←hu]
   rfl
 refine h1.mono fun k hk=>?_
 exact(h.lt k hk).2
theorem iC{w:World}{base:Nat}{e:TypeId}{size n m c:Nat}{A:Option Addr}{xs:List Value}(h:w.ownsRow base e size (.slice A n c) m xs): n≤c∧c≤9223372036854775807:=by
 rcases h.2 with ⟨h1,_⟩ | ⟨g,cap,cur,h1,_,_,h2,h3,_⟩
 ·injection h1 with _ h1 h2;omega
 ·injection h1 with _ h4 h5;subst h4 h5;unfold maxLen at h3;omega
theorem DU(w:World)(base:Nat)(e:TypeId)(hb:base≤w.heap.size): (w.alloc (.cells #[] e)).ownsRow base e 1 (.slice (some ⟨w.heap.size,0,none⟩) 0 0) 0 []:=
 World.ownsRow_made w #[] 0 hb (by unfold maxLen;omega) rfl
theorem qE{w0 w w':World}{e:TypeId}{n:Nat}{v:Value}{xs:List Value}(hk:Below w0.heap.size w0 w)(ho:w.ownsRow w0.heap.size e 1 v n xs)(hg:w.grownBy w' v.ownBlock): Below w0.heap.size w0 w':=
 hk.grown hg hk.size (fun k hk'=>(ho.lt k hk').1)
theorem Qn(s:ByteArray): bY (txt s)=s:=by
 unfold bY txt
 rw[List.map_map]
 have:(s.data.toList.map ((fun b=>UInt8.ofNat b) ∘ UInt8.toNat))=s.data.toList:=by
  conv=>rhs;rw[←List.map_id s.data.toList]
  apply List.map_congr_left
  intro x _
  simp
 rw[this]
theorem EY{w:World}{g:Nat}{t:TypeId}{bs:List Nat}(h:au w g t (bs.map aI).toArray): Sl w (fun k=>k < w.heap.size) (some ⟨g,0,none⟩) bs.length (aD bs):=fun _=>by
 refine⟨g,0,rfl,h.lt,fun j hj=>?_⟩
 rw[h.cell (0+j),Nat.zero_add]
 simp only[List.getElem?_toArray,List.getElem?_map,List.getElem?_eq_getElem hj]
 unfold aD aI
 rw[List.getD_eq_getElem?_getD,List.getElem?_eq_getElem hj]
 rfl
theorem getD_take_lt{l:List Nat}(h:∀ j,l.getD j 0 < 256)(m:Nat): ∀ j,(l.take m).getD j 0 < 256:=fun j=>by
 rw[List.getD_eq_getElem?_getD,List.getElem?_take]
 have:=h j
 rw[List.getD_eq_getElem?_getD] at this
 split
 ·exact this
 ·simp
theorem bN{l:List Nat}(h:∀ j,l.getD j 0 < 256)(m:Nat): ∀ j,(l.drop m).getD j 0 < 256:=fun j=>by
 rw[List.getD_eq_getElem?_getD,List.getElem?_drop]
 have:=h (m+j)
 rw[List.getD_eq_getElem?_getD] at this
 exact this
theorem xM{l m:List Nat}(h:∀ j,l.getD j 0 < 256)(h':∀ j,m.getD j 0 < 256): ∀ j,(l ++ m).getD j 0 < 256:=fun j=>by
 rw[List.getD_eq_getElem?_getD,List.getElem?_append]
 have h1:=h j
 have h2:=h' (j-l.length)
 rw[List.getD_eq_getElem?_getD] at h1 h2
 split
 ·exact h1
 ·exact h2
theorem bW{l:List Nat}(h:∀ b ∈ l,b < 256): ∀ j,l.getD j 0 < 256:=fun j=>by
 rw[List.getD_eq_getElem?_getD]
 cases hj:l[j]? with
 | none=>simp
 | some b=>simpa using h b (List.mem_of_getElem? hj)
theorem pY{w:World}{D:Nat→Prop}{A:Option Addr}{n m:Nat}{bs:List Nat}(h:Sl w D A n (aD bs))(hm:m≤n): Sl w D A m (aD (bs.take m)):=by
 refine(h.take hm).congr fun j hj=>?_
 unfold aD
 rw[List.getD_eq_getElem?_getD,List.getD_eq_getElem?_getD,List.getElem?_take_of_lt hj]
theorem qc{w:World}{D:Nat→Prop}{b off n m:Nat}{bs:List Nat}(h:Sl w D (some ⟨b,off,none⟩) n (aD bs))(hm:m≤n): Sl w D (some ⟨b,off+m,none⟩) (n-m) (aD (bs.drop m)):=fun hn=>by
 obtain⟨b',off',e,hD,hc⟩:=h (by omega)
 simp only[Option.some.injEq,Addr.mk.injEq] at e
 obtain⟨rfl,rfl,-⟩:=e
 refine⟨b,_,rfl,hD,fun j hj=>?_⟩
 have:=hc (m+j) (by omega)
 rw[show off+(m+j)=off+m+j by omega] at this
 rw[this]
 unfold aD
 rw[List.getD_eq_getElem?_getD,List.getD_eq_getElem?_getD,List.getElem?_drop]
theorem gI{P:Program}(t e:TypeId)(ht:P.underlying t=some (.slice e))(hs:∀ w:World,(sizeOf e).run P w=.ok 1 w)(A:Option Addr)(len c n:Nat)(hn:n≤len)(hlc:len≤c):
  ∃ A',(∀ w:World,(Instr.slice t (.slice A len c) (some (.int .i64 (n:Nat))) none none).run P w=.ok (.slice A' (len-n) (c-n)) w)∧
   (∀ (w:World) (D:Nat→Prop) (l:List Nat),Sl w D A len (aD l)→Sl w D A' (len-n) (aD (l.drop n))):=by
 have he:P.elem t=e:=by simp[Program.elem,ht]
 have ht':P.underlying t=some (.slice (P.elem t)):=by rw[he];exact ht
 refine⟨if c=n then A else A.map (·.add (n*1)),fun w=>?_,fun w D l h=>?_⟩
 ·rw[run_slice_l w t A len c ht' .i64 (n:Nat) (by omega) (by omega),he,hs]
  simp[Result.andThen,sliced]
 ·intro hlt
  rw[if_neg (by omega)]
  obtain⟨b,off,rfl,-,-⟩:=h (by omega)
  have:=qc h hn hlt
  rw[show (some (⟨b,off,none⟩:Addr)).map (·.add (n*1))=some ⟨b,off+n,none⟩ by simp[Addr.add]]
  exact this
end V
namespace V
open Go.RowKit
def Oc(l:List Nat)(w:World)(e:Ending)(w':World): Prop:=
 e=.returned (.tuple #[.int .i64 (zag (aB l).1),.int .i64 ((aB l).2.1:Nat),.int .i64 ((aB l).2.2:Nat)])∧Below w.heap.size w w'
theorem vS(w:World)(D:Nat→Prop)(A:Option Addr)(len c:Nat)(l:List Nat)(hl:l.length=len)(hb:∀ j,l.getD j 0 < 256)(hsl:Sl w D A len (aD l))(hm:len≤9223372036854775807)(hv:cu w):
  Calls Tryz.prog 68 #[.slice A len c] w (Oc l w):=by
 have HS:=zh (zN hl (zN hb (zN hsl (zN hm hv))))
 clear hl hb hsl hm hv
 go_enter Tryz.func68,Tryz.ntmps68
 go_wp2_with fail
 refine(kT w D A len c l HS.out.1 HS.out.2.1 HS.out.2.2.1 HS.out.2.2.2.1 HS.out.2.2.2.2).mono ?_
 rintro e w1 ⟨rfl,hb⟩
 obtain⟨u,hu⟩:∃ u,u=(aB l).1:=⟨_,rfl⟩
 obtain⟨n,hn⟩:∃ n,n=(aB l).2.1:=⟨_,rfl⟩
 obtain⟨k,hk⟩:∃ k,k=(aB l).2.2:=⟨_,rfl⟩
 have hu2:=(nH l).1
 rw[←hu] at hu2
 rw[←hu,←hn,←hk]
 have HU:=zh (zN hu (zN hn (zN hk hb)))
 clear hu hn hk hb
 go_wp2_with fail
 refine(GI u _ hu2).mono ?_
 rintro e w2 ⟨rfl,rfl⟩
 obtain⟨z,hz⟩:∃ z,z=zag u:=⟨_,rfl⟩
 rw[←hz]
 have HZ:=zh hz
 clear hz
 go_wp2_with fail
 go_ret3
 exact⟨by rw[←HU.out.1,←HU.out.2.1,←HU.out.2.2.1,←HZ.out];rfl,HU.out.2.2.2⟩
def dF(l:List Nat)(most:Int): List Nat × Nat × Nat:=
 if (aB l).2.2≠0 then ([],0,(aB l).2.2)
 else if most < 0∨most < (aB l).1 then ([],0,3)
 else if l.length-(aB l).2.1 < (aB l).1 then ([],0,10)
 else ((l.drop (aB l).2.1).take (aB l).1,(aB l).2.1+(aB l).1,0)
theorem Qt(l:List Nat)(most:Int): dF l most=(if (aB l).2.2≠0 then ([],0,(aB l).2.2)
 else if most < 0∨most < (aB l).1 then ([],0,3)
 else if l.length-(aB l).2.1 < (aB l).1 then ([],0,10)
 else ((l.drop (aB l).2.1).take (aB l).1,(aB l).2.1+(aB l).1,0)):=rfl
def Ns(l:List Nat)(most:Int)(w:World)(e:Ending)(w':World): Prop:=
 e=.returned (.tuple #[.string (bY (dF l most).1),.int .i64 ((dF l most).2.1:Nat),.int .i64 ((dF l most).2.2:Nat)])∧Below w.heap.size w w'
theorem lU(w:World)(A:Option Addr)(len c:Nat)(l:List Nat)(most:Int)(hl:l.length=len)(hb:∀ j,l.getD j 0 < 256)(hsl:Sl w (fun q=>q < w.heap.size) A len (aD l))(hlc:len≤c)(hcm:c≤9223372036854775807)(hv:cu w)(hm0 : -9223372036854775808≤most)(hm1:most≤9223372036854775807):
  Calls Tryz.prog 67 #[.slice A len c,.int .i64 most] w (Ns l most w):=by
 have HS:=zh (zN hl (zN hb (zN hsl hv)))
 clear hl hb hsl hv
 go_enter Tryz.func67,Tryz.ntmps67
 go_wp2_with fail
 refine(kT w _ A len c l HS.out.1 HS.out.2.1 HS.out.2.2.1 (by omega) HS.out.2.2.2).mono ?_
 rintro e w1 ⟨rfl,hb⟩
 have hvl:=nH l
 have hve:=M6 l
 have hvt:=Qt l most
 have hlen:=HS.out.1
 have hvo:(aB l).2.2=0→1≤(aB l).2.1:=fun h=>(yS HS.out.2.1 h).1
 obtain⟨u,hu⟩:∃ u,u=(aB l).1:=⟨_,rfl⟩
 obtain⟨n,hn⟩:∃ n,n=(aB l).2.1:=⟨_,rfl⟩
 obtain⟨k,hk⟩:∃ k,k=(aB l).2.2:=⟨_,rfl⟩
 rw[←hu,←hn,←hk] at hve hvt
 rw[←hu,←hn] at hvl
 rw[←hk,←hn] at hvo
 rw[←hu,←hn,←hk]
 rw[hlen] at hvl hvt
 have HB:=zh hb
 clear hb hu hn hk hlen
 by_cases h0:k=0
 ·have h1:=hvo h0
  subst h0
  rw[if_neg (by omega)] at hvt
  obtain⟨hu64,hn10,hnl⟩:=hvl
  clear hve hvo
  by_cases c2:most < 0
  ·rw[if_pos (.inl c2)] at hvt
   have HT:=zh hvt
   clear hvt
   go_wp2_with fail
   go_ret3
   exact⟨by rw[HT.out];rfl,HB.out⟩
  ·have d2:decide (most < 0)=false:=by simp;omega
   have k2:IntKind.u64.wrap most=most:=by rw[IntKind.wrap_u64];omega
   by_cases c3:most < u
   ·rw[if_pos (.inr c3)] at hvt
    have HT:=zh hvt
    clear hvt
    go_wp2_with fail
    go_ret3
    exact⟨by rw[HT.out];rfl,HB.out⟩
   ·rw[if_neg (by omega)] at hvt
    have d3:decide (most < (u:Int))=false:=by simp;omega
    have k3:IntKind.u64.wrap ((len:Int)-(n:Int))=(len:Int)-(n:Int):=by rw[IntKind.wrap_u64];omega
    have k4:IntKind.i64.wrap (u:Int)=(u:Int):=by rw[IntKind.wrap_i64];omega
    by_cases c4:len-n < u
    ·rw[if_pos c4] at hvt
     have HT:=zh hvt
     have d4:decide ((len:Int)-(n:Int) < (u:Int))=true:=by simp;omega
     clear hvt
     go_wp2_with fail
     go_ret3
     exact⟨by rw[HT.out];rfl,HB.out⟩
    ·rw[if_neg c4] at hvt
     have HT:=zh hvt
     have d4:decide ((len:Int)-(n:Int) < (u:Int))=false:=by simp;omega
     obtain⟨b,off,rfl,-,-⟩:=HS.out.2.2.1 (by omega)
     clear hvt
     have hun:u≤len-n:=by omega
     clear c4
     by_cases hnc:n=c
     ·have hu0:u=0:=by omega
      have hnl2:len=n:=by omega
      subst hu0 hnl2 hnc
      have hc:=fun (A:Option Addr) (q:Nat)=>nN (P:=Tryz.prog) (w:=w1) (D:=fun _=>True) (A:=A) (len:=0) (c:=q) (bs:=[]) 72 5 9 Tryz.underlying72 Tryz.underlying5 Tryz.underlying9 rfl (Sl.nil _ _ _ _)
      have HT2:=zh (show dF l most=([],len,0) by rw[HT.out];simp)
      clear HT
      go_wp2_with fail
      go_ret3
      exact⟨by rw[HT2.out];rfl,HB.out⟩
     ·have hs:=pY (qc (iF HS.out.2.2.1 HB.out) hnl) hun
      have hc:=nN (P:=Tryz.prog) (c:=c-n) 72 5 9 Tryz.underlying72 Tryz.underlying5 Tryz.underlying9 (by rw[List.length_take,List.length_drop];have:=HS.out.1;omega) hs
      obtain⟨P,hP⟩:∃ P,P=(l.drop n).take u:=⟨_,rfl⟩
      rw[←hP] at hc HT
      clear hs hP
      go_wp2_with fail
      go_ret3
      exact⟨by rw[HT.out];rfl,HB.out⟩
 ·rw[if_pos h0] at hvt
  have d0:((k:Int) != 0)=true:=by simp;omega
  have HT:=zh hvt
  clear hvt hvo hve h0
  go_wp2_with fail
  go_ret3
  exact⟨by rw[HT.out];rfl,HB.out⟩
end V
section
open Go.RowKit Go.Maps
theorem dn{w w':World}(h:Below w.heap.size w w')(row:Option Nat): w.grownBy w' row:=⟨h.os,h.tape,h.output,h.size,fun q hq _=>h.block q hq⟩
theorem fA{w w1 w2:World}{row:Option Nat}(h:w.grownBy w1 row)(k:w1.grownBy w2 row): w.grownBy w2 row:=
 ⟨k.os.trans h.os,k.tape.trans h.tape,k.output.trans h.output,Nat.le_trans h.size k.size,fun q hq hn=>(k.block q (Nat.lt_of_lt_of_le hq h.size) hn).trans (h.block q hq hn)⟩
theorem dK{w w':World}{row:Option Nat}{g:Nat}{t:TypeId}{cs:Array Value}(h:w.grownBy w' row)(hb:au w g t cs)(hn:some g≠row): au w' g t cs:=(h.block g hb.lt hn).trans hb
theorem rF{w w':World}{row:Option Nat}{a:Addr}{v:Value}(h:w.grownBy w' row)(hc:w.cell? a=some v)(hn:some a.block≠row): w'.cell? a=some v:=
 (World.cell?_of_block (w:=w) (a:=a) (h.block a.block (World.block_lt_of_cell? w _ hc) hn)).trans hc
theorem jD{w0 w w':World}{y:Nat}(h:Below w0.heap.size w0 w)(hg:w.grownBy w' (some y))(hy:w0.heap.size≤y): Below w0.heap.size w0 w':=
 ⟨hg.os.trans h.os,hg.tape.trans h.tape,hg.output.trans h.output,Nat.le_trans h.size hg.size,fun q hq=>(hg.block q (Nat.lt_of_lt_of_le hq h.size) (fun e=>by injection e with e;omega)).trans (h.block q hq)⟩
def eP(v:Value): Option (DataW Value × List MemPlace):=some (.held v,[])
def DB(nm:Nat→ByteArray)(VS:Nat→Value): Nat→DataW Value
 | 0=>.map []
 | k+1=>(DB nm VS k).put (bP (nm k)) (.held (VS k))
theorem yG(nm:Nat→ByteArray)(VS:Nat→Value): ∀ k,IsMap (DB nm VS k)
 | 0=>isMap_empty
 | k+1=>(yG nm VS k).put _ _
theorem uV(nm:Nat→ByteArray)(VS:Nat→Value)(s:ByteArray): ∀ k,Maps.has (DB nm VS k) (bP s)=true↔∃ j,j < k∧nm j=s
 | 0=>by
  constructor
  ·intro h;cases h
  ·rintro ⟨j,hj,_⟩;omega
 | k+1=>by
  by_cases e:nm k=s
  ·subst e
   constructor
   ·intro _;exact ⟨k,by omega,rfl⟩
   ·intro _;exact has_put_same (yG nm VS k) (jo _) _
  ·have hne:bP s≠bP (nm k):=fun h=>e (iQ h).symm
   show Maps.has ((DB nm VS k).put (bP (nm k)) _) (bP s)=true↔_
   rw[has_put_other hne,uV nm VS s k]
   constructor
   ·rintro ⟨j,hj,h⟩;exact ⟨j,by omega,h⟩
   ·rintro ⟨j,hj,h⟩
    have:j≠k:=fun h'=>e (by rw[←h',h])
    exact⟨j,by omega,h⟩
theorem Dx(nm:Nat→ByteArray)(VS:Nat→Value)(z:DataW Value): ∀ k,Apart nm k→∀ j,j < k→(DB nm VS k).atKey (bP (nm j)) z=.held (VS j)
 | 0,_,j,hj=>by omega
 | k+1,h,j,hj=>by
  show ((DB nm VS k).put (bP (nm k)) _).atKey (bP (nm j)) z=_
  by_cases e:j=k
  ·subst e
   rw[atKey_put_same (yG nm VS j) (jo _)]
  ·rw[atKey_put_other (fun h'=>h j k (by omega) (by omega) (iQ h')),Dx nm VS z k (fun i j h1 h2=>h i j h1 (by omega)) j (by omega)]
theorem EG(nm:Nat→ByteArray){VS WS:Nat→Value}: ∀ k,(∀ j,j < k→VS j=WS j)→DB nm VS k=DB nm WS k
 | 0,_=>rfl
 | k+1,h=>by
  show (DB nm VS k).put _ (.held (VS k))=(DB nm WS k).put _ (.held (WS k))
  rw[EG nm k (fun j hj=>h j (by omega)),h k (by omega)]
def mH(w:World)(M n k:Nat)(nm:Nat→ByteArray)(VS:Nat→Value): Prop:=w.ownsMap Tryz.prog 9 eP M n (DB nm VS k)
theorem mH.gb{w w':World}{M n k:Nat}{nm:Nat→ByteArray}{VS:Nat→Value}{row:Option Nat}(h:mH w M n k nm VS)(hg:w.grownBy w' row)(hne:some M≠row): mH w' M n k nm VS:=World.ownsMap.kept h hg hne
theorem mH.call{w w':World}{M n k:Nat}{nm:Nat→ByteArray}{VS:Nat→Value}(h:mH w M n k nm VS)(hb:Below w.heap.size w w'): mH w' M n k nm VS:=h.gb (dn hb none) (by simp)
theorem Rp(w:World): (zeroValue 358).run Tryz.prog w=.ok (.slice none 0 0) w:=by kernel_rfl
theorem yD(w:World){ops:Array Oper}{rest:List Oper}{o:Oper}{a:Act}{Q:Exit→Act→World→Prop}(hg:o.guard=none)(m x:Operand)(hop:o.op=Op.lookup 351 m x false)(M n k j:Nat)(nm:Nat→ByteArray)(VS:Nat→Value)(hm:a.eval m=.map (some M))(hown:mH w M n k nm VS)(hap:Apart nm k)(hj:j < k)(hs:(nm j).size≤maxLen)(hx:a.eval x=.string (nm j))(hK:wpList Tryz.prog ops Q rest (a.put o.dst (VS j)) w): wpList Tryz.prog ops Q (o :: rest) a w:=by
 refine wpList_plain hg fun K' hK'=>?_
 obtain⟨v,ps,hrun,hv⟩:=World.ownsMap.lookup hown law Tryz.underlying351 (Rp w) (zd:=.held (.slice none 0 0)) (zp:=[]) rfl (kD hs)
 rw[Dx nm VS _ k hap j hj] at hv
 unfold eP at hv
 simp only[Option.some.injEq,Prod.mk.injEq,DataW.held.injEq] at hv
 rw[hv.1] at hrun
 unfold Oper.wp
 simp[execOp,hop,hm,hx,hrun,Result.andThen]
 exact hK' _ _ hK
structure Bk where
 a: Nat
 b:Nat
 f:Int
 t:Int
 n:Nat
def qx(x:Bk): List Value:=[.int .i64 (x.a:Nat),.int .i64 (x.b:Nat),.int .i64 x.f,.int .i64 x.t,.int .i64 (x.n:Nat)]
def nD(B:Nat→Bk): Nat→List Value
 | 0=>[]
 | j+1=>nD B j ++ qx (B j)
theorem AY(B:Nat→Bk): ∀ k,(nD B k).length=k*5
 | 0=>rfl
 | k+1=>by
  show (nD B k ++ qx (B k)).length=_
  rw[List.length_append,AY B k]
  unfold qx
  simp;omega
theorem EP(B:Nat→Bk)(j i:Nat)(hi:i < 5): ∀ k,j < k→(nD B k)[j*5+i]? = (qx (B j))[i]?
 | 0,h=>absurd h (by omega)
 | k+1,h=>by
  have hl:=AY B k
  show (nD B k ++ qx (B k))[j*5+i]? = _
  rcases Nat.lt_or_ge j k with h1 | h1
  ·rw[List.getElem?_append_left (by omega)]
   exact EP B j i hi k h1
  ·obtain rfl:j=k:=by omega
   rw[List.getElem?_append_right (by omega),hl,show j*5+i-j*5=i by omega]
theorem Q7: (Tryz.prog.info? 360).map (fun i=>(i.zero,i.size,i.bytes))=some (some (.agg #[.int .i64 0,.int .i64 0,.int .i64 0,.int .i64 0,.int .i64 0]),5,40):=by kernel_rfl
theorem jK{w:World}{base g j:Nat}{v:Value}{B:Nat→Bk}{c:Nat}{ops:Array Oper}{rest:List Oper}{o:Oper}{a:Act}{Q:Exit→Act→World→Prop}(hgd:o.guard=none)(s x:Operand)(ho:o.op=.call { callee:=.builtin .append,args:=#[s,x],argTypes:=#[358,358] })(hs:a.eval s=v)(hx:a.eval x=.slice (some ⟨g,0,none⟩) 1 c)(hown:w.ownsRow base 360 5 v j (nD B j))(hg:au w g 360 (qx (B j)).toArray)(h63:j < 4294967296)(hbase:base≤w.heap.size)(h:∀ v' w',w'.ownsRow base 360 5 v' (j+1) (nD B (j+1))→w.grownBy w' v.ownBlock→(v'.ownBlock=v.ownBlock∨v'.ownBlock=some w.heap.size)→wpList Tryz.prog ops Q rest (a.put o.dst v') w'): wpList Tryz.prog ops Q (o :: rest) a w:=by
 refine wpList_plain hgd fun K hK=>?_
 obtain⟨i,hi,hz,hss,hb⟩:=info_parts Q7
 have hadd:∀ i,(⟨g,0,none⟩:Addr).add i=⟨g,0+i,none⟩:=fun i=>by unfold Addr.add;split<;>simp_all
 obtain⟨v',w',hrun,h2,h3,_,h4⟩:=run_append_own_at (P:=Tryz.prog) w base 358 o.type 360 i _ 5 40 Tryz.underlying358 hi hz hss hb rfl (by decide) v j (nD B j) hown ⟨g,0,none⟩ 1 c (qx (B j)) rfl
  (fun j u hu=>by
   rw[hadd,Nat.zero_add,hg.cell j]
   simpa using hu)
  (by intro u hu;unfold qx at hu;simp at hu;rcases hu with rfl | rfl | rfl | rfl | rfl<;>rfl) (by unfold maxLen;omega) (by omega) hbase
 unfold Oper.wp execOp
 simp only[ho,resolve,invoke,builtin,Sem.run_bind,Sem.run_pure,Result.andThen_ok,List.map_toArray,List.map_cons,List.map_nil,hs,hx,hrun]
 exact hK _ _ (h v' w' h2 h3 h4)
def eH(w:World)(y:Nat)(l:List Nat): Prop:=
 ∃ A c,au w y 356 #[.slice A l.length c,.nilIface]∧Sl w (fun q=>q < y) A l.length (aD l)∧l.length≤c∧c≤9223372036854775807∧∀ j,l.getD j 0 < 256
theorem TT{w:World}{y:Nat}{l:List Nat}(h:eH w y l)(hv:V.cu w): some 0≠some y:=fun e=>by
 injection e with e
 obtain⟨A,c,hb,-⟩:=h
 have h1:=hb.cell 0
 rw[←e] at h1
 have h2:w.cell? ⟨0,0,none⟩=_:=hv
 rw[h2] at h1
 simp at h1
theorem Rq{w w':World}{y:Nat}(hv:V.cu w)(hg:w.grownBy w' (some y))(hne:some 0≠some y): V.cu w':=rF hg hv hne
theorem eH.call{w w':World}{y:Nat}{l:List Nat}(h:eH w y l)(hb:Below w.heap.size w w'): eH w' y l:=by
 obtain⟨A,c,h1,h2,h3⟩:=h
 exact⟨A,c,h1.below hb h1.lt,h2.below hb (fun _ _ hk=>hk),h3⟩
theorem eH.next{w:World}{y n:Nat}{l:List Nat}{A':Option Addr}{c':Nat}(h:eH w y l)(hs:Sl w (fun q=>q < y) A' (l.length-n) (aD (l.drop n)))(hc:l.length-n≤c')(hm:c'≤9223372036854775807)(hn:n≤l.length):
  eH (w.setCell ⟨y,0,none⟩ (.slice A' (l.length-n) c')) y (l.drop n):=by
 obtain⟨A0,c0,h1,h2,h3,h4,h5⟩:=h
 have e:(l.drop n).length=l.length-n:=by simp
 have hset:=h1.set 0 (.slice A' (l.length-n) c')
 refine⟨A',c',by rw[e];exact hset,?_,by rw[e];exact hc,hm,V.bN h5 n⟩
 rw[e]
 exact hs.keep (fun k hk _=>Below.heap_setCell _ _ _ _ (show k≠y by have:k < y:=hk;omega))
end
section
open Go.RowKit Go.Maps
def dx(nm:Nat→ByteArray)(n:Nat): Nat→List Nat
 | 0=>V.aC n
 | k+1=>dx nm n k ++ V.aC (nm k).size ++ V.txt (nm k)
theorem zw(nm:Nat→ByteArray)(n:Nat)(hn:n < 18446744073709551616): ∀ k,(∀ j,j < k→(nm j).size≤1048576)→(dx nm n k).length≤10+k*1048586
 | 0,_=>by show (V.aC n).length≤_;have:=V.aR hn;omega
 | k+1,h=>by
  have ih:=zw nm n hn k (fun j hj=>h j (by omega))
  have h1:=h k (by omega)
  have h2:=V.aR (u:=(nm k).size) (by omega)
  show (dx nm n k ++ V.aC (nm k).size ++ V.txt (nm k)).length≤_
  rw[List.length_append,List.length_append,V.iZ]
  omega
theorem KE(w0 w:World)(L:List (Nat × TypeId × Array Value))(d m k:Nat)(nm:Nat→ByteArray)(h:dA w0 L d m k nm w)(hk:k≤1024)(hap:Apart nm k)(hn:∀ j,j < k→(nm j).size≤1048576):
  Calls Tryz.prog 223 #[.pointer (some ⟨d,0,none⟩)] w (V.qo w (dx nm k k)):=by
 have hz:=rH nm k hap
 have H0:=zh (zN h hap)
 have HN:=zh hn
 clear h hap hn
 go_enter Tryz.func223,Tryz.ntmps223
 go_wp2_with fail
 refine(qD _ d m (H0.out.1.own.cell 0 0 rfl rfl)).mono ?_
 rintro e w1 ⟨rfl,hb⟩
 have H1:=zh (zN (H0.out.1.call hb) hb)
 clear hb
 have hc:=H1.out.1.own.cell 0 0 rfl rfl
 have hown:World.ownsMap w1 Tryz.prog 9 (plainElem (H:=Unit) Tryz.prog 3) m k (Dn nm k):=H1.out.1.map
 have ku:IntKind.u64.wrap (k:Int)=(k:Int):=by rw[IntKind.wrap_u64];omega
 go_wp2_with (at_len;refine wpList_len_own _ rfl _ 443 rfl 9 3 Tryz.underlying443 _ m k _ rfl hown ?_;rw[hz])
 refine(V.gW _ none 0 0 [] (k:Int) rfl (Sl.nil _ _ _ _) (by omega) (by omega) (by omega) (by omega)).mono ?_
 rintro e w2 ⟨v,rfl,ho,hb⟩
 rw[Int.toNat_natCast,List.nil_append] at ho
 have H2:=zh (zN (H1.out.1.call hb) (zN (aU ho H1.out.2.size) (H1.out.2.trans (hb.mono H1.out.2.size))))
 clear ho hb hc hown ku
 go_wp2_with fail
 refine(Ae w0 _ L d m k nm H2.out.1 hk H0.out.2).mono ?_
 rintro e w3 ⟨o,cs,rfl,hwo,hblk,hsz,hcs,hb⟩
 have HP:=zh (zN (V.bH H2.out.2.1 hb) (H2.out.2.2.trans (hb.mono H2.out.2.2.size)))
 have HC:=zh (zN hblk hcs)
 clear hb hblk hcs
 go_wp2_with fail
 go_loopw [3,18] (fun s3 i wr=>∃ (j:Nat) (p:List Nat),j≤k∧i=.int .i64 (j:Nat)∧p=dx nm k j∧wr.ownsRow w.heap.size 5 1 s3 p.length (p.map V.aI)∧Below w3.heap.size w3 wr∧Below w.heap.size w wr) (fun _ i _=>k-(intOf i).toNat)
 case atStart=>exact ⟨0,dx nm k 0,by omega,rfl,rfl,HP.out.1,(Below.refl _ _),HP.out.2⟩
 case round=>
  obtain⟨j,p,hj,rfl,hp,ho,hb,hbel⟩:=hrel
  by_cases hlt:j < k
  ·have hlen:=zw nm k (by omega) j (fun i hi=>HN.out i (by omega))
   rw[←hp] at hlen
   have hkk:j*1048586≤1024*1048586:=Nat.mul_le_mul_right _ (by omega)
   obtain⟨n4,hn4⟩:∃ n,n=p.length:=⟨_,rfl⟩
   rw[←hn4] at ho hlen
   obtain⟨A4,c4,hv4,hc4,-⟩:=aA ho
   subst hv4
   skip
   obtain⟨s,hs⟩:∃ s,s=nm j:=⟨_,rfl⟩
   have zc:wr.cell? ⟨o,j,none⟩=some (.string s):=by rw[hs];exact ((HC.out.1.below hb HC.out.1.lt).cell j).trans (HC.out.2 j hlt)
   have hss:s.size≤1048576:=by rw[hs];exact HN.out j hlt
   have hjk:(j:Int) < (k:Int):=by omega
   have hn4b:n4≤1099511627776:=by omega
   have HX:=zh (zN hp (zN hn4.symm (zN (V.dN ho) (zN hb (zN hbel (zN hs ho))))))
   clear hp hn4 hb hbel hs ho hlen hkk
   go_wp2_with fail
   refine(V.jU _ A4 n4 c4 p s HX.out.2.1 HX.out.2.2.1 hc4 (by omega) (by omega)).mono ?_
   rintro e w5 ⟨v,rfl,ho,hb⟩
   have e4:p ++ V.aC s.size ++ V.txt s=dx nm k (j+1):=by rw[HX.out.1,HX.out.2.2.2.2.2.1];rfl
   have H5:=zh (zN (aU ho HX.out.2.2.2.2.1.size) (zN (HX.out.2.2.2.1.trans (hb.mono HX.out.2.2.2.1.size)) (zN (HX.out.2.2.2.2.1.trans (hb.mono HX.out.2.2.2.2.1.size)) e4)))
   clear ho hb e4 zc hss hjk
   go_wp2_with fail
   go_roundw
   case rel=>exact ⟨j+1,_,by omega,by go_num,H5.out.2.2.2,H5.out.1,H5.out.2.1,H5.out.2.2.1⟩
   case measure=>simp[intOf]<;>omega
  ·obtain rfl:j=k:=by omega
   have HF:=zh (zN hp (zN ho hbel))
   clear hp ho hbel hb
   go_wp2_with fail
   go_ret
   refine⟨_,rfl,?_,HF.out.2.2⟩
   rw[←HF.out.1]
   exact HF.out.2.1
end
section
open Go.RowKit
def sW(f:Nat→Pt): Nat→Int
 | 0=>-1152921504606846977
 | k+1=>(f k).t
def iy(f:Nat→Pt)(k:Nat): Bool:=decide (sW f k < (f k).t) && (decide ((f k).t≤1152921504606846976) && (decide (0≤(f k).s) && decide ((f k).s≤1152921504606846976)))
def gM(f:Nat→Pt): Nat→Bool
 | 0=>true
 | k+1=>gM f k && iy f k
def dX(f:Nat→Pt)(n:Nat): Bool:=gM f n && (decide (0 < n) && decide (n≤4096))
theorem kH(f:Nat→Pt)(k:Nat): iy f k=true↔sW f k < (f k).t∧(f k).t≤1152921504606846976∧0≤(f k).s∧(f k).s≤1152921504606846976:=by
 unfold iy;simp only[Bool.and_eq_true,decide_eq_true_eq]
theorem Au{f:Nat→Pt}{k:Nat}(h:iy f k=false): ∀ n,k < n→gM f n=false
 | 0,hk=>by omega
 | n+1,hk=>by
  show (gM f n && iy f n)=false
  rcases Nat.lt_or_ge k n with h1 | h1
  ·rw[Au h n h1];rfl
  ·rw[show n=k by omega,h];simp
theorem qH{f:Nat→Pt}: ∀ n,gM f n=true→∀ k,k < n→iy f k=true
 | 0,_,k,hk=>by omega
 | n+1,h,k,hk=>by
  have h':(gM f n && iy f n)=true:=h
  rw[Bool.and_eq_true] at h'
  rcases Nat.lt_or_ge k n with h1 | h1
  ·exact qH n h'.1 k h1
  ·rw[show k=n by omega];exact h'.2
theorem oF{f:Nat→Pt}{n:Nat}(h:dX f n=true): gM f n=true∧0 < n∧n≤4096:=by
 unfold dX at h
 simp only[Bool.and_eq_true,decide_eq_true_eq] at h
 exact⟨h.1,h.2.1,h.2.2⟩
def Py(b:Bool)(w:World)(e:Ending)(w':World): Prop:=e=.returned (.bool b)∧Below w.heap.size w w'
theorem sH(A:Option Addr)(n c:Nat)(f:Nat→Pt)(D:Nat→Prop)(w:World)(hsl:dO w D A n f)(hn:n≤9223372036854775807):
  Calls Tryz.prog 306 #[.slice A n c] w (Py (dX f n) w):=by
 have HO:=zh hsl
 clear hsl
 go_enter Tryz.func306,Tryz.ntmps306
 go_wp2_with fail
 go_loopw [3,8] (fun s3 i wr=>∃ k:Nat,k≤n∧i=.int .i64 k∧s3=.int .i64 (sW f k)∧gM f k=true∧Own w [] wr) (fun _ i _=>n-(intOf i).toNat)
 case atStart=>exact ⟨0,Nat.zero_le _,rfl,rfl,rfl,Own.start w⟩
 case round=>
  obtain⟨k,hk,rfl,rfl,hall,hS⟩:=hrel
  have HA:=zh hall
  clear hall
  by_cases hlt:k < n
  ·obtain ⟨b,off,rfl,-,hc⟩:=(HO.out.below hS.bel) (by omega)
   obtain⟨k0,k1,k2⟩:=hc k hlt
   clear hc
   have HK:=zh (kH f k)
   have HN:=zh (fun h=>Au (f:=f) (k:=k) h n hlt)
   have HC:Hid (sW f (k+1)=(f k).t):=zh rfl
   have HQ:Hid (gM f (k+1)=(gM f k && iy f k)):=zh rfl
   generalize hp:f k=p at k0 k1 k2 HK HC
   generalize hl:sW f k=last at HK ⊢
   have HP:=zh (zN hp hl)
   clear hp hl
   obtain⟨y,hy⟩:∃ y,y=wr.heap.size:=⟨_,rfl⟩
   have HY:=zh (zN hy (hS.alloc hy 149 #[.int .i64 p.t,.int .i64 p.v,.int .i64 p.s]))
   clear hy hS
   go_upto_region 5 with (fail)
   rw[←HY.out.1]
   have hS:=HY.out.2
   clear k0 k1 k2 HY
   refine aH (Own w [(y,149,#[.int .i64 p.t,.int .i64 p.v,.int .i64 p.s])]) hS ?_
   clear hS
   intro w1 hS
   have z0_0:=hS.cell 0 0 rfl rfl;have z0_1:=hS.cell 0 1 rfl rfl;have z0_2:=hS.cell 0 2 rfl rfl
   have HS:=zh hS
   clear hS
   by_cases h1:last < p.t
   ·have d1:decide (p.t≤last)=false:=by simp;omega
    by_cases h2:p.t≤1152921504606846976
    ·have d2:decide (1152921504606846976 < p.t)=false:=by simp;omega
     by_cases h3:0≤p.s
     ·have d3:decide (p.s < 0)=false:=by simp;omega
      by_cases h4:p.s≤1152921504606846976
      ·have d4:decide (1152921504606846976 < p.s)=false:=by simp;omega
       have HT:=zh (show gM f (k+1)=true by rw[HQ.out,HA.out,HK.out.2 ⟨h1,h2,h3,h4⟩];rfl)
       clear h1 h2 h3 h4
       go_wp2_with fail
       go_roundw
       case rel=>exact ⟨k+1,by omega,by go_num,by rw[HC.out],HT.out,HS.out.take 0⟩
       case measure=>simp[intOf];omega
      ·have d4:decide (1152921504606846976 < p.s)=true:=by simp;omega
       have HF:=zh (show dX f n=false by
        unfold dX
        rw[HN.out (by
         cases h:iy f k with
         | false=>rfl
         | true=>have:=HK.out.1 h;omega)]
        rfl)
       go_wp2_with fail
       go_ret
       exact⟨by rw[HF.out];rfl,HS.out.bel⟩
     ·have d3:decide (p.s < 0)=true:=by simp;omega
      have HF:=zh (show dX f n=false by
       unfold dX
       rw[HN.out (by
        cases h:iy f k with
        | false=>rfl
        | true=>have:=HK.out.1 h;omega)]
       rfl)
      go_wp2_with fail
      go_ret
      exact⟨by rw[HF.out];rfl,HS.out.bel⟩
    ·have d2:decide (1152921504606846976 < p.t)=true:=by simp;omega
     have HF:=zh (show dX f n=false by
      unfold dX
      rw[HN.out (by
       cases h:iy f k with
       | false=>rfl
       | true=>have:=HK.out.1 h;omega)]
      rfl)
     go_wp2_with fail
     go_ret
     exact⟨by rw[HF.out];rfl,HS.out.bel⟩
   ·have d1:decide (p.t≤last)=true:=by simp;omega
    have HF:=zh (show dX f n=false by
     unfold dX
     rw[HN.out (by
      cases h:iy f k with
      | false=>rfl
      | true=>have:=HK.out.1 h;omega)]
     rfl)
    go_wp2_with fail
    go_ret
    exact⟨by rw[HF.out];rfl,HS.out.bel⟩
  ·obtain rfl:k=n:=by omega
   have HF:=zh (show dX f k=(decide (0 < k) && decide (k≤4096)) by unfold dX;rw[HA.out];rfl)
   have HB:=zh hS.bel
   clear hS
   by_cases h0:0 < k
   ·by_cases h1:k≤4096
    ·have HR:=zh (show dX f k=true by rw[HF.out];simp[h0,h1])
     have d:decide ((k:Int)≤4096)=true:=by simp;omega
     go_wp2_with fail
     go_ret
     exact⟨by rw[HR.out];first | rfl | (simp only[Array.getD_eq_getD_getElem?];simp;omega),HB.out⟩
    ·have HR:=zh (show dX f k=false by rw[HF.out];simp[h1])
     have d:decide ((k:Int)≤4096)=false:=by simp;omega
     go_wp2_with fail
     go_ret
     exact⟨by rw[HR.out];first | rfl | (simp only[Array.getD_eq_getD_getElem?];simp;omega),HB.out⟩
   ·obtain rfl:k=0:=by omega
    go_wp2_with fail
    go_ret
    exact⟨rfl,HB.out⟩
end
section
open Go.RowKit
def upd{α:Type}(f:Fin 3→α)(c:Fin 3)(u:α): Fin 3→α:=fun d=>if d=c then u else f d
theorem upd_same{α:Type}(f:Fin 3→α)(c:Fin 3)(u:α): upd f c u c=u:=by unfold upd;rw[if_pos rfl]
theorem upd_ne{α:Type}(f:Fin 3→α){c d:Fin 3}(u:α)(h:d≠c): upd f c u d=f d:=by unfold upd;rw[if_neg h]
structure R3(e:Fin 3→TypeId)(w0 w:World)(x:Nat)(v:Fin 3→Value)(l:Fin 3→List Value): Prop where
 own:∀ c,w.ownsRow x (e c) 1 (v c) (l c).length (l c)
 dis:∀ c d,c≠d→∀ g,(v c).ownBlock=some g→(v d).ownBlock≠some g
 keep:Keeps (fun _=>False) w0 w
 base:w0.heap.size≤x
 size:x≤w.heap.size
variable {e:Fin 3→TypeId} {w0 w w':World} {x:Nat} {v z:Fin 3→Value} {l:Fin 3→List Value}
theorem xB{v:Value}(hg:w.grownBy w' v.ownBlock): Keeps (fun k=>v.ownBlock=some k) w w':=(Keeps.refl _ w).grown hg (fun k hk _=>hk)
theorem R3.alloc(h:R3 e w0 w x v l)(o:Obj): R3 e w0 (w.alloc o) x v l:=
 ⟨fun c=>(h.own c).alloc o,h.dis,h.keep.alloc o,h.base,by simp;have:=h.size;omega⟩
theorem R3.drew(h:R3 e w0 w x v l): R3 e w0 w.drew x v l:=⟨fun c=>aF (h.own c) ((Keeps.refl (fun _=>False) w).drew) (fun _ _ h=>h),h.dis,h.keep.drew,h.base,h.size⟩
theorem R3.lt(h:R3 e w0 w x v l)(c:Fin 3){g:Nat}(hg:(v c).ownBlock=some g): x≤g∧g < w.heap.size:=(h.own c).lt g hg
theorem R3.start(e:Fin 3→TypeId)(hk:Keeps (fun _=>False) w0 w): R3 e w0 w w.heap.size (fun _=>.slice none 0 0) (fun _=>[]):=
 ⟨fun c=>⟨rfl,.inl ⟨rfl,rfl⟩⟩,fun _ _ _ g hg=>by simp[Value.ownBlock] at hg,hk,hk.size,Nat.le_refl _⟩
theorem R3.grow(h:R3 e w0 w x v l)(c:Fin 3){v' u:Value}(hown:w'.ownsRow x (e c) 1 v' ((l c).length+1) (l c ++ [u]))(hg:w.grownBy w' (v c).ownBlock)(hb:v'.ownBlock=(v c).ownBlock∨v'.ownBlock=some w.heap.size):
  R3 e w0 w' x (upd v c v') (upd l c (l c ++ [u])):=by
 have hk:=xB hg
 refine⟨fun d=>?_,fun c1 d1 hne g hg1 hg2=>?_,h.keep.trans hk (fun k hk e=>by have:=(h.lt c e).1;have:=h.base;omega),h.base,Nat.le_trans h.size hk.size⟩
 ·by_cases hd:d=c
  ·subst hd
   rw[upd_same,upd_same,List.length_append]
   exact hown
  ·rw[upd_ne _ _ hd,upd_ne _ _ hd]
   exact aF (h.own d) hk (fun g hg e=>h.dis d c hd g hg e)
 ·by_cases h1:c1=c
  ·subst h1
   rw[upd_same] at hg1
   rw[upd_ne _ _ (Ne.symm hne)] at hg2
   rcases hb with hb | hb
   ·exact h.dis c1 d1 hne g (by rw[←hb];exact hg1) hg2
   ·rw[hb] at hg1;injection hg1 with hg1;have:=(h.lt d1 hg2).2;omega
  ·rw[upd_ne _ _ h1] at hg1
   by_cases h2:d1=c
   ·subst h2
    rw[upd_same] at hg2
    rcases hb with hb | hb
    ·exact h.dis c1 d1 hne g hg1 (by rw[←hb];exact hg2)
    ·rw[hb] at hg2;injection hg2 with hg2;have:=(h.lt c1 hg1).2;omega
   ·rw[upd_ne _ _ h2] at hg2
    exact h.dis c1 d1 hne g hg1 hg2
inductive Sg
 | z
 | b (q:Nat)
 | r (q:Nat) (v:Value)
def Sg.row(v:Value): Sg→Value
 | .r _ v'=>v'
 | _=>v
def Sg.kC(l:List Value)(z:Value): Sg→List Value
 | .r _ _=>l ++ [z]
 | _=>l
def ug(q:Nat): Value:=.slice (some ⟨q,0,none⟩) 1 1
structure W3(e:Fin 3→TypeId)(w0:World)(x:Nat)(v z:Fin 3→Value)(l:Fin 3→List Value)(y:Nat)(Y:Option Obj)(s:Fin 3→Sg)(w:World): Prop where
 r:R3 e w0 w x (fun c=>(s c).row (v c)) (fun c=>(s c).kC (l c) (z c))
 cel:∀ c q,s c=.b q→w.cell? ⟨q,0+0,none⟩=some (z c)∧∀ d g,((s d).row (v d)).ownBlock=some g→g≠q
 yk:w.heap[y]? = Y
 yn:∀ d g,((s d).row (v d)).ownBlock=some g→g≠y
 yl:y < w.heap.size
variable {y:Nat} {Y:Option Obj} {s:Fin 3→Sg}
theorem TP{v:Fin 3→Value}{s:Fin 3→Sg}{c:Fin 3}(hs:s c=.z)(q:Nat): (fun d=>(upd s c (.b q) d).row (v d))=fun d=>(s d).row (v d):=by
 funext d
 by_cases h:d=c
 ·subst h;rw[upd_same,hs];rfl
 ·rw[upd_ne _ _ h]
theorem Ue{l:Fin 3→List Value}{z:Fin 3→Value}{s:Fin 3→Sg}{c:Fin 3}(hs:s c=.z)(q:Nat): (fun d=>(upd s c (.b q) d).kC (l d) (z d))=fun d=>(s d).kC (l d) (z d):=by
 funext d
 by_cases h:d=c
 ·subst h;rw[upd_same,hs];rfl
 ·rw[upd_ne _ _ h]
theorem TK{v:Fin 3→Value}(s:Fin 3→Sg)(c:Fin 3)(q:Nat)(v':Value): (fun d=>(upd s c (.r q v') d).row (v d))=upd (fun d=>(s d).row (v d)) c v':=by
 funext d
 by_cases h:d=c
 ·subst h;rw[upd_same,upd_same];rfl
 ·rw[upd_ne _ _ h,upd_ne _ _ h]
theorem TJ{l:Fin 3→List Value}{z:Fin 3→Value}{s:Fin 3→Sg}{c:Fin 3}{q:Nat}(hs:s c=.b q)(v':Value): (fun d=>(upd s c (.r q v') d).kC (l d) (z d))=upd (fun d=>(s d).kC (l d) (z d)) c ((s c).kC (l c) (z c) ++ [z c]):=by
 funext d
 by_cases h:d=c
 ·subst h;rw[upd_same,upd_same,hs];rfl
 ·rw[upd_ne _ _ h,upd_ne _ _ h]
theorem W3.Ut(h:W3 e w0 x v z l y Y s w){c:Fin 3}(hs:s c=.z)(t:TypeId): W3 e w0 x v z l y Y (upd s c (.b w.heap.size)) (w.alloc (.cells #[z c] t)):=by
 have er:=TP (v:=v) hs w.heap.size
 have er':∀ d,(upd s c (.b w.heap.size) d).row (v d)=(s d).row (v d):=fun d=>congrFun er d
 refine⟨?_,fun d q hq=>?_,?_,fun d g hg=>?_,by simp;have:=h.yl;omega⟩
 ·rw[er,Ue hs]
  exact h.r.alloc _
 ·have hg:∀ d' g,((upd s c (.b w.heap.size) d').row (v d')).ownBlock=some g→x≤g∧g < w.heap.size:=fun d' g hg=>by rw[er' d'] at hg;exact h.r.lt d' hg
  by_cases hd:d=c
  ·subst hd
   rw[upd_same] at hq
   injection hq with hq
   subst hq
   exact⟨yR w t (z d) 0 (by omega),fun d' g hg'=>by have:=(hg d' g hg').2;omega⟩
  ·rw[upd_ne _ _ hd] at hq
   obtain⟨h1,h2⟩:=h.cel d q hq
   exact⟨(World.cell?_alloc_lt w _ _ (World.block_lt_of_cell? w _ h1)).trans h1,fun d' g hg'=>h2 d' g (by rw[er' d'] at hg';exact hg')⟩
 ·rw[←h.yk];exact Below.heap_alloc _ _ _ h.yl
 ·rw[er' d] at hg;exact h.yn d g hg
theorem W3.app(h:W3 e w0 x v z l y Y s w){c:Fin 3}{q:Nat}(hs:s c=.b q){v':Value}(hown:w'.ownsRow x (e c) 1 v' (((s c).kC (l c) (z c)).length+1) ((s c).kC (l c) (z c) ++ [z c]))(hg:w.grownBy w' ((s c).row (v c)).ownBlock)(hb:v'.ownBlock=((s c).row (v c)).ownBlock∨v'.ownBlock=some w.heap.size): W3 e w0 x v z l y Y (upd s c (.r q v')) w':=by
 have hk:=xB hg
 have er:=TK (v:=v) s c q v'
 have er':∀ d,(upd s c (.r q v') d).row (v d)=upd (fun d=>(s d).row (v d)) c v' d:=fun d=>congrFun er d
 have hrow:∀ d g,((upd s c (.r q v') d).row (v d)).ownBlock=some g→(∃ d',((s d').row (v d')).ownBlock=some g)∨g=w.heap.size:=fun d g hg'=>by
  rw[er' d] at hg'
  by_cases hd:d=c
  ·subst hd
   rw[upd_same] at hg'
   rcases hb with hb | hb
   ·exact .inl ⟨d,by rw[←hb];exact hg'⟩
   ·rw[hb] at hg';injection hg' with hg';exact .inr hg'.symm
  ·rw[upd_ne _ _ hd] at hg';exact .inl ⟨d,hg'⟩
 refine⟨?_,fun d q2 hq=>?_,?_,fun d g hg'=>?_,Nat.lt_of_lt_of_le h.yl hk.size⟩
 ·rw[er,TJ hs]
  exact h.r.grow c hown hg hb
 ·by_cases hd:d=c
  ·subst hd;rw[upd_same] at hq;cases hq
  ·rw[upd_ne _ _ hd] at hq
   obtain⟨h1,h2⟩:=h.cel d q2 hq
   have hlt:=World.block_lt_of_cell? w _ h1
   refine⟨(World.cell?_of_block (w:=w) (a:=⟨q2,0+0,none⟩) (hk.block q2 hlt (fun e=>h2 c q2 e rfl))).trans h1,fun d' g hg'=>?_⟩
   rcases hrow d' g hg' with ⟨d2,h3⟩ | h3
   ·exact h2 d2 g h3
   ·have:q2 < w.heap.size:=hlt
    omega
 ·rw[←h.yk];exact hk.block y h.yl (fun e=>h.yn c y e rfl)
 ·rcases hrow d g hg' with ⟨d2,h3⟩ | h3
  ·exact h.yn d2 g h3
  ·have:=h.yl;omega
theorem put_comm{a:Act}{i j:Nat}(h:i≠j)(u u':Value): (a.put (some i) u).put (some j) u'=(a.put (some j) u').put (some i) u:=by
 unfold Act.put
 simp only
 rw[Array.setIfInBounds_comm _ _ h]
theorem xG{a:Act}{i j:Nat}(h:i≠j)(u:Value): (a.put (some j) u).eval (.tmp i)=a.eval (.tmp i):=by
 simp[Act.put,Act.eval,Array.getElem?_setIfInBounds,Array.getD_eq_getD_getElem?,Ne.symm h]
theorem Dl{a:Act}{i:Nat}(h:i < a.tmps.size)(u:Value): (a.put (some i) u).eval (.tmp i)=u:=by
 simp[Act.put,Act.eval,Array.getElem?_setIfInBounds,Array.getD_eq_getD_getElem?,h]
theorem OP(a:Act)(i:Nat)(u:Value): (a.put (some i) u).tmps.size=a.tmps.size:=by simp[Act.put]
def Sg.puts(tb tr:Nat): Sg→Act→Act
 | .z,a=>a
 | .b q,a=>a.put (some tb) (ug q)
 | .r q v,a=>(a.put (some tb) (ug q)).put (some tr) v
theorem K7(tb tr:Nat)(a:Act): Sg.puts tb tr .z a=a:=rfl
theorem rG(tb tr q:Nat)(a:Act): Sg.puts tb tr (.b q) a=a.put (some tb) (ug q):=rfl
theorem qB(tb tr q:Nat)(v:Value)(a:Act): Sg.puts tb tr (.r q v) a=(a.put (some tb) (ug q)).put (some tr) v:=rfl
theorem nI(s:Sg){tb tr i:Nat}(h1:i≠tb)(h2:i≠tr)(a:Act)(u:Value): s.puts tb tr (a.put (some i) u)=(s.puts tb tr a).put (some i) u:=by
 cases s with
 | z=>rfl
 | b q=>rw[rG,rG,put_comm h1]
 | r q v=>rw[qB,qB,put_comm h1,put_comm h2]
theorem vP(s:Sg)(tb tr:Nat)(a:Act): (s.puts tb tr a).tmps.size=a.tmps.size:=by cases s<;>simp[Sg.puts,OP]
theorem vT(s:Sg){tb tr i:Nat}(h1:i≠tb)(h2:i≠tr)(a:Act): (s.puts tb tr a).eval (.tmp i)=a.eval (.tmp i):=by
 cases s<;>simp[Sg.puts,xG h1,xG h2]
def j5(tb tr:Fin 3→Nat)(s:Fin 3→Sg)(a:Act): Act:=(s 2).puts (tb 2) (tr 2) ((s 1).puts (tb 1) (tr 1) ((s 0).puts (tb 0) (tr 0) a))
def Hq(tb tr:Fin 3→Nat): Prop:=∀ c d,(c≠d→tb c≠tb d∧tr c≠tr d)∧tb c≠tr d
theorem EF{tb tr:Fin 3→Nat}(h6:Hq tb tr){s:Fin 3→Sg}{c:Fin 3}(hs:s c=.z)(q:Nat)(a:Act): (j5 tb tr s a).put (some (tb c)) (ug q)=j5 tb tr (upd s c (.b q)) a:=by
 have hb:=fun c d h=>((h6 c d).1 h).1
 have hr:=fun c d=>(h6 c d).2
 unfold j5
 match c,hs with
 | 0,hs=>rw[upd_same,upd_ne _ _ (by decide),upd_ne _ _ (by decide),hs,rG,nI _ (hb 0 1 (by decide)) (hr 0 1),nI _ (hb 0 2 (by decide)) (hr 0 2),K7]
 | 1,hs=>rw[upd_same,upd_ne _ _ (by decide),upd_ne _ _ (by decide),hs,rG,nI _ (hb 1 2 (by decide)) (hr 1 2),K7]
 | 2,hs=>rw[upd_same,upd_ne _ _ (by decide),upd_ne _ _ (by decide),hs];rfl
theorem Ot{tb tr:Fin 3→Nat}(h6:Hq tb tr){s:Fin 3→Sg}{c:Fin 3}{q:Nat}(hs:s c=.b q)(v':Value)(a:Act): (j5 tb tr s a).put (some (tr c)) v'=j5 tb tr (upd s c (.r q v')) a:=by
 have hb:=fun c d h=>((h6 c d).1 h).2
 have hr:=fun c d=>((h6 c d).2).symm
 unfold j5
 match c,hs with
 | 0,hs=>rw[upd_same,upd_ne _ _ (by decide),upd_ne _ _ (by decide),hs,qB,nI _ (hr 1 0) (hb 0 1 (by decide)),nI _ (hr 2 0) (hb 0 2 (by decide)),rG]
 | 1,hs=>rw[upd_same,upd_ne _ _ (by decide),upd_ne _ _ (by decide),hs,qB,nI _ (hr 2 1) (hb 1 2 (by decide)),rG]
 | 2,hs=>rw[upd_same,upd_ne _ _ (by decide),upd_ne _ _ (by decide),hs];rfl
theorem CK{tb tr:Fin 3→Nat}(s:Fin 3→Sg){i:Nat}(h:∀ c,i≠tb c∧i≠tr c)(a:Act): (j5 tb tr s a).eval (.tmp i)=a.eval (.tmp i):=by
 unfold j5
 rw[vT _ (h 2).1 (h 2).2,vT _ (h 1).1 (h 1).2,vT _ (h 0).1 (h 0).2]
theorem M7(tb tr:Fin 3→Nat)(s:Fin 3→Sg)(a:Act): (j5 tb tr s a).tmps.size=a.tmps.size:=by unfold j5;rw[vP,vP,vP]
theorem Pj{tb tr:Fin 3→Nat}(h6:Hq tb tr){s:Fin 3→Sg}{c:Fin 3}{q:Nat}(hs:s c=.b q)(a:Act)(hsz:tb c < a.tmps.size): (j5 tb tr s a).eval (.tmp (tb c))=ug q:=by
 have e:s=upd (upd s c .z) c (.b q):=by
  funext d
  by_cases h:d=c
  ·subst h;rw[upd_same,hs]
  ·rw[upd_ne _ _ h,upd_ne _ _ h]
 rw[e,←EF h6 (upd_same _ _ _),Dl (by rw[M7];exact hsz)]
def Sg.b1: Sg→Bool
 | .z=>false
 | _=>true
def Sg.b2: Sg→Bool
 | .r _ _=>true
 | _=>false
def Sg.Hw(bb:Bool)(i j:Nat): Sg→List Nat
 | .z=>[i]
 | .b _=>if bb=true then [j] else []
 | .r _ _=>[]
def Sq(jb ja:Fin 3→Nat)(s:Fin 3→Sg): List Nat:=(s 0).Hw true (jb 0) (ja 0) ++ ((s 1).Hw (s 0).b2 (jb 1) (ja 1) ++ (s 2).Hw (s 1).b2 (jb 2) (ja 2))
def Cr(s:Fin 3→Sg): Prop:=((s 1).b2=true→(s 0).b2=true)∧((s 2).b2=true→(s 1).b2=true)
theorem Rk{s:Fin 3→Sg}(h:Cr s){c:Fin 3}(hs:s c=.z)(q:Nat): Cr (upd s c (.b q)):=by
 have e:∀ d,(upd s c (.b q) d).b2=(s d).b2:=fun d=>by
  by_cases hd:d=c
  ·subst hd;rw[upd_same,hs];rfl
  ·rw[upd_ne _ _ hd]
 unfold Cr
 rw[e,e,e]
 exact h
theorem RL{s:Fin 3→Sg}(h:Cr s){c:Fin 3}{q:Nat}(hs:s c=.b q)(hp:c=0∨c=1∧(s 0).b2=true∨c=2∧(s 1).b2=true)(v':Value): Cr (upd s c (.r q v')):=by
 have hf:(s c).b2=false:=by rw[hs];rfl
 rcases hp with rfl | ⟨rfl,hb⟩ | ⟨rfl,hb⟩
 ·exact ⟨fun _=>by rw[upd_same];rfl,fun h2=>by rw[upd_ne _ _ (by decide)] at h2 ⊢;exact h.2 h2⟩
 ·exact ⟨fun _=>by rw[upd_ne _ _ (by decide)];exact hb,fun _=>by rw[upd_same];rfl⟩
 ·exact ⟨fun h2=>by rw[upd_ne _ _ (by decide)] at h2 ⊢;exact h.1 h2,fun _=>by rw[upd_ne _ _ (by decide)];exact hb⟩
def Sg.left: Sg→Nat
 | .z=>2
 | .b _=>1
 | .r _ _=>0
def mW(s:Fin 3→Sg): Nat:=(s 0).left+(s 1).left+(s 2).left
theorem Cx(s:Fin 3→Sg)(c:Fin 3)(g:Sg)(h:g.left+1=(s c).left): mW (upd s c g)+1=mW s:=by
 unfold mW
 match c,h with
 | 0,h=>rw[upd_same,upd_ne _ _ (by decide),upd_ne _ _ (by decide)];omega
 | 1,h=>rw[upd_same,upd_ne _ _ (by decide),upd_ne _ _ (by decide)];omega
 | 2,h=>rw[upd_same,upd_ne _ _ (by decide),upd_ne _ _ (by decide)];omega
section
variable {P:Program} {ops:Array Oper} {Q:Exit→Act→World→Prop} {S:World→Prop}
theorem I8{o:Oper}{a:Act}{w:World}{K:Act→World→Prop}{E:Prop}(t e:TypeId)(hgd:o.guard=none)(x:Operand){u zz:Value}(ho:o.op=.buildSlice t 1 #[(0,x)])(hx:a.eval x=u)(hu1:u.oneCell'=true){bytes:Nat}(he:dL P t e zz bytes)(h:K (a.put o.dst (ug w.heap.size)) (w.alloc (.cells #[u] e))):
  if Region.wanted o (yielded ops a.tmps)=true then Oper.wp P o a w K Q else E:=by
 have hw:Region.wanted o (yielded ops a.tmps)=true:=by simp[Region.wanted,hgd]
 rw[if_pos hw]
 obtain⟨ht,hz1,i,hi,hz,hs,hb⟩:=he
 refine wp_buildSlice t e 1 #[(0,x)] ho #[u] i zz ht hi hz (by rw[hs];decide) (by rw[hs];decide) ?_ h
 have hone:u.cells=#[u]:=by cases u<;>first | rfl | simp[Value.oneCell'] at hu1
 have h1:∀ A:Array Value,A.size=1→A.setIfInBounds 0 u=#[u]:=fun A hA=>by
  apply Array.ext
  ·simp[hA]
  ·intro j h1 h2
   have:j=0:=by simp at h2;omega
   subst this
   simp
 simp[Instr.fill,hx,hs,hone]
 exact h1 _ (by simp)
end
structure Ul(P:Program)(ops:Array Oper)(tb tr:Fin 3→Nat)(jb ja:Fin 3→Nat)(tm tv:Fin 3→Nat)(t e:Fin 3→TypeId)(zz:Fin 3→Value)(by_:Fin 3→Nat)(kC:(Fin 3→Sg)→Array Bool): Prop where
 six:Hq tb tr
 elem:∀ c,dL P (t c) (e c) (zz c) (by_ c)
 bop:∀ c,∃ o,ops[jb c]? = some o∧o.guard=none∧o.op=.buildSlice (t c) 1 #[(0,.tmp (tv c))]∧o.dst=some (tb c)
 aop:∀ c,∃ o,ops[ja c]? = some o∧o.guard=none∧o.op=.call { callee:=.builtin .append,args:=#[.tmp (tm c),.tmp (tb c)],argTypes:=#[t c,t c] }∧o.dst=some (tr c)
 off:∀ c d,(tm c≠tb d∧tm c≠tr d)∧(tv c≠tb d∧tv c≠tr d)
 lb:∀ s c q,s c=.z→(kC s).setIfInBounds (jb c) true=kC (upd s c (.b q))
 lr:∀ s c q v',s c=.b q→(kC s).setIfInBounds (ja c) true=kC (upd s c (.r q v'))
 ready:∀ s,Cr s→0 < mW s→Region.ready .any ops (kC s)=Sq jb ja s
theorem Ta{P:Program}{ops:Array Oper}{Q:Exit→Act→World→Prop}{S:World→Prop}{tb tr jb ja tm tv:Fin 3→Nat}{t:Fin 3→TypeId}{zz:Fin 3→Value}{by_:Fin 3→Nat}{kC:(Fin 3→Sg)→Array Bool}(hR:Ul P ops tb tr jb ja tm tv t e zz by_ kC)(a:Act)(hsz:∀ c,tb c < a.tmps.size)(hm:∀ c,a.eval (.tmp (tm c))=v c)(hv:∀ c,a.eval (.tmp (tv c))=z c)(h1:∀ c,(z c).oneCell'=true)(hl:∀ c,(l c).length+1≤maxLen∧((l c).length+1)*by_ c≤140737488355328)(hS:∀ s w,W3 e w0 x v z l y Y s w→S w)(fuel:Nat)(hend:∀ s w,mW s=0→W3 e w0 x v z l y Y s w→wpAnyH P .any ops Q S fuel (kC s) (j5 tb tr s a) w):
  ∀ m s w,mW s=m→Cr s→W3 e w0 x v z l y Y s w→wpAnyH P .any ops Q S (fuel+m) (kC s) (j5 tb tr s a) w
 | 0,s,w,hm0,_,hW=>hend s w hm0 hW
 | m+1,s,w,hm0,hok,hW=>by
  have ih:=Ta hR a hsz hm hv h1 hl hS fuel hend m
  have go1:∀ c,s c=.z→AllReadyH P .any ops Q S (fuel+m) (kC s) (j5 tb tr s a) w [jb c]:=by
   intro c hs
   obtain⟨o,ho,hgd,hop,hdst⟩:=hR.bop c
   refine AllReadyH.cons ho (fun K hK=>?_) AllReadyH.nil
   refine I8 (t c) (e c) hgd _ hop ((CK s (fun d=>(hR.off c d).2) a).trans (hv c)) (h1 c) (hR.elem c) ?_
   rw[hdst,EF hR.six hs]
   have hW':=hW.Ut hs (e c)
   refine hK.out _ _ (hS _ _ hW') (fun _=>?_)
   rw[hR.lb s c w.heap.size hs]
   exact ih _ _ (by have:=Cx s c (.b w.heap.size) (by rw[hs];rfl);omega) (Rk hok hs _) hW'
  have go2:∀ c q,s c=.b q→(c=0∨c=1∧(s 0).b2=true∨c=2∧(s 1).b2=true)→AllReadyH P .any ops Q S (fuel+m) (kC s) (j5 tb tr s a) w [ja c]:=by
   intro c q hs hp
   obtain⟨o,ho,hgd,hop,hdst⟩:=hR.aop c
   refine AllReadyH.cons ho (fun K hK=>?_) AllReadyH.nil
   obtain⟨hc,-⟩:=hW.cel c q hs
   have hown:=hW.r.own c
   simp only[hs] at hown
   refine lF (A:=some ⟨q,0,none⟩) (c:=1) (D:=fun _=>True) (m:=1) (f:=fun _=>z c) (hR.elem c) hgd _ _ hop ((CK s (fun d=>(hR.off c d).1) a).trans (hm c)) (Pj hR.six hs a (hsz c)) hown
    (fun _=>⟨q,0,rfl,trivial,fun j hj=>by
      obtain rfl:j=0:=by omega
      exact hc⟩) (fun _ _=>h1 c) (hl c).1 (hl c).2 hW.r.size ?_
   intro v' w' h2 h3 h4
   rw[hdst,Ot hR.six hs]
   have hW':=hW.app (w':=w') (v':=v') hs (by rw[hs];exact h2) (by rw[hs];exact h3) (by rw[hs];exact h4)
   refine hK.out _ _ (hS _ _ hW') (fun _=>?_)
   rw[hR.lr s c q v' hs]
   exact ih _ _ (by have:=Cx s c (.r q v') (by rw[hs];rfl);omega) (RL hok hs hp v') hW'
  have go:∀ c bb,(bb=true→c=0∨c=1∧(s 0).b2=true∨c=2∧(s 1).b2=true)→AllReadyH P .any ops Q S (fuel+m) (kC s) (j5 tb tr s a) w ((s c).Hw bb (jb c) (ja c)):=by
   intro c bb hbb
   cases hs:s c with
   | z=>exact go1 c hs
   | b q=>
    show AllReadyH P .any ops Q S (fuel+m) (kC s) (j5 tb tr s a) w (if bb=true then [ja c] else [])
    cases bb with
    | false=>exact AllReadyH.nil
    | true=>exact go2 c q hs (hbb rfl)
   | r q v'=>exact AllReadyH.nil
  refine wpAnyH_ready (hR.ready s hok (by omega)) ?_ ?_
  ·intro h0
   unfold Sq at h0
   simp only[List.append_eq_nil_iff] at h0
   obtain⟨g0,g1,g2⟩:=h0
   have hz:∀ g:Sg,∀ i j,g.Hw true i j=[]→g.left=0∧g.b2=true:=fun g i j h=>by cases g<;>first | exact ⟨rfl,rfl⟩ | cases h
   have k0:=hz _ _ _ g0
   rw[k0.2] at g1
   have k1:=hz _ _ _ g1
   rw[k1.2] at g2
   have k2:=hz _ _ _ g2
   have:=k0.1
   have:=k1.1
   have:=k2.1
   unfold mW at hm0
   omega
  ·intro i hi
   rcases List.mem_append.1 hi with h | h
   ·exact go 0 true (fun _=>.inl rfl) i h
   ·rcases List.mem_append.1 h with h | h
    ·exact go 1 _ (fun hb=>.inr (.inl ⟨rfl,hb⟩)) i h
    ·exact go 2 _ (fun hb=>.inr (.inr ⟨rfl,hb⟩)) i h
end
namespace F
def oP(s:Nat): Nat:=if s%2=1 then s / 2 ^^^ 3988292384 else s / 2
def gN: Nat→Nat→Nat
 | 0,s=>s
 | n+1,s=>gN n (oP s)
theorem Tw(a b s:Nat): gN (a+b) s=gN b (gN a s):=by
 induction a generalizing s with
 | zero=>rw[Nat.zero_add];rfl
 | succ a ih=>rw[Nat.succ_add];exact ih (oP s)
theorem QZ{s:Nat}(h:s < 4294967296): oP s < 4294967296:=by
 unfold oP
 split
 ·exact Nat.xor_lt_two_pow (n:=32) (by omega) (by omega)
 ·omega
theorem J9(n:Nat){s:Nat}(h:s < 4294967296): gN n s < 4294967296:=by
 induction n generalizing s with
 | zero=>exact h
 | succ n ih=>exact ih (QZ h)
theorem Um(a b p:Nat): a ^^^ b=(a ^^^ p) ^^^ (b ^^^ p):=by
 apply Nat.eq_of_testBit_eq
 intro i
 simp only[Nat.testBit_xor]
 cases a.testBit i<;>cases b.testBit i<;>cases p.testBit i<;>rfl
theorem TQ(a b p:Nat): a ^^^ b ^^^ p=(a ^^^ p) ^^^ b:=by
 apply Nat.eq_of_testBit_eq
 intro i
 simp only[Nat.testBit_xor]
 cases a.testBit i<;>cases b.testBit i<;>cases p.testBit i<;>rfl
theorem Qi(a b:Nat): (a ^^^ b)%2=(a%2+b%2)%2:=by
 have h:(a ^^^ b)%2 ^ 1=a%2 ^ 1 ^^^ b%2 ^ 1:=Nat.xor_mod_two_pow
 simp only[Nat.pow_one] at h
 rw[h]
 rcases(show a%2=0∨a%2=1 by omega) with e | e<;>rcases (show b%2=0∨b%2=1 by omega) with k | k<;>rw[e,k]<;>rfl
theorem Ox(a b:Nat): oP (a ^^^ b)=oP a ^^^ oP b:=by
 have hm:=Qi a b
 unfold oP
 rw[Nat.xor_div_two]
 by_cases ha:a%2=1
 ·by_cases hb:b%2=1
  ·rw[if_neg (by omega),if_pos ha,if_pos hb];exact Um _ _ _
  ·rw[if_pos (by omega),if_pos ha,if_neg hb];exact TQ _ _ _
 ·by_cases hb:b%2=1
  ·rw[if_pos (by omega),if_neg ha,if_pos hb];exact Nat.xor_assoc _ _ _
  ·rw[if_neg (by omega),if_neg ha,if_neg hb]
theorem SY(n a b:Nat): gN n (a ^^^ b)=gN n a ^^^ gN n b:=by
 induction n generalizing a b with
 | zero=>rfl
 | succ n ih=>show gN n (oP (a ^^^ b))=_;rw[Ox];exact ih _ _
theorem NY(x:Nat): oP (2*x)=x:=by unfold oP;rw[if_neg (by omega)];omega
theorem Sj(n x:Nat): gN n (2 ^ n*x)=x:=by
 induction n with
 | zero=>show 2 ^ 0*x=x;omega
 | succ n ih=>
  show gN n (oP (2 ^ (n+1)*x))=x
  rw[Nat.pow_succ,Nat.mul_comm (2 ^ n) 2,Nat.mul_assoc,NY]
  exact ih
theorem O1(n t k:Nat)(h:k < 2 ^ n): 2 ^ n*t ^^^ k=2 ^ n*t+k:=by
 have h1:(2 ^ n*t ^^^ k) / 2 ^ n=t:=by
  rw[Nat.xor_div_two_pow,Nat.mul_div_cancel_left _ (Nat.two_pow_pos n),Nat.div_eq_of_lt h,Nat.xor_zero]
 have h2:(2 ^ n*t ^^^ k)%2 ^ n=k:=by
  rw[Nat.xor_mod_two_pow,Nat.mul_mod_right,Nat.mod_eq_of_lt h,Nat.zero_xor]
 have h3:=Nat.div_add_mod (2 ^ n*t ^^^ k) (2 ^ n)
 rw[h1,h2] at h3
 exact h3.symm
theorem MV(n s:Nat): s=2 ^ n*(s / 2 ^ n) ^^^ s%2 ^ n:=by
 rw[O1 n _ _ (Nat.mod_lt _ (Nat.two_pow_pos n))]
 exact(Nat.div_add_mod s (2 ^ n)).symm
theorem OT(n s:Nat): gN n s=s / 2 ^ n ^^^ gN n (s%2 ^ n):=by
 have h:=MV n s
 have h2:gN n s=gN n (2 ^ n*(s / 2 ^ n) ^^^ s%2 ^ n):=by rw[←h]
 rw[h2,SY,Sj]
def Dw: List Nat:=[0,498536548,997073096,651767980,1994146192,1802195444,1303535960,1342533948,3988292384,4027552580,3604390888,3412177804,2607071920,2262029012,2685067896,3183342108]
theorem D8(k:Nat)(h:k < 16): gN 4 k=Dw.getD k 0:=by
 rcases(show k=0∨k=1∨k=2∨k=3∨k=4∨k=5∨k=6∨k=7∨k=8∨k=9∨k=10∨k=11∨k=12∨k=13∨k=14∨k=15 by omega) with
  rfl | rfl | rfl | rfl | rfl | rfl | rfl | rfl | rfl | rfl | rfl | rfl | rfl | rfl | rfl | rfl<;>decide
theorem QV(s:Nat): s / 16 ^^^ Dw.getD (s%16) 0=gN 4 s:=by
 rw[←D8 _ (Nat.mod_lt _ (by omega))]
 exact(OT 4 s).symm
def rC: List Nat→Nat→Nat
 | [],s=>s
 | b :: l,s=>rC l (gN 8 (s ^^^ b))
def oN(l:List Nat): Nat:=rC l 4294967295 ^^^ 4294967295
theorem Gd(l m:List Nat)(s:Nat): rC (l ++ m) s=rC m (rC l s):=by
 induction l generalizing s with
 | nil=>rfl
 | cons b l ih=>exact ih _
theorem GK{l:List Nat}{s:Nat}(hl:∀ b ∈ l,b < 256)(hs:s < 4294967296): rC l s < 4294967296:=by
 induction l generalizing s with
 | nil=>exact hs
 | cons b l ih=>
  refine ih (fun x hx=>hl x (by simp[hx])) (J9 8 ?_)
  have:=hl b (by simp)
  exact Nat.xor_lt_two_pow (n:=32) hs (by omega)
theorem Bu{l:List Nat}(hl:∀ b ∈ l,b < 256): oN l < 4294967296:=
 Nat.xor_lt_two_pow (n:=32) (GK hl (by omega)) (by omega)
def le: List Nat→Nat
 | []=>0
 | b :: l=>b+256*le l
theorem Kv{l:List Nat}(hl:∀ b ∈ l,b < 256): le l < 2 ^ (8*l.length):=by
 induction l with
 | nil=>simp[le]
 | cons b l ih=>
  have h1:=ih (fun x hx=>hl x (by simp[hx]))
  have h2:=hl b (by simp)
  rw[List.length_cons,Nat.mul_add,Nat.pow_add,show (2:Nat) ^ (8*1)=256 by decide]
  show b+256*le l < _
  omega
end F
namespace F
open Go.RowKit
theorem kY{k:IntKind}{a b:Int}(h:a=b): Ending.returned (.int k a)=.returned (.int k b):=by rw[h]
def qv(k:Nat): Nat:=Dw.getD k 0
theorem Uc(k:Nat): qv k < 4294967296:=by
 unfold qv
 rcases Nat.lt_or_ge k 16 with h | h
 ·rw[←D8 k h];exact J9 4 (by omega)
 ·rw[List.getD_eq_getElem?_getD,List.getElem?_eq_none (by simpa [Dw] using h)];decide
theorem Cj(y:Nat)(hy:y < 4294967296): bits .xor .u32 ((y:Int) / 16) (qv (y%16):Nat)=((gN 4 y:Nat):Int):=by
 rw[show (y:Int) / 16=((y / 16:Nat):Int) by omega,u32_xor_nat _ _ (by omega) (Uc _)]
 unfold qv
 rw[QV]
theorem N7(k:Nat)(hk:k < 16)(w:World): (Instr.index 483 (.agg #[.int .u32 0,.int .u32 498536548,.int .u32 997073096,.int .u32 651767980,.int .u32 1994146192,.int .u32 1802195444,.int .u32 1303535960,.int .u32 1342533948,.int .u32 3988292384,.int .u32 4027552580,.int .u32 3604390888,.int .u32 3412177804,.int .u32 2607071920,.int .u32 2262029012,.int .u32 2685067896,.int .u32 3183342108]) (.int .u32 (k:Nat))).run Tryz.prog w=.ok (.int .u32 (qv k:Nat)) w:=by
 rcases(show k=0∨k=1∨k=2∨k=3∨k=4∨k=5∨k=6∨k=7∨k=8∨k=9∨k=10∨k=11∨k=12∨k=13∨k=14∨k=15 by omega) with
  rfl | rfl | rfl | rfl | rfl | rfl | rfl | rfl | rfl | rfl | rfl | rfl | rfl | rfl | rfl | rfl<;>kernel_rfl
theorem xJ(s:Nat)(w:World)(hs:s < 4294967296): Calls Tryz.prog 300 #[.int .u32 (s:Nat)] w fun e w'=>e=.returned (.int .u32 (qv (s%16):Nat))∧w=w':=by
 have e1:bits .and .u32 (s:Int) 15=((s%16:Nat):Int):=by rw[show (15:Int)=((15:Nat):Int) from rfl,u32_and_nat _ _ hs (by omega),nat_mask4]
 obtain⟨k,hk⟩:∃ k,k=s%16:=⟨_,rfl⟩
 have hk16:k < 16:=by omega
 rw[←hk] at e1
 rw[←hk]
 clear hk hs
 have ix:=N7 k hk16
 go_enter Tryz.func300,Tryz.ntmps300
 go_wp2_with fail
 go_ret
 exact⟨rfl,rfl⟩
theorem PG(bs:List Nat)(k:Nat)(h:k < bs.length): rC (bs.take (k+1)) 4294967295=gN 4 (gN 4 (rC (bs.take k) 4294967295 ^^^ bs.getD k 0)):=by
 rw[List.take_succ_eq_append_getElem h,Gd,List.getD_eq_getElem?_getD,List.getElem?_eq_getElem h]
 show gN 8 (_ ^^^ bs[k])=gN 4 (gN 4 (_ ^^^ bs[k]))
 rw[←Tw]
theorem gZ{bs:List Nat}(hb:∀ j,bs.getD j 0 < 256)(k:Nat): ∀ b ∈ bs.take k,b < 256:=by
 intro b hm
 obtain⟨i,hi,rfl⟩:=List.getElem_of_mem (List.mem_of_mem_take hm)
 have:=hb i
 rw[List.getD_eq_getElem?_getD,List.getElem?_eq_getElem hi] at this
 exact this
theorem kP{bs:List Nat}(hb:∀ j,bs.getD j 0 < 256): ∀ b ∈ bs,b < 256:=by
 have:=gZ hb bs.length
 rwa [List.take_length] at this
theorem Ib(w:World)(A:Option Addr)(len c:Nat)(D:Nat→Prop)(bs:List Nat)(hl:bs.length=len)(hsl:Sl w D A len (aD bs))(hb:∀ j,bs.getD j 0 < 256)(hlen:len≤2097152):
  Calls Tryz.prog 214 #[.slice A len c] w fun e w'=>e=.returned (.int .u32 (oN bs:Nat))∧w=w':=by
 have HS:=zh (zN hl (zN hsl hb))
 clear hl hsl hb
 go_enter Tryz.func214,Tryz.ntmps214
 go_wp2_with fail
 go_loopw [3,8] (fun s i wr=>∃ k:Nat,k≤len∧i=.int .i64 k∧s=.int .u32 (rC (bs.take k) 4294967295:Nat)∧w=wr) (fun _ i _=>len-(intOf i).toNat)
 case atStart=>exact ⟨0,Nat.zero_le _,rfl,rfl,rfl⟩
 case round=>
  obtain⟨k,hk,rfl,rfl,rfl⟩:=hrel
  have hsl:=GK (s:=4294967295) (gZ HS.out.2.2 k) (by omega)
  obtain⟨s,hs⟩:∃ s,s=rC (bs.take k) 4294967295:=⟨_,rfl⟩
  rw[←hs] at hsl
  rw[←hs]
  by_cases hlt:k < len
  ·obtain ⟨b,off,hA,-,hc⟩:=HS.out.2.1 (by omega)
   have ck:w.cell? ⟨b,off+k,none⟩=some (.int .u8 (bs.getD k 0:Nat)):=hc k hlt
   subst hA
   have hx:=HS.out.2.2 k
   obtain⟨x,hxx⟩:∃ x,x=bs.getD k 0:=⟨_,rfl⟩
   rw[←hxx] at hx ck
   have e0:bits .xor .u32 (s:Int) (x:Int)=((s ^^^ x:Nat):Int):=u32_xor_nat _ _ hsl (by omega)
   have hsx:s ^^^ x < 4294967296:=Nat.xor_lt_two_pow (n:=32) hsl (by omega)
   obtain⟨y,hy⟩:∃ y,y=s ^^^ x:=⟨_,rfl⟩
   rw[←hy] at e0 hsx
   have HY:=zh (zN hy (zN hs (zN hxx hsx)))
   clear hc hs hxx hy
   go_wp2_with fail
   refine(xJ y _ HY.out.2.2.2).mono ?_
   rintro e w2 ⟨rfl,rfl⟩
   have e1:=Cj y HY.out.2.2.2
   have hg1:=J9 4 HY.out.2.2.2
   have e2:=Cj (gN 4 y) hg1
   obtain⟨z,hz⟩:∃ z,z=gN 4 y:=⟨_,rfl⟩
   rw[←hz] at e1 e2 hg1
   have HZ:=zh (zN hz (zN e2 hg1))
   clear hz e2 e0
   go_wp2_with fail
   refine(xJ z _ HZ.out.2.2).mono ?_
   rintro e w2 ⟨rfl,rfl⟩
   have e2:=HZ.out.2.1
   obtain⟨u,hu⟩:∃ u,u=gN 4 z:=⟨_,rfl⟩
   rw[←hu] at e2
   have HU:=zh hu
   clear hu e1
   go_wp2_with fail
   go_roundw
   case rel=>
    refine⟨k+1,by omega,by go_num,?_,by trivial⟩
    obtain⟨hl,-,-⟩:=HS.out
    rw[PG bs k (by omega),←HY.out.2.1,←HY.out.2.2.1,←HY.out.1,←HZ.out.1,←HU.out]
   case measure=>simp[intOf];omega
  ·have e0:bits .xor .u32 (s:Int) 4294967295=((oN bs:Nat):Int):=by
    rw[show (4294967295:Int)=((4294967295:Nat):Int) from rfl,u32_xor_nat _ _ hsl (by omega),hs]
    obtain⟨hl,-,-⟩:=HS.out
    rw[List.take_of_length_le (by omega)]
    rfl
   clear hs
   go_wp2_with fail
   go_ret
   exact⟨rfl,rfl⟩
def fH(u:Nat): List Nat:=[u%256,u / 256%256,u / 65536%256,u / 16777216%256]
def EM(w:World)(u:Nat)(e:Ending)(w':World): Prop:=
 e=.returned (.agg #[.int .u8 ((u:Int)%256),.int .u8 ((u:Int) / 256%256),.int .u8 ((u:Int) / 65536%256),.int .u8 ((u:Int) / 16777216%256)])∧Below w.heap.size w w'
theorem DX(u:Nat)(w:World)(hu:u < 4294967296): Calls Tryz.prog 213 #[.int .u32 (u:Nat)] w (EM w u):=by
 go_enter Tryz.func213,Tryz.ntmps213
 go_wp2_with fail
 have hb:=au.fresh w 333 #[.int .u8 ((u:Int)%256),.int .u8 ((u:Int) / 256%256),.int .u8 ((u:Int) / 65536%256),.int .u8 ((u:Int) / 16777216)]
 have bel:=(Below.refl w.heap.size w).alloc (Nat.le_refl _) (.cells #[.int .u8 ((u:Int)%256),.int .u8 ((u:Int) / 256%256),.int .u8 ((u:Int) / 65536%256),.int .u8 ((u:Int) / 16777216)] 333)
 generalize w.alloc (.cells #[.int .u8 ((u:Int)%256),.int .u8 ((u:Int) / 256%256),.int .u8 ((u:Int) / 65536%256),.int .u8 ((u:Int) / 16777216)] 333)=w2 at hb bel ⊢
 have r0:=hb.cell 0
 have r1:=hb.cell 1
 have r2:=hb.cell 2
 have r3:=hb.cell 3
 simp at r0 r1 r2 r3
 refine bodyPost_ret (v:=.agg #[.int .u8 ((u:Int)%256),.int .u8 ((u:Int) / 256%256),.int .u8 ((u:Int) / 65536%256),.int .u8 ((u:Int) / 16777216)]) (by simp[results,Tryz.results213,go_sem,r0,r1,r2,r3]) rfl ⟨?_,bel⟩
 rw[show (u:Int) / 16777216%256=(u:Int) / 16777216 by omega]
theorem Iu(w:World)(g u:Nat)(h:au w g 333 #[.int .u8 ((u:Int)%256),.int .u8 ((u:Int) / 256%256),.int .u8 ((u:Int) / 65536%256),.int .u8 ((u:Int) / 16777216%256)]): Sl w (fun k=>k=g) (some ⟨g,0,none⟩) 4 (aD (fH u)):=fun _=>
 ⟨_,_,rfl,rfl,fun j hj=>by
  rw[h.cell (0+j)]
  rcases(show j=0∨j=1∨j=2∨j=3 by omega) with rfl | rfl | rfl | rfl
  ·show some (Value.int .u8 ((u:Int)%256))=some (.int .u8 ((u%256:Nat):Int));rw[show ((u%256:Nat):Int)=(u:Int)%256 by omega]
  ·show some (Value.int .u8 ((u:Int) / 256%256))=some (.int .u8 ((u / 256%256:Nat):Int));rw[show ((u / 256%256:Nat):Int)=(u:Int) / 256%256 by omega]
  ·show some (Value.int .u8 ((u:Int) / 65536%256))=some (.int .u8 ((u / 65536%256:Nat):Int));rw[show ((u / 65536%256:Nat):Int)=(u:Int) / 65536%256 by omega]
  ·show some (Value.int .u8 ((u:Int) / 16777216%256))=some (.int .u8 ((u / 16777216%256:Nat):Int));rw[show ((u / 16777216%256:Nat):Int)=(u:Int) / 16777216%256 by omega]⟩
theorem AB(u:Nat): ∀ b ∈ fH u,b < 256:=by
 intro b hb
 simp only[fH,List.mem_cons,List.not_mem_nil,or_false] at hb
 omega
theorem Bf(u:Nat)(hu:u < 4294967296): le (fH u)=u:=by
 show u%256+256*(u / 256%256+256*(u / 65536%256+256*(u / 16777216%256+256*0)))=u
 omega
end F
namespace F
open Go.RowKit
def aI(b:Nat): Value:=.int .u8 (b:Int)
theorem byteElem: dL Tryz.prog 72 5 (.int .u8 0) 1:=dL.mk' Tryz.underlying72 rfl (by kernel_rfl)
theorem fE{bs:List Nat}{len:Nat}(hl:bs.length=len): (List.range len).map (aD bs)=bs.map aI:=by
 subst hl
 apply List.ext_getElem (by simp)
 intro j h1 h2
 simp at h1
 simp[aD,aI,List.getD_eq_getElem?_getD,List.getElem?_eq_getElem h1]
def iq(kind:Nat)(bs:List Nat): List Nat:=kind :: (fH bs.length ++ bs)
def aN(kind:Nat)(bs:List Nat): List Nat:=iq kind bs ++ fH (oN (iq kind bs))
theorem pz{kind:Nat}{bs:List Nat}(hk:kind < 256)(hb:∀ j,bs.getD j 0 < 256): ∀ b ∈ iq kind bs,b < 256:=by
 intro b hm
 unfold iq at hm
 simp only[List.mem_cons,List.mem_append] at hm
 rcases hm with rfl | hm | hm
 ·exact hk
 ·exact AB _ b hm
 ·exact kP hb b hm
theorem mV(kind:Nat)(bs:List Nat): (iq kind bs).length=bs.length+5:=by simp[iq,fH]
theorem bB(kind:Nat)(bs:List Nat): (aN kind bs).length=bs.length+9:=by unfold aN;rw[List.length_append,mV];simp[fH]
theorem lM{bs:List Nat}(h:∀ b ∈ bs,b < 256)(j:Nat): bs.getD j 0 < 256:=by
 rw[List.getD_eq_getElem?_getD]
 rcases Nat.lt_or_ge j bs.length with hj | hj
 ·rw[List.getElem?_eq_getElem hj];exact h _ (List.getElem_mem _)
 ·rw[List.getElem?_eq_none hj];decide
theorem sM{kind:Nat}{bs:List Nat}(hk:kind < 256)(hb:∀ j,bs.getD j 0 < 256): ∀ b ∈ aN kind bs,b < 256:=by
 intro b hm
 unfold aN at hm
 rcases List.mem_append.1 hm with hm | hm
 ·exact pz hk hb b hm
 ·exact AB _ b hm
theorem Pz(z:Int)(u:Nat)(w:World)(hz:z=(u:Nat))(hu:u < 4294967296): Calls Tryz.prog 213 #[.int .u32 z] w (EM w u):=by
 subst hz
 exact DX u w hu
theorem rD{w:World}{base:Nat}{A:Option Addr}{n c:Nat}{bs:List Nat}(hn:bs.length=n)(h:w.ownsRow base 5 1 (.slice A n c) n (bs.map aI)): Sl w (fun k=>(Value.slice A n c).ownBlock=some k) A n (aD bs):=by
 refine Sl.lQ h ?_
 intro j u hu
 rw[List.getElem?_map] at hu
 cases hj:bs[j]? with
 | none=>rw[hj] at hu;cases hu
 | some x=>rw[hj] at hu;injection hu with hu;unfold aD;rw[List.getD_eq_getElem?_getD,hj];exact hu.symm
theorem NQ{w w':World}{g:Nat}{t e:TypeId}{cs:Array Value}{base n:Nat}{v:Value}{xs:List Value}(h:au w g t cs)(ho:w.ownsRow base e 1 v n xs)(hne:e≠t)(hg:w.grownBy w' v.ownBlock): au w' g t cs:=
 (hg.block g h.lt (fun e'=>own_ne ho h hne e'.symm)).trans h
theorem lK{w0 w w':World}{e:TypeId}{n:Nat}{v:Value}{xs:List Value}(hk:Keeps (fun _=>False) w0 w)(ho:w.ownsRow w0.heap.size e 1 v n xs)(hg:w.grownBy w' v.ownBlock): Keeps (fun _=>False) w0 w':=
 hk.grown hg (fun k hk' hlt=>by have:=(ho.lt k hk').1;omega)
def jE(w:World)(bs:List Nat)(er:Int)(e:Ending)(w':World): Prop:=
 ∃ A c,e=.returned (.tuple #[.slice A bs.length c,.int .i64 er])∧w'.ownsRow w.heap.size 5 1 (.slice A bs.length c) bs.length (bs.map aI)∧Keeps (fun _=>False) w w'
theorem pR(w:World)(kind:Nat)(A:Option Addr)(len c:Nat)(D:Nat→Prop)(bs:List Nat)(hl:bs.length=len)(hsl:Sl w D A len (aD bs))(hb:∀ j,bs.getD j 0 < 256)(hk:kind < 256)(hlen:len≤1048576):
  Calls Tryz.prog 140 #[.int .u8 (kind:Nat),.slice A len c] w (jE w (aN kind bs) 0):=by
 have HS:=zh (zN hl (zN hsl (zN hb hk)))
 clear hl hsl hb hk
 obtain⟨ht,-,i,hi,hz,hs1,hby⟩:=byteElem
 have HI:=zh (zN ht (zN hi (zN hz (zN hs1 hby))))
 clear ht hi hz hs1 hby
 have d0:decide ((1048576:Int) < (len:Int))=false:=by simp;omega
 go_enter Tryz.func140,Tryz.ntmps140
 go_wp2_with fail
 refine(Pz _ len _ (by first | rfl | omega | (rw[IntKind.wrap_u32'];omega)) (by omega)).mono ?_
 rintro e w1 ⟨rfl,hb1⟩
 clear d0
 have H1:=zh hb1
 clear hb1
 go_wp2_with (at_make;refine wpList_make_own _ rfl _ _ 72 rfl w.heap.size 5 i (.int .u8 0) 1 HI.out.1 HI.out.2.1 HI.out.2.2.1 HI.out.2.2.2.1 .i64 .i64 ((len:Int)+9) (len+9) rfl rfl (by omega) ?hb2 ?hb3 ?hb4 ?_)
 case hb2=>rw[HI.out.2.2.2.2];omega
 case hb3=>unfold maxLen;omega
 case hb4=>have:=H1.out.size;simp;omega
 intro w2 ho2 hg2
 obtain⟨p,hp⟩:∃ p,p=w1.heap.size:=⟨_,rfl⟩
 have k1:Keeps (fun _=>False) w w1:=Keeps.of_below H1.out
 have k2:Keeps (fun _=>False) w w2:=(k1.alloc _).grown hg2 (fun k hk=>by cases hk)
 have bp2:au w2 p 333 #[.int .u8 ((len:Int)%256),.int .u8 ((len:Int) / 256%256),.int .u8 ((len:Int) / 65536%256),.int .u8 ((len:Int) / 16777216%256)]:=by
  rw[hp]
  exact(hg2.block w1.heap.size (au.fresh w1 _ _).lt (by simp)).trans (au.fresh w1 _ _)
 have H2:=zh (zN ho2 (zN k2 bp2))
 clear ho2 hg2 k1 k2 bp2
 go_wp2_with (at_builtin;refine aW (f:=fun _=>.int .u8 (kind:Nat)) (D:=fun k=>k=w2.heap.size) (base:=w.heap.size) (n:=0) (xs:=[]) byteElem rfl (.tmp 19) (.tmp 21) rfl rfl rfl ?hown ?hsl ?h1 ?h63 ?hby ?hbase ?_)
 case hown=>exact H2.out.1.alloc _
 case hsl=>exact kS _ _ _
 case h1=>intro j _;rfl
 case h63=>unfold maxLen;omega
 case hby=>omega
 case hbase=>have:=H2.out.2.1.size;simp;omega
 intro v3 w3 ho3 hg3 hx
 clear hx
 have k3:=lK (H2.out.2.1.alloc _) (H2.out.1.alloc _) hg3
 have bp3:=NQ (H2.out.2.2.alloc _) (H2.out.1.alloc _) (by decide) hg3
 rw[←hp]
 have H3:=zh (zN ho3 (zN k3 bp3))
 clear ho3 hg3 k3 bp3 hp
 go_wp2_with (at_builtin;refine aW (f:=aD (fH len)) (D:=fun k=>k=p) (base:=w.heap.size) (n:=1) (xs:=[aI kind]) byteElem rfl (.tmp 23) (.tmp 24) rfl rfl rfl ?hown ?hsl ?h1 ?h63 ?hby ?hbase ?_)
 case hown=>exact H3.out.1
 case hsl=>exact Iu _ _ _ H3.out.2.2
 case h1=>intro j _;rfl
 case h63=>unfold maxLen;omega
 case hby=>omega
 case hbase=>exact H3.out.2.1.size
 intro v4 w4 ho4 hg4 hx
 clear hx
 have k4:=lK H3.out.2.1 H3.out.1 hg4
 have H4:=zh (zN ho4 k4)
 clear ho4 hg4 k4
 go_wp2_with (at_builtin;refine aW (f:=aD bs) (D:=D) (base:=w.heap.size) (n:=5) (xs:=[aI kind] ++ (List.range 4).map (aD (fH len))) byteElem rfl (.tmp 25) (.tmp 26) rfl rfl rfl ?hown ?hsl ?h1 ?h63 ?hby ?hbase ?_)
 case hown=>exact H4.out.1
 case hsl=>exact HS.out.2.1.keep (w':=w4) (fun q _ hq=>H4.out.2.block q hq (fun h=>h))
 case h1=>intro j _;rfl
 case h63=>unfold maxLen;omega
 case hby=>omega
 case hbase=>exact H4.out.2.size
 intro v5 w5 ho5 hg5 hx
 clear hx
 have k5:=lK H4.out.2 H4.out.1 hg5
 have e5:aI kind :: aD (fH len) 0 :: aD (fH len) 1 :: aD (fH len) 2 :: aD (fH len) 3 :: (List.range len).map (aD bs)=(iq kind bs).map aI:=by
  rw[fE HS.out.1,←HS.out.1]
  rfl
 rw[e5] at ho5
 obtain⟨A5,c5,hv5,-,-⟩:=aA ho5
 subst hv5
 have hbl:(iq kind bs).length=5+len:=by rw[mV,HS.out.1];omega
 have H5:=zh (zN ho5 (zN k5 hbl))
 clear ho5 hg5 k5 e5 hbl
 go_wp2_with fail
 refine(Ib _ _ _ _ _ (iq kind bs) H5.out.2.2 (rD H5.out.2.2 H5.out.1) (lM (pz HS.out.2.2.2 HS.out.2.2.1)) (by omega)).mono ?_
 rintro e w6 ⟨rfl,rfl⟩
 have hcl:=Bu (pz HS.out.2.2.2 HS.out.2.2.1)
 obtain⟨u,hu⟩:∃ u,u=oN (iq kind bs):=⟨_,rfl⟩
 rw[←hu] at hcl
 rw[←hu]
 have HU:=zh (zN hu hcl)
 clear hu hcl
 go_wp2_with fail
 refine(DX u _ HU.out.2).mono ?_
 rintro e w7 ⟨rfl,hb7⟩
 have k7':Keeps (fun _=>False) w5 w7:=Keeps.of_below hb7
 have o7:=aF H5.out.1 k7' (fun _ _ h=>h)
 have k7:=H5.out.2.1.trans' k7'
 have H7:=zh (zN o7 k7)
 clear hb7 k7' o7 k7
 go_wp2_with (at_builtin;refine aW (f:=aD (fH u)) (D:=fun k=>k=w7.heap.size) (base:=w.heap.size) (n:=5+len) (xs:=(iq kind bs).map aI) byteElem rfl (.tmp 31) (.tmp 32) rfl rfl rfl ?hown ?hsl ?h1 ?h63 ?hby ?hbase ?_)
 case hown=>exact H7.out.1.alloc _
 case hsl=>exact Iu _ _ _ (au.fresh w7 _ _)
 case h1=>intro j _;rfl
 case h63=>unfold maxLen;omega
 case hby=>omega
 case hbase=>have:=H7.out.2.size;simp;omega
 intro v8 w8 ho8 hg8 hx
 clear hx
 have k8:=lK (H7.out.2.alloc _) (H7.out.1.alloc _) hg8
 have e8:(iq kind bs).map aI ++ [aD (fH u) 0,aD (fH u) 1,aD (fH u) 2,aD (fH u) 3]=(aN kind bs).map aI:=by
  unfold aN
  rw[HU.out.1,List.map_append]
  rfl
 rw[e8] at ho8
 have hsl:5+len+4=(aN kind bs).length:=by rw[bB,HS.out.1];omega
 rw[hsl] at ho8
 obtain⟨A8,c8,hv8,-,-⟩:=aA ho8
 subst hv8
 have H8:=zh (zN ho8 k8)
 clear ho8 hg8 k8 e8 hsl
 go_wp2_with fail
 go_ret2
 exact⟨A8,c8,rfl,H8.out.1,H8.out.2⟩
end F
section
def bI(bs:List Nat)(i:Nat): Nat:=bs.getD (i / 8) 0 / 2 ^ (7-i%8)%2
def gets(bs:List Nat)(a:Nat): Nat→Nat
 | 0=>0
 | n+1=>2*gets bs a n+bI bs (a+n)
theorem sI(bs:List Nat)(i:Nat): bI bs i < 2:=Nat.mod_lt _ (by omega)
theorem iB(bs:List Nat)(a n:Nat): gets bs a n < 2 ^ n:=by
 induction n with
 | zero=>simp[gets]
 | succ n ih=>have:=sI bs (a+n);rw[gets,Nat.pow_succ];omega
def kI(bs:List Nat)(a en:Nat)(n:Int): Nat:=if 0≤n∧n≤64∧n≤(en:Int)-a then gets bs a n.toNat else 0
def kG(a en:Nat)(n:Int): Int:=if 0≤n∧n≤64 then (if n≤(en:Int)-a then 0 else 10) else 2
def kL(a en:Nat)(n:Int): Nat:=if 0≤n∧n≤64∧n≤(en:Int)-a then n.toNat else 0
theorem Sv(g b:Nat)(hb:b < 2): g*2 ||| b=2*g+b:=by
 have h:=Nat.shiftLeft_add_eq_or_of_lt (i:=1) (b:=b) (by omega) g
 rw[Nat.shiftLeft_eq] at h
 rw[show g*2=g*2 ^ 1 from by omega,←h]
 omega
theorem yF(s:Nat): ((2:Int) ^ s)=((2 ^ s:Nat):Int):=by simp
theorem tQ(x s:Nat): (x:Int) / 2 ^ s=((x / 2 ^ s:Nat):Int):=by rw[yF];rfl
theorem KF(x s:Nat)(hx:x < 256): bits .and .u8 ((x:Int) / 2 ^ s) 1=((x / 2 ^ s%2:Nat):Int):=by
 have h1:x / 2 ^ s < 256:=Nat.lt_of_le_of_lt (Nat.div_le_self _ _) hx
 rw[tQ,show (1:Int)=((1:Nat):Int) from rfl,u8_and_nat _ _ h1 (by omega),Nat.and_one_is_mod]
theorem Og(g x s:Nat)(hg:g < 9223372036854775808)(hx:x < 256):
  bits .or .u64 (IntKind.u64.wrap ((g:Int)*2)) (IntKind.u64.wrap (bits .and .u8 ((x:Int) / 2 ^ s) 1))=((2*g+x / 2 ^ s%2:Nat):Int):=by
 rw[KF x s hx,IntKind.wrap_u64,IntKind.wrap_u64]
 have h2:x / 2 ^ s%2 < 2:=Nat.mod_lt _ (by omega)
 generalize x / 2 ^ s%2=b at h2 ⊢
 rw[show (g:Int)*2%18446744073709551616=((g*2:Nat):Int) from by omega,show (b:Int)%18446744073709551616=(b:Int) from by omega,
  u64_or_nat _ _ (by omega) (by omega),Sv g b h2]
end
end Go.Proofs.YtmffkpkgbdcnjaaGreatDoor
