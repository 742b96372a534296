/-
  Texts of this proof, joined.
-/
import Derived.Test.YtmffkpkgbdcnjaaGreatDoorTopExact00
import Derived.Deep.RegionHeld3
import Derived.WalkKit
import Derived.KernelRfl
import Derived.Below
import Derived.Laws.OwnMore
import Derived.Deep.Draws
import Derived.Laws.Rows
import Derived.OwnWalk
import Derived.Maps.AppendAt
import Derived.RegionTactic
import Derived.Lib.Hide
import Derived.Test.YtmffkpkgbdcnjaaGreatDoorRows
import Derived.WalkSpells
import Derived.WalkLawsBesides
import Derived.Outline
import Derived.Deep.Cut
import Derived.LaidEql
import Derived.Stop.Asserts
import Derived.RowKitTokens
import Derived.Lib.IfaceEq
import Derived.ProofKit
import Derived.OpenShut
import Derived.Laws.BitsAllLaws
import Derived.Laws.BitsLemmas
import Derived.Deep.DeepCutAuto
import Derived.Lib.Zigzag
import Derived.ArgAppend
import Derived.Lib.AppendStr
import Derived.Laws.BytesArg
set_option linter.unusedVariables false
set_option linter.unusedSimpArgs false
set_option maxRecDepth 100000
set_option maxHeartbeats 20000000
namespace Go.Proofs.YtmffkpkgbdcnjaaGreatDoor
section
section
variable {P:Program} {ops:Array Oper} {Q:Exit->Act->World->Prop} {S S':World->Prop}
theorem nX(himp:∀ w,S' w->S w): ∀ (fuel:Nat) (listed:Array Bool) (a:Act) (w:World),wpAnyH P .any ops Q S' fuel listed a w->wpAnyH P .any ops Q S fuel listed a w
 | 0,_,_,_,h=>h
 | fuel+1,_,_,_,h=>⟨h.1,fun i hi=>wpOp_mono (fun a' w' h'=>⟨himp _ h'.1,nX himp fuel _ a' w' h'.2⟩) (h.2 i hi)⟩
theorem aC{c:Code}{a:Act}{w:World}(S:World->Prop)(hS:S w)(h:∀ w,S w->c.wp P Q a w): c.wp P Q a w:=h w hS
theorem aA{id:Nat}{a:Act}{w:World}(S:World->Prop)(hm:P.follows .mixedOrders=true)(hS:S w.drew)(h:wpAnyH P .any ops Q S ops.size (Array.replicate ops.size false) a w.drew): (Code.region id ops true).wp P Q a w:=
 wp_region_held_drew hm hS (fun _=>h)
theorem lS{i:Nat}{oi:Oper}{v:Value}{fuel:Nat}{listed:Array Bool}{a:Act}{w:World}(hi:ops[i]? = some oi)(hs:Region.noSelect ops=true)(hf:Region.free .any ops listed i=true)(hr:(Region.ready .any ops listed).contains i=true)(hQ:∀ c a w,Q (.panic c) (a.put oi.dst v) w->Q (.panic c) a w)(hy:YieldsIf P ops S oi v a)(hS:S w)(h:wpAnyH P .any ops Q S fuel (listed.setIfInBounds i true) (a.put oi.dst v) w): wpAnyH P .any ops Q S (fuel+1) listed a w:=
 wpAnyH_take hi hs hf hr hQ hy hS h
def Then(P:Program)(ops:Array Oper)(Q:Exit->Act->World->Prop)(S:World->Prop)(fuel:Nat)(listed:Array Bool)(K:Act->World->Prop): Prop:=
 ∀ (S':World->Prop) (a:Act) (w:World),(∀ w,S' w->S w)->S' w->wpAnyH P .any ops Q S' fuel listed a w->K a w
theorem Then.to{fuel:Nat}{listed:Array Bool}{K:Act->World->Prop}(h:Then P ops Q S fuel listed K)(S':World->Prop){a:Act}{w:World}(himp:∀ w,S' w->S w)(hS:S' w)(k:wpAnyH P .any ops Q S' fuel listed a w): K a w:=h S' a w himp hS k
theorem Then.go{fuel:Nat}{listed:Array Bool}{K:Act->World->Prop}(h:Then P ops Q S fuel listed K)(S':World->Prop){a:Act}{w:World}(himp:∀ w,S' w->S w)(hS:S' w)(k:∀ w,S' w->wpAnyH P .any ops Q S' fuel listed a w): K a w:=h S' a w himp hS (k w hS)
theorem Pk{i:Nat}{o:Oper}{fuel:Nat}{listed:Array Bool}{a:Act}{w:World}(ho:ops[i]? = some o)(hr:Region.ready .any ops listed=[i])(h:∀ K:Act->World->Prop,Then P ops Q S fuel (listed.setIfInBounds i true) K->if Region.wanted o (yielded ops a.tmps)=true then Oper.wp P o a w K Q else K (a.put o.dst undef) w):
  wpAnyH P .any ops Q S (fuel+1) listed a w:=
 wpAnyH_ready hr (by simp) (AllReadyH.cons ho (fun K hK=>h K (fun _ a w himp hS hW=>hK.out a w (himp _ hS) (fun _=>nX himp _ _ _ _ hW))) AllReadyH.nil)
theorem fA{i j:Nat}{o o':Oper}{fuel:Nat}{listed:Array Bool}{a:Act}{w:World}(ho:ops[i]? = some o)(ho':ops[j]? = some o')(hr:Region.ready .any ops listed=[i,j])(h:∀ K:Act->World->Prop,Then P ops Q S fuel (listed.setIfInBounds i true) K->if Region.wanted o (yielded ops a.tmps)=true then Oper.wp P o a w K Q else K (a.put o.dst undef) w)(h':∀ K:Act->World->Prop,Then P ops Q S fuel (listed.setIfInBounds j true) K->if Region.wanted o' (yielded ops a.tmps)=true then Oper.wp P o' a w K Q else K (a.put o'.dst undef) w):
  wpAnyH P .any ops Q S (fuel+1) listed a w:=
 wpAnyH_ready hr (by simp) (AllReadyH.cons ho (fun K hK=>h K (fun _ a w himp hS hW=>hK.out a w (himp _ hS) (fun _=>nX himp _ _ _ _ hW)))
  (AllReadyH.cons ho' (fun K hK=>h' K (fun _ a w himp hS hW=>hK.out a w (himp _ hS) (fun _=>nX himp _ _ _ _ hW))) AllReadyH.nil))
end
theorem zP : ((∀ {α : Type} {xs : List α} {i : Nat} (h : i < xs.toArray.size), xs.toArray[i] = xs[i]'h) ∧ (∀ {α : Type} (a : α) (l : List α) (i : Nat) (h : i + 1 < (a :: l).length), (a :: l)[i + 1] = l[i]'(Nat.lt_of_succ_lt_succ h)) ∧ (∀ {α : Type} (a : α) (l : List α) (h : 0 < (a :: l).length), (a :: l)[0] = a)) ∧
  ((∀ (a : Act) (d : Option Tmp) (v : Value), a.put d v = match d with
    | some t => { a with tmps := a.tmps.setIfInBounds t v }
    | none => a) ∧ (∀ {α : Type} (l : List α) (i : Nat) (a : α), l.toArray.setIfInBounds i a = (l.set i a).toArray) ∧ (∀ {α : Type} (x : α) (xs : List α) (a : α), (x :: xs).set 0 a = a :: xs) ∧ (∀ {α : Type} (x : α) (xs : List α) (i : Nat) (a : α), (x :: xs).set (i + 1) a = x :: xs.set i a)) :=
  ⟨⟨fun _ => rfl, fun _ _ _ _ => rfl, fun _ _ _ => rfl⟩, fun _ _ _ => rfl, fun l i a => by simp, fun _ _ _ => rfl, fun _ _ _ _ => rfl⟩
theorem zh {p : Prop} (h : p) : Go.RowKit.Hid p := h
theorem zN {p q : Prop} (x : p) (y : q) : p ∧ q := ⟨x, y⟩
section
variable {P : Program} {ops : Array Oper} {Q : Exit → Act → World → Prop} {S : World → Prop} {fuel : Nat} {listed : Array Bool} {a : Act} {w : World} {oi : Oper} {is : List Nat} {X : Prop}
theorem zT (i : Nat) (v : Value) (hy : ∀ w, S w → (execOp a.eval oi).run P w = .ok (.value v) w) (hS : S w) (h : wpAnyH P .any ops Q S fuel (listed.setIfInBounds i true) (a.put oi.dst v) w)
    (hi : ops[i]? = some oi := by exact rfl) (hs : Region.noSelect ops = true := by kernel_rfl) (hf : Region.free .any ops listed i = true := by kernel_rfl) (hr : (Region.ready .any ops listed).contains i = true := by kernel_rfl)
    (hQ : ∀ c a w, Q (.panic c) (a.put oi.dst v) w → Q (.panic c) a w := by exact fun _ _ _ h => h) (hw : Region.wanted oi (yielded ops a.tmps) = true := by kernel_rfl) : wpAnyH P .any ops Q S (fuel + 1) listed a w :=
  lS hi hs hf hr hQ (.inl ⟨hw, hy⟩) hS h
theorem zU (i : Nat) (hS : S w) (h : wpAnyH P .any ops Q S fuel (listed.setIfInBounds i true) (a.put oi.dst undef) w)
    (hi : ops[i]? = some oi := by exact rfl) (hs : Region.noSelect ops = true := by kernel_rfl) (hf : Region.free .any ops listed i = true := by kernel_rfl) (hr : (Region.ready .any ops listed).contains i = true := by kernel_rfl)
    (hQ : ∀ c a w, Q (.panic c) (a.put oi.dst undef) w → Q (.panic c) a w := by exact fun _ _ _ h => h) (hw : Region.wanted oi (yielded ops a.tmps) = false := by kernel_rfl) : wpAnyH P .any ops Q S (fuel + 1) listed a w :=
  lS hi hs hf hr hQ (.inr ⟨hw, rfl⟩) hS h
def zK (_ : List Nat) (X : Prop) : Prop := X
theorem zB (is : List Nat) (h : zK is X) : X := h
theorem zE (h : X) : zK [] X := h
theorem zV {i : Nat} (v : Value) (hy : ∀ w, S w → (execOp a.eval oi).run P w = .ok (.value v) w) (hS : S w) (h : zK is (wpAnyH P .any ops Q S fuel (listed.setIfInBounds i true) (a.put oi.dst v) w))
    (hi : ops[i]? = some oi := by exact rfl) (hs : Region.noSelect ops = true := by kernel_rfl) (hf : Region.free .any ops listed i = true := by kernel_rfl) (hr : (Region.ready .any ops listed).contains i = true := by kernel_rfl)
    (hQ : ∀ c a w, Q (.panic c) (a.put oi.dst v) w → Q (.panic c) a w := by exact fun _ _ _ h => h) (hw : Region.wanted oi (yielded ops a.tmps) = true := by kernel_rfl) : zK (i :: is) (wpAnyH P .any ops Q S (fuel + 1) listed a w) :=
  lS hi hs hf hr hQ (.inl ⟨hw, hy⟩) hS h
theorem zW {i : Nat} (hS : S w) (h : zK is (wpAnyH P .any ops Q S fuel (listed.setIfInBounds i true) (a.put oi.dst undef) w))
    (hi : ops[i]? = some oi := by exact rfl) (hs : Region.noSelect ops = true := by kernel_rfl) (hf : Region.free .any ops listed i = true := by kernel_rfl) (hr : (Region.ready .any ops listed).contains i = true := by kernel_rfl)
    (hQ : ∀ c a w, Q (.panic c) (a.put oi.dst undef) w → Q (.panic c) a w := by exact fun _ _ _ h => h) (hw : Region.wanted oi (yielded ops a.tmps) = false := by kernel_rfl) : zK (i :: is) (wpAnyH P .any ops Q S (fuel + 1) listed a w) :=
  lS hi hs hf hr hQ (.inr ⟨hw, rfl⟩) hS h
theorem zC (i : Nat) (h : ∀ K : Act → World → Prop, Go.RowKit.Hid (Then P ops Q S fuel (listed.setIfInBounds i true) K) → if Region.wanted oi (yielded ops a.tmps) = true then Oper.wp P oi a w K Q else K (a.put oi.dst undef) w)
    (ho : ops[i]? = some oi := by exact rfl) (hr : Region.ready .any ops listed = [i] := by kernel_rfl) : wpAnyH P .any ops Q S (fuel + 1) listed a w := Pk ho hr fun K hK => h K (zh hK)
theorem Then.zt {K : Act → World → Prop} (h : Then P ops Q S fuel listed K) (S' : World → Prop) (himp : ∀ w, S' w → S w) (hS : S' w) (k : S' w → wpAnyH P .any ops Q S' fuel listed a w) : K a w := h S' a w himp hS (k hS)
theorem zD (h : Q .normal a w) (hr : Region.ready .any ops listed = [] := by kernel_rfl) : wpAnyH P .any ops Q S fuel listed a w := wpAnyH_done hr h _
end
theorem zv{P:Program}{ops:Array Oper}{Q:Exit→Act→World→Prop}{S:World→Prop}{fuel:Nat}{listed:Array Bool}{a:Act}{w:World}{oi:Oper}{is:List Nat}{i:Nat}{v:Value}(hS:S w)(h:zK is (wpAnyH P .any ops Q S fuel (listed.setIfInBounds i true) (a.put oi.dst v) w))
 (hi:ops[i]? = some oi:=by exact rfl)(hy:∀ w,S w→(execOp a.eval oi).run P w=.ok (.value v) w:=by intro w' hSw;go_simp<;>with_reducible rfl)(hs:Region.noSelect ops=true:=by kernel_rfl)(hf:Region.free .any ops listed i=true:=by kernel_rfl)(hr:(Region.ready .any ops listed).contains i=true:=by kernel_rfl)
 (hQ:∀ c a w,Q (.panic c) (a.put oi.dst v) w→Q (.panic c) a w:=by exact fun _ _ _ h=>h)(hw:Region.wanted oi (yielded ops a.tmps)=true:=by kernel_rfl):zK (i::is) (wpAnyH P .any ops Q S (fuel+1) listed a w):=lS hi hs hf hr hQ (.inl ⟨hw,hy⟩) hS h
theorem zt{P:Program}{ops:Array Oper}{Q:Exit→Act→World→Prop}{S:World→Prop}{fuel:Nat}{listed:Array Bool}{a:Act}{w:World}{oi:Oper}(i:Nat){v:Value}(hS:S w)(h:wpAnyH P .any ops Q S fuel (listed.setIfInBounds i true) (a.put oi.dst v) w)
 (hi:ops[i]? = some oi:=by exact rfl)(hy:∀ w,S w→(execOp a.eval oi).run P w=.ok (.value v) w:=by intro w' hSw;go_simp<;>with_reducible rfl)(hs:Region.noSelect ops=true:=by kernel_rfl)(hf:Region.free .any ops listed i=true:=by kernel_rfl)(hr:(Region.ready .any ops listed).contains i=true:=by kernel_rfl)
 (hQ:∀ c a w,Q (.panic c) (a.put oi.dst v) w→Q (.panic c) a w:=by exact fun _ _ _ h=>h)(hw:Region.wanted oi (yielded ops a.tmps)=true:=by kernel_rfl):wpAnyH P .any ops Q S (fuel+1) listed a w:=zE (zB [i] (zv hS h hi hy hs hf hr hQ hw))
end
section
open Go.RowKit
structure Keeps(S:Nat->Prop)(w w':World): Prop where
 os:w'.os=w.os
 tape:w'.tape=w.tape
 output:w'.output=w.output
 size:w.heap.size<=w'.heap.size
 block:∀ k,k < w.heap.size->¬ S k->w'.heap[k]? = w.heap[k]?
namespace Keeps
variable {S T:Nat->Prop} {a b c w w':World}
theorem refl(S:Nat->Prop)(w:World): Keeps S w w:=⟨rfl,rfl,rfl,Nat.le_refl _,fun _ _ _=>rfl⟩
theorem trans(h:Keeps S a b)(k:Keeps T b c)(hT:∀ x,x < a.heap.size->T x->S x): Keeps S a c:=
 ⟨k.os.trans h.os,k.tape.trans h.tape,k.output.trans h.output,Nat.le_trans h.size k.size,
  fun i hi hn=>(k.block i (Nat.lt_of_lt_of_le hi h.size) (fun ht=>hn (hT i hi ht))).trans (h.block i hi hn)⟩
theorem trans'(h:Keeps S a b)(k:Keeps S b c): Keeps S a c:=h.trans k fun _ _ hx=>hx
theorem mono(h:Keeps S a b)(hT:∀ x,x < a.heap.size->S x->T x): Keeps T a b:=
 ⟨h.os,h.tape,h.output,h.size,fun i hi hn=>h.block i hi fun hs=>hn (hT i hi hs)⟩
theorem drew(h:Keeps S a w): Keeps S a w.drew:=⟨h.os,h.tape,h.output,h.size,h.block⟩
theorem drewN(h:Keeps S a w)(n:Nat): Keeps S a (w.drewN n):=⟨h.os,h.tape,h.output,h.size,h.block⟩
theorem alloc(h:Keeps S a w)(o:Obj): Keeps S a (w.alloc o):=
 h.trans (T:=fun _=>False) ⟨rfl,rfl,rfl,by simp,fun k hk _=>Below.heap_alloc _ _ _ hk⟩ (fun _ _ hx=>hx.elim)
theorem setCell(h:Keeps S a w){p:Addr}(hp:p.block < a.heap.size->S p.block)(u:Value): Keeps S a (w.setCell p u):=
 h.trans (T:=fun k=>k=p.block) ⟨rfl,rfl,rfl,by simp[World.setCell],fun k _ hn=>Below.heap_setCell _ _ _ _ hn⟩ (fun x hx hp'=>by subst hp';exact hp hx)
theorem grown{row:Option Nat}(h:Keeps S a w)(hg:w.grownBy w' row)(hr:∀ k,row=some k->k < a.heap.size->S k): Keeps S a w':=
 h.trans (T:=fun k=>row=some k) ⟨hg.os,hg.tape,hg.output,hg.size,fun k hk hn=>hg.block k hk (fun e=>hn e.symm)⟩ (fun x hx e=>hr x e hx)
theorem below(h:Keeps S a b){B:Nat}(hB:B<=a.heap.size)(hS:∀ k,k < B->¬ S k): Below B a b:=
 ⟨h.os,h.tape,h.output,h.size,fun k hk=>h.block k J (hS k hk)⟩
theorem of_below(h:Below a.heap.size a b): Keeps S a b:=⟨h.os,h.tape,h.output,h.size,fun k hk _=>h.block k hk⟩
theorem fF(h:Keeps (fun _=>False) a b): Below a.heap.size a b:=h.below (Nat.le_refl _) fun _ _ hx=>hx
end Keeps
def Sl(w:World)(D:Nat->Prop)(A:Option Addr)(n:Nat)(f:Nat->Value): Prop:=
 0 < n->∃ b off,A=some ⟨b,off,none⟩/\D b/\∀ j,j < n->w.cell? ⟨b,off+j,none⟩=some (f j)
namespace Sl
variable {w w':World} {D E:Nat->Prop} {A:Option Addr} {n m:Nat} {f g:Nat->Value}
theorem keep(h:Sl w D A n f)(hk:∀ k,D k->k < w.heap.size->w'.heap[k]? = w.heap[k]?): Sl w' D A n f:=fun hn=>by
 obtain⟨b,off,e,hd,hc⟩:=h hn;have hlt:b < w.heap.size:=World.block_lt_of_cell? w _ (hc 0 hn);exact⟨b,off,e,hd,fun j hj=>(World.cell?_of_block (w:=w) (a:=⟨b,off+j,none⟩) (hk b hd hlt)).trans (hc j hj)⟩
theorem keeps{S:Nat->Prop}(h:Sl w D A n f)(hk:Keeps S w w')(hd:∀ k,D k->¬ S k): Sl w' D A n f:=
 h.keep fun k hD hlt=>hk.block k hlt (hd k hD)
theorem below{B:Nat}(h:Sl w D A n f)(hk:Below B w w')(hd:∀ k,D k->k < w.heap.size->k < B): Sl w' D A n f:=
 h.keep fun k hD hlt=>hk.block k (hd k hD hlt)
theorem mono(h:Sl w D A n f)(hd:∀ k,D k->E k): Sl w E A n f:=fun hn=>by
 obtain⟨b,off,e,hD,hc⟩:=h hn;exact⟨b,off,e,hd b hD,hc⟩
theorem take(h:Sl w D A n f)(hm:m<=n): Sl w D A m f:=fun hn=>by
 obtain⟨b,off,e,hD,hc⟩:=h J;exact⟨b,off,e,hD,fun j hj=>hc j J⟩
theorem congr(h:Sl w D A n f)(hf:∀ j,j < n->f j=g j): Sl w D A n g:=fun hn=>by
 obtain⟨b,off,e,hD,hc⟩:=h hn;exact⟨b,off,e,hD,fun j hj=>(hc j hj).trans (by rw[hf j hj])⟩
theorem nil(w:World)(D:Nat->Prop)(A:Option Addr)(f:Nat->Value): Sl w D A 0 f:=fun h=>absurd h J
theorem E9{base:Nat}{e:TypeId}{c:Nat}{xs:List Value}(h:w.ownsRow base e 1 (.slice A n c) n xs)(hf:∀ j u,xs[j]? = some u->u=f j):
  Sl w (fun k=>(Value.slice A n c).ownBlock=some k) A n f:=fun hn=>by
 obtain⟨g,hA⟩:∃ g,A=some ⟨g,0,none⟩:=by
  rcases h.2 with ⟨_,h0⟩ | ⟨g,_,_,hv,_⟩
  ·omega
  ·exact ⟨g,by injection hv⟩
 subst hA;refine⟨g,0,rfl,rfl,fun j hj=>?_⟩;have hl:j < xs.length:=by have:=h.1;omega
 have:=h.cells (g:=g) rfl j xs[j] (List.getElem?_eq_getElem hl);rw[hf j xs[j] (List.getElem?_eq_getElem hl)] at this
 have hadd:(⟨g,0,none⟩:Addr).add j=⟨g,0+j,none⟩:=by unfold Addr.add;split<;>simp_all
 rw[hadd] at this
 exact this
end Sl
def ay(w:World)(g:Nat)(t:TypeId)(cs:Array Value): Prop:=w.heap[g]? = some (.cells cs t (0,0))
namespace ay
variable {w w':World} {g:Nat} {t:TypeId} {cs:Array Value}
theorem lt(h:ay w g t cs): g < w.heap.size:=by
 rcases Nat.lt_or_ge g w.heap.size with hlt | hge
 ·exact hlt
 ·unfold ay at h;rw[Array.getElem?_eq_none hge] at h;cases h
theorem cell(h:ay w g t cs)(i:Nat): w.cell? ⟨g,i,none⟩=cs[i]?:=cell_of_row w g i cs t (0,0) h
theorem frozen(h:ay w g t cs)(i:Nat): w.frozen? ⟨g,i,none⟩=false:=by
 unfold ay at h
 simp[World.frozen?,h]
theorem fresh(w:World)(t:TypeId)(cs:Array Value): ay (w.alloc (.cells cs t)) w.heap.size t cs:=heap_alloc_new w _
theorem drew(h:ay w g t cs): ay w.drew g t cs:=h
theorem drewN(h:ay w g t cs)(n:Nat): ay (w.drewN n) g t cs:=h
theorem alloc(h:ay w g t cs)(o:Obj): ay (w.alloc o) g t cs:=(Below.heap_alloc w o g h.lt).trans h
theorem set(h:ay w g t cs)(i:Nat)(u:Value): ay (w.setCell ⟨g,i,none⟩ u) g t (cs.setIfInBounds i u):=by
 unfold ay at h ⊢
 simp[World.setCell,Array.getElem?_modify,h]
theorem far(h:ay w g t cs){p:Addr}(hp:g≠p.block)(u:Value): ay (w.setCell p u) g t cs:=(Below.heap_setCell w p u g hp).trans h
theorem keeps{S:Nat->Prop}(h:ay w g t cs)(hk:Keeps S w w')(hg:¬ S g): ay w' g t cs:=(hk.block g h.lt hg).trans h
theorem below{B:Nat}(h:ay w g t cs)(hb:Below B w w')(hg:g < B): ay w' g t cs:=(hb.block g hg).trans h
theorem ne{g':Nat}{t':TypeId}{cs':Array Value}(h:ay w g t cs)(h':ay w g' t' cs')(hne:t≠t'): g≠g':=by
 rintro rfl;unfold ay at h h'
 rw[h] at h'
 injection h' with h'
 injection h' with _ ht
 exact hne ht
end ay
theorem own_ne{w:World}{base:Nat}{e t:TypeId}{size n g:Nat}{v:Value}{xs:List Value}{cs:Array Value}(h:w.ownsRow base e size v n xs)(hg:ay w g t cs)(hne:e≠t): v.ownBlock≠some g:=by
 rcases h.2 with ⟨rfl,_⟩ | ⟨g',cap,cur,rfl,_,hh,_⟩
 ·simp[Value.ownBlock]
 ·intro he
  have:g'=g:=by simpa [Value.ownBlock] using he
  subst this;exact ay.ne (t:=e) hh hg hne rfl
theorem aG{w w':World}{S:Nat->Prop}{base:Nat}{e:TypeId}{size n:Nat}{v:Value}{xs:List Value}(h:w.ownsRow base e size v n xs)(hk:Keeps S w w')(hne:∀ g,v.ownBlock=some g->¬ S g): w'.ownsRow base e size v n xs:=by
 refine⟨h.1,?_⟩;rcases h.2 with hn | ⟨g,cap,cur,rfl,hb,hgg,rest⟩
 ·exact .inl hn
 ·refine .inr ⟨g,cap,cur,rfl,hb,?_,rest⟩
  rw[hk.block g (Array.getElem?_eq_some_iff.1 hgg).1 (hne g rfl)];exact hgg
theorem aN{w:World}{base base':Nat}{e:TypeId}{size n:Nat}{v:Value}{xs:List Value}(h:w.ownsRow base e size v n xs)(hb:base'<=base): w.ownsRow base' e size v n xs:=by
 refine⟨h.1,?_⟩;rcases h.2 with hn | ⟨g,cap,cur,rfl,hb',rest⟩
 ·exact .inl hn
 ·exact .inr ⟨g,cap,cur,rfl,J,rest⟩
theorem aH{w:World}{base:Nat}{e:TypeId}{size n:Nat}{v:Value}{xs:List Value}(h:w.ownsRow base e size v n xs): ∃ A c,v=.slice A n c/\n<=c/\(0 < n->∃ g,A=some ⟨g,0,none⟩/\base<=g/\g < w.heap.size):=by
 rcases h.2 with ⟨rfl,rfl⟩ | ⟨g,cap,cur,rfl,hb,hgg,hc,rest⟩
 ·exact ⟨none,0,rfl,Nat.le_refl _,fun h=>absurd h J⟩
 ·exact ⟨_,_,rfl,hc,fun _=>⟨g,rfl,hb,(Array.getElem?_eq_some_iff.1 hgg).1⟩⟩
def iK(P:Program)(t e:TypeId)(z:Value)(bytes:Nat): Prop:=
 P.underlying t=some (.slice e)/\z.cells.size=1/\∃ i,P.info? e=some i/\i.zero=some z/\i.size=1/\i.bytes=bytes
theorem iK.mk'{P:Program}{t e:TypeId}{z:Value}{bytes:Nat}(ht:P.underlying t=some (.slice e))(hz:z.cells.size=1)(h:(P.info? e).map (fun i=>(i.zero,i.size,i.bytes))=some (some z,1,bytes)): iK P t e z bytes:=by
 obtain⟨i,hi,h0,h1,h2⟩:=info_parts h;exact⟨ht,hz,i,hi,h0,h1,h2⟩
section
variable {P:Program} {w:World} {t e ty:TypeId} {z:Value} {bytes base n m c:Nat} {v:Value} {xs:List Value} {D:Nat->Prop} {A:Option Addr} {f:Nat->Value}
theorem CV(he:iK P t e z bytes)(hown:w.ownsRow base e 1 v n xs)(hsl:Sl w D A m f)(h1:∀ j,j < m->(f j).oneCell'=true)(h63:n+m<=maxLen)(hbytes:(n+m)*bytes<=140737488355328)(hbase:base<=w.heap.size):
  ∃ v' w',(Builtin.append_ #[t,t] ty #[v,.slice A m c]).run P w=.ok v' w'/\w'.ownsRow base e 1 v' (n+m) (xs ++ (List.range m).map f)/\w.grownBy w' v.ownBlock/\
   (v'.ownBlock=v.ownBlock\/v'.ownBlock=some w.heap.size):=by
 obtain⟨ht,hz1,i,hi,hz,hs,hb⟩:=he;rcases A with _ | ad
 ·have hm:m=0:=by
   rcases Nat.eq_zero_or_pos m with h0 | h0
   ·exact h0
   ·obtain ⟨b,off,h,_⟩:=hsl h0
    cases h
  subst hm;refine⟨v,w,?_,by simpa using hown,World.grownBy.refl w _,.inl rfl⟩;rcases hown.2 with ⟨rfl,rfl⟩ | ⟨g,cap,cur,rfl,_,_,hnc,_⟩
  ·simp[Builtin.append_,run_underlying ht,sizeOf,typeInfo,hi,Builtin.lenOf,Builtin.firstCells]
  ·simp[Builtin.append_,run_underlying ht,sizeOf,typeInfo,hi,Builtin.lenOf,Builtin.firstCells,hnc,storeCells]
 ·have hcells:∀ j u,((List.range m).map f)[j]? = some u->w.cell? (ad.add j)=some u:=by
   intro j u hu;rcases Nat.eq_zero_or_pos m with h0 | h0
   ·subst h0
    simp at hu
   ·obtain ⟨b,off,h,_,hc⟩:=hsl h0
    injection h with h
    subst h;rw[List.getElem?_map] at hu
    rcases Nat.lt_or_ge j m with hj | hj
    ·rw[List.getElem?_range hj] at hu
     simp at hu
     subst hu;have hadd:(⟨b,off,none⟩:Addr).add j=⟨b,off+j,none⟩:=by unfold Addr.add;split<;>simp_all
     rw[hadd];exact hc j hj
    ·rw[List.getElem?_eq_none (by simpa using hj)] at hu
     cases hu
  obtain⟨v',w',hrun,h2,h3,_,h5⟩:=run_append_own_at (P:=P) w base t ty e i z 1 bytes ht hi hz hs hb hz1 J v n xs hown ad m c ((List.range m).map f) (by simp) hcells
   (by intro u hu;rw[List.mem_map] at hu;obtain ⟨j,hj,rfl⟩:=hu;exact h1 j (by simpa using hj)) h63 hbytes hbase
  exact⟨v',w',hrun,h2,h3,h5⟩
theorem vR{o:Oper}{a:Act}{K:Act->World->Prop}{Q:Exit->Act->World->Prop}(he:iK P t e z bytes)(s x:Operand)(ho:o.op=.call { callee:=.builtin .append,args:=#[s,x],argTypes:=#[t,t] })(hs:a.eval s=v)(hx:a.eval x=.slice A m c)(hown:w.ownsRow base e 1 v n xs)(hsl:Sl w D A m f)(h1:∀ j,j < m->(f j).oneCell'=true)(h63:n+m<=maxLen)(hbytes:(n+m)*bytes<=140737488355328)(hbase:base<=w.heap.size)(h:∀ v' w',w'.ownsRow base e 1 v' (n+m) (xs ++ (List.range m).map f)->w.grownBy w' v.ownBlock->(v'.ownBlock=v.ownBlock\/v'.ownBlock=some w.heap.size)->K (a.put o.dst v') w'): o.wp P a w K Q:=by
 obtain⟨v',w',hrun,h2,h3,h4⟩:=CV (P:=P) (ty:=o.type) (c:=c) he hown hsl h1 h63 hbytes hbase;unfold Oper.wp execOp;simp only[ho,resolve,invoke,builtin,Sem.run_bind,Sem.run_pure,Result.andThen_ok,List.map_toArray,List.map_cons,List.map_nil,hs,hx,hrun];exact h v' w' h2 h3 h4
theorem bW{ops:Array Oper}{rest:List Oper}{o:Oper}{a:Act}{Q:Exit->Act->World->Prop}(he:iK P t e z bytes)(hgd:o.guard=none)(s x:Operand)(ho:o.op=.call { callee:=.builtin .append,args:=#[s,x],argTypes:=#[t,t] })(hs:a.eval s=v)(hx:a.eval x=.slice A m c)(hown:w.ownsRow base e 1 v n xs)(hsl:Sl w D A m f)(h1:∀ j,j < m->(f j).oneCell'=true)(h63:n+m<=maxLen)(hbytes:(n+m)*bytes<=140737488355328)(hbase:base<=w.heap.size)(h:∀ v' w',w'.ownsRow base e 1 v' (n+m) (xs ++ (List.range m).map f)->w.grownBy w' v.ownBlock->(v'.ownBlock=v.ownBlock\/v'.ownBlock=some w.heap.size)->wpList P ops Q rest (a.put o.dst v') w'): wpList P ops Q (o :: rest) a w:=
 wpList_plain hgd fun _ hK=>vR he s x ho hs hx hown hsl h1 h63 hbytes hbase fun v' w' h2 h3 h4=>hK _ _ (h v' w' h2 h3 h4)
theorem nJ{ops:Array Oper}{o:Oper}{a:Act}{K:Act->World->Prop}{Q:Exit->Act->World->Prop}{E:Prop}(he:iK P t e z bytes)(hgd:o.guard=none)(s x:Operand)(ho:o.op=.call { callee:=.builtin .append,args:=#[s,x],argTypes:=#[t,t] })(hs:a.eval s=v)(hx:a.eval x=.slice A m c)(hown:w.ownsRow base e 1 v n xs)(hsl:Sl w D A m f)(h1:∀ j,j < m->(f j).oneCell'=true)(h63:n+m<=maxLen)(hbytes:(n+m)*bytes<=140737488355328)(hbase:base<=w.heap.size)(h:∀ v' w',w'.ownsRow base e 1 v' (n+m) (xs ++ (List.range m).map f)->w.grownBy w' v.ownBlock->(v'.ownBlock=v.ownBlock\/v'.ownBlock=some w.heap.size)->K (a.put o.dst v') w'):
  if Region.wanted o (yielded ops a.tmps)=true then Oper.wp P o a w K Q else E:=by
 have hw:Region.wanted o (yielded ops a.tmps)=true:=by simp[Region.wanted,hgd]
 rw[if_pos hw];exact vR he s x ho hs hx hown hsl h1 h63 hbytes hbase h
end
theorem oF(w:World)(t:TypeId)(u:Value): Sl (w.alloc (.cells #[u] t)) (fun k=>k=w.heap.size) (some ⟨w.heap.size,0,none⟩) 1 (fun _=>u):=fun _=>
 ⟨_,_,rfl,rfl,fun j hj=>by
  obtain rfl:j=0:=J;rw[(ay.fresh w t #[u]).cell (0+0)];rfl⟩
theorem zA{α:Type}: ∀ (L:List α) (i:Nat) (h:i < L.length),L.Perm (L[i] :: L.eraseIdx i)
 | _ :: _,0,_=>List.Perm.refl _
 | a :: l,i+1,h=>((zA l i (by simpa using h)).cons a).trans (List.Perm.swap _ _ _)
structure Own(w0:World)(L:List (Nat × TypeId × Array Value))(w:World): Prop where
 av:Below w0.heap.size w0 w
 blk:∀ b ∈ L,w0.heap.size<=b.1/\ay w b.1 b.2.1 b.2.2
 nd:L.Pairwise (fun a b=>a.1≠b.1)
namespace Own
variable {w0 w w':World} {L:List (Nat × TypeId × Array Value)} {g:Nat} {t:TypeId} {cs:Array Value}
theorem start(w:World): Own w [] w:=⟨Below.refl _ _,fun _ h=>(List.not_mem_nil h).elim,List.Pairwise.nil⟩
theorem lt(h:Own w0 L w): ∀ b ∈ L,b.1 < w.heap.size:=fun b hb=>(h.blk b hb).2.lt
theorem size(h:Own w0 L w): w0.heap.size<=w.heap.size:=h.av.size
theorem alloc(h:Own w0 L w)(hg:g=w.heap.size)(t:TypeId)(cs:Array Value): Own w0 (L ++ [(g,t,cs)]) (w.alloc (.cells cs t)):=by
 subst hg;refine⟨h.av.alloc h.av.size _,?_,?_⟩
 ·intro b hb
  rcases List.mem_append.1 hb with hb | hb
  ·exact ⟨(h.blk b hb).1,(h.blk b hb).2.alloc _⟩
  ·obtain rfl:=List.mem_singleton.1 hb
   exact⟨h.av.size,ay.fresh _ _ _⟩
 ·refine List.pairwise_append.2 ⟨h.nd,List.pairwise_singleton _ _,?_⟩
  intro a ha b hb;obtain rfl:=List.mem_singleton.1 hb;exact Nat.ne_of_lt (h.lt a ha)
theorem call(h:Own w0 L w)(hb:Below w.heap.size w w'): Own w0 L w':=
 ⟨h.av.trans (hb.mono h.av.size),fun b hm=>⟨(h.blk b hm).1,(h.blk b hm).2.below hb (h.lt b hm)⟩,h.nd⟩
theorem drew(h:Own w0 L w): Own w0 L w.drew:=h.call (Below.refl _ _).drew
theorem drewN(h:Own w0 L w)(n:Nat): Own w0 L (w.drewN n):=h.call ((Keeps.refl (fun _=>False) w).drewN n).fF
theorem cell(h:Own w0 L w)(i j:Nat){v:Value}(hi:L[i]? = some (g,t,cs))(hj:cs.toList[j]? = some v): w.cell? ⟨g,j,none⟩=some v:=by
 have hb:=(h.blk _ (List.mem_of_getElem? hi)).2;rw[hb.cell j,<-Array.getElem?_toList];exact hj
theorem free(h:Own w0 L w)(i:Nat)(hi:L[i]? = some (g,t,cs)): ∀ j,w.frozen? ⟨g,j,none⟩=false:=
 ((h.blk _ (List.mem_of_getElem? hi)).2).frozen
theorem get(h:Own w0 L w)(i:Nat)(hi:L[i]? = some (g,t,cs)): ay w g t cs:=(h.blk _ (List.mem_of_getElem? hi)).2
theorem geq(h:Own w0 L w)(i:Nat)(hi:L[i]? = some (g,t,cs)): w0.heap.size<=g:=(h.blk _ (List.mem_of_getElem? hi)).1
theorem ne(h:Own w0 L w){i j g':Nat}{t':TypeId}{cs':Array Value}(hi:L[i]? = some (g,t,cs))(hj:L[j]? = some (g',t',cs'))(hij:i≠j): g≠g':=by
 have hl:=List.getElem?_eq_some_iff.1 hi;have hl':=List.getElem?_eq_some_iff.1 hj;obtain⟨hi1,hi2⟩:=hl;obtain⟨hj1,hj2⟩:=hl';have hp:=List.pairwise_iff_getElem.1 h.nd;rcases Nat.lt_or_gt_of_ne hij with hlt | hlt
 ·have:=hp i j hi1 hj1 hlt
  rw[hi2,hj2] at this
  exact this
 ·have:=hp j i hj1 hi1 hlt
  rw[hi2,hj2] at this
  exact fun e=>this e.symm
theorem set(h:Own w0 L w)(i j:Nat)(hi:L[i]? = some (g,t,cs))(v:Value): Own w0 (L.set i (g,t,cs.setIfInBounds j v)) (w.setCell ⟨g,j,none⟩ v):=by
 refine⟨h.av.setCell (p:=⟨g,j,none⟩) (h.geq i hi) v,?_,?_⟩
 ·intro b hb
  obtain⟨k,hk⟩:=List.mem_iff_getElem?.1 hb
  by_cases hki:i=k
  ·subst hki
   have hlen:i < L.length:=(List.getElem?_eq_some_iff.1 hi).1;rw[List.getElem?_set_self hlen] at hk
   injection hk with hk
   subst hk;exact⟨h.geq i hi,(h.get i hi).set j v⟩
  ·rw[List.getElem?_set_ne hki] at hk
   obtain⟨g',t',cs'⟩:=b;exact⟨h.geq k hk,(h.get k hk).far (p:=⟨g,j,none⟩) (h.ne hk hi (fun e=>hki e.symm)) v⟩
 ·have e:(L.set i (g,t,cs.setIfInBounds j v)).map (fun a=>a.1)=L.map (fun a=>a.1):=by
   apply List.ext_getElem?;intro k;rw[List.getElem?_map,List.getElem?_map]
   by_cases hki:i=k
   ·subst hki
    have hlen:i < L.length:=(List.getElem?_eq_some_iff.1 hi).1;rw[List.getElem?_set_self hlen,hi];rfl
   ·rw[List.getElem?_set_ne hki]
  have h1:(L.map (fun a=>a.1)).Pairwise (·≠·):=List.pairwise_map.2 h.nd;rw[<-e] at h1
  exact List.pairwise_map.1 h1
theorem sub{M:List (Nat × TypeId × Array Value)}(h:Own w0 L w)(hs:M.Sublist L): Own w0 M w:=⟨h.av,fun b hb=>h.blk b (hs.subset hb),h.nd.sublist hs⟩
theorem take(h:Own w0 L w)(n:Nat): Own w0 (L.take n) w:=h.sub (List.take_sublist n L)
theorem front(h:Own w0 L w)(i:Nat){b:Nat × TypeId × Array Value}(hi:L[i]? = some b): Own w0 (b :: L.eraseIdx i) w:=by
 obtain⟨hl,rfl⟩:=List.getElem?_eq_some_iff.1 hi;have hp:L.Perm (L[i] :: L.eraseIdx i):=zA L i hl;exact⟨h.av,fun b hb=>h.blk b (hp.mem_iff.2 hb),(hp.pairwise_iff (fun e e'=>e e'.symm)).1 h.nd⟩
theorem keeps(h:Own w0 L w): Keeps (fun _=>False) w0 w:=Keeps.of_below h.av
theorem bn(w:World){x:Nat}(hx:x=w.heap.size)(t:TypeId)(c:Array Value): Own w [(x,t,c)] (w.alloc (.cells c t)):=(start w).alloc hx t c
theorem eD(w:World){x:Nat}(hx:x=w.heap.size)(t:TypeId)(c:Array Value)(t1:TypeId)(c1:Array Value): Own w [(x,t,c),(x+1,t1,c1)] ((w.alloc (.cells c t)).alloc (.cells c1 t1)):=
 (bn w hx t c).alloc (by simp[hx]) t1 c1
theorem qI(w:World){x:Nat}(hx:x=w.heap.size)(t:TypeId)(c:Array Value)(t1:TypeId)(c1:Array Value)(t2:TypeId)(c2:Array Value):
  Own w [(x,t,c),(x+1,t1,c1),(x+1+1,t2,c2)] (((w.alloc (.cells c t)).alloc (.cells c1 t1)).alloc (.cells c2 t2)):=
 (eD w hx t c t1 c1).alloc (by simp[hx]) t2 c2
theorem SN(w:World){x:Nat}(hx:x=w.heap.size)(t:TypeId)(c:Array Value)(t1:TypeId)(c1:Array Value)(t2:TypeId)(c2:Array Value)(t3:TypeId)(c3:Array Value):
  Own w [(x,t,c),(x+1,t1,c1),(x+1+1,t2,c2),(x+1+1+1,t3,c3)] ((((w.alloc (.cells c t)).alloc (.cells c1 t1)).alloc (.cells c2 t2)).alloc (.cells c3 t3)):=
 (qI w hx t c t1 c1 t2 c2).alloc (by simp[hx]) t3 c3
end Own
def setFrom(w:World)(g k:Nat): List Value->World
 | []=>w
 | v :: vs=>setFrom (w.setCell ⟨g,k,none⟩ v) g (k+1) vs
def fI(cs:Array Value)(k:Nat): List Value->Array Value
 | []=>cs
 | v :: vs=>fI (cs.setIfInBounds k v) (k+1) vs
theorem rZ: ∀ (vs:List Value) (k:Nat) (cs:Array Value),(fI cs k vs).size=cs.size
 | [],_,_=>rfl
 | v :: vs,k,cs=>by unfold fI;rw[rZ vs];simp
theorem zI: ∀ (vs:List Value) (k:Nat) (cs:Array Value) (i:Nat),i < k->(fI cs k vs)[i]? = cs[i]?
 | [],_,_,_,_=>rfl
 | v :: vs,k,cs,i,h=>by
  unfold fI;rw[zI vs (k+1) _ i J,Array.getElem?_setIfInBounds];rw[if_neg J]
theorem uy: ∀ (vs:List Value) (k:Nat) (cs:Array Value) (i:Nat),k+vs.length<=cs.size->(fI cs k vs)[k+i]? = if i < vs.length then vs[i]? else cs[k+i]?
 | [],_,_,_,_=>by simp[fI]
 | v :: vs,k,cs,0,h=>by
  unfold fI;simp at h
  rw[zI vs (k+1) _ (k+0) J,Array.getElem?_setIfInBounds];simp;omega
 | v :: vs,k,cs,i+1,h=>by
  unfold fI;simp at h
  have:=uy vs (k+1) (cs.setIfInBounds k v) i (by simp;omega);have e:k+(i+1)=k+1+i:=J;rw[e,this];simp only[List.length_cons,Nat.add_lt_add_iff_right,List.getElem?_cons_succ];have e2:(cs.setIfInBounds k v)[k+1+i]? = cs[k+1+i]?:=by rw[Array.getElem?_setIfInBounds,if_neg (show ¬ k=k+1+i by omega)]
  rw[e2]
theorem Own.xK{w0:World}{L:List (Nat × TypeId × Array Value)}{g:Nat}{t:TypeId}: ∀ (vs:List Value) (k:Nat) (w:World) (cs:Array Value),Own w0 ((g,t,cs) :: L) w->Own w0 ((g,t,fI cs k vs) :: L) (setFrom w g k vs)
 | [],_,_,_,h=>h
 | v :: vs,k,_,_,h=>Own.xK vs (k+1) _ _ (h.set 0 k rfl v)
def aU(w0:World)(g:Nat)(t:TypeId)(n:Nat)(L:List (Nat × TypeId × Array Value))(w:World): Prop:=∃ cs:Array Value,cs.size=n/\Own w0 ((g,t,cs) :: L) w
namespace aU
variable {w0 w w':World} {L:List (Nat × TypeId × Array Value)} {g n:Nat} {t:TypeId} {cs:Array Value}
theorem of(h:Own w0 ((g,t,cs) :: L) w)(hn:cs.size=n): aU w0 g t n L w:=⟨cs,hn,h⟩
theorem call(h:aU w0 g t n L w)(hb:Below w.heap.size w w'): aU w0 g t n L w':=by
 obtain⟨cs,hn,ho⟩:=h;exact⟨cs,hn,ho.call hb⟩
theorem rest(h:aU w0 g t n L w): Own w0 L w:=by
 obtain⟨cs,hn,ho⟩:=h;exact ho.sub (List.sublist_cons_self _ _)
theorem put(h:aU w0 g t n L w)(vs:List Value)(hl:vs.length=n): Own w0 ((g,t,vs.toArray) :: L) (setFrom w g 0 vs):=by
 obtain⟨cs,hn,ho⟩:=h;have:=Own.xK vs 0 w cs ho;have e:fI cs 0 vs=vs.toArray:=by
  apply Array.ext
  ·rw[rZ];simp[hn,hl]
  ·intro i h1 h2
   have h3:i < vs.length:=by simpa using h2
   have:=uy vs 0 cs i J;rw[Nat.zero_add,Array.getElem?_eq_getElem h1,if_pos h3,List.getElem?_eq_getElem h3] at this
   exact Option.some.inj this
 rw[e] at this
 exact this
theorem one(h:aU w0 g t 1 L w): ∃ a,Own w0 ((g,t,#[a]) :: L) w:=by
 obtain⟨⟨cs⟩,hn,ho⟩:=h;obtain _ | ⟨a,_ | ⟨b,cs⟩⟩:=cs<;>simp at hn
 exact⟨a,ho⟩
theorem two(h:aU w0 g t 2 L w): ∃ a b,Own w0 ((g,t,#[a,b]) :: L) w:=by
 obtain⟨⟨cs⟩,hn,ho⟩:=h;obtain _ | ⟨a,_ | ⟨b,_ | ⟨c,cs⟩⟩⟩:=cs<;>simp at hn
 exact⟨a,b,ho⟩
theorem eleven(h:aU w0 g t 11 L w): ∃ a b c d e f i j k l m,Own w0 ((g,t,#[a,b,c,d,e,f,i,j,k,l,m]) :: L) w:=by
 obtain⟨⟨cs⟩,hn,ho⟩:=h;obtain _ | ⟨a,_ | ⟨b,_ | ⟨c,_ | ⟨d,_ | ⟨e,_ | ⟨f,_ | ⟨i,_ | ⟨j,_ | ⟨k,_ | ⟨l,_ | ⟨m,_ | ⟨o,cs⟩⟩⟩⟩⟩⟩⟩⟩⟩⟩⟩⟩:=cs<;>simp at hn
 exact⟨a,b,c,d,e,f,i,j,k,l,m,ho⟩
end aU
theorem Own.c{w0 w:World}{L:List (Nat×TypeId×Array Value)}(h:Own w0 L w)(i j:Nat){g:Nat}{t:TypeId}{cs:Array Value}{v:Value}(hi:L[i]? = some (g,t,cs):=by exact rfl)(hj:cs.toList[j]? = some v:=by exact rfl):w.cell? ⟨g,j,none⟩=some v:=h.cell i j hi hj
theorem Own.c2{w0 w:World}{L:List (Nat×TypeId×Array Value)}(h:Own w0 L w)(i:Nat){g:Nat}{t:TypeId}{cs:Array Value}{v0 v1:Value}{l:List Value}(hi:L[i]? = some (g,t,cs):=by exact rfl)(hj:cs.toList=v0::v1::l:=by exact rfl):w.cell? ⟨g,0,none⟩=some v0∧w.cell? ⟨g,1,none⟩=some v1:=⟨h.cell i 0 hi (by rw[hj];rfl),h.cell i 1 hi (by rw[hj];rfl)⟩
theorem Own.c3{w0 w:World}{L:List (Nat×TypeId×Array Value)}(h:Own w0 L w)(i:Nat){g:Nat}{t:TypeId}{cs:Array Value}{v0 v1 v2:Value}{l:List Value}(hi:L[i]? = some (g,t,cs):=by exact rfl)(hj:cs.toList=v0::v1::v2::l:=by exact rfl):w.cell? ⟨g,0,none⟩=some v0∧w.cell? ⟨g,1,none⟩=some v1∧w.cell? ⟨g,2,none⟩=some v2:=⟨h.cell i 0 hi (by rw[hj];rfl),h.cell i 1 hi (by rw[hj];rfl),h.cell i 2 hi (by rw[hj];rfl)⟩
theorem Own.c4{w0 w:World}{L:List (Nat×TypeId×Array Value)}(h:Own w0 L w)(i:Nat){g:Nat}{t:TypeId}{cs:Array Value}{v0 v1 v2 v3:Value}{l:List Value}(hi:L[i]? = some (g,t,cs):=by exact rfl)(hj:cs.toList=v0::v1::v2::v3::l:=by exact rfl):w.cell? ⟨g,0,none⟩=some v0∧w.cell? ⟨g,1,none⟩=some v1∧w.cell? ⟨g,2,none⟩=some v2∧w.cell? ⟨g,3,none⟩=some v3:=⟨h.cell i 0 hi (by rw[hj];rfl),h.cell i 1 hi (by rw[hj];rfl),h.cell i 2 hi (by rw[hj];rfl),h.cell i 3 hi (by rw[hj];rfl)⟩
theorem Own.c5{w0 w:World}{L:List (Nat×TypeId×Array Value)}(h:Own w0 L w)(i:Nat){g:Nat}{t:TypeId}{cs:Array Value}{v0 v1 v2 v3 v4:Value}{l:List Value}(hi:L[i]? = some (g,t,cs):=by exact rfl)(hj:cs.toList=v0::v1::v2::v3::v4::l:=by exact rfl):w.cell? ⟨g,0,none⟩=some v0∧w.cell? ⟨g,1,none⟩=some v1∧w.cell? ⟨g,2,none⟩=some v2∧w.cell? ⟨g,3,none⟩=some v3∧w.cell? ⟨g,4,none⟩=some v4:=⟨h.cell i 0 hi (by rw[hj];rfl),h.cell i 1 hi (by rw[hj];rfl),h.cell i 2 hi (by rw[hj];rfl),h.cell i 3 hi (by rw[hj];rfl),h.cell i 4 hi (by rw[hj];rfl)⟩
theorem Own.c6{w0 w:World}{L:List (Nat×TypeId×Array Value)}(h:Own w0 L w)(i:Nat){g:Nat}{t:TypeId}{cs:Array Value}{v0 v1 v2 v3 v4 v5:Value}{l:List Value}(hi:L[i]? = some (g,t,cs):=by exact rfl)(hj:cs.toList=v0::v1::v2::v3::v4::v5::l:=by exact rfl):w.cell? ⟨g,0,none⟩=some v0∧w.cell? ⟨g,1,none⟩=some v1∧w.cell? ⟨g,2,none⟩=some v2∧w.cell? ⟨g,3,none⟩=some v3∧w.cell? ⟨g,4,none⟩=some v4∧w.cell? ⟨g,5,none⟩=some v5:=⟨h.cell i 0 hi (by rw[hj];rfl),h.cell i 1 hi (by rw[hj];rfl),h.cell i 2 hi (by rw[hj];rfl),h.cell i 3 hi (by rw[hj];rfl),h.cell i 4 hi (by rw[hj];rfl),h.cell i 5 hi (by rw[hj];rfl)⟩
theorem Own.c7{w0 w:World}{L:List (Nat×TypeId×Array Value)}(h:Own w0 L w)(i:Nat){g:Nat}{t:TypeId}{cs:Array Value}{v0 v1 v2 v3 v4 v5 v6:Value}{l:List Value}(hi:L[i]? = some (g,t,cs):=by exact rfl)(hj:cs.toList=v0::v1::v2::v3::v4::v5::v6::l:=by exact rfl):w.cell? ⟨g,0,none⟩=some v0∧w.cell? ⟨g,1,none⟩=some v1∧w.cell? ⟨g,2,none⟩=some v2∧w.cell? ⟨g,3,none⟩=some v3∧w.cell? ⟨g,4,none⟩=some v4∧w.cell? ⟨g,5,none⟩=some v5∧w.cell? ⟨g,6,none⟩=some v6:=⟨h.cell i 0 hi (by rw[hj];rfl),h.cell i 1 hi (by rw[hj];rfl),h.cell i 2 hi (by rw[hj];rfl),h.cell i 3 hi (by rw[hj];rfl),h.cell i 4 hi (by rw[hj];rfl),h.cell i 5 hi (by rw[hj];rfl),h.cell i 6 hi (by rw[hj];rfl)⟩
theorem Own.c8{w0 w:World}{L:List (Nat×TypeId×Array Value)}(h:Own w0 L w)(i:Nat){g:Nat}{t:TypeId}{cs:Array Value}{v0 v1 v2 v3 v4 v5 v6 v7:Value}{l:List Value}(hi:L[i]? = some (g,t,cs):=by exact rfl)(hj:cs.toList=v0::v1::v2::v3::v4::v5::v6::v7::l:=by exact rfl):w.cell? ⟨g,0,none⟩=some v0∧w.cell? ⟨g,1,none⟩=some v1∧w.cell? ⟨g,2,none⟩=some v2∧w.cell? ⟨g,3,none⟩=some v3∧w.cell? ⟨g,4,none⟩=some v4∧w.cell? ⟨g,5,none⟩=some v5∧w.cell? ⟨g,6,none⟩=some v6∧w.cell? ⟨g,7,none⟩=some v7:=⟨h.cell i 0 hi (by rw[hj];rfl),h.cell i 1 hi (by rw[hj];rfl),h.cell i 2 hi (by rw[hj];rfl),h.cell i 3 hi (by rw[hj];rfl),h.cell i 4 hi (by rw[hj];rfl),h.cell i 5 hi (by rw[hj];rfl),h.cell i 6 hi (by rw[hj];rfl),h.cell i 7 hi (by rw[hj];rfl)⟩
theorem Own.c9{w0 w:World}{L:List (Nat×TypeId×Array Value)}(h:Own w0 L w)(i:Nat){g:Nat}{t:TypeId}{cs:Array Value}{v0 v1 v2 v3 v4 v5 v6 v7 v8:Value}{l:List Value}(hi:L[i]? = some (g,t,cs):=by exact rfl)(hj:cs.toList=v0::v1::v2::v3::v4::v5::v6::v7::v8::l:=by exact rfl):w.cell? ⟨g,0,none⟩=some v0∧w.cell? ⟨g,1,none⟩=some v1∧w.cell? ⟨g,2,none⟩=some v2∧w.cell? ⟨g,3,none⟩=some v3∧w.cell? ⟨g,4,none⟩=some v4∧w.cell? ⟨g,5,none⟩=some v5∧w.cell? ⟨g,6,none⟩=some v6∧w.cell? ⟨g,7,none⟩=some v7∧w.cell? ⟨g,8,none⟩=some v8:=⟨h.cell i 0 hi (by rw[hj];rfl),h.cell i 1 hi (by rw[hj];rfl),h.cell i 2 hi (by rw[hj];rfl),h.cell i 3 hi (by rw[hj];rfl),h.cell i 4 hi (by rw[hj];rfl),h.cell i 5 hi (by rw[hj];rfl),h.cell i 6 hi (by rw[hj];rfl),h.cell i 7 hi (by rw[hj];rfl),h.cell i 8 hi (by rw[hj];rfl)⟩
theorem Own.c10{w0 w:World}{L:List (Nat×TypeId×Array Value)}(h:Own w0 L w)(i:Nat){g:Nat}{t:TypeId}{cs:Array Value}{v0 v1 v2 v3 v4 v5 v6 v7 v8 v9:Value}{l:List Value}(hi:L[i]? = some (g,t,cs):=by exact rfl)(hj:cs.toList=v0::v1::v2::v3::v4::v5::v6::v7::v8::v9::l:=by exact rfl):w.cell? ⟨g,0,none⟩=some v0∧w.cell? ⟨g,1,none⟩=some v1∧w.cell? ⟨g,2,none⟩=some v2∧w.cell? ⟨g,3,none⟩=some v3∧w.cell? ⟨g,4,none⟩=some v4∧w.cell? ⟨g,5,none⟩=some v5∧w.cell? ⟨g,6,none⟩=some v6∧w.cell? ⟨g,7,none⟩=some v7∧w.cell? ⟨g,8,none⟩=some v8∧w.cell? ⟨g,9,none⟩=some v9:=⟨h.cell i 0 hi (by rw[hj];rfl),h.cell i 1 hi (by rw[hj];rfl),h.cell i 2 hi (by rw[hj];rfl),h.cell i 3 hi (by rw[hj];rfl),h.cell i 4 hi (by rw[hj];rfl),h.cell i 5 hi (by rw[hj];rfl),h.cell i 6 hi (by rw[hj];rfl),h.cell i 7 hi (by rw[hj];rfl),h.cell i 8 hi (by rw[hj];rfl),h.cell i 9 hi (by rw[hj];rfl)⟩
theorem Own.c11{w0 w:World}{L:List (Nat×TypeId×Array Value)}(h:Own w0 L w)(i:Nat){g:Nat}{t:TypeId}{cs:Array Value}{v0 v1 v2 v3 v4 v5 v6 v7 v8 v9 v10:Value}{l:List Value}(hi:L[i]? = some (g,t,cs):=by exact rfl)(hj:cs.toList=v0::v1::v2::v3::v4::v5::v6::v7::v8::v9::v10::l:=by exact rfl):w.cell? ⟨g,0,none⟩=some v0∧w.cell? ⟨g,1,none⟩=some v1∧w.cell? ⟨g,2,none⟩=some v2∧w.cell? ⟨g,3,none⟩=some v3∧w.cell? ⟨g,4,none⟩=some v4∧w.cell? ⟨g,5,none⟩=some v5∧w.cell? ⟨g,6,none⟩=some v6∧w.cell? ⟨g,7,none⟩=some v7∧w.cell? ⟨g,8,none⟩=some v8∧w.cell? ⟨g,9,none⟩=some v9∧w.cell? ⟨g,10,none⟩=some v10:=⟨h.cell i 0 hi (by rw[hj];rfl),h.cell i 1 hi (by rw[hj];rfl),h.cell i 2 hi (by rw[hj];rfl),h.cell i 3 hi (by rw[hj];rfl),h.cell i 4 hi (by rw[hj];rfl),h.cell i 5 hi (by rw[hj];rfl),h.cell i 6 hi (by rw[hj];rfl),h.cell i 7 hi (by rw[hj];rfl),h.cell i 8 hi (by rw[hj];rfl),h.cell i 9 hi (by rw[hj];rfl),h.cell i 10 hi (by rw[hj];rfl)⟩
theorem Own.c12{w0 w:World}{L:List (Nat×TypeId×Array Value)}(h:Own w0 L w)(i:Nat){g:Nat}{t:TypeId}{cs:Array Value}{v0 v1 v2 v3 v4 v5 v6 v7 v8 v9 v10 v11:Value}{l:List Value}(hi:L[i]? = some (g,t,cs):=by exact rfl)(hj:cs.toList=v0::v1::v2::v3::v4::v5::v6::v7::v8::v9::v10::v11::l:=by exact rfl):w.cell? ⟨g,0,none⟩=some v0∧w.cell? ⟨g,1,none⟩=some v1∧w.cell? ⟨g,2,none⟩=some v2∧w.cell? ⟨g,3,none⟩=some v3∧w.cell? ⟨g,4,none⟩=some v4∧w.cell? ⟨g,5,none⟩=some v5∧w.cell? ⟨g,6,none⟩=some v6∧w.cell? ⟨g,7,none⟩=some v7∧w.cell? ⟨g,8,none⟩=some v8∧w.cell? ⟨g,9,none⟩=some v9∧w.cell? ⟨g,10,none⟩=some v10∧w.cell? ⟨g,11,none⟩=some v11:=⟨h.cell i 0 hi (by rw[hj];rfl),h.cell i 1 hi (by rw[hj];rfl),h.cell i 2 hi (by rw[hj];rfl),h.cell i 3 hi (by rw[hj];rfl),h.cell i 4 hi (by rw[hj];rfl),h.cell i 5 hi (by rw[hj];rfl),h.cell i 6 hi (by rw[hj];rfl),h.cell i 7 hi (by rw[hj];rfl),h.cell i 8 hi (by rw[hj];rfl),h.cell i 9 hi (by rw[hj];rfl),h.cell i 10 hi (by rw[hj];rfl),h.cell i 11 hi (by rw[hj];rfl)⟩
theorem Own.c13{w0 w:World}{L:List (Nat×TypeId×Array Value)}(h:Own w0 L w)(i:Nat){g:Nat}{t:TypeId}{cs:Array Value}{v0 v1 v2 v3 v4 v5 v6 v7 v8 v9 v10 v11 v12:Value}{l:List Value}(hi:L[i]? = some (g,t,cs):=by exact rfl)(hj:cs.toList=v0::v1::v2::v3::v4::v5::v6::v7::v8::v9::v10::v11::v12::l:=by exact rfl):w.cell? ⟨g,0,none⟩=some v0∧w.cell? ⟨g,1,none⟩=some v1∧w.cell? ⟨g,2,none⟩=some v2∧w.cell? ⟨g,3,none⟩=some v3∧w.cell? ⟨g,4,none⟩=some v4∧w.cell? ⟨g,5,none⟩=some v5∧w.cell? ⟨g,6,none⟩=some v6∧w.cell? ⟨g,7,none⟩=some v7∧w.cell? ⟨g,8,none⟩=some v8∧w.cell? ⟨g,9,none⟩=some v9∧w.cell? ⟨g,10,none⟩=some v10∧w.cell? ⟨g,11,none⟩=some v11∧w.cell? ⟨g,12,none⟩=some v12:=⟨h.cell i 0 hi (by rw[hj];rfl),h.cell i 1 hi (by rw[hj];rfl),h.cell i 2 hi (by rw[hj];rfl),h.cell i 3 hi (by rw[hj];rfl),h.cell i 4 hi (by rw[hj];rfl),h.cell i 5 hi (by rw[hj];rfl),h.cell i 6 hi (by rw[hj];rfl),h.cell i 7 hi (by rw[hj];rfl),h.cell i 8 hi (by rw[hj];rfl),h.cell i 9 hi (by rw[hj];rfl),h.cell i 10 hi (by rw[hj];rfl),h.cell i 11 hi (by rw[hj];rfl),h.cell i 12 hi (by rw[hj];rfl)⟩
theorem Own.c14{w0 w:World}{L:List (Nat×TypeId×Array Value)}(h:Own w0 L w)(i:Nat){g:Nat}{t:TypeId}{cs:Array Value}{v0 v1 v2 v3 v4 v5 v6 v7 v8 v9 v10 v11 v12 v13:Value}{l:List Value}(hi:L[i]? = some (g,t,cs):=by exact rfl)(hj:cs.toList=v0::v1::v2::v3::v4::v5::v6::v7::v8::v9::v10::v11::v12::v13::l:=by exact rfl):w.cell? ⟨g,0,none⟩=some v0∧w.cell? ⟨g,1,none⟩=some v1∧w.cell? ⟨g,2,none⟩=some v2∧w.cell? ⟨g,3,none⟩=some v3∧w.cell? ⟨g,4,none⟩=some v4∧w.cell? ⟨g,5,none⟩=some v5∧w.cell? ⟨g,6,none⟩=some v6∧w.cell? ⟨g,7,none⟩=some v7∧w.cell? ⟨g,8,none⟩=some v8∧w.cell? ⟨g,9,none⟩=some v9∧w.cell? ⟨g,10,none⟩=some v10∧w.cell? ⟨g,11,none⟩=some v11∧w.cell? ⟨g,12,none⟩=some v12∧w.cell? ⟨g,13,none⟩=some v13:=⟨h.cell i 0 hi (by rw[hj];rfl),h.cell i 1 hi (by rw[hj];rfl),h.cell i 2 hi (by rw[hj];rfl),h.cell i 3 hi (by rw[hj];rfl),h.cell i 4 hi (by rw[hj];rfl),h.cell i 5 hi (by rw[hj];rfl),h.cell i 6 hi (by rw[hj];rfl),h.cell i 7 hi (by rw[hj];rfl),h.cell i 8 hi (by rw[hj];rfl),h.cell i 9 hi (by rw[hj];rfl),h.cell i 10 hi (by rw[hj];rfl),h.cell i 11 hi (by rw[hj];rfl),h.cell i 12 hi (by rw[hj];rfl),h.cell i 13 hi (by rw[hj];rfl)⟩
theorem Own.c15{w0 w:World}{L:List (Nat×TypeId×Array Value)}(h:Own w0 L w)(i:Nat){g:Nat}{t:TypeId}{cs:Array Value}{v0 v1 v2 v3 v4 v5 v6 v7 v8 v9 v10 v11 v12 v13 v14:Value}{l:List Value}(hi:L[i]? = some (g,t,cs):=by exact rfl)(hj:cs.toList=v0::v1::v2::v3::v4::v5::v6::v7::v8::v9::v10::v11::v12::v13::v14::l:=by exact rfl):w.cell? ⟨g,0,none⟩=some v0∧w.cell? ⟨g,1,none⟩=some v1∧w.cell? ⟨g,2,none⟩=some v2∧w.cell? ⟨g,3,none⟩=some v3∧w.cell? ⟨g,4,none⟩=some v4∧w.cell? ⟨g,5,none⟩=some v5∧w.cell? ⟨g,6,none⟩=some v6∧w.cell? ⟨g,7,none⟩=some v7∧w.cell? ⟨g,8,none⟩=some v8∧w.cell? ⟨g,9,none⟩=some v9∧w.cell? ⟨g,10,none⟩=some v10∧w.cell? ⟨g,11,none⟩=some v11∧w.cell? ⟨g,12,none⟩=some v12∧w.cell? ⟨g,13,none⟩=some v13∧w.cell? ⟨g,14,none⟩=some v14:=⟨h.cell i 0 hi (by rw[hj];rfl),h.cell i 1 hi (by rw[hj];rfl),h.cell i 2 hi (by rw[hj];rfl),h.cell i 3 hi (by rw[hj];rfl),h.cell i 4 hi (by rw[hj];rfl),h.cell i 5 hi (by rw[hj];rfl),h.cell i 6 hi (by rw[hj];rfl),h.cell i 7 hi (by rw[hj];rfl),h.cell i 8 hi (by rw[hj];rfl),h.cell i 9 hi (by rw[hj];rfl),h.cell i 10 hi (by rw[hj];rfl),h.cell i 11 hi (by rw[hj];rfl),h.cell i 12 hi (by rw[hj];rfl),h.cell i 13 hi (by rw[hj];rfl),h.cell i 14 hi (by rw[hj];rfl)⟩
theorem Own.c16{w0 w:World}{L:List (Nat×TypeId×Array Value)}(h:Own w0 L w)(i:Nat){g:Nat}{t:TypeId}{cs:Array Value}{v0 v1 v2 v3 v4 v5 v6 v7 v8 v9 v10 v11 v12 v13 v14 v15:Value}{l:List Value}(hi:L[i]? = some (g,t,cs):=by exact rfl)(hj:cs.toList=v0::v1::v2::v3::v4::v5::v6::v7::v8::v9::v10::v11::v12::v13::v14::v15::l:=by exact rfl):w.cell? ⟨g,0,none⟩=some v0∧w.cell? ⟨g,1,none⟩=some v1∧w.cell? ⟨g,2,none⟩=some v2∧w.cell? ⟨g,3,none⟩=some v3∧w.cell? ⟨g,4,none⟩=some v4∧w.cell? ⟨g,5,none⟩=some v5∧w.cell? ⟨g,6,none⟩=some v6∧w.cell? ⟨g,7,none⟩=some v7∧w.cell? ⟨g,8,none⟩=some v8∧w.cell? ⟨g,9,none⟩=some v9∧w.cell? ⟨g,10,none⟩=some v10∧w.cell? ⟨g,11,none⟩=some v11∧w.cell? ⟨g,12,none⟩=some v12∧w.cell? ⟨g,13,none⟩=some v13∧w.cell? ⟨g,14,none⟩=some v14∧w.cell? ⟨g,15,none⟩=some v15:=⟨h.cell i 0 hi (by rw[hj];rfl),h.cell i 1 hi (by rw[hj];rfl),h.cell i 2 hi (by rw[hj];rfl),h.cell i 3 hi (by rw[hj];rfl),h.cell i 4 hi (by rw[hj];rfl),h.cell i 5 hi (by rw[hj];rfl),h.cell i 6 hi (by rw[hj];rfl),h.cell i 7 hi (by rw[hj];rfl),h.cell i 8 hi (by rw[hj];rfl),h.cell i 9 hi (by rw[hj];rfl),h.cell i 10 hi (by rw[hj];rfl),h.cell i 11 hi (by rw[hj];rfl),h.cell i 12 hi (by rw[hj];rfl),h.cell i 13 hi (by rw[hj];rfl),h.cell i 14 hi (by rw[hj];rfl),h.cell i 15 hi (by rw[hj];rfl)⟩
theorem Own.c17{w0 w:World}{L:List (Nat×TypeId×Array Value)}(h:Own w0 L w)(i:Nat){g:Nat}{t:TypeId}{cs:Array Value}{v0 v1 v2 v3 v4 v5 v6 v7 v8 v9 v10 v11 v12 v13 v14 v15 v16:Value}{l:List Value}(hi:L[i]? = some (g,t,cs):=by exact rfl)(hj:cs.toList=v0::v1::v2::v3::v4::v5::v6::v7::v8::v9::v10::v11::v12::v13::v14::v15::v16::l:=by exact rfl):w.cell? ⟨g,0,none⟩=some v0∧w.cell? ⟨g,1,none⟩=some v1∧w.cell? ⟨g,2,none⟩=some v2∧w.cell? ⟨g,3,none⟩=some v3∧w.cell? ⟨g,4,none⟩=some v4∧w.cell? ⟨g,5,none⟩=some v5∧w.cell? ⟨g,6,none⟩=some v6∧w.cell? ⟨g,7,none⟩=some v7∧w.cell? ⟨g,8,none⟩=some v8∧w.cell? ⟨g,9,none⟩=some v9∧w.cell? ⟨g,10,none⟩=some v10∧w.cell? ⟨g,11,none⟩=some v11∧w.cell? ⟨g,12,none⟩=some v12∧w.cell? ⟨g,13,none⟩=some v13∧w.cell? ⟨g,14,none⟩=some v14∧w.cell? ⟨g,15,none⟩=some v15∧w.cell? ⟨g,16,none⟩=some v16:=⟨h.cell i 0 hi (by rw[hj];rfl),h.cell i 1 hi (by rw[hj];rfl),h.cell i 2 hi (by rw[hj];rfl),h.cell i 3 hi (by rw[hj];rfl),h.cell i 4 hi (by rw[hj];rfl),h.cell i 5 hi (by rw[hj];rfl),h.cell i 6 hi (by rw[hj];rfl),h.cell i 7 hi (by rw[hj];rfl),h.cell i 8 hi (by rw[hj];rfl),h.cell i 9 hi (by rw[hj];rfl),h.cell i 10 hi (by rw[hj];rfl),h.cell i 11 hi (by rw[hj];rfl),h.cell i 12 hi (by rw[hj];rfl),h.cell i 13 hi (by rw[hj];rfl),h.cell i 14 hi (by rw[hj];rfl),h.cell i 15 hi (by rw[hj];rfl),h.cell i 16 hi (by rw[hj];rfl)⟩
structure Pt where
 t: Int
 v:Int
 s:Int
deriving DecidableEq
def bI(x:Int): Prop:=-9223372036854775808<=x/\x<=9223372036854775807
structure eU(p:Pt): Prop where
 t:bI p.t
 v:bI p.v
 s:bI p.s
def dN(w:World)(D:Nat->Prop)(A:Option Addr)(n:Nat)(f:Nat->Pt): Prop:=
 0 < n->∃ b off,A=some ⟨b,off,none⟩/\D b/\∀ j,j < n->w.cell? ⟨b,off+j*3,none⟩=some (Z (f j).t)/\w.cell? ⟨b,off+j*3+1,none⟩=some (Z (f j).v)/\w.cell? ⟨b,off+j*3+2,none⟩=some (Z (f j).s)
namespace dN
variable {w w':World} {D E:Nat->Prop} {A:Option Addr} {n m:Nat} {f g:Nat->Pt}
theorem nil(w:World)(D:Nat->Prop)(A:Option Addr)(f:Nat->Pt): dN w D A 0 f:=fun h=>absurd h J
theorem keep(h:dN w D A n f)(hk:∀ k,D k->k < w.heap.size->w'.heap[k]? = w.heap[k]?): dN w' D A n f:=fun hn=>by
 obtain⟨b,off,e,hd,hc⟩:=h hn;have hlt:b < w.heap.size:=World.block_lt_of_cell? w _ (hc 0 hn).1;refine⟨b,off,e,hd,fun j hj=>?_⟩;obtain⟨h1,h2,h3⟩:=hc j hj;exact⟨(World.cell?_of_block (w:=w) (a:=⟨b,_,none⟩) (hk b hd hlt)).trans h1,(World.cell?_of_block (w:=w) (a:=⟨b,_,none⟩) (hk b hd hlt)).trans h2,(World.cell?_of_block (w:=w) (a:=⟨b,_,none⟩) (hk b hd hlt)).trans h3⟩
theorem below(h:dN w D A n f)(hk:Below w.heap.size w w'): dN w' D A n f:=h.keep fun k _ hlt=>hk.block k hlt
theorem keeps(h:dN w D A n f)(hk:Keeps (fun _=>False) w w'): dN w' D A n f:=h.keep fun k _ hlt=>hk.block k hlt (fun h=>h)
theorem mono(h:dN w D A n f)(hd:∀ k,D k->E k): dN w E A n f:=fun hn=>by
 obtain⟨b,off,e,hD,hc⟩:=h hn;exact⟨b,off,e,hd b hD,hc⟩
theorem take(h:dN w D A n f)(hm:m<=n): dN w D A m f:=fun hn=>by
 obtain⟨b,off,e,hD,hc⟩:=h J;exact⟨b,off,e,hD,fun j hj=>hc j J⟩
theorem congr(h:dN w D A n f)(hf:∀ j,j < n->f j=g j): dN w D A n g:=fun hn=>by
 obtain⟨b,off,e,hD,hc⟩:=h hn;exact⟨b,off,e,hD,fun j hj=>by rw[<-hf j hj];exact hc j hj⟩
theorem drop{b off:Nat}(h:dN w D (some ⟨b,off,none⟩) (m+n) f): dN w D (some ⟨b,off+m*3,none⟩) n (fun j=>f (m+j)):=fun hn=>by
 obtain⟨b',off',e,hD,hc⟩:=h J;simp only[Option.some.injEq,Addr.mk.injEq] at e
 obtain⟨rfl,rfl,-⟩:=e;refine⟨b,_,rfl,hD,fun j hj=>?_⟩;have:=hc (m+j) J;rw[show off+(m+j)*3=off+m*3+j*3 by omega] at this
 exact this
end dN
end
namespace V
open Go.RowKit Go.Extern.Stop Go.Stop Go.Extern
theorem NY(v:Value)(w:World): (Extern.ReflectliteType.typeOf #[.iface 24 v]).run Tryz.prog w=.ok (.iface 426 (.agg #[.pointer (some ⟨4,24,none⟩)])) w:=by kernel_rfl
theorem D8(w:World): ((Extern.ReflectliteType.method fun t=>do Rtype.noPackHeld "Comparable" t;(fun a=>Value.bool a.comparable) <$> typeInfo t) #[.agg #[.pointer (some ⟨4,24,none⟩)]]).run Tryz.prog w=.ok (.bool true) w:=by kernel_rfl
theorem Ti(v:Value)(xT:TypeId)(w:World): (Instr.typeAssert (.iface 24 v) xT 480 true).run Tryz.prog w=.ok (.tuple #[.nilIface,.bool false]) w:=run_typeAssert_lacksB Tryz.underlying480 (by kernel_rfl) (by kernel_rfl) v xT w
theorem Ll(v:Value)(xT:TypeId)(w:World): (Instr.typeAssert (.iface 24 v) xT 433 true).run Tryz.prog w=.ok (.tuple #[.nilIface,.bool false]) w:=run_typeAssert_lacksB Tryz.underlying433 (by kernel_rfl) (by kernel_rfl) v xT w
theorem I6(v:Value)(xT:TypeId)(w:World): (Instr.typeAssert (.iface 24 v) xT 435 true).run Tryz.prog w=.ok (.tuple #[.nilIface,.bool false]) w:=run_typeAssert_lacksB Tryz.underlying435 (by kernel_rfl) (by kernel_rfl) v xT w
theorem Tj(v:Value)(xT:TypeId)(w:World): (Instr.typeAssert (.iface 330 v) xT 480 true).run Tryz.prog w=.ok (.tuple #[.nilIface,.bool false]) w:=run_typeAssert_lacksB Tryz.underlying480 (by kernel_rfl) (by kernel_rfl) v xT w
theorem Lm(v:Value)(xT:TypeId)(w:World): (Instr.typeAssert (.iface 330 v) xT 433 true).run Tryz.prog w=.ok (.tuple #[.iface 330 v,.bool true]) w:=run_typeAssert_hasB Tryz.underlying433 (by kernel_rfl) v xT w
theorem QH(v:Value)(w:World): (Go.method 674 426 v "Comparable").run Tryz.prog w=.ok (434,v) w:=by kernel_rfl
theorem Lj(v:Value)(w:World): (Go.method 674 330 v "Unwrap").run Tryz.prog w=.ok (431,v) w:=by kernel_rfl
theorem R4(v:Value)(w:World):
  Calls Tryz.prog 202 #[.nilIface,.iface 24 v] w fun e w'=>e=.returned (.bool false)/\w=w':=by
 have hn:=run_eql_iface_nil_left (P:=Tryz.prog) w 24 v Tryz.underlying223
 go_enter Tryz.func202,Tryz.ntmps202
 go_wp2
 go_ret;exact⟨rfl,rfl⟩
theorem NZ(i k:Int)(w:World):
  Calls Tryz.prog 202 #[.iface 330 (.agg #[Z i,Z k]),.iface 24 (Z 10)] w fun e w'=>e=.returned (.bool (k == 10))/\Below w.heap.size w w':=by
 have h8:=@run_callFunc_extern Tryz.prog 294 _ Extern.ReflectliteType.typeOf Tryz.func294 (by kernel_rfl) (by kernel_rfl) (by kernel_rfl) (by kernel_rfl);have h32:=@run_callFunc_extern Tryz.prog 434 _ (Extern.ReflectliteType.method fun t=>do Rtype.noPackHeld "Comparable" t;pure (.bool (<-typeInfo t).comparable)) Tryz.func434 (by kernel_rfl) (by kernel_rfl) (by kernel_rfl) (by kernel_rfl);have tT:=NY;have cT:=D8;have nE:=Ti;have uE:=Ll;have vE:=I6;have nF:=Tj;have uF:=Lm;have mC:=QH;have mU:=Lj;have heq:=fun w=>Lib.run_eql_iface_int (P:=Tryz.prog) w (k:=.i64) (t:=223) (tx:=24) k 10 Tryz.underlying223 (by kernel_rfl) Tryz.underlying24
 have hty:=fun w=>run_eql_iface_types (P:=Tryz.prog) 330 24 (.agg #[Z i,Z k]) (Z 10) Tryz.underlying223 (by decide) w
 go_enter Tryz.func202,Tryz.ntmps202
 go_wp2
 refine wp_loop_rounds 2 ?_;rw[rounds_succ]
 go_wp2
 by_cases hk:k=10
 ·subst hk
  rw[rounds_succ]
  go_wp2
  go_ret;exact⟨rfl,(Below.refl _ _).alloc (Nat.le_refl _) _⟩
 ·rw[rounds_succ]
  go_wp2
  go_ret;exact⟨by rw[show (k == 10)=false by simp[hk]];rfl,(Below.refl _ _).alloc (Nat.le_refl _) _⟩
end V
namespace V
open Go.RowKit Go.Extern.Stop Go.Stop Go.Extern
theorem RO(t:Value)(w:World):
  Calls Tryz.prog 128 #[.nilIface,t] w fun e w'=>e=.returned (.bool false)/\w=w':=by
 go_enter Tryz.func128,Tryz.ntmps128
 go_wp2
 go_ret;exact⟨rfl,rfl⟩
theorem I4(t:Addr)(w:World): (ReflectliteValue.unpack (.iface 331 (.pointer (some t)))).run Tryz.prog w
  = .ok (.agg #[.pointer (some ⟨4,331,none⟩),.pointer (some ⟨w.heap.size,0,none⟩),.int .u64 150]) (w.alloc (.cells #[.pointer (some t)] 331)):=by kernel_rfl
theorem QC(a:Addr)(w:World): (ReflectliteValue.methodAny (ReflectliteValue.valueError "reflectlite.Value.Type" 0) (fun t _ _ _=>ReflectliteType.toType t) #[.agg #[.pointer (some ⟨4,331,none⟩),.pointer (some a),.int .u64 150]]).run Tryz.prog w
  = .ok (.iface 426 (.agg #[.pointer (some ⟨4,331,none⟩)])) w:=by kernel_rfl
theorem QB(h:Value)(w:World): (Go.method 674 426 (.agg #[h]) "Kind").run Tryz.prog w=.ok (420,h) w:=by kernel_rfl
theorem Qy(w:World): ((ReflectliteType.abiMethod fun t=>(fun a:Nat=>Value.int IntKind.u8 (a:Int)) <$> Rtype.kind t) #[.pointer (some ⟨4,331,none⟩)]).run Tryz.prog w=.ok (.int .u8 22) w:=by kernel_rfl
theorem Qx(w:World): ((ReflectliteType.abiMethod fun t=>(fun a:Nat=>Value.int IntKind.u8 (a:Int)) <$> Rtype.kind t) #[.pointer (some ⟨4,330,none⟩)]).run Tryz.prog w=.ok (.int .u8 25) w:=by kernel_rfl
theorem TG(z:Sem Value)(f:TypeId->Addr->Nat->Nat->Sem Value)(v:Value):
  ReflectliteValue.method z f #[v]=(do match <-ReflectliteValue.parts v with | none=>z | some (t,a,fl)=>f t a fl (fl%32)):=rfl
theorem DC(a:Addr)(w:World): (ReflectliteValue.parts (.agg #[.pointer (some ⟨4,331,none⟩),.pointer (some a),.int .u64 150])).run Tryz.prog w=.ok (some (331,a,150)) w:=by kernel_rfl
theorem NA(a p:Addr)(W:World)(ha:W.cell? a=some (.pointer (some p))):
  (ReflectliteValue.method (ReflectliteValue.valueError "reflectlite.Value.IsNil" 0) ReflectliteValue.isNil #[.agg #[.pointer (some ⟨4,331,none⟩),.pointer (some a),.int .u64 150]]).run Tryz.prog W=.ok (.bool false) W:=by
 rw[TG];simp only[Sem.run_bind,DC,Result.andThen];simp[ReflectliteValue.isNil,loadVar,isAgg,underlying,Tryz.underlying331,ha,Result.andThen]
theorem Qz(h:Value)(w:World): (Go.method 674 426 (.agg #[h]) "Elem").run Tryz.prog w=.ok (435,.agg #[h]) w:=by kernel_rfl
theorem QA(h:Value)(w:World): (Go.method 674 426 (.agg #[h]) "Implements").run Tryz.prog w=.ok (436,.agg #[h]) w:=by kernel_rfl
theorem RL(h:Value)(w:World): (Go.method 674 426 (.agg #[h]) "AssignableTo").run Tryz.prog w=.ok (433,.agg #[h]) w:=by kernel_rfl
theorem Qv(w:World): (ReflectliteType.method ReflectliteType.elem #[.agg #[.pointer (some ⟨4,331,none⟩)]]).run Tryz.prog w=.ok (.iface 426 (.agg #[.pointer (some ⟨4,330,none⟩)])) w:=by kernel_rfl
theorem Qw(w:World): (ReflectliteType.relation "Implements" ReflectliteType.implements_ #[.agg #[.pointer (some ⟨4,330,none⟩)],.iface 426 (.agg #[.pointer (some ⟨4,223,none⟩)])]).run Tryz.prog w=.ok (.bool true) w:=by kernel_rfl
theorem K6(v:Value)(w:World): (ReflectliteType.typeOf #[.iface 330 v]).run Tryz.prog w=.ok (.iface 426 (.agg #[.pointer (some ⟨4,330,none⟩)])) w:=by kernel_rfl
theorem RJ(w:World): (ReflectliteType.relation "AssignableTo" ReflectliteType.assignableTo #[.agg #[.pointer (some ⟨4,330,none⟩)],.iface 426 (.agg #[.pointer (some ⟨4,330,none⟩)])]).run Tryz.prog w=.ok (.bool true) w:=by kernel_rfl
theorem IZ(i k:Int)(w:World): (ReflectliteValue.unpack (.iface 330 (.agg #[Z i,Z k]))).run Tryz.prog w
  = .ok (.agg #[.pointer (some ⟨4,330,none⟩),.pointer (some ⟨w.heap.size,0,none⟩),.int .u64 153]) (w.alloc (.cells #[Z i,Z k] 330)):=by kernel_rfl
theorem K4(w:World): (Rtype.elem? 331).run Tryz.prog w=.ok (some 330) w:=by kernel_rfl
theorem Tf(p:Addr)(w:World): (ReflectliteValue.mk 330 p ReflectliteValue.flagAddr).run Tryz.prog w=.ok (.agg #[.pointer (some ⟨4,330,none⟩),.pointer (some p),.int .u64 409]) w:=by kernel_rfl
theorem Nz(a p:Addr)(W:World)(ha:W.cell? a=some (.pointer (some p))):
  (ReflectliteValue.method (ReflectliteValue.valueError "reflectlite.Value.Elem" 0) ReflectliteValue.elem #[.agg #[.pointer (some ⟨4,331,none⟩),.pointer (some a),.int .u64 150]]).run Tryz.prog W
   = .ok (.agg #[.pointer (some ⟨4,330,none⟩),.pointer (some p),.int .u64 409]) W:=by
 rw[TG];simp only[Sem.run_bind,DC,Result.andThen];simp[ReflectliteValue.elem,loadVar,isAgg,underlying,Tryz.underlying331,ha,Result.andThen,K4,Tf]
theorem rls(v x:Value): ReflectliteValue.set #[v,x]=(do
  let (some (dst,a,fl),some (src,b,_)):=(<-ReflectliteValue.parts v,<-ReflectliteValue.parts x)
   | unsupported (.noEntry "extern/(internal/reflectlite.Value).Set.zeroValue")
  if fl / ReflectliteValue.flagAddr%2 == 0 then unsupported (.noEntry "extern/(internal/reflectlite.Value).Set.unaddressable")
  let val <-loadVar src b
  if <-Rtype.directlyAssignable dst src then storeVar dst a val
  else if <-Rtype.implements dst src then
   if (<-Rtype.kind src) == 20 then
    match val with
    | .nilIface=>unsupported (.noEntry "extern/reflectlite: a nil value of one interface type handed on as a value of another")
    | _=>storeVar dst a val
   else storeVar dst a (.iface src val)
  else panicString ("reflectlite.Set: value of type " ++ (<-Rtype.spelt src) ++ " is not assignable to type " ++ (<-Rtype.spelt dst))
  pure (.tuple #[])):=rfl
theorem K5(a:Addr)(w:World): (ReflectliteValue.parts (.agg #[.pointer (some ⟨4,330,none⟩),.pointer (some a),.int .u64 409])).run Tryz.prog w=.ok (some (330,a,409)) w:=by kernel_rfl
theorem NC(a:Addr)(w:World): (ReflectliteValue.parts (.agg #[.pointer (some ⟨4,330,none⟩),.pointer (some a),.int .u64 153])).run Tryz.prog w=.ok (some (330,a,153)) w:=by kernel_rfl
theorem K3(w:World): (Rtype.directlyAssignable 330 330).run Tryz.prog w=.ok true w:=by kernel_rfl
theorem RN(g b:Nat)(i k:Int)(o1 o2:Value)(W:World)(hb:ay W b 330 #[Z i,Z k])(hg:ay W g 330 #[o1,o2]):
  (ReflectliteValue.set #[.agg #[.pointer (some ⟨4,330,none⟩),.pointer (some ⟨g,0,none⟩),.int .u64 409],.agg #[.pointer (some ⟨4,330,none⟩),.pointer (some ⟨b,0,none⟩),.int .u64 153]]).run Tryz.prog W
   = .ok (.tuple #[]) ((W.setCell ⟨g,0,none⟩ (Z i)).setCell ⟨g,1,none⟩ (Z k)):=by
 rw[rls];simp only[Sem.run_bind,K5,NC,Result.andThen];have c0:W.cell? ⟨b,0,none⟩=some (Z i):=by rw[hb.cell 0];rfl
 have c1:W.cell? ⟨b,1,none⟩=some (Z k):=by rw[hb.cell 1];rfl
 have d0:W.cell? ⟨g,0,none⟩=some o1:=by rw[hg.cell 0];rfl
 have hg2:=hg.set 0 (Z i);have d1:(W.setCell ⟨g,0,none⟩ (Z i)).cell? ⟨g,1,none⟩=some o2:=by rw[hg2.cell 1];rfl
 have f0:=hg.frozen 0;have f1:=hg2.frozen 1;have hl:(loadCells ⟨b,0,none⟩ 2).run Tryz.prog W=.ok #[Z i,Z k] W:=by
  simp[loadCells,loadCellsFrom,Addr.add,c0,c1,Result.andThen]
 have e1:(store ⟨g,0,none⟩ (Z i)).run Tryz.prog W=.ok () (W.setCell ⟨g,0,none⟩ (Z i)):=by
  rw[run_store _ _ _ _ _ (by rfl),d0];simp[f0]
 have e2:(store ⟨g,1,none⟩ (Z k)).run Tryz.prog (W.setCell ⟨g,0,none⟩ (Z i))=.ok () ((W.setCell ⟨g,0,none⟩ (Z i)).setCell ⟨g,1,none⟩ (Z k)):=by
  rw[run_store _ _ _ _ _ (by rfl),d1];simp[f1]
 have hs:(storeCells ⟨g,0,none⟩ [Z i,Z k]).run Tryz.prog W=.ok () ((W.setCell ⟨g,0,none⟩ (Z i)).setCell ⟨g,1,none⟩ (Z k)):=by
  unfold storeCells;rw[Sem.run_bind,show (⟨g,0,none⟩:Addr).add 0=⟨g,0,none⟩ by rfl,e1];show (storeCells ⟨g,0,none⟩ [Z k] (0+1)).run Tryz.prog _=_
  unfold storeCells;rw[Sem.run_bind,show (⟨g,0,none⟩:Addr).add (0+1)=⟨g,1,none⟩ by rfl,e2];rfl
 simp[ReflectliteValue.flagAddr,loadVar,isAgg,underlying,Tryz.underlying330,hl,Result.andThen,K3,storeVar,Value.cells,hs]
def Rx(g:Nat)(i k:Int)(w:World)(e:Ending)(w':World): Prop:=
 e=.returned (.bool true)/\Keeps (fun x=>x=g) w w'/\ay w' g 330 #[Z i,Z k]
theorem ND(g:Nat)(i k:Int)(o1 o2:Value)(w:World)(hv:w.cell? ⟨0,0,none⟩=some (.iface 426 (.agg #[.pointer (some ⟨4,223,none⟩)])))(hg:ay w g 330 #[o1,o2]):
  Calls Tryz.prog 128 #[.iface 330 (.agg #[Z i,Z k]),.iface 331 (.pointer (some ⟨g,0,none⟩))] w (Rx g i k w):=by
 have hE1:=@run_callFunc_extern Tryz.prog 203 _ (fun args=>ReflectliteValue.unpack (args.getD 0 (.tuple #[]))) Tryz.func203 (by kernel_rfl) (by kernel_rfl) (by kernel_rfl) (by kernel_rfl);have hE2:=@run_callFunc_extern Tryz.prog 204 _ (ReflectliteValue.methodAny (ReflectliteValue.valueError "reflectlite.Value.Type" 0) (fun t _ _ _=>ReflectliteType.toType t)) Tryz.func204 (by kernel_rfl) (by kernel_rfl) (by kernel_rfl) (by kernel_rfl);have hE3:=@run_callFunc_extern Tryz.prog 205 _ (ReflectliteValue.method (ReflectliteValue.valueError "reflectlite.Value.IsNil" 0) ReflectliteValue.isNil) Tryz.func205 (by kernel_rfl) (by kernel_rfl) (by kernel_rfl) (by kernel_rfl);have hE4:=@run_callFunc_extern Tryz.prog 420 _ (ReflectliteType.abiMethod fun t=>do pure (.int .u8 (<-Rtype.kind t))) Tryz.func420 (by kernel_rfl) (by kernel_rfl) (by kernel_rfl) (by kernel_rfl);have hE5:=@run_callFunc_extern Tryz.prog 435 _ (ReflectliteType.method ReflectliteType.elem) Tryz.func435 (by kernel_rfl) (by kernel_rfl) (by kernel_rfl) (by kernel_rfl);have hE6:=@run_callFunc_extern Tryz.prog 436 _ (ReflectliteType.relation "Implements" ReflectliteType.implements_) Tryz.func436 (by kernel_rfl) (by kernel_rfl) (by kernel_rfl) (by kernel_rfl);have hE7:=@run_callFunc_extern Tryz.prog 294 _ ReflectliteType.typeOf Tryz.func294 (by kernel_rfl) (by kernel_rfl) (by kernel_rfl) (by kernel_rfl);have hE8:=@run_callFunc_extern Tryz.prog 433 _ (ReflectliteType.relation "AssignableTo" ReflectliteType.assignableTo) Tryz.func433 (by kernel_rfl) (by kernel_rfl) (by kernel_rfl) (by kernel_rfl);have hE9:=@run_callFunc_extern Tryz.prog 296 _ (ReflectliteValue.method (ReflectliteValue.valueError "reflectlite.Value.Elem" 0) ReflectliteValue.elem) Tryz.func296 (by kernel_rfl) (by kernel_rfl) (by kernel_rfl) (by kernel_rfl);have hE10:=@run_callFunc_extern Tryz.prog 297 _ ReflectliteValue.set Tryz.func297 (by kernel_rfl) (by kernel_rfl) (by kernel_rfl) (by kernel_rfl);have q1:=I4;have q2:=QC;have q3:=QB;have q4:=Qy
 have q5:=Qx;have q6:=Qz;have q7:=QA;have q8:=RL;have q9:=Qv;have q10:=Qw;have q11:=K6;have q12:=RJ;have q13:=IZ i k;obtain⟨x,hx⟩:∃ x,x=w.heap.size:=⟨_,rfl⟩
 have hlt:g < x:=by rw[hx];exact hg.lt
 have o1':=(Own.bn w hx 331 #[.pointer (some ⟨g,0,none⟩)])
 have o2':=o1'.alloc (show x+1=_ by simp[hx]) 319 #[.pointer (some ⟨4,331,none⟩),.pointer (some ⟨x,0,none⟩),.int .u64 150]
 have o3':=o2'.alloc (show x+1+1=_ by simp[hx]) 319 #[.pointer (some ⟨4,331,none⟩),.pointer (some ⟨x,0,none⟩),.int .u64 150]
 have o4':=o3'.alloc (show x+1+1+1=_ by simp[hx]) 330 #[Z i,Z k]
 have n8:=NA ⟨x,0,none⟩ ⟨g,0,none⟩ _ (o2'.cell 0 0 rfl rfl);have el:=Nz ⟨x,0,none⟩ ⟨g,0,none⟩ _ (o3'.cell 0 0 rfl rfl);have bb:=o4'.get 3 rfl;have bg:=hg.below o4'.av (by rw[<-hx];exact hlt);have st:=RN g (x+1+1+1) i k o1 o2 _ bb bg;have hv2:=(World.cell?_of_block (w:=w) (a:=⟨0,0,none⟩) (o2'.av.block 0 (World.block_lt_of_cell? w _ hv))).trans hv;rw[hx] at n8 el st hv2
 have HB:=zh (zN bg (zN o4'.keeps (zN hx hlt)));clear o1' o2' o3' o4' bb bg hx hlt hv
 go_enter Tryz.func128,Tryz.ntmps128
 go_wp2
 refine wp_loop_rounds 1 ?_;rw[rounds_succ]
 go_wp2
 go_ret;have hB:=HB.out;rw[<-hB.2.2.1];have b1:=hB.1.set 0 (Z i);have b2:=b1.set 1 (Z k);have k1:Keeps (fun x=>x=g) w _:=hB.2.1.mono (T:=fun x=>x=g) (fun _ _ h=>h.elim);have k2:Keeps (fun x=>x=g) w _:=k1.setCell (p:=⟨g,0,none⟩) (fun _=>rfl) (Z i);have k3:Keeps (fun x=>x=g) w _:=k2.setCell (p:=⟨g,1,none⟩) (fun _=>rfl) (Z k);exact⟨rfl,k3,b2⟩
end V
section
open Go.RowKit
def nO(k:IntKind)(w:World)(a:Option Addr)(len cap:Nat)(zs:List Int): Prop:=
 (a=none/\len=0/\cap=0/\zs=[])\/
 ∃ x,a=some x/\len<=cap/\cap<=maxLen/\zs.length=cap/\(∀ i,i < zs.length->w.cell? (x.add i)=some (.int k (zs.getD i 0)))/\∀ n ∈ zs,(Lit.int k n).wf=true
def aI(bs:List Nat)(j:Nat): Value:=.int .u8 ((bs.getD j 0:Nat):Int)
def Sc(xs:List Int)(j:Nat): Value:=Z (xs.getD j 0)
theorem nO.le{k:IntKind}{w:World}{a:Option Addr}{len cap:Nat}{zs:List Int}(h:nO k w a len cap zs): len<=cap/\cap<=9223372036854775807/\zs.length=cap:=by
 rcases h with ⟨rfl,rfl,rfl,rfl⟩ | ⟨x,rfl,hl,hm,hz,-,-⟩
 ·simp
 ·unfold maxLen at hm
  omega
theorem nO.sl{k:IntKind}{w:World}{a:Option Addr}{len cap:Nat}{zs:List Int}(h:nO k w a len cap zs)(m:Nat)(hm:m<=len): Sl w (fun x=>x < w.heap.size) a m (fun j=>.int k (zs.getD j 0)):=by
 intro h0;rcases h with ⟨rfl,rfl,rfl,rfl⟩ | ⟨x,rfl,hl,hm,hz,hcell,-⟩
 ·omega
 ·obtain ⟨b,off,spot⟩:=x
  have hc:=hcell 0 J;have hspot:spot=none:=by simpa [Addr.add] using World.cell?_spot hc
  subst hspot;have hadd:∀ j,(⟨b,off,none⟩:Addr).add j=⟨b,off+j,none⟩:=fun j=>by unfold Addr.add;split<;>simp_all
  refine⟨b,off,rfl,World.block_lt_of_cell? w _ hc,fun j hj=>?_⟩;rw[<-hadd];exact hcell j J
theorem nO.wf{k:IntKind}{w:World}{a:Option Addr}{len cap:Nat}{zs:List Int}(h:nO k w a len cap zs)(j:Nat)(hj:j < len): (Lit.int k (zs.getD j 0)).wf=true:=by
 have h1:=h.le;rcases h with ⟨rfl,rfl,rfl,rfl⟩ | ⟨x,rfl,hl,hm,hz,-,hw⟩
 ·omega
 ·rw[List.getD_eq_getElem?_getD,List.getElem?_eq_getElem J]
  exact hw _ (List.getElem_mem _)
theorem wf_u8{z:Int}(h:(Lit.int .u8 z).wf=true): 0<=z/\z < 256:=by
 simp[Lit.wf,IntKind.min,IntKind.max,IntKind.signed,IntKind.bits] at h
 omega
theorem wf_i64{z:Int}(h:(Lit.int .i64 z).wf=true): -9223372036854775808<=z/\z<=9223372036854775807:=by
 simp[Lit.wf,IntKind.min,IntKind.max,IntKind.signed,IntKind.bits] at h
 omega
theorem nO.bytes{w:World}{a:Option Addr}{len cap:Nat}{zs:List Int}(h:nO .u8 w a len cap zs)(m:Nat)(hm:m<=len):
  ∃ bs:List Nat,bs.length=m/\(∀ j,bs.getD j 0 < 256)/\Sl w (fun x=>x < w.heap.size) a m (aI bs):=by
 have h1:=h.le;refine⟨(zs.take m).map Int.toNat,by simp;omega,fun j=>?_,(h.sl m hm).congr fun j hj=>?_⟩
 ·rw[List.getD_eq_getElem?_getD,List.getElem?_map]
  rcases Nat.lt_or_ge j m with hj | hj
  ·rw[List.getElem?_take_of_lt hj]
   have:=wf_u8 (h.wf j J);rw[List.getD_eq_getElem?_getD] at this
   cases hz:zs[j]? with
   | none=>simp
   | some z=>rw[hz] at this;simp at this ⊢;omega
  ·rw[List.getElem?_eq_none (by simp;omega)]
   simp
 ·have:=wf_u8 (h.wf j J)
  unfold aI;rw[List.getD_eq_getElem?_getD,List.getD_eq_getElem?_getD,List.getElem?_map,List.getElem?_take_of_lt hj];rw[List.getD_eq_getElem?_getD] at this
  rw[List.getElem?_eq_getElem J] at this ⊢
  simp at this ⊢
  omega
theorem nO.ints{w:World}{a:Option Addr}{len cap:Nat}{zs:List Int}(h:nO .i64 w a len cap zs)(m:Nat)(hm:m<=len):
  ∃ xs:List Int,xs.length=m/\(∀ j,-9223372036854775808<=xs.getD j 0/\xs.getD j 0<=9223372036854775807)/\Sl w (fun x=>x < w.heap.size) a m (Sc xs):=by
 have h1:=h.le;have hg:∀ j,j < m->(zs.take m).getD j 0=zs.getD j 0:=fun j hj=>by
  rw[List.getD_eq_getElem?_getD,List.getD_eq_getElem?_getD,List.getElem?_take_of_lt hj]
 refine⟨zs.take m,by simp;omega,fun j=>?_,(h.sl m hm).congr fun j hj=>?_⟩
 ·rcases Nat.lt_or_ge j m with hj | hj
  ·rw[hg j hj]
   exact wf_i64 (h.wf j J)
  ·rw[List.getD_eq_getElem?_getD,List.getElem?_eq_none (by simp;omega)]
   simp
 ·unfold Sc
  rw[hg j hj]
end
namespace V
def aF(u:Nat): List Nat:=if u < 128 then [u] else (u%128+128) :: aF (u / 128)
termination_by u
decreasing_by omega
theorem kR{u:Nat}(h:u < 128): aF u=[u]:=by rw[aF,if_pos h]
theorem nN{u:Nat}(h:¬ u < 128): aF u=(u%128+128) :: aF (u / 128):=by rw[aF,if_neg h]
theorem bH(u:Nat): ∀ b ∈ aF u,b < 256:=by
 induction u using aF.induct with
 | case1 u h=>rw[kR h];simp;omega
 | case2 u h ih=>rw[nN h];intro b hb;rcases List.mem_cons.1 hb with rfl | hb;omega;exact ih b hb
theorem PN(k:Nat): ∀ u,u < 128 ^ k->0 < k->(aF u).length<=k:=by
 induction k with
 | zero=>intro _ _ h;omega
 | succ k ih=>
  intro u hu _
  by_cases h:u < 128
  ·rw[kR h];simp
  ·rw[nN h,List.length_cons]
   have h1:u / 128 < 128 ^ k:=by rw[Nat.div_lt_iff_lt_mul J];rw[Nat.pow_succ] at hu;exact hu
   have hk:0 < k:=by
    rcases Nat.eq_zero_or_pos k with h0 | h0
    ·subst h0;simp at h1;omega
    ·exact h0
   have:=ih _ h1 hk;omega
theorem aK{u:Nat}(h:u < 18446744073709551616): (aF u).length<=10:=PN 10 u J J
theorem FM(u:Nat): 0 < (aF u).length:=by
 by_cases h:u < 128
 ·rw[kR h];simp
 ·rw[nN h];simp
theorem FL(u:Nat): bits .or .u8 (IntKind.u8.wrap (u:Int)) 128=((u%128+128:Nat):Int):=by
 rw[IntKind.wrap_u8',show (u:Int)%256=((u%256:Nat):Int) from by omega,show (128:Int)=((128:Nat):Int) from rfl,u8_or_nat _ _ J J];have key:∀ x:Fin 256,(x.val ||| 128)=x.val%128+128:=by decide +kernel
 have:=key ⟨u%256,Nat.mod_lt _ J⟩;simp only at this
 rw[this];omega
theorem Nb(u:Nat): bits .or .u8 ((u:Int)%256) 128=((u%128+128:Nat):Int):=by
 rw[<-FL,IntKind.wrap_u8']
end V
namespace V
def jm: Nat->List Nat->Nat
 | 0,_=>0
 | _+1,[]=>0
 | f+1,b :: l=>if 128<=b then jm f l+1 else 0
def lead(l:List Nat): Nat:=jm 10 l
theorem EK: ∀ (f k:Nat) (l:List Nat),k<=f->k<=l.length->(∀ j,j < k->128<=l.getD j 0)->(k < f->k < l.length->l.getD k 0 < 128)->jm f l=k
 | 0,k,_,h1,_,_,_=>by unfold jm;omega
 | f+1,k,[],_,h2,_,_=>by simp at h2;unfold jm;omega
 | f+1,0,b :: l,_,_,_,h4=>by
  have:=h4 J (by simp);simp at this
  unfold jm;rw[if_neg J]
 | f+1,k+1,b :: l,h1,h2,h3,h4=>by
  have hb:=h3 0 J;simp at hb h2
  unfold jm;rw[if_pos hb,EK f k l J h2 (fun j hj=>by have:=h3 (j+1) J;simpa using this) (fun a b=>by have:=h4 J (by simpa using b);simpa using this)]
theorem wG{l:List Nat}{k:Nat}(h1:k<=10)(h2:k<=l.length)(h3:∀ j,j < k->128<=l.getD j 0)(h4:k < 10->k < l.length->l.getD k 0 < 128): lead l=k:=
 EK 10 k l h1 h2 h3 h4
theorem zm: ∀ (f:Nat) (l:List Nat),jm f l<=f/\jm f l<=l.length/\(∀ j,j < jm f l->128<=l.getD j 0)/\(jm f l < f->jm f l < l.length->l.getD (jm f l) 0 < 128)
 | 0,l=>by unfold jm;simp
 | f+1,[]=>by unfold jm;simp
 | f+1,b :: l=>by
  obtain⟨h1,h2,h3,h4⟩:=zm f l;unfold jm
  by_cases hb:128<=b
  ·rw[if_pos hb]
   refine⟨J,by simpa using h2,?_,?_⟩
   ·intro j hj
    cases j with
    | zero=>simpa using hb
    | succ j=>have:=h3 j J;simpa using this
   ·intro a c
    have:=h4 J (by simpa using c)
    simpa using this
  ·rw[if_neg hb]
   refine⟨J,J,fun j hj=>J,fun _ _=>by simp;omega⟩
theorem Ce(l:List Nat): lead l<=10/\lead l<=l.length/\(∀ j,j < lead l->128<=l.getD j 0)/\(lead l < 10->lead l < l.length->l.getD (lead l) 0 < 128):=zm 10 l
def fC: List Nat->Nat
 | []=>0
 | b :: l=>b%128+128*fC l
theorem xM: ∀ (l m:List Nat),fC (l ++ m)=fC l+128 ^ l.length*fC m
 | [],m=>by simp[fC]
 | b :: l,m=>by
  rw[List.cons_append,fC,fC,xM l m,List.length_cons,Nat.pow_succ,Nat.mul_add,<-Nat.mul_assoc,Nat.mul_comm 128 (128 ^ l.length)];omega
theorem IB: ∀ (l:List Nat),fC l < 128 ^ l.length
 | []=>by simp[fC]
 | b :: l=>by
  have:=IB l;rw[fC,List.length_cons,Nat.pow_succ];omega
theorem PE{l:List Nat}{k:Nat}(h:k < l.length): l.take (k+1)=l.take k ++ [l.getD k 0]:=by
 rw[List.take_succ_eq_append_getElem h,List.getD_eq_getElem?_getD,List.getElem?_eq_getElem h];rfl
theorem vQ{l:List Nat}{k:Nat}(h:k < l.length): fC (l.take (k+1))=fC (l.take k)+128 ^ k*(l.getD k 0%128):=by
 rw[PE h,xM,List.length_take,Nat.min_eq_left J];simp[fC]
theorem qO(l:List Nat)(k:Nat): fC (l.take k) < 128 ^ k:=by
 have h:=IB (l.take k);have:(l.take k).length<=k:=by rw[List.length_take];omega
 exact Nat.lt_of_lt_of_le h (Nat.pow_le_pow_right J this)
def aJ(l:List Nat): Nat × Nat × Nat:=
 if lead l=10 then (0,0,11)
 else if lead l=l.length then (0,0,10)
 else if (lead l=9/\1 < l.getD 9 0)\/(0 < lead l/\l.getD (lead l) 0=0) then (0,0,11)
 else (fC (l.take (lead l+1)),lead l+1,0)
theorem Cy{l:List Nat}(h:lead l=10): aJ l=(0,0,11):=by unfold aJ;rw[if_pos h]
theorem PK{l:List Nat}(h:lead l=l.length)(h':l.length < 10): aJ l=(0,0,10):=by unfold aJ;rw[if_neg J,if_pos h]
theorem Na{l:List Nat}(h:lead l < 10)(h':lead l < l.length)(hb:(lead l=9/\1 < l.getD 9 0)\/(0 < lead l/\l.getD (lead l) 0=0)): aJ l=(0,0,11):=by
 unfold aJ;rw[if_neg J,if_neg J,if_pos hb]
theorem Iz{l:List Nat}(h:lead l < 10)(h':lead l < l.length)(hb:¬ ((lead l=9/\1 < l.getD 9 0)\/(0 < lead l/\l.getD (lead l) 0=0))): aJ l=(fC (l.take (lead l+1)),lead l+1,0):=by
 unfold aJ;rw[if_neg J,if_neg J,if_neg hb]
theorem Nc{l:List Nat}{k:Nat}(h:k < 10)(hl:k < l.length)(h9:k=9->l.getD 9 0<=1): fC (l.take (k+1)) < 18446744073709551616:=by
 by_cases hk:k=9
 ·subst hk
  have h1:=vQ hl;have h2:=qO l 9;have h3:=h9 rfl;have h4:128 ^ 9*(l.getD 9 0%128)<=128 ^ 9*1:=Nat.mul_le_mul_left _ J;omega
 ·have h2:=qO l (k+1)
  have h3:(128:Nat) ^ (k+1)<=128 ^ 9:=Nat.pow_le_pow_right J J;omega
theorem uD(l:List Nat):
  (aJ l=(0,0,11)\/aJ l=(0,0,10))\/
  (lead l < 10/\lead l < l.length/\l.getD (lead l) 0 < 128/\(∀ j,j < lead l->128<=l.getD j 0)/\(lead l=9->l.getD 9 0<=1)/\(0 < lead l->l.getD (lead l) 0≠0)/\aJ l=(fC (l.take (lead l+1)),lead l+1,0)):=by
 obtain⟨h1,h2,h3,h4⟩:=Ce l;unfold aJ
 by_cases c1:lead l=10
 ·rw[if_pos c1];exact .inl (.inl rfl)
 rw[if_neg c1]
 by_cases c2:lead l=l.length
 ·rw[if_pos c2];exact .inl (.inr rfl)
 rw[if_neg c2]
 by_cases c3:(lead l=9/\1 < l.getD 9 0)\/(0 < lead l/\l.getD (lead l) 0=0)
 ·rw[if_pos c3];exact .inl (.inl rfl)
 rw[if_neg c3];refine .inr ⟨J,J,h4 J J,h3,fun h=>?_,fun h h0=>?_,rfl⟩
 ·exact Nat.le_of_not_lt fun hc=>c3 (.inl ⟨h,hc⟩)
 ·exact c3 (.inr ⟨h,h0⟩)
theorem kQ(l:List Nat): (aJ l).1 < 18446744073709551616/\(aJ l).2.1<=10/\(aJ l).2.1<=l.length:=by
 rcases uD l with (h | h) | ⟨h1,h2,_,_,h5,_,h⟩
 ·rw[h];simp
 ·rw[h];simp
 ·rw[h];exact ⟨Nc h1 h2 h5,by show lead l+1<=10;omega,by show lead l+1<=_;omega⟩
theorem vP(l:List Nat): (aJ l).2.2=0\/((aJ l).2.2=10\/(aJ l).2.2=11)/\(aJ l).1=0/\(aJ l).2.1=0:=by
 rcases uD l with (h | h) | ⟨_,_,_,_,_,_,h⟩<;>rw[h]<;>simp
theorem CB: ∀ (k:Nat) (l:List Nat),k < l.length->(∀ j,j < k->128<=l.getD j 0)->l.getD k 0 < 128->(0 < k->l.getD k 0≠0)->(∀ j,l.getD j 0 < 256)->aF (fC (l.take (k+1)))=l.take (k+1)/\(0 < k->0 < fC (l.take (k+1)))/\(l.getD k 0≠0->0 < fC (l.take (k+1)))
 | 0,b :: l,_,_,h3,_,_=>by
  have hb:b < 128:=by simpa using h3
  have e:fC ((b :: l).take (0+1))=b:=by
   rw[show (b :: l).take (0+1)=[b] by rfl];unfold fC;simp[fC];omega
  rw[e,kR hb];refine⟨rfl,J,fun h=>by simp at h;omega⟩
 | k+1,b :: l,h1,h2,h3,h4,h5=>by
  have hb:128<=b:=by have:=h2 0 J;simpa using this
  have hb2:b < 256:=by have:=h5 0;simpa using this
  have hk:l.getD k 0≠0:=by have:=h4 J;simpa using this
  obtain⟨i1,_,i3⟩:=CB k l (by simpa using h1) (fun j hj=>by have:=h2 (j+1) J;simpa using this) (by simpa using h3) (fun _=>hk) (fun j=>by have:=h5 (j+1);simpa using this);have hp:=i3 hk;have e:(b :: l).take (k+1+1)=b :: l.take (k+1):=rfl;rw[e];unfold fC;generalize fC (l.take (k+1))=x at *
  have e2:¬ b%128+128*x < 128:=J;rw[nN e2,show (b%128+128*x) / 128=x by omega,i1,show (b%128+128*x)%128+128=b by omega];exact⟨rfl,J,J⟩
 | _,[],h,_,_,_,_=>by simp at h
theorem PL{l:List Nat}(hb:∀ j,l.getD j 0 < 256)(h:(aJ l).2.2=0): 1<=(aJ l).2.1/\(aJ l).2.1<=l.length/\aF (aJ l).1=l.take (aJ l).2.1:=by
 rcases uD l with (h' | h') | ⟨h1,h2,h3,h4,h5,h6,h'⟩
 ·rw[h'] at h;simp at h
 ·rw[h'] at h;simp at h
 ·rw[h']
  exact⟨by show 1<=lead l+1;omega,by show lead l+1<=_;omega,(CB _ _ h2 h4 h3 h6 hb).1⟩
theorem KA(u:Nat): ∃ k,(aF u).length=k+1/\(∀ j,j < k->128<=(aF u).getD j 0)/\(aF u).getD k 0 < 128/\(0 < k->(aF u).getD k 0≠0)/\fC (aF u)=u/\(u≠0->(aF u).getD k 0≠0):=by
 induction u using aF.induct with
 | case1 u h=>
  rw[kR h];exact⟨0,rfl,fun j hj=>J,by simpa using h,J,by simp[fC];omega,by simp⟩
 | case2 u h ih=>
  obtain⟨k,i1,i2,i3,i4,i5,i6⟩:=ih;rw[nN h];refine⟨k+1,by simp[i1],?_,by simpa using i3,fun _=>?_,?_,fun _=>?_⟩
  ·intro j hj
   cases j with
   | zero=>simp
   | succ j=>have:=i2 j J;simpa using this
  ·have:=i6 J
   simpa using this
  ·unfold fC;rw[i5];omega
  ·have:=i6 J
   simpa using this
theorem tV{l m:List Nat}{j:Nat}(h:j < l.length): (l ++ m).getD j 0=l.getD j 0:=by
 rw[List.getD_eq_getElem?_getD,List.getD_eq_getElem?_getD,List.getElem?_append_left h]
theorem iC(u:Nat)(more:List Nat)(hu:u < 18446744073709551616): aJ (aF u ++ more)=(u,(aF u).length,0):=by
 obtain⟨k,i1,i2,i3,i4,i5,_⟩:=KA u;have hl:=aK hu;have e:lead (aF u ++ more)=k:=wG J (by simp;omega) (fun j hj=>by rw[tV J];exact i2 j hj) (fun _ _=>by rw[tV J];exact i3);have et:(aF u ++ more).take (k+1)=aF u:=by rw[<-i1,List.take_left]
 rw[Iz J (by rw[e];simp;omega),e,et,i5,i1];rw[e];rintro (⟨h9,hb⟩ | ⟨hk,hb⟩)
 ·rw[tV J] at hb
  have h1:=vQ (l:=aF u) (k:=9) J;have h2:(aF u).take (9+1)=aF u:=List.take_of_length_le J;rw[h2,i5] at h1
  have h4:(aF u).getD 9 0 < 128:=by rw[<-h9];exact i3
  have h3:128 ^ 9*2<=128 ^ 9*((aF u).getD 9 0%128):=Nat.mul_le_mul_left _ J;omega
 ·rw[tV J] at hb
  exact i4 hk hb
end V
namespace V
open Go.RowKit
def dh(w:World): Prop:=w.cell? ⟨0,0,none⟩=some (.iface 426 (.agg #[.pointer (some ⟨4,223,none⟩)]))
theorem dh.keeps{S:Nat->Prop}{w w':World}(h:dh w)(hk:Keeps S w w')(hS:¬ S 0): dh w':=by
 unfold dh at h ⊢
 rw[<-h];exact World.cell?_of_block (w:=w) (a:=⟨0,0,none⟩) (hk.block _ (World.block_lt_of_cell? w _ h) hS)
theorem dh.below{w w':World}(h:dh w)(hb:Below w.heap.size w w'): dh w':=h.keeps (S:=fun _=>False) (Keeps.of_below hb) (fun h=>h)
theorem dh.lt{w:World}(h:dh w): 0 < w.heap.size:=World.block_lt_of_cell? w _ h
theorem Kk(w:World): Calls Tryz.prog 133 #[.nilIface] w fun e w'=>e=.returned (Z 0)/\Below w.heap.size w w':=by
 have o:=(Own.bn w rfl 330 #[Z 0,Z 0]).av;have HO:=zh o;clear o
 go_enter Tryz.func133,Tryz.ntmps133
 go_wp2_with fail;refine(R4 _ _).mono ?_;rintro e w' ⟨rfl,rfl⟩;go_wp2_with fail;refine(RO _ _).mono ?_;rintro e w' ⟨rfl,rfl⟩;go_wp2_with fail;go_ret;exact⟨rfl,HO.out⟩
theorem E5(i k:Int)(w:World)(hv:dh w): Calls Tryz.prog 133 #[.iface 330 (.agg #[Z i,Z k])] w fun e w'=>e=.returned (Z k)/\Below w.heap.size w w':=by
 obtain⟨x,hx⟩:∃ x,x=w.heap.size:=⟨_,rfl⟩
 have o:=Own.bn w hx 330 #[Z 0,Z 0]
 have hv2:=hv.below o.av;have hlt:=hv.lt;have HO:=zh (zN hx (zN o (zN hv2 hlt)));clear hx o hv hv2 hlt
 go_enter Tryz.func133,Tryz.ntmps133
 go_wp2_with fail;rw[<-HO.out.1];refine(NZ i k _).mono ?_;rintro e w1 ⟨rfl,hb⟩;have o:=HO.out.2.1.call hb
 by_cases hk:k=10
 ·subst hk
  have HP:=zh o;clear o hb;go_wp2_with fail;go_ret;exact⟨rfl,HP.out.av⟩
 ·have d0:(k == 10)=false:=by simp[hk]
  rw[d0];have hv3:=HO.out.2.2.1.below hb;have HP:=zh (zN o hv3);clear d0 hk hv3 o hb;go_wp2_with fail;refine(ND x i k (Z 0) (Z 0) _ HP.out.2 (HP.out.1.get 0 rfl)).mono ?_;rintro e w2 ⟨rfl,hk2,hblk⟩;have c1:=hblk.cell 1;have HQ:=zh hk2;clear hk2 hblk;go_wp2_with fail;go_ret;refine⟨rfl,?_⟩;have h1:Keeps (fun q=>q=x) w w2:=(HP.out.1.keeps.mono (fun _ _ h=>h.elim)).trans' HQ.out;exact h1.below (Nat.le_refl _) (fun q hq e=>by have:=HO.out.1;omega)
end V
namespace V
open Go.RowKit
def Du(l:List Nat)(w:World)(e:Ending)(w':World): Prop:=
 ∃ er:Value,e=.returned (.tuple #[.int .u64 ((aJ l).1:Nat),Z ((aJ l).2.1:Nat),er])/\(((aJ l).2.2=0/\er=.nilIface)\/∃ i:Int,er=.iface 330 (.agg #[Z i,Z ((aJ l).2.2:Nat)]))/\w=w'
theorem RI(x v k:Nat)(hx:x < 128 ^ k)(hk:k<=9)(hv:v < 256):
  ∃ y:Nat,bits .or .u64 (x:Int) (IntKind.u64.wrap (IntKind.u64.wrap (bits .and .u8 (v:Int) 127)*2 ^ (7*k)))=(y:Int)/\y < 18446744073709551616/\(k<=8\/v<=1->y=x+128 ^ k*(v%128)):=by
 have e1:bits .and .u8 (v:Int) 127=((v%128:Nat):Int):=by
  rw[show (127:Int)=((127:Nat):Int) from rfl,u8_and_nat _ _ hv J,show v &&& 127=v%128 from Nat.and_two_pow_sub_one_eq_mod v 7]
 have p9:(128:Nat) ^ k<=128 ^ 9:=Nat.pow_le_pow_right J hk;have ep:(2:Nat) ^ (7*k)=128 ^ k:=by rw[Nat.pow_mul]
 have e2:(IntKind.u64.wrap ((v%128:Nat):Int))*2 ^ (7*k)=((128 ^ k*(v%128):Nat):Int):=by
  rw[show IntKind.u64.wrap ((v%128:Nat):Int)=((v%128:Nat):Int) by rw[IntKind.wrap_u64];omega,<-ep,Nat.mul_comm (2 ^ (7*k))];simp
 have e3:IntKind.u64.wrap (((128 ^ k*(v%128):Nat):Int))=((128 ^ k*(v%128)%18446744073709551616:Nat):Int):=by
  rw[IntKind.wrap_u64];rfl
 rw[e1,e2,e3,u64_or_nat _ _ J (Nat.mod_lt _ J)];refine⟨_,rfl,?_,?_⟩
 ·exact Nat.or_lt_two_pow (n:=64) J (Nat.mod_lt _ J)
 ·intro h
  have hlt:128 ^ k*(v%128) < 18446744073709551616:=by
   rcases h with h | h
   ·have p8:(128:Nat) ^ k<=128 ^ 8:=Nat.pow_le_pow_right J h
    have:128 ^ k*(v%128)<=128 ^ 8*127:=Nat.mul_le_mul p8 J;omega
   ·have:128 ^ k*(v%128)<=128 ^ 9*1:=Nat.mul_le_mul p9 J
    omega
  rw[Nat.mod_eq_of_lt hlt,Nat.or_comm,Nat.mul_comm,<-ep,<-Nat.shiftLeft_eq,<-Nat.shiftLeft_add_eq_or_of_lt (by rw[ep];exact hx)];omega
theorem Pp(w:World)(D:Nat->Prop)(A:Option Addr)(len c:Nat)(l:List Nat)(hl:l.length=len)(hb:∀ j,l.getD j 0 < 256)(hsl:Sl w D A len (aI l))(hm:len<=9223372036854775807):
  Calls Tryz.prog 132 #[.slice A len c] w (Du l w):=by
 have HS:=zh (zN hl (zN hb hsl));clear hl hb hsl
 go_enter Tryz.func132,Tryz.ntmps132
 go_wp2_with fail
 go_loop [2,9] (fun s2 s9=>∃ k x:Nat,k<=len/\k<=10/\s9=Z (k:Nat)/\s2=.int .u64 (x:Nat)/\(k<=9->x=fC (l.take k))/\∀ j,j < k->128<=l.getD j 0) (fun _ s9=>len-(intOf s9).toNat)
 case atStart=>exact ⟨0,0,J,J,rfl,rfl,fun _=>by simp[fC],fun j hj=>J⟩
 case round=>
  obtain⟨k,x,hk,hk10,rfl,rfl,hx,hj⟩:=hrel;have HJ:=zh hj;have HX:=zh hx;clear hj hx
  by_cases hlt:k < len
  ·obtain ⟨b,off,rfl,-,hc⟩:=HS.out.2.2 J
   have ck:=hc k hlt;unfold aI at ck
   have hc256:=HS.out.2.1 k;obtain⟨v,hv⟩:∃ v,v=l.getD k 0:=⟨_,rfl⟩
   rw[<-hv] at ck hc256
   have HV:=zh hv;clear hv hc
   by_cases h10:k=10
   ·subst h10
    have HG:=zh (Cy (wG (l:=l) (k:=10) J (by have:=HS.out.1;omega) HJ.out (fun h=>J)));go_wp2_with fail
    go_ret3
    exact⟨_,by rw[HG.out];rfl,.inr ⟨10,by rw[HG.out];rfl⟩,rfl⟩
   ·have hk9:k<=9:=J
    have hxl:x < 128 ^ k:=by rw[HX.out hk9];exact qO l k
    obtain⟨y,ey,hy,hy2⟩:=RI x v k hxl hk9 hc256;have hy3:k<=8\/v<=1->y=fC (l.take (k+1)):=fun h=>by
     rw[hy2 h,vQ (by have:=HS.out.1;omega),HX.out hk9,HV.out]
    have HY:=zh hy3;have d10:((k:Int) == 10)=false:=by simp;omega
    clear hxl hy2 hy3 h10
    by_cases hbig:128<=v
    ·go_wp2_with fail
     go_round
     case rel=>exact ⟨k+1,y,J,J,by go_num,rfl,fun h=>HY.out (.inl J),fun j hj=>by
      rcases Nat.lt_or_ge j k with h | h
      ·exact HJ.out j h
      ·rw[show j=k by omega,<-HV.out];exact hbig⟩
     case measure=>simp[intOf];omega
    ·have hlead:lead l=k:=wG J (by have:=HS.out.1;omega) HJ.out (fun _ _=>by rw[<-HV.out];omega)
     have hkl:k < l.length:=by have:=HS.out.1;omega
     have dbig:decide ((128:Int)<=(v:Int))=false:=by simp;omega
     by_cases hform:(k=9/\1 < v)\/(0 < k/\v=0)
     ·have HG:=zh (Na (l:=l) J J (by
       rw[hlead,<-HV.out];rcases hform with ⟨h1,h2⟩ | h
       ·refine .inl ⟨h1,?_⟩
        rw[<-h1,<-HV.out];exact h2
       ·exact .inr h))
      clear hlead hkl;rcases hform with ⟨rfl,h2⟩ | ⟨h1,rfl⟩
      ·have d1:decide ((1:Int) < (v:Int))=true:=by simp;omega
       go_wp2_with fail
       go_ret3
       exact⟨_,by rw[HG.out];rfl,.inr ⟨_,by rw[HG.out];rfl⟩,rfl⟩
      ·have d1:decide ((0:Int) < (k:Int))=true:=by simp;omega
       by_cases hk9:k=9
       ·subst hk9
        go_wp2_with fail
        go_ret3
        exact⟨_,by rw[HG.out];rfl,.inr ⟨_,by rw[HG.out];rfl⟩,rfl⟩
       ·have d9:((k:Int) == 9)=false:=by simp;omega
        go_wp2_with fail
        go_ret3
        exact⟨_,by rw[HG.out];rfl,.inr ⟨_,by rw[HG.out];rfl⟩,rfl⟩
     ·have hG:=Iz (l:=l) J J (by
       rw[hlead,<-HV.out];rintro (⟨h1,h2⟩ | h)
       ·exact hform (.inl ⟨h1,by rw[<-h1,<-HV.out] at h2;exact h2⟩)
       ·exact hform (.inr h))
      rw[hlead,<-HY.out J] at hG
      have HG:=zh hG;clear hlead hkl hG;have hfin:Du l w (.returned (.tuple #[.int .u64 (y:Nat),Z ((k:Int)+1),.nilIface])) w:=⟨_,by rw[HG.out];rfl,.inl ⟨by rw[HG.out],rfl⟩,rfl⟩
      have HFN:=zh hfin;clear hfin;have hcase:(k=9/\¬ 1 < v/\¬ v=0)\/(¬ k=9/\k=0/\v=0)\/(¬ k=9/\¬ v=0):=J;rcases hcase with ⟨h1,h2,h3⟩ | ⟨h1,h2,h3⟩ | ⟨h1,h3⟩
      ·have d1:decide ((1:Int) < (v:Int))=false:=by simp;omega
       have d9:((k:Int) == 9)=true:=by simp;omega
       have hv0:((v:Int) == 0)=false:=by simp;omega
       clear h1 h2 h3 hform;go_wp2_with fail
       go_ret3
       exact HFN.out
      ·have d9:((k:Int) == 9)=false:=by simp;omega
       have d0:((v:Int) == 0)=true:=by simp;omega
       have dk:¬ 0 < k:=J;have dk2:decide (0 < k)=false:=by simp;omega
       clear h1 h2 h3 hform;go_wp2_with fail
       go_ret3
       exact HFN.out
      ·have d9:((k:Int) == 9)=false:=by simp;omega
       have d0:((v:Int) == 0)=false:=by simp;omega
       clear h1 h3 hform;go_wp2_with fail
       go_ret3
       exact HFN.out
  ·obtain rfl:k=len:=J
   have hlead:lead l=k:=wG J (by have:=HS.out.1;omega) HJ.out (fun _ h=>by have:=HS.out.1;omega)
   by_cases h10:k=10
   ·subst h10
    have HG:=zh (Cy hlead);clear hlead;go_wp2_with fail
    go_ret3
    exact⟨_,by rw[HG.out];rfl,.inr ⟨10,by rw[HG.out];rfl⟩,rfl⟩
   ·have HG:=zh (PK (l:=l) (by rw[hlead,HS.out.1]) (by have:=HS.out.1;omega))
    have d10:decide ((10:Int)<=(k:Int))=false:=by simp;omega
    clear hlead h10;go_wp2_with fail
    go_ret3
    exact⟨_,by rw[HG.out];rfl,.inr ⟨_,by rw[HG.out];rfl⟩,rfl⟩
def KS(l:List Nat)(w:World)(e:Ending)(w':World): Prop:=
 e=.returned (.tuple #[.int .u64 ((aJ l).1:Nat),Z ((aJ l).2.1:Nat),Z ((aJ l).2.2:Nat)])/\Below w.heap.size w w'
theorem mg(w:World)(D:Nat->Prop)(A:Option Addr)(len c:Nat)(l:List Nat)(hl:l.length=len)(hb:∀ j,l.getD j 0 < 256)(hsl:Sl w D A len (aI l))(hm:len<=9223372036854775807)(hv:dh w):
  Calls Tryz.prog 66 #[.slice A len c] w (KS l w):=by
 have HS:=zh (zN hl (zN hb (zN hsl (zN hm hv))));clear hl hb hsl hm hv
 go_enter Tryz.func66,Tryz.ntmps66
 go_wp2_with fail;refine(Pp w D A len c l HS.out.1 HS.out.2.1 HS.out.2.2.1 HS.out.2.2.2.1).mono ?_;rintro e w1 ⟨er,rfl,her,rfl⟩;obtain⟨u,hu⟩:∃ u,u=(aJ l).1:=⟨_,rfl⟩
 obtain⟨n,hn⟩:∃ n,n=(aJ l).2.1:=⟨_,rfl⟩
 obtain⟨k,hk⟩:∃ k,k=(aJ l).2.2:=⟨_,rfl⟩
 rw[<-hk] at her
 rw[<-hu,<-hn];have HU:=zh (zN hu (zN hn hk));clear hu hn hk;rcases her with ⟨h0,rfl⟩ | ⟨i,rfl⟩
 ·have H0:=zh h0
  clear h0;go_wp2_with fail;refine(Kk _).mono ?_;rintro e w2 ⟨rfl,hb⟩;have HB:=zh hb;clear hb;go_wp2_with fail
  go_ret3
  exact⟨by rw[<-HU.out.1,<-HU.out.2.1,<-HU.out.2.2,H0.out];rfl,HB.out⟩
 ·go_wp2_with fail
  refine(E5 i k _ HS.out.2.2.2.2).mono ?_;rintro e w2 ⟨rfl,hb⟩;have HB:=zh hb;clear hb;go_wp2_with fail
  go_ret3
  exact⟨by rw[<-HU.out.1,<-HU.out.2.1,<-HU.out.2.2];rfl,HB.out⟩
end V
section
open Go.RowKit
def zig(n:Int): Nat:=if 0<=n then (2*n).toNat else (-2*n-1).toNat
theorem dJ{n:Int}(h0 : -9223372036854775808<=n)(h1:n<=9223372036854775807): zig n < 18446744073709551616:=by unfold zig;split<;>omega
theorem Ij{a b:Int}(h:a=b): Ending.returned (.int .u64 a)=.returned (.int .u64 b):=by rw[h]
theorem Rw(n:Int)(h0:0<=n)(h1:n<=9223372036854775807): bits .xor .u64 (IntKind.u64.wrap (IntKind.u64.wrap n*2)) (IntKind.u64.wrap 0)=(zig n:Int):=by
 rw[IntKind.wrap_u64,IntKind.wrap_u64,IntKind.wrap_u64,show n%18446744073709551616*2%18446744073709551616=(((2*n).toNat:Nat):Int) from by omega,show (0:Int)%18446744073709551616=((0:Nat):Int) from by omega,u64_xor_nat _ _ J J,Nat.xor_zero];unfold zig;rw[if_pos h0]
theorem Rv(n:Int)(h0:n < 0)(h1 : -9223372036854775808<=n): bits .xor .u64 (IntKind.u64.wrap (IntKind.u64.wrap n*2)) (IntKind.u64.wrap (-1))=(zig n:Int):=by
 rw[IntKind.wrap_u64,IntKind.wrap_u64,IntKind.wrap_u64,show n%18446744073709551616*2%18446744073709551616=(((18446744073709551616+2*n).toNat:Nat):Int) from by omega,show (-1:Int)%18446744073709551616=((18446744073709551615:Nat):Int) from by omega,u64_xor_nat _ _ J J,Nat.xor_comm];have:=Lib.xor_ones64 (18446744073709551616+2*n).toNat J;rw[show (18446744073709551615:Nat)=2 ^ 64-1 from rfl,this];unfold zig;rw[if_neg J];omega
theorem IE{n X Y:Int}(h0 : -9223372036854775808<=n)(h1:n<=9223372036854775807)(hX:X=(n*2)%18446744073709551616)(hY:Y=if 0<=n then 0 else 18446744073709551615): bits .xor .u64 X Y=(zig n:Int):=by
 by_cases hn:0<=n
 ·rw[if_pos hn] at hY
  rw[<-Rw n hn h1,IntKind.wrap_u64,IntKind.wrap_u64,IntKind.wrap_u64,hX,hY]
  congr 1
  omega
 ·rw[if_neg hn] at hY
  rw[<-Rv n J h0,IntKind.wrap_u64,IntKind.wrap_u64,IntKind.wrap_u64,hX,hY]
  congr 1
  omega
theorem Ru(n:Int)(w:World)(h0 : -9223372036854775808<=n)(h1:n<=9223372036854775807):
  Calls Tryz.prog 143 #[Z n] w fun e w'=>e=.returned (.int .u64 (zig n:Nat))/\w=w':=by
 by_cases hn:0<=n
 ·have e2:n / 9223372036854775808=0:=J
  go_enter Tryz.func143,Tryz.ntmps143
  go_wp2
  go_ret;refine⟨Ij (IE h0 h1 ?_ ?_),rfl⟩
  ·try simp only[IntKind.wrap_u64]
   omega
  ·rw[if_pos hn];try simp only[IntKind.wrap_u64]
   try omega
 ·have e2:n / 9223372036854775808 = -1:=J
  go_enter Tryz.func143,Tryz.ntmps143
  go_wp2
  go_ret;refine⟨Ij (IE h0 h1 ?_ ?_),rfl⟩
  ·try simp only[IntKind.wrap_u64]
   omega
  ·rw[if_neg J];try simp only[IntKind.wrap_u64]
   try omega
def zag(z:Nat): Int:=if z%2=0 then (z / 2:Nat) else -((z / 2:Nat):Int)-1
theorem iX{z:Nat}(h:z < 18446744073709551616): -9223372036854775808<=zag z/\zag z<=9223372036854775807:=by unfold zag;split<;>omega
theorem Bj(n:Int): zag (zig n)=n:=by unfold zag zig;split<;>split<;>omega
theorem Fu{k:IntKind}{a b:Int}(h:a=b): Ending.returned (.int k a)=.returned (.int k b):=by rw[h]
theorem FU(x:Nat)(hx:x < 9223372036854775808): bits .xor .i64 (x:Int) 0=(x:Int):=by
 show IntKind.i64.wrap ((BitVec.ofInt 64 (x:Int) ^^^ BitVec.ofInt 64 0).toNat:Int)=_
 have h2:(BitVec.ofInt 64 (x:Int)).toNat=x:=by
  rw[BitVec.ofInt_natCast,BitVec.toNat_ofNat];exact Nat.mod_eq_of_lt J
 have h1:(BitVec.ofInt 64 0).toNat=0:=by decide
 rw[BitVec.toNat_xor,h1,h2,Nat.xor_zero,IntKind.wrap_i64];omega
theorem FT(x:Nat)(hx:x < 9223372036854775808): bits .xor .i64 (x:Int) (-1) = -(x:Int)-1:=by
 rw[<-Lib.i64_not x hx];show IntKind.i64.wrap ((BitVec.ofInt 64 (x:Int) ^^^ BitVec.ofInt 64 (-1)).toNat:Int)=IntKind.i64.wrap ((BitVec.ofInt 64 (-1) ^^^ BitVec.ofInt 64 (x:Int)).toNat:Int)
 rw[BitVec.xor_comm]
theorem Rq(z:Nat)(w:World)(hz:z < 18446744073709551616):
  Calls Tryz.prog 134 #[.int .u64 (z:Nat)] w fun e w'=>e=.returned (Z (zag z))/\w=w':=by
 have e1:bits .and .u64 (z:Int) 1=((z%2:Nat):Int):=by rw[Lib.u64_and1 _ J J];omega
 have e2:wrap64 ((z:Int) / 2)=((z / 2:Nat):Int):=by rw[show (z:Int) / 2=((z / 2:Nat):Int) by omega];exact IntWalk.wrap64_in _ J
 have e2':IntKind.i64.wrap ((z:Int) / 2)=((z / 2:Nat):Int):=by rw[show (z:Int) / 2=((z / 2:Nat):Int) by omega];exact IntWalk.i64_in _ J
 have HZ:=zh hz;clear hz;rcases(show z%2=0\/z%2=1 by omega) with h | h
 ·have e3:((z%2:Nat):Int)=0:=J
  have e4:=FU (z / 2) (by have:=HZ.out;omega);have HH:=zh h;rw[e3] at e1
  clear h e3
  go_enter Tryz.func134,Tryz.ntmps134
  go_wp2_with fail;go_ret;refine⟨Fu ?_,rfl⟩;unfold zag;rw[if_pos HH.out]
  first
  | exact e4
  | (rw[e2];exact e4)
  | (rw[e2'];exact e4)
  | skip
 ·have e3:((z%2:Nat):Int)=1:=J
  have e4:=FT (z / 2) (by have:=HZ.out;omega);have HH:=zh h;rw[e3] at e1
  clear h e3
  go_enter Tryz.func134,Tryz.ntmps134
  go_wp2_with fail;go_ret;refine⟨Fu ?_,rfl⟩;unfold zag;rw[if_neg (by have:=HH.out;omega)]
  first
  | exact e4
  | (rw[e2];exact e4)
  | (rw[e2'];exact e4)
  | skip
def Tl(w:World)(e:TypeId)(base:Nat)(v:Value)(n:Nat)(xs:List Value): Prop:=
 w.ownsRow base e 1 v n xs\/∃ A,v=.slice A n n/\xs.length=n/\(0 < n->∃ b off,A=some ⟨b,off,none⟩/\b < base/\∀ j u,xs[j]? = some u->w.cell? ⟨b,off+j,none⟩=some u)
theorem Tl.alloc{w:World}{e:TypeId}{base n:Nat}{v:Value}{xs:List Value}(h:Tl w e base v n xs)(hb:base<=w.heap.size)(o:Obj): Tl (w.alloc o) e base v n xs:=by
 rcases h with h | ⟨A,rfl,hl,hA⟩
 ·exact .inl (h.alloc o)
 ·refine .inr ⟨A,rfl,hl,fun hn=>?_⟩
  obtain⟨b,off,rfl,hlt,hc⟩:=hA hn;exact⟨b,off,rfl,hlt,fun j u hu=>(World.cell?_alloc_lt w o _ (by show b < _;omega)).trans (hc j u hu)⟩
section
variable {P:Program} {w:World} {t e:TypeId} {z:Value} {bytes base n m c:Nat} {v:Value} {xs:List Value} {f:Nat->Value} {b off:Nat}
theorem qQ{ops:Array Oper}{rest:List Oper}{o:Oper}{a:Act}{Q:Exit->Act->World->Prop}(he:iK P t e z bytes)(hgd:o.guard=none)(s x:Operand)(ho:o.op=.call { callee:=.builtin .append,args:=#[s,x],argTypes:=#[t,t] })(hs:a.eval s=v)(hx:a.eval x=.slice (some ⟨b,off,none⟩) m c)(h:Tl w e base v n xs)(hm:0 < m)(hc:∀ j,j < m->w.cell? ⟨b,off+j,none⟩=some (f j))(h1:∀ j,j < m->(f j).oneCell'=true)(h63:n+m<=maxLen)(hbytes:(n+m)*bytes<=140737488355328)(hbase:base<=w.heap.size)(k:∀ v' w',w'.ownsRow base e 1 v' (n+m) (xs ++ (List.range m).map f)->Below base w w'->wpList P ops Q rest (a.put o.dst v') w'): wpList P ops Q (o :: rest) a w:=by
 rcases h with h | ⟨A,rfl,hl,hA⟩
 ·refine bW (D:=fun _=>True) (A:=some ⟨b,off,none⟩) (f:=f) he hgd s x ho hs hx h (fun _=>⟨b,off,rfl,trivial,hc⟩) h1 h63 hbytes hbase ?_
  intro v' w' hown hg _;exact k v' w' hown ((Below.refl base w).grown hg hbase (fun q hq=>(h.lt q hq).1))
 ·obtain ⟨ht,hz1,i,hi,hz,hs1,hb1⟩:=he
  refine wpList_append_grows w hgd s x t ho e i z 1 bytes ht hi hz hs1 hb1 hz1 J A n n xs hs ?_ J ?_ ⟨b,off,none⟩ m c ((List.range m).map f) hx (by simp) ?_ ?_ J h63 hbytes ?_
  ·intro hA0
   rcases Nat.eq_zero_or_pos n with h0 | h0
   ·exact ⟨h0,h0⟩
   ·obtain ⟨b',off',e',_⟩:=hA h0
    rw[hA0] at e';cases e'
  ·intro b' e' j u hu
   have hj:j < xs.length:=(List.getElem?_eq_some_iff.1 hu).1;obtain⟨b2,off2,e2,_,hc2⟩:=hA J;rw[e'] at e2
   injection e2 with e2
   subst e2;have hadd:(⟨b2,off2,none⟩:Addr).add j=⟨b2,off2+j,none⟩:=by unfold Addr.add;split<;>simp_all
   rw[hadd];exact hc2 j u hu
  ·intro j u hu
   rw[List.getElem?_map] at hu
   rcases Nat.lt_or_ge j m with hj | hj
   ·rw[List.getElem?_range hj] at hu
    simp at hu
    subst hu;have hadd:(⟨b,off,none⟩:Addr).add j=⟨b,off+j,none⟩:=by unfold Addr.add;split<;>simp_all
    rw[hadd];exact hc j hj
   ·rw[List.getElem?_eq_none (by simpa using hj)] at hu
    cases hu
  ·intro u hu
   rw[List.mem_map] at hu
   obtain⟨j,hj,rfl⟩:=hu;exact h1 j (by simpa using hj)
  ·intro v' w' hown hg
   exact k v' w' (aN hown hbase) ((Below.refl base w).grown hg hbase (fun q hq=>by cases hq))
end
theorem DU(w:World)(t:TypeId)(u:Value): ∀ j,j < 1->(w.alloc (.cells #[u] t)).cell? ⟨w.heap.size,0+j,none⟩=some u:=by
 intro j hj;obtain rfl:j=0:=J;rw[(ay.fresh w t #[u]).cell (0+0)];rfl
end
namespace V
open Go.RowKit
def aR(b:Nat): Value:=.int .u8 (b:Int)
theorem byteElem: iK Tryz.prog 72 5 (.int .u8 0) 1:=iK.mk' Tryz.underlying72 rfl (by kernel_rfl)
def qj(w:World)(bs:List Nat)(e:Ending)(w':World): Prop:=
 ∃ v,e=.returned v/\w'.ownsRow w.heap.size 5 1 v bs.length (bs.map aR)/\Below w.heap.size w w'
theorem PG{w:World}{A:Option Addr}{bs:List Nat}{len:Nat}(hl:bs.length=len)(h:Sl w (fun k=>k < w.heap.size) A len (aI bs)): Tl w 5 w.heap.size (.slice A len len) len (bs.map aR):=by
 refine .inr ⟨A,rfl,by simpa using hl,fun hn=>?_⟩;obtain⟨b,off,rfl,hb,hc⟩:=h hn;refine⟨b,off,rfl,hb,fun j u hu=>?_⟩;rw[List.getElem?_map] at hu
 cases hj:bs[j]? with
 | none=>rw[hj] at hu;cases hu
 | some x=>
  rw[hj] at hu
  simp at hu
  have hjl:j < bs.length:=(List.getElem?_eq_some_iff.1 hj).1;rw[hc j J,<-hu];unfold aI aR;rw[List.getD_eq_getElem?_getD,hj];rfl
theorem iJ(w:World)(A:Option Addr)(len c:Nat)(bs:List Nat)(u:Int)(hl:bs.length=len)(hsl:Sl w (fun k=>k < w.heap.size) A len (aI bs))(hlc:len<=c)(hsm:len<=1099511627776)(h0:0<=u)(hu:u < 18446744073709551616):
  Calls Tryz.prog 81 #[.slice A len c,.int .u64 u] w (qj w (bs ++ aF u.toNat)):=by
 obtain⟨u,rfl⟩:=Int.eq_ofNat_of_zero_le h0;have HT:=zh (PG hl hsl);have HL:=zh hl;have HU:=zh (show u < 18446744073709551616 by omega);clear hsl hl hu h0
 go_enter Tryz.func81,Tryz.ntmps81
 go_wp2_with fail
 go_loopw [1,5] (fun s1 s5 wr=>∃ (x:Nat) (p:List Nat),s1=.int .u64 x/\x<=u/\p ++ aF x=bs ++ aF u/\Tl wr 5 w.heap.size s5 p.length (p.map aR)/\Below w.heap.size w wr)
  (fun s1 _ _=>(intOf s1).toNat)
 case atStart=>exact ⟨u,bs,rfl,Nat.le_refl _,rfl,by rw[HL.out];exact HT.out,Below.refl _ _⟩
 case round=>
  obtain⟨x,p,rfl,hxu,hp,htl,hbel⟩:=hrel;have hplen:p.length<=len+10:=by
   have h1:=congrArg List.length hp;rw[List.length_append,List.length_append] at h1
   have h2:=aK HU.out;have h3:=HL.out;omega
  have HP:=zh hp;clear hp
  by_cases hx:x < 128
  ·go_wp2_with (at_builtin;refine qQ (f:=fun _=>aR x) (base:=w.heap.size) (n:=p.length) (xs:=p.map aR) byteElem rfl (.tmp 22) (.tmp 25) rfl rfl rfl ?h ?hm ?hc ?h1 ?h63 ?hby ?hbase ?_)
   case h=>exact htl.alloc hbel.size _
   case hm=>omega
   case hc=>exact DU _ _ _
   case h1=>intro j _;rfl
   case h63=>unfold maxLen;omega
   case hby=>omega
   case hbase=>have:=hbel.size;simp;omega
   intro v1 w1 hown1 hb1;have HO:=zh hown1;have HB:=zh hb1;clear hown1 hb1;go_wp2_with fail;go_ret;refine⟨v1,rfl,?_,(hbel.alloc hbel.size _).trans HB.out⟩;have e:bs ++ aF u=p ++ [x]:=by rw[<-HP.out,kR hx]
   show w1.ownsRow _ _ _ _ (bs ++ aF u).length ((bs ++ aF u).map aR)
   rw[e,List.length_append,List.map_append];exact HO.out
  ·have e1:=FL x
   have e2:=Nb x;have hx0:128<=x:=J;go_wp2_with (at_builtin;refine qQ (f:=fun _=>aR (x%128+128)) (base:=w.heap.size) (n:=p.length) (xs:=p.map aR) byteElem rfl (.tmp 16) (.tmp 20) rfl rfl rfl ?g ?gm ?gc ?g1 ?g63 ?gby ?gbase ?_)
   case g=>exact htl.alloc hbel.size _
   case gm=>omega
   case gc=>exact DU _ _ _
   case g1=>intro j _;rfl
   case g63=>unfold maxLen;omega
   case gby=>omega
   case gbase=>have:=hbel.size;simp;omega
   intro v1 w1 hown1 hb1;have HO:=zh hown1;have HB:=zh hb1;clear hown1 hb1 e1 e2;go_wp2_with fail
   go_roundw
   case rel=>
    refine⟨x / 128,p ++ [x%128+128],rfl,J,?_,?_,(hbel.alloc hbel.size _).trans HB.out⟩
    ·rw[<-HP.out,nN hx,List.append_assoc];rfl
    ·rw[List.length_append,List.map_append]
     exact .inl HO.out
   case measure=>simp[intOf];omega
end V
namespace V
open Go.RowKit
theorem jh{bs:List Nat}{len:Nat}(hl:bs.length=len): bs.map aR=(List.range len).map (aI bs):=by
 apply List.ext_getElem?;intro j;rw[List.getElem?_map,List.getElem?_map];rcases Nat.lt_or_ge j len with hj | hj
 ·rw[List.getElem?_range hj,List.getElem?_eq_getElem J]
  unfold aI aR;simp only[Option.map_some];rw[List.getD_eq_getElem?_getD,List.getElem?_eq_getElem J];rfl
 ·rw[List.getElem?_eq_none J,List.getElem?_eq_none (by simpa using hj)];rfl
theorem eG(w:World)(A:Option Addr)(len c:Nat)(bs:List Nat)(n:Int)(hl:bs.length=len)(hsl:Sl w (fun k=>k < w.heap.size) A len (aI bs))(hlc:len<=c)(hsm:len<=1099511627776)(h0 : -9223372036854775808<=n)(h1:n<=9223372036854775807):
  Calls Tryz.prog 82 #[.slice A len c,Z n] w (qj w (bs ++ aF (zig n))):=by
 have HZ:=zh (zN h0 h1);have HS:=zh (zN hl hsl);clear h0 h1 hl hsl
 go_enter Tryz.func82,Tryz.ntmps82
 go_wp2_with fail;refine(Ru _ _ HZ.out.1 HZ.out.2).mono ?_;rintro e w' ⟨rfl,rfl⟩;go_wp2_with fail;refine(iJ _ _ _ _ bs _ HS.out.1 HS.out.2 hlc hsm J (by have:=dJ HZ.out.1 HZ.out.2;omega)).mono ?_;rintro e w1 ⟨v1,rfl,hown1,hb1⟩;go_wp2_with fail;go_ret;exact⟨v1,rfl,hown1,hb1⟩
def txt(s:ByteArray): List Nat:=s.data.toList.map UInt8.toNat
theorem M6(s:ByteArray): (txt s).map aR=Lib.strCells s:=by
 unfold txt Lib.strCells;rw[List.map_map];rfl
theorem fD(s:ByteArray): (txt s).length=s.size:=by unfold txt;simp
theorem nL(s:ByteArray): ∀ b ∈ txt s,b < 256:=by
 unfold txt;intro b hb;rw[List.mem_map] at hb
 obtain⟨x,_,rfl⟩:=hb;exact x.toNat_lt
theorem rX(w:World)(A:Option Addr)(len c:Nat)(bs:List Nat)(s:ByteArray)(hl:bs.length=len)(hsl:Sl w (fun k=>k < w.heap.size) A len (aI bs))(hlc:len<=c)(hsm:len<=1099511627776)(hs:s.size<=1099511627776):
  Calls Tryz.prog 83 #[.slice A len c,.string s] w (qj w (bs ++ aF s.size ++ txt s)):=by
 obtain⟨ht,-,i,hi,hz,hs1,hby⟩:=byteElem;have HI:=zh (zN hs1 hby);have HS:=zh (zN hl hsl);clear hl hsl hs1 hby
 go_enter Tryz.func83,Tryz.ntmps83
 go_wp2_with fail;refine(iJ _ _ _ _ bs _ HS.out.1 HS.out.2 hlc hsm J J).mono ?_;rintro e w1 ⟨v1,rfl,hown1,hb1⟩;have hn1:(bs ++ aF s.size).length<=len+10:=by
  rw[List.length_append];have:=aK (u:=s.size) J;have:=HS.out.1;omega
 have HO:=zh (zN hown1 hb1);clear hown1 hb1;go_wp2_with (refine Lib.wpList_append_own_string w1 rfl (.tmp 9) (.tmp 10) 72 9 rfl w.heap.size 5 i ht Tryz.underlying9 hi hz HI.out.1 HI.out.2 v1 (bs ++ aF s.size).length ((bs ++ aF s.size).map aR) rfl HO.out.1 s rfl ?h63 ?hby2 ?hbase ?_)
 case h63=>unfold maxLen;omega
 case hby2=>omega
 case hbase=>exact HO.out.2.size
 intro v2 w2 hown2 hg2 _;have HO2:=zh (zN hown2 (HO.out.2.grown hg2 HO.out.2.size (fun k hk=>(HO.out.1.lt k hk).1)));clear hown2 hg2;go_wp2_with fail;go_ret;refine⟨v2,rfl,?_,HO2.out.2⟩;have e5:(bs ++ aF s.size ++ txt s).length=(bs ++ aF s.size).length+s.size:=by rw[List.length_append,fD]
 have e6:(bs ++ aF s.size ++ txt s).map aR=(bs ++ aF s.size).map aR ++ Lib.strCells s:=by rw[List.map_append,M6]
 rw[e5,e6,List.length_append,List.map_append,List.append_assoc];exact HO2.out.1
end V
section
open Go.RowKit
def ji(bs:List Nat): ByteArray:=⟨(bs.map fun b=>UInt8.ofNat b).toArray⟩
theorem vY{P:Program}{w:World}{D:Nat->Prop}{A:Option Addr}{len c:Nat}{bs:List Nat}(src e dst:TypeId)(hs:P.underlying src=some (.slice e))(he:P.underlying e=some (.int .u8))(hd:P.underlying dst=some .string)(hl:bs.length=len)(h:Sl w D A len (aI bs)): (convert src dst (.slice A len c)).run P w=.ok (.string (ji bs)) w:=by
 rcases Nat.eq_zero_or_pos len with h0 | h0
 ·subst h0
  obtain rfl:bs=[]:=List.eq_nil_of_length_eq_zero hl;rw[run_convert_bytes_string w src dst e _ 0 c hs he hd]
  cases A with
  | none=>simp[Conv.bytesToString];rfl
  | some a=>
   have:=run_bytesToString (P:=P) w a 0 c [] (run_loadCells_list (P:=P) w a [] (fun j v hj=>by simp at hj));exact this
 ·obtain ⟨b,off,rfl,-,hc⟩:=h h0
  have:=run_convert_bytes_arg (P:=P) w src e hs he b off len c (bs.map fun b:Nat=>(b:Int)) (by simpa using hl) (fun i hi=>by
   rw[hc i hi];unfold aI;rw[List.getD_eq_getElem?_getD,List.getD_eq_getElem?_getD,List.getElem?_map,List.getElem?_eq_getElem J];rfl) dst hd
  rw[this];unfold ji strOfNums;simp
end
namespace V
open Go.RowKit
theorem eY{w w':World}{A:Option Addr}{n:Nat}{f:Nat->Value}(h:Sl w (fun k=>k < w.heap.size) A n f)(hb:Below w.heap.size w w'): Sl w' (fun k=>k < w'.heap.size) A n f:=
 (h.below hb (fun _ hk _=>hk)).mono (fun _ hk=>Nat.lt_of_lt_of_le hk hb.size)
theorem cO{w w':World}{base:Nat}{e:TypeId}{v:Value}{n:Nat}{xs:List Value}(h:w.ownsRow base e 1 v n xs)(hb:Below w.heap.size w w'): w'.ownsRow base e 1 v n xs:=
 aG (S:=fun _=>False) h (Keeps.of_below hb) (fun _ _ h=>h)
theorem aB{w w1 w2:World}(h:Below w.heap.size w w1)(k:Below w1.heap.size w1 w2): Below w.heap.size w w2:=h.trans (k.mono h.size)
theorem gI{w:World}{base:Nat}{A:Option Addr}{n c:Nat}{bs:List Nat}(h:w.ownsRow base 5 1 (.slice A n c) n (bs.map aR)): Sl w (fun k=>k < w.heap.size) A n (aI bs):=by
 have h1:Sl w (fun k=>(Value.slice A n c).ownBlock=some k) A n (aI bs):=by
  refine Sl.E9 h ?_;intro j u hu;rw[List.getElem?_map] at hu
  cases hb:bs[j]? with
  | none=>rw[hb] at hu;cases hu
  | some b=>
   rw[hb] at hu
   simp at hu
   unfold aI;rw[List.getD_eq_getElem?_getD,hb,<-hu];rfl
 refine h1.mono fun k hk=>?_
 exact(h.lt k hk).2
theorem lY{w:World}{base:Nat}{e:TypeId}{size n m c:Nat}{A:Option Addr}{xs:List Value}(h:w.ownsRow base e size (.slice A n c) m xs): n<=c/\c<=9223372036854775807:=by
 rcases h.2 with ⟨h1,_⟩ | ⟨g,cap,cur,h1,_,_,h2,h3,_⟩
 ·injection h1 with _ h1 h2;omega
 ·injection h1 with _ h4 h5;subst h4 h5;unfold maxLen at h3;omega
theorem OG(w:World)(base:Nat)(e:TypeId)(hb:base<=w.heap.size): (w.alloc (.cells #[] e)).ownsRow base e 1 (.slice (some ⟨w.heap.size,0,none⟩) 0 0) 0 []:=
 World.ownsRow_made w #[] 0 hb (by unfold maxLen;omega) rfl
theorem Cb{w0 w w':World}{e:TypeId}{n:Nat}{v:Value}{xs:List Value}(hk:Below w0.heap.size w0 w)(ho:w.ownsRow w0.heap.size e 1 v n xs)(hg:w.grownBy w' v.ownBlock): Below w0.heap.size w0 w':=
 hk.grown hg hk.size (fun k hk'=>(ho.lt k hk').1)
theorem OH(s:ByteArray): ji (txt s)=s:=by
 unfold ji txt;rw[List.map_map];have:(s.data.toList.map ((fun b=>UInt8.ofNat b) ∘ UInt8.toNat))=s.data.toList:=by
  conv=>rhs;rw[<-List.map_id s.data.toList]
  apply List.map_congr_left;intro x _;simp
 rw[this]
theorem DN{w:World}{g:Nat}{t:TypeId}{bs:List Nat}(h:ay w g t (bs.map aR).toArray): Sl w (fun k=>k < w.heap.size) (some ⟨g,0,none⟩) bs.length (aI bs):=fun _=>by
 refine⟨g,0,rfl,h.lt,fun j hj=>?_⟩;rw[h.cell (0+j),Nat.zero_add];simp only[List.getElem?_toArray,List.getElem?_map,List.getElem?_eq_getElem hj];unfold aI aR;rw[List.getD_eq_getElem?_getD,List.getElem?_eq_getElem hj];rfl
theorem jB{l:List Nat}(h:∀ j,l.getD j 0 < 256)(m:Nat): ∀ j,(l.drop m).getD j 0 < 256:=fun j=>by
 rw[List.getD_eq_getElem?_getD,List.getElem?_drop];have:=h (m+j);rw[List.getD_eq_getElem?_getD] at this
 exact this
theorem wS{l m:List Nat}(h:∀ j,l.getD j 0 < 256)(h':∀ j,m.getD j 0 < 256): ∀ j,(l ++ m).getD j 0 < 256:=fun j=>by
 rw[List.getD_eq_getElem?_getD,List.getElem?_append];have h1:=h j;have h2:=h' (j-l.length);rw[List.getD_eq_getElem?_getD] at h1 h2
 split
 ·exact h1
 ·exact h2
theorem gG{l:List Nat}(h:∀ b ∈ l,b < 256): ∀ j,l.getD j 0 < 256:=fun j=>by
 rw[List.getD_eq_getElem?_getD]
 cases hj:l[j]? with
 | none=>simp
 | some b=>simpa using h b (List.mem_of_getElem? hj)
theorem Fy{w:World}{D:Nat->Prop}{A:Option Addr}{n m:Nat}{bs:List Nat}(h:Sl w D A n (aI bs))(hm:m<=n): Sl w D A m (aI (bs.take m)):=by
 refine(h.take hm).congr fun j hj=>?_
 unfold aI;rw[List.getD_eq_getElem?_getD,List.getD_eq_getElem?_getD,List.getElem?_take_of_lt hj]
theorem vK{w:World}{D:Nat->Prop}{b off n m:Nat}{bs:List Nat}(h:Sl w D (some ⟨b,off,none⟩) n (aI bs))(hm:m<=n): Sl w D (some ⟨b,off+m,none⟩) (n-m) (aI (bs.drop m)):=fun hn=>by
 obtain⟨b',off',e,hD,hc⟩:=h J;simp only[Option.some.injEq,Addr.mk.injEq] at e
 obtain⟨rfl,rfl,-⟩:=e;refine⟨b,_,rfl,hD,fun j hj=>?_⟩;have:=hc (m+j) J;rw[show off+(m+j)=off+m+j by omega] at this
 rw[this];unfold aI;rw[List.getD_eq_getElem?_getD,List.getD_eq_getElem?_getD,List.getElem?_drop]
theorem ni{P:Program}(t e:TypeId)(ht:P.underlying t=some (.slice e))(hs:∀ w:World,(sizeOf e).run P w=.ok 1 w)(A:Option Addr)(len c n:Nat)(hn:n<=len)(hlc:len<=c):
  ∃ A',(∀ w:World,(Instr.slice t (.slice A len c) (some (Z (n:Nat))) none none).run P w=.ok (.slice A' (len-n) (c-n)) w)/\
   (∀ (w:World) (D:Nat->Prop) (l:List Nat),Sl w D A len (aI l)->Sl w D A' (len-n) (aI (l.drop n))):=by
 have he:P.elem t=e:=by simp[Program.elem,ht]
 have ht':P.underlying t=some (.slice (P.elem t)):=by rw[he];exact ht
 refine⟨if c=n then A else A.map (·.add (n*1)),fun w=>?_,fun w D l h=>?_⟩
 ·rw[run_slice_l w t A len c ht' .i64 (n:Nat) J J,he,hs]
  simp[Result.andThen,sliced]
 ·intro hlt
  rw[if_neg J];obtain⟨b,off,rfl,-,-⟩:=h J;have:=vK h hn hlt;rw[show (some (⟨b,off,none⟩:Addr)).map (·.add (n*1))=some ⟨b,off+n,none⟩ by simp[Addr.add]];exact this
end V
namespace V
open Go.RowKit
def Nv(l:List Nat)(w:World)(e:Ending)(w':World): Prop:=
 e=.returned (.tuple #[Z (zag (aJ l).1),Z ((aJ l).2.1:Nat),Z ((aJ l).2.2:Nat)])/\Below w.heap.size w w'
theorem qN(w:World)(D:Nat->Prop)(A:Option Addr)(len c:Nat)(l:List Nat)(hl:l.length=len)(hb:∀ j,l.getD j 0 < 256)(hsl:Sl w D A len (aI l))(hm:len<=9223372036854775807)(hv:dh w):
  Calls Tryz.prog 68 #[.slice A len c] w (Nv l w):=by
 have HS:=zh (zN hl (zN hb (zN hsl (zN hm hv))));clear hl hb hsl hm hv
 go_enter Tryz.func68,Tryz.ntmps68
 go_wp2_with fail;refine(mg w D A len c l HS.out.1 HS.out.2.1 HS.out.2.2.1 HS.out.2.2.2.1 HS.out.2.2.2.2).mono ?_;rintro e w1 ⟨rfl,hb⟩;obtain⟨u,hu⟩:∃ u,u=(aJ l).1:=⟨_,rfl⟩
 obtain⟨n,hn⟩:∃ n,n=(aJ l).2.1:=⟨_,rfl⟩
 obtain⟨k,hk⟩:∃ k,k=(aJ l).2.2:=⟨_,rfl⟩
 have hu2:=(kQ l).1;rw[<-hu] at hu2
 rw[<-hu,<-hn,<-hk];have HU:=zh (zN hu (zN hn (zN hk hb)));clear hu hn hk hb;go_wp2_with fail;refine(Rq u _ hu2).mono ?_;rintro e w2 ⟨rfl,rfl⟩;obtain⟨z,hz⟩:∃ z,z=zag u:=⟨_,rfl⟩
 rw[<-hz];have HZ:=zh hz;clear hz;go_wp2_with fail
 go_ret3
 exact⟨by rw[<-HU.out.1,<-HU.out.2.1,<-HU.out.2.2.1,<-HZ.out];rfl,HU.out.2.2.2⟩
def pU(l:List Nat)(most:Int): List Nat × Nat × Nat:=
 if (aJ l).2.2≠0 then ([],0,(aJ l).2.2)
 else if most < 0\/most < (aJ l).1 then ([],0,3)
 else if l.length-(aJ l).2.1 < (aJ l).1 then ([],0,10)
 else ((l.drop (aJ l).2.1).take (aJ l).1,(aJ l).2.1+(aJ l).1,0)
theorem PO(l:List Nat)(most:Int): pU l most=(if (aJ l).2.2≠0 then ([],0,(aJ l).2.2)
 else if most < 0\/most < (aJ l).1 then ([],0,3)
 else if l.length-(aJ l).2.1 < (aJ l).1 then ([],0,10)
 else ((l.drop (aJ l).2.1).take (aJ l).1,(aJ l).2.1+(aJ l).1,0)):=rfl
def KT(l:List Nat)(most:Int)(w:World)(e:Ending)(w':World): Prop:=
 e=.returned (.tuple #[.string (ji (pU l most).1),Z ((pU l most).2.1:Nat),Z ((pU l most).2.2:Nat)])/\Below w.heap.size w w'
theorem CZ(w:World)(A:Option Addr)(len c:Nat)(l:List Nat)(most:Int)(hl:l.length=len)(hb:∀ j,l.getD j 0 < 256)(hsl:Sl w (fun q=>q < w.heap.size) A len (aI l))(hlc:len<=c)(hcm:c<=9223372036854775807)(hv:dh w)(hm0 : -9223372036854775808<=most)(hm1:most<=9223372036854775807):
  Calls Tryz.prog 67 #[.slice A len c,Z most] w (KT l most w):=by
 have HS:=zh (zN hl (zN hb (zN hsl hv)));clear hl hb hsl hv
 go_enter Tryz.func67,Tryz.ntmps67
 go_wp2_with fail;refine(mg w _ A len c l HS.out.1 HS.out.2.1 HS.out.2.2.1 J HS.out.2.2.2).mono ?_;rintro e w1 ⟨rfl,hb⟩;have hvl:=kQ l;have hve:=vP l;have hvt:=PO l most;have hlen:=HS.out.1;have hvo:(aJ l).2.2=0->1<=(aJ l).2.1:=fun h=>(PL HS.out.2.1 h).1
 obtain⟨u,hu⟩:∃ u,u=(aJ l).1:=⟨_,rfl⟩
 obtain⟨n,hn⟩:∃ n,n=(aJ l).2.1:=⟨_,rfl⟩
 obtain⟨k,hk⟩:∃ k,k=(aJ l).2.2:=⟨_,rfl⟩
 rw[<-hu,<-hn,<-hk] at hve hvt
 rw[<-hu,<-hn] at hvl
 rw[<-hk,<-hn] at hvo
 rw[<-hu,<-hn,<-hk];rw[hlen] at hvl hvt
 have HB:=zh hb;clear hb hu hn hk hlen
 by_cases h0:k=0
 ·have h1:=hvo h0
  subst h0;rw[if_neg J] at hvt
  obtain⟨hu64,hn10,hnl⟩:=hvl;clear hve hvo
  by_cases c2:most < 0
  ·rw[if_pos (.inl c2)] at hvt
   have HT:=zh hvt;clear hvt;go_wp2_with fail
   go_ret3
   exact⟨by rw[HT.out];rfl,HB.out⟩
  ·have d2:decide (most < 0)=false:=by simp;omega
   have k2:IntKind.u64.wrap most=most:=by rw[IntKind.wrap_u64];omega
   by_cases c3:most < u
   ·rw[if_pos (.inr c3)] at hvt
    have HT:=zh hvt;clear hvt;go_wp2_with fail
    go_ret3
    exact⟨by rw[HT.out];rfl,HB.out⟩
   ·rw[if_neg J] at hvt
    have d3:decide (most < (u:Int))=false:=by simp;omega
    have k3:IntKind.u64.wrap ((len:Int)-(n:Int))=(len:Int)-(n:Int):=by rw[IntKind.wrap_u64];omega
    have k4:IntKind.i64.wrap (u:Int)=(u:Int):=by rw[IntKind.wrap_i64];omega
    by_cases c4:len-n < u
    ·rw[if_pos c4] at hvt
     have HT:=zh hvt;have d4:decide ((len:Int)-(n:Int) < (u:Int))=true:=by simp;omega
     clear hvt;go_wp2_with fail
     go_ret3
     exact⟨by rw[HT.out];rfl,HB.out⟩
    ·rw[if_neg c4] at hvt
     have HT:=zh hvt;have d4:decide ((len:Int)-(n:Int) < (u:Int))=false:=by simp;omega
     obtain⟨b,off,rfl,-,-⟩:=HS.out.2.2.1 J;clear hvt;have hun:u<=len-n:=J;clear c4
     by_cases hnc:n=c
     ·have hu0:u=0:=J
      have hnl2:len=n:=J;subst hu0 hnl2 hnc;have hc:=fun (A:Option Addr) (q:Nat)=>vY (P:=Tryz.prog) (w:=w1) (D:=fun _=>True) (A:=A) (len:=0) (c:=q) (bs:=[]) 72 5 9 Tryz.underlying72 Tryz.underlying5 Tryz.underlying9 rfl (Sl.nil _ _ _ _)
      have HT2:=zh (show pU l most=([],len,0) by rw[HT.out];simp);clear HT;go_wp2_with fail
      go_ret3
      exact⟨by rw[HT2.out];rfl,HB.out⟩
     ·have hs:=Fy (vK (eY HS.out.2.2.1 HB.out) hnl) hun
      have hc:=vY (P:=Tryz.prog) (c:=c-n) 72 5 9 Tryz.underlying72 Tryz.underlying5 Tryz.underlying9 (by rw[List.length_take,List.length_drop];have:=HS.out.1;omega) hs;obtain⟨P,hP⟩:∃ P,P=(l.drop n).take u:=⟨_,rfl⟩
      rw[<-hP] at hc HT
      clear hs hP;go_wp2_with fail
      go_ret3
      exact⟨by rw[HT.out];rfl,HB.out⟩
 ·rw[if_pos h0] at hvt
  have d0:((k:Int) != 0)=true:=by simp;omega
  have HT:=zh hvt;clear hvt hvo hve h0;go_wp2_with fail
  go_ret3
  exact⟨by rw[HT.out];rfl,HB.out⟩
end V
section
theorem xD(x:Int): (BitVec.ofInt 64 x).toNat=(x%18446744073709551616).toNat:=by
 rw[BitVec.toNat_ofInt];rfl
theorem qm(x:Int)(k:Nat)(hk:k<=62): bits .and .i64 x ((2 ^ k-1:Nat):Int)=((x%(2 ^ k:Nat)).toNat:Int):=by
 have h64:(2:Nat) ^ k<=2 ^ 62:=Nat.pow_le_pow_right J hk;have hp:0 < 2 ^ k:=Nat.two_pow_pos k;show IntKind.i64.wrap ((BitVec.ofInt 64 x &&& BitVec.ofInt 64 ((2 ^ k-1:Nat):Int)).toNat:Int)=_
 have h2:(BitVec.ofInt 64 ((2 ^ k-1:Nat):Int)).toNat=2 ^ k-1:=by
  rw[BitVec.ofInt_natCast,BitVec.toNat_ofNat];exact Nat.mod_eq_of_lt J
 have h3:(x%18446744073709551616).toNat%2 ^ k=(x%(2 ^ k:Nat)).toNat:=by
  have hd:((2 ^ k:Nat):Int) ∣ 18446744073709551616:=by
   have:(18446744073709551616:Int)=((2 ^ k:Nat):Int)*((2 ^ (64-k):Nat):Int):=by
    rw[<-Int.natCast_mul,<-Nat.pow_add,show k+(64-k)=64 by omega];rfl
   exact⟨_,this⟩
  have h4:x%18446744073709551616%((2 ^ k:Nat):Int)=x%((2 ^ k:Nat):Int):=Int.emod_emod_of_dvd x hd;have h5:0<=x%18446744073709551616:=Int.emod_nonneg _ J;obtain⟨y,hy⟩:=Int.eq_ofNat_of_zero_le h5;rw[hy] at h4 ⊢
  rw[<-h4];rfl
 rw[BitVec.toNat_and,h2,xD,Nat.and_two_pow_sub_one_eq_mod,h3,IntKind.wrap_i64];have h6:0<=x%((2 ^ k:Nat):Int):=Int.emod_nonneg _ J;have h7:x%((2 ^ k:Nat):Int) < ((2 ^ k:Nat):Int):=Int.emod_lt_of_pos _ J;omega
def uU(p q:Pt): Bool:=p.t == q.t && (p.v == q.v && p.s == q.s)
theorem NW(p:Pt): uU p p=true:=by unfold uU;simp
end
end Go.Proofs.YtmffkpkgbdcnjaaGreatDoor
