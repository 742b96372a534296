/-
  Regions that draw their order, walked by a schedule: what only reads is taken first, a call is met where it alone may come up, and behind it more may be held than before.
-/
import Derived.Deep.RegionHeld3
import Derived.WalkKit
import Derived.KernelRfl
namespace Go.Proofs.YthhgnngpaagagaaDoor
section
variable {P : Program} {ops : Array Oper} {Q : Exit → Act → World → Prop} {S S' : World → Prop}
theorem wpAnyH_more (himp : ∀ w, S' w → S w) : ∀ (fuel : Nat) (listed : Array Bool) (a : Act) (w : World), wpAnyH P .any ops Q S' fuel listed a w → wpAnyH P .any ops Q S fuel listed a w
  | 0, _, _, _, h => h
  | fuel + 1, _, _, _, h => ⟨h.1, fun i hi => wpOp_mono (fun a' w' h' => ⟨himp _ h'.1, wpAnyH_more himp fuel _ a' w' h'.2⟩) (h.2 i hi)⟩
/-- The world under another name. -/
theorem wp_gen {c : Code} {a : Act} {w : World} (S : World → Prop) (hS : S w) (h : ∀ w, S w → c.wp P Q a w) : c.wp P Q a w := h w hS
theorem reg_start {id : Nat} {a : Act} {w : World} (S : World → Prop) (hm : P.follows .mixedOrders = true) (hS : S w.drew)
    (h : wpAnyH P .any ops Q S ops.size (Array.replicate ops.size false) a w.drew) : (Code.region id ops true).wp P Q a w :=
  wp_region_held_drew hm hS (fun _ => h)
theorem reg_take {i : Nat} {oi : Oper} {v : Value} {fuel : Nat} {listed : Array Bool} {a : Act} {w : World} (hi : ops[i]? = some oi)
    (hs : Region.noSelect ops = true) (hf : Region.free .any ops listed i = true) (hr : (Region.ready .any ops listed).contains i = true)
    (hQ : ∀ c a w, Q (.panic c) (a.put oi.dst v) w → Q (.panic c) a w) (hy : YieldsIf P ops S oi v a) (hS : S w)
    (h : wpAnyH P .any ops Q S fuel (listed.setIfInBounds i true) (a.put oi.dst v) w) : wpAnyH P .any ops Q S (fuel + 1) listed a w :=
  wpAnyH_take hi hs hf hr hQ hy hS h
/-- Behind a call: what follows, with whatever holds from there on. -/
def Then (P : Program) (ops : Array Oper) (Q : Exit → Act → World → Prop) (S : World → Prop) (fuel : Nat) (listed : Array Bool) (K : Act → World → Prop) : Prop :=
  ∀ (S' : World → Prop) (a : Act) (w : World), (∀ w, S' w → S w) → S' w → wpAnyH P .any ops Q S' fuel listed a w → K a w
theorem Then.to {fuel : Nat} {listed : Array Bool} {K : Act → World → Prop} (h : Then P ops Q S fuel listed K) (S' : World → Prop) {a : Act} {w : World} (himp : ∀ w, S' w → S w) (hS : S' w) (k : wpAnyH P .any ops Q S' fuel listed a w) : K a w := h S' a w himp hS k
theorem Then.go {fuel : Nat} {listed : Array Bool} {K : Act → World → Prop} (h : Then P ops Q S fuel listed K) (S' : World → Prop) {a : Act} {w : World} (himp : ∀ w, S' w → S w) (hS : S' w) (k : ∀ w, S' w → wpAnyH P .any ops Q S' fuel listed a w) : K a w := h S' a w himp hS (k w hS)
theorem reg_call {i : Nat} {o : Oper} {fuel : Nat} {listed : Array Bool} {a : Act} {w : World} (ho : ops[i]? = some o) (hr : Region.ready .any ops listed = [i])
    (h : ∀ K : Act → World → Prop, Then P ops Q S fuel (listed.setIfInBounds i true) K → if Region.wanted o (yielded ops a.tmps) = true then Oper.wp P o a w K Q else K (a.put o.dst undef) w) :
    wpAnyH P .any ops Q S (fuel + 1) listed a w :=
  wpAnyH_ready hr (by simp) (AllReadyH.cons ho (fun K hK => h K (fun _ a w himp hS hW => hK.out a w (himp _ hS) (fun _ => wpAnyH_more himp _ _ _ _ hW))) AllReadyH.nil)
theorem reg_two {i j : Nat} {o o' : Oper} {fuel : Nat} {listed : Array Bool} {a : Act} {w : World} (ho : ops[i]? = some o) (ho' : ops[j]? = some o') (hr : Region.ready .any ops listed = [i, j])
    (h : ∀ K : Act → World → Prop, Then P ops Q S fuel (listed.setIfInBounds i true) K → if Region.wanted o (yielded ops a.tmps) = true then Oper.wp P o a w K Q else K (a.put o.dst undef) w)
    (h' : ∀ K : Act → World → Prop, Then P ops Q S fuel (listed.setIfInBounds j true) K → if Region.wanted o' (yielded ops a.tmps) = true then Oper.wp P o' a w K Q else K (a.put o'.dst undef) w) :
    wpAnyH P .any ops Q S (fuel + 1) listed a w :=
  wpAnyH_ready hr (by simp) (AllReadyH.cons ho (fun K hK => h K (fun _ a w himp hS hW => hK.out a w (himp _ hS) (fun _ => wpAnyH_more himp _ _ _ _ hW)))
    (AllReadyH.cons ho' (fun K hK => h' K (fun _ a w himp hS hW => hK.out a w (himp _ hS) (fun _ => wpAnyH_more himp _ _ _ _ hW))) AllReadyH.nil))
end
end Go.Proofs.YthhgnngpaagagaaDoor
