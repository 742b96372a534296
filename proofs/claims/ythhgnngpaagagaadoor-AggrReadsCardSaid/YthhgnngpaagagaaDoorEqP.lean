/-
  Points, compared.
-/
import Derived.Test.YthhgnngpaagagaaDoorPt
import Derived.WalkKit
namespace Go.Proofs.YthhgnngpaagagaaDoor
def eqP (p q : Pt) : Bool := p.t == q.t && (p.v == q.v && p.s == q.s)
theorem eqP_self (p : Pt) : eqP p p = true := by unfold eqP; simp
theorem eqP_iff (p q : Pt) : eqP p q = true ↔ p = q := by
  obtain ⟨a, b, c⟩ := p
  obtain ⟨a', b', c'⟩ := q
  unfold eqP
  simp
theorem eqP_run (p q : Pt) (w : World) : (if p.t = q.t then if p.v = q.v then if p.s = q.s then Result.ok (Next.value (Value.bool true)) w else Result.ok (Next.value (Value.bool false)) w
    else Result.ok (Next.value (Value.bool false)) w else Result.ok (Next.value (Value.bool false)) w) = Result.ok (Next.value (Value.bool (eqP p q))) w := by
  unfold eqP
  by_cases h1 : p.t = q.t
  · by_cases h2 : p.v = q.v
    · by_cases h3 : p.s = q.s
      · simp [h1, h2, h3]
      · simp [h1, h2, h3]
    · simp [h1, h2]
  · simp [h1]
end Go.Proofs.YthhgnngpaagagaaDoor
