/-
  Regions that draw their order, where two or three calls are ready at once, each of which gives its value in whatever world meets S and leaves one that does: whichever comes first.
-/
import Derived.Test.YthhgnngpaagagaaDoorReg
namespace Go.Proofs.YthhgnngpaagagaaDoor
section
variable {P : Program} {ops : Array Oper} {Q : Exit → Act → World → Prop} {S : World → Prop}
def YieldsC (P : Program) (ops : Array Oper) (S : World → Prop) (o : Oper) (v : Value) (a : Act) : Prop :=
  Region.wanted o (yielded ops a.tmps) = true ∧ ∃ f args, (∀ w, (execOp a.eval o).run P w = .ok (.enter f args) w) ∧ ∀ w, S w → Calls P f args w (fun e w' => e = .returned v ∧ S w')
theorem YieldsC.wpOp {i : Nat} {o : Oper} {v : Value} {a : Act} (hi : ops[i]? = some o) (hy : YieldsC P ops S o v a) {K : Act → World → Prop} {w : World} (hS : S w) (h : ∀ w', S w' → K (a.put o.dst v) w') : wpOp P ops Q i K a w := by
  obtain ⟨hw, f, args, hr, hc⟩ := hy
  unfold Go.wpOp
  simp only [hi, hw, if_true, Oper.wp, hr w, Oper.upon]
  refine .inl ((hc w hS).mono ?_)
  rintro e w' ⟨rfl, hS'⟩
  exact h w' hS'
theorem YieldsC.put {o o' : Oper} {v u : Value} {a : Act} (hy : YieldsC P ops S o v a) (hs : ∀ cs b, o.op ≠ .select cs b) (h : ∀ d, o'.dst = some d → d ∉ o.looksAt ops) : YieldsC P ops S o v (a.put o'.dst u) := by
  unfold YieldsC at *
  rw [execOp_put o hs a o'.dst u h, wanted_put o a o'.dst u h]
  exact hy
theorem reg_pair {i j : Nat} {o o' : Oper} {v v' : Value} {fuel : Nat} {listed : Array Bool} {a : Act} (ho : ops[i]? = some o) (ho' : ops[j]? = some o') (hs : Region.noSelect ops = true)
    (hap : o.apart ops o' = true) (hij : j ≠ i)
    (hr : Region.ready .any ops listed = [i, j]) (hri : Region.ready .any ops (listed.setIfInBounds i true) = [j]) (hrj : Region.ready .any ops (listed.setIfInBounds j true) = [i])
    (hy : YieldsC P ops S o v a) (hy' : YieldsC P ops S o' v' a)
    (h : ∀ w, S w → wpAnyH P .any ops Q S fuel ((listed.setIfInBounds i true).setIfInBounds j true) ((a.put o.dst v).put o'.dst v') w) : ∀ w, S w → wpAnyH P .any ops Q S (fuel + 2) listed a w := by
  intro w hS
  obtain ⟨h1, h2, h3⟩ := Oper.apart_spec hap
  have s1 := fun cs b => Region.noSelect_spec hs i o cs b ho
  have s2 := fun cs b => Region.noSelect_spec hs j o' cs b ho'
  refine wpAnyH_all hr (by simp) ?_
  intro k hk
  rcases (show k = i ∨ k = j by simpa using hk) with rfl | rfl
  · refine hy.wpOp ho hS fun w1 hS1 => ⟨hS1, wpAnyH_all hri (by simp) ?_⟩
    intro k hk
    obtain rfl : k = j := by simpa using hk
    exact (hy'.put s2 h1).wpOp ho' hS1 fun w2 hS2 => ⟨hS2, h w2 hS2⟩
  · refine hy'.wpOp ho' hS fun w1 hS1 => ⟨hS1, wpAnyH_all hrj (by simp) ?_⟩
    intro k hk
    obtain rfl : k = i := by simpa using hk
    refine (hy.put s1 h3).wpOp ho hS1 fun w2 hS2 => ⟨hS2, ?_⟩
    rw [← Act.put_comm a v v' h2, Array.setIfInBounds_comm _ _ hij]
    exact h w2 hS2
theorem reg_three {i j k : Nat} {o o' o'' : Oper} {v v' v'' : Value} {fuel : Nat} {listed : Array Bool} {a : Act} (ho : ops[i]? = some o) (ho' : ops[j]? = some o') (ho'' : ops[k]? = some o'') (hs : Region.noSelect ops = true)
    (hap : o.apart ops o' = true) (hap' : o.apart ops o'' = true) (hap'' : o'.apart ops o'' = true) (hij : j ≠ i) (hik : k ≠ i) (hjk : k ≠ j)
    (hr : Region.ready .any ops listed = [i, j, k])
    (hri : Region.ready .any ops (listed.setIfInBounds i true) = [j, k]) (hrj : Region.ready .any ops (listed.setIfInBounds j true) = [i, k]) (hrk : Region.ready .any ops (listed.setIfInBounds k true) = [i, j])
    (hrij : Region.ready .any ops ((listed.setIfInBounds i true).setIfInBounds j true) = [k]) (hrik : Region.ready .any ops ((listed.setIfInBounds i true).setIfInBounds k true) = [j]) (hrjk : Region.ready .any ops ((listed.setIfInBounds j true).setIfInBounds k true) = [i])
    (hy : YieldsC P ops S o v a) (hy' : YieldsC P ops S o' v' a) (hy'' : YieldsC P ops S o'' v'' a)
    (h : ∀ w, S w → wpAnyH P .any ops Q S fuel (((listed.setIfInBounds i true).setIfInBounds j true).setIfInBounds k true) (((a.put o.dst v).put o'.dst v').put o''.dst v'') w) : ∀ w, S w → wpAnyH P .any ops Q S (fuel + 2 + 1) listed a w := by
  intro w hS
  obtain ⟨h1, h2, h3⟩ := Oper.apart_spec hap
  obtain ⟨g1, g2, g3⟩ := Oper.apart_spec hap'
  obtain ⟨f1, f2, f3⟩ := Oper.apart_spec hap''
  have s1 := fun cs b => Region.noSelect_spec hs i o cs b ho
  have s2 := fun cs b => Region.noSelect_spec hs j o' cs b ho'
  have s3 := fun cs b => Region.noSelect_spec hs k o'' cs b ho''
  refine wpAnyH_all hr (by simp) ?_
  intro m hm
  rcases (show m = i ∨ m = j ∨ m = k by simpa using hm) with rfl | rfl | rfl
  · refine hy.wpOp ho hS fun w1 hS1 => ⟨hS1, reg_pair ho' ho'' hs hap'' hjk hri hrij hrik (hy'.put s2 h1) (hy''.put s3 g1) h w1 hS1⟩
  · refine hy'.wpOp ho' hS fun w1 hS1 => ⟨hS1, reg_pair ho ho'' hs hap' hik hrj ?_ hrjk (hy.put s1 h3) (hy''.put s3 f1) ?_ w1 hS1⟩
    · rw [Array.setIfInBounds_comm _ _ hij]; exact hrij
    · rw [Array.setIfInBounds_comm _ _ hij, ← Act.put_comm a v v' h2]
      exact h
  · refine hy''.wpOp ho'' hS fun w1 hS1 => ⟨hS1, reg_pair ho ho' hs hap hij hrk ?_ ?_ (hy.put s1 g3) (hy'.put s2 f3) ?_ w1 hS1⟩
    · rw [Array.setIfInBounds_comm _ _ hik]; exact hrik
    · rw [Array.setIfInBounds_comm _ _ hjk]; exact hrjk
    · rw [Array.setIfInBounds_comm _ _ hik, Array.setIfInBounds_comm (xs := listed.setIfInBounds i true) _ _ hjk, ← Act.put_comm a v v'' g2, ← Act.put_comm (a.put o.dst v) v' v'' f2]
      exact h
end
end Go.Proofs.YthhgnngpaagagaaDoor
