/-
  Texts of this proof, joined: SgG, PtRow.
-/
import Derived.Test.YtopbbicjbjmdnaaJ08
import Derived.Test.YtopbbicjbjmdnaaJ07
import Derived.Test.YtopbbicjbjmdnaaJ01
import Derived.Test.YtopbbicjbjmdnaaJ02
import Derived.Test.YtopbbicjbjmdnaaRows
namespace Go.Proofs.Ytopbbicjbjmdnaa
open Go.RowKit Go.Maps
set_option maxRecDepth 100000
set_option linter.unusedVariables false
set_option linter.unusedSimpArgs false
theorem sgStr : Elem1 Try.prog 49 9 (.string ByteArray.empty) 16 := Elem1.mk' Try.underlying49 rfl (by kernel_rfl)
def nmL (nm : Nat → ByteArray) (j : Nat) : List Value := (List.range j).map fun i => Value.string (nm i)
theorem nmL_succ (nm : Nat → ByteArray) (j : Nat) : nmL nm (j + 1) = nmL nm j ++ [.string (nm j)] := by unfold nmL; rw [List.range_succ, List.map_append]; rfl
theorem nm_at {w : World} {base k c : Nat} {A : Option Addr} {nm : Nat → ByteArray} (h : w.ownsRow base 9 1 (.slice A k c) k (nmL nm k)) : StrAt w A k nm := fun hk => by
  obtain ⟨b, off, e, hD, hc⟩ := Sl.of_own (f := fun j => Value.string (nm j)) h (fun j u hu => by
    unfold nmL at hu
    rw [List.getElem?_map] at hu
    rcases Nat.lt_or_ge j k with hj | hj
    · rw [List.getElem?_range hj] at hu
      simp at hu
      exact hu.symm
    · rw [List.getElem?_eq_none (by simpa using hj)] at hu
      cases hu) hk
  exact ⟨b, off, e, (h.lt b hD).2, hc⟩
/-- Two slices of the call's own. -/
structure Two (w0 : World) (vo vf : Value) (O F : List Nat) (w : World) : Prop where
  bel : Below w0.heap.size w0 w
  o : w.ownsRow w0.heap.size 5 1 vo O.length (O.map V.byteV)
  f : w.ownsRow w0.heap.size 5 1 vf F.length (F.map V.byteV)
  dis : ∀ g, vo.ownBlock = some g → vf.ownBlock ≠ some g
theorem Two.call {w0 w w' : World} {vo vf : Value} {O F : List Nat} (h : Two w0 vo vf O F w) (hb : Below w.heap.size w w') : Two w0 vo vf O F w' :=
  ⟨h.bel.trans (hb.mono h.bel.size), V.own_later h.o hb, V.own_later h.f hb, h.dis⟩
theorem Two.foot {w0 w w' : World} {vo vf v' : Value} {O F F' : List Nat} (h : Two w0 vo vf O F w) (hb : Below w.heap.size w w') (ho : w'.ownsRow w.heap.size 5 1 v' F'.length (F'.map V.byteV)) : Two w0 vo v' O F' w' := by
  have h' := h.call hb
  refine ⟨h'.bel, h'.o, own_base ho h.bel.size, fun g hg hg' => ?_⟩
  have h1 := (h.o.lt g hg).2
  have h2 := (ho.lt g hg').1
  omega
theorem Two.out {w0 w w' : World} {vo vf v' : Value} {O F O' : List Nat} (h : Two w0 vo vf O F w) (ho : w'.ownsRow w0.heap.size 5 1 v' O'.length (O'.map V.byteV)) (hg : w.grownBy w' vo.ownBlock) (hx : v'.ownBlock = vo.ownBlock ∨ v'.ownBlock = some w.heap.size) : Two w0 v' vf O' F w' := by
  refine ⟨V.lat_grown h.bel h.o hg, ho, h.f.kept hg (by
    cases e : vf.ownBlock with
    | none => exact .inl rfl
    | some g => exact .inr fun e' => h.dis g e'.symm e), fun g hg1 hg2 => ?_⟩
  rcases hx with hx | hx
  · exact h.dis g (by rw [← hx]; exact hg1) hg2
  · rw [hx] at hg1
    injection hg1 with hg1
    have := (h.f.lt g hg2).2
    omega
def NmOwn (w0 : World) (A : Option Addr) (c j : Nat) (nm : Nat → ByteArray) (w : World) : Prop := w.ownsRow w0.heap.size 9 1 (.slice A j c) j (nmL nm j) ∧ Below w0.heap.size w0 w
theorem NmOwn.call {w0 w w' : World} {A : Option Addr} {c j : Nat} {nm : Nat → ByteArray} (h : NmOwn w0 A c j nm w) (hb : Below w.heap.size w w') : NmOwn w0 A c j nm w' := ⟨V.own_later h.1 hb, h.2.trans (hb.mono h.2.size)⟩
set_option maxHeartbeats 8000000 in
theorem rbuild_any (w : World) (A : Option Addr) (k c : Nat) (nm : Nat → ByteArray) (pa : Nat → Option Addr) (pn pc : Nat → Nat) (pf : Nat → Nat → Pt) (h : PartsAt w A k nm pa pn pc pf) (hs : Small nm pf pn k) :
    Calls Try.prog 6 #[.slice A k c] w (BuildPost nm pf pn k w) := by
  have hk := hs.kb
  have H0 := Lib.hid (And.intro h hs)
  clear h hs
  go_enter Try.func6, Try.ntmps6
  rcases Nat.eq_zero_or_pos k with h0 | hk0
  · subst h0
    go_wp2_with fail
    go_ret2
    exact build_none (by simp) (Below.refl _ _)
  have d0 : decide ((k : Int) < 1) = false := by simp; omega
  have d1 : decide ((1024 : Int) < (k : Int)) = false := by simp; omega
  go_wp2_with fail
  clear d0 d1
  go_loopw [4, 5] (fun s4 i wr => ∃ (j : Nat) (A4 : Option Addr) (c4 : Nat), j ≤ k ∧ i = .int .i64 (j : Nat) ∧ s4 = .slice A4 j c4 ∧ namesOk nm j = true ∧ sV pf pn j = true ∧ NmOwn w A4 c4 j nm wr) (fun _ i _ => k - (intOf i).toNat)
  case atStart => exact ⟨0, none, 0, by omega, rfl, rfl, rfl, rfl, ⟨rfl, .inl ⟨rfl, rfl⟩⟩, Below.refl _ _⟩
  case round =>
    obtain ⟨j, A4, c4, hj, rfl, rfl, hok, hv, hT⟩ := hrel
    by_cases hlt : j < k
    · obtain ⟨b, off, hA, hbl, hcell⟩ := H0.out.1.row (by omega)
      subst hA
      obtain ⟨s, hs⟩ : ∃ s, s = nm j := ⟨_, rfl⟩
      have hce : ∀ wx, Below w.heap.size w wx → ∀ i, i < k → wx.cell? ⟨b, off + i * 2, none⟩ = some (.string (nm i)) ∧ wx.cell? ⟨b, off + i * 2 + 1, none⟩ = some (.slice (pa i) (pn i) (pc i)) :=
        fun wx hx i hi => ⟨(hx.cell (by exact hbl)).trans (hcell i hi).1, (hx.cell (by exact hbl)).trans (hcell i hi).2⟩
      have hjk : (j : Int) < (k : Int) := by omega
      have HT := Lib.hid (And.intro hT (And.intro hok (And.intro hv (And.intro hs hce))))
      clear hT hok hv hcell hs hce
      go_upto_region 7 with (fail)
      have hS0 := HT.out.1.call (Below.refl _ _).drew
      have hS : (NmOwn w A4 c4 j nm) (wr.drew) := hS0
      refine reg_start (NmOwn w A4 c4 j nm) (by kernel_rfl) hS ?_
      clear hS0
      refine reg_take (i := 0) (v := ?_) rfl (by kernel_rfl) (by kernel_rfl) (by kernel_rfl) (fun _ _ _ h => h) (Or.inl ⟨by kernel_rfl, ?_⟩) hS ?_
      rotate_left
      · (intro w' hSw; go_simp <;> with_reducible rfl)
      try simp only [List.getElem_toArray, List.getElem_cons_succ, List.getElem_cons_zero, Act.put, List.setIfInBounds_toArray, List.set_cons_zero, List.set_cons_succ]
      refine reg_take (i := 1) (v := ?_) rfl (by kernel_rfl) (by kernel_rfl) (by kernel_rfl) (fun _ _ _ h => h) (Or.inl ⟨by kernel_rfl, ?_⟩) hS ?_
      rotate_left
      · (intro w' hSw; go_simp <;> with_reducible rfl)
      try simp only [List.getElem_toArray, List.getElem_cons_succ, List.getElem_cons_zero, Act.put, List.setIfInBounds_toArray, List.set_cons_zero, List.set_cons_succ]
      refine reg_take (i := 2) (v := ?_) rfl (by kernel_rfl) (by kernel_rfl) (by kernel_rfl) (fun _ _ _ h => h) (Or.inl ⟨by kernel_rfl, ?_⟩) hS ?_
      rotate_left
      · (intro w' hSw; go_simp <;> with_reducible rfl)
      try simp only [List.getElem_toArray, List.getElem_cons_succ, List.getElem_cons_zero, Act.put, List.setIfInBounds_toArray, List.set_cons_zero, List.set_cons_succ]
      refine reg_take (i := 3) (v := ?_) rfl (by kernel_rfl) (by kernel_rfl) (by kernel_rfl) (fun _ _ _ h => h) (Or.inl ⟨by kernel_rfl, ?_⟩) hS ?_
      rotate_left
      · (intro w' hSw; go_simp <;> with_reducible rfl)
      try simp only [List.getElem_toArray, List.getElem_cons_succ, List.getElem_cons_zero, Act.put, List.setIfInBounds_toArray, List.set_cons_zero, List.set_cons_succ]
      refine reg_take (i := 4) (v := ?_) rfl (by kernel_rfl) (by kernel_rfl) (by kernel_rfl) (fun _ _ _ h => h) (Or.inl ⟨by kernel_rfl, ?_⟩) hS ?_
      rotate_left
      · (intro w' hSw; have u0 := (by have := (HT.out.2.2.2.2 w' hSw.2 j hlt).1; rw [← HT.out.2.2.2.1] at this; exact this : w'.cell? ⟨b, off + j * 2, none⟩ = some (.string s)); go_simp <;> with_reducible rfl)
      try simp only [List.getElem_toArray, List.getElem_cons_succ, List.getElem_cons_zero, Act.put, List.setIfInBounds_toArray, List.set_cons_zero, List.set_cons_succ]
      refine reg_call (i := 5) rfl (by kernel_rfl) (fun K hK => ?_)
      have HK := Lib.hid hK
      clear hK
      go_simp
      refine (rsValid_any s (by rw [HT.out.2.2.2.1]; exact H0.out.1.nsz j hlt) _).mono ?_
      rintro e w6 ⟨rfl, hb6⟩
      have H6 := Lib.hid (hS.call hb6)
      clear hb6
      cases hn : nameOk s with
      | false =>
        have HF := Lib.hid (show namesOk nm k = false from namesOk_bad hlt (by unfold stepOk; rw [← HT.out.2.2.2.1, hn]; rfl))
        clear hn
        go_wp2_with fail
        refine HK.out.to (NmOwn w A4 c4 j nm) (fun _ h => h) (H6.out) ?_
        clear HK hS
        have hS : (NmOwn w A4 c4 j nm) (w6) := H6.out
        try simp only [List.getElem_toArray, List.getElem_cons_succ, List.getElem_cons_zero, Act.put, List.setIfInBounds_toArray, List.set_cons_zero, List.set_cons_succ]
        refine reg_take (i := 6) (v := ?_) rfl (by kernel_rfl) (by kernel_rfl) (by kernel_rfl) (fun _ _ _ h => h) (Or.inl ⟨by kernel_rfl, ?_⟩) hS ?_
        rotate_left
        · (intro w' hSw; go_simp <;> with_reducible rfl)
        try simp only [List.getElem_toArray, List.getElem_cons_succ, List.getElem_cons_zero, Act.put, List.setIfInBounds_toArray, List.set_cons_zero, List.set_cons_succ]
        refine reg_take (i := 7) (v := ?_) rfl (by kernel_rfl) (by kernel_rfl) (by kernel_rfl) (fun _ _ _ h => h) (Or.inl ⟨by kernel_rfl, ?_⟩) hS ?_
        rotate_left
        · (intro w' hSw; go_simp <;> with_reducible rfl)
        try simp only [List.getElem_toArray, List.getElem_cons_succ, List.getElem_cons_zero, Act.put, List.setIfInBounds_toArray, List.set_cons_zero, List.set_cons_succ]
        refine reg_take (i := 8) (v := undef) rfl (by kernel_rfl) (by kernel_rfl) (by kernel_rfl) (fun _ _ _ h => h) (Or.inr ⟨by kernel_rfl, rfl⟩) hS ?_
        try simp only [List.getElem_toArray, List.getElem_cons_succ, List.getElem_cons_zero, Act.put, List.setIfInBounds_toArray, List.set_cons_zero, List.set_cons_succ]
        refine reg_take (i := 9) (v := undef) rfl (by kernel_rfl) (by kernel_rfl) (by kernel_rfl) (fun _ _ _ h => h) (Or.inr ⟨by kernel_rfl, rfl⟩) hS ?_
        try simp only [List.getElem_toArray, List.getElem_cons_succ, List.getElem_cons_zero, Act.put, List.setIfInBounds_toArray, List.set_cons_zero, List.set_cons_succ]
        refine reg_take (i := 10) (v := undef) rfl (by kernel_rfl) (by kernel_rfl) (by kernel_rfl) (fun _ _ _ h => h) (Or.inr ⟨by kernel_rfl, rfl⟩) hS ?_
        try simp only [List.getElem_toArray, List.getElem_cons_succ, List.getElem_cons_zero, Act.put, List.setIfInBounds_toArray, List.set_cons_zero, List.set_cons_succ]
        refine reg_take (i := 11) (v := undef) rfl (by kernel_rfl) (by kernel_rfl) (by kernel_rfl) (fun _ _ _ h => h) (Or.inr ⟨by kernel_rfl, rfl⟩) hS ?_
        try simp only [List.getElem_toArray, List.getElem_cons_succ, List.getElem_cons_zero, Act.put, List.setIfInBounds_toArray, List.set_cons_zero, List.set_cons_succ]
        refine reg_take (i := 12) (v := undef) rfl (by kernel_rfl) (by kernel_rfl) (by kernel_rfl) (fun _ _ _ h => h) (Or.inr ⟨by kernel_rfl, rfl⟩) hS ?_
        try simp only [List.getElem_toArray, List.getElem_cons_succ, List.getElem_cons_zero, Act.put, List.setIfInBounds_toArray, List.set_cons_zero, List.set_cons_succ]
        refine reg_take (i := 13) (v := undef) rfl (by kernel_rfl) (by kernel_rfl) (by kernel_rfl) (fun _ _ _ h => h) (Or.inr ⟨by kernel_rfl, rfl⟩) hS ?_
        try simp only [List.getElem_toArray, List.getElem_cons_succ, List.getElem_cons_zero, Act.put, List.setIfInBounds_toArray, List.set_cons_zero, List.set_cons_succ]
        refine reg_take (i := 14) (v := undef) rfl (by kernel_rfl) (by kernel_rfl) (by kernel_rfl) (fun _ _ _ h => h) (Or.inr ⟨by kernel_rfl, rfl⟩) hS ?_
        try simp only [List.getElem_toArray, List.getElem_cons_succ, List.getElem_cons_zero, Act.put, List.setIfInBounds_toArray, List.set_cons_zero, List.set_cons_succ]
        refine reg_take (i := 15) (v := undef) rfl (by kernel_rfl) (by kernel_rfl) (by kernel_rfl) (fun _ _ _ h => h) (Or.inr ⟨by kernel_rfl, rfl⟩) hS ?_
        try simp only [List.getElem_toArray, List.getElem_cons_succ, List.getElem_cons_zero, Act.put, List.setIfInBounds_toArray, List.set_cons_zero, List.set_cons_succ]
        refine reg_take (i := 16) (v := undef) rfl (by kernel_rfl) (by kernel_rfl) (by kernel_rfl) (fun _ _ _ h => h) (Or.inr ⟨by kernel_rfl, rfl⟩) hS ?_
        try simp only [List.getElem_toArray, List.getElem_cons_succ, List.getElem_cons_zero, Act.put, List.setIfInBounds_toArray, List.set_cons_zero, List.set_cons_succ]
        refine reg_take (i := 17) (v := undef) rfl (by kernel_rfl) (by kernel_rfl) (by kernel_rfl) (fun _ _ _ h => h) (Or.inr ⟨by kernel_rfl, rfl⟩) hS ?_
        try simp only [List.getElem_toArray, List.getElem_cons_succ, List.getElem_cons_zero, Act.put, List.setIfInBounds_toArray, List.set_cons_zero, List.set_cons_succ]
        refine reg_take (i := 18) (v := undef) rfl (by kernel_rfl) (by kernel_rfl) (by kernel_rfl) (fun _ _ _ h => h) (Or.inr ⟨by kernel_rfl, rfl⟩) hS ?_
        try simp only [List.getElem_toArray, List.getElem_cons_succ, List.getElem_cons_zero, Act.put, List.setIfInBounds_toArray, List.set_cons_zero, List.set_cons_succ]
        refine reg_take (i := 19) (v := undef) rfl (by kernel_rfl) (by kernel_rfl) (by kernel_rfl) (fun _ _ _ h => h) (Or.inr ⟨by kernel_rfl, rfl⟩) hS ?_
        try simp only [List.getElem_toArray, List.getElem_cons_succ, List.getElem_cons_zero, Act.put, List.setIfInBounds_toArray, List.set_cons_zero, List.set_cons_succ]
        refine reg_take (i := 20) (v := undef) rfl (by kernel_rfl) (by kernel_rfl) (by kernel_rfl) (fun _ _ _ h => h) (Or.inr ⟨by kernel_rfl, rfl⟩) hS ?_
        try simp only [List.getElem_toArray, List.getElem_cons_succ, List.getElem_cons_zero, Act.put, List.setIfInBounds_toArray, List.set_cons_zero, List.set_cons_succ]
        refine reg_take (i := 21) (v := undef) rfl (by kernel_rfl) (by kernel_rfl) (by kernel_rfl) (fun _ _ _ h => h) (Or.inr ⟨by kernel_rfl, rfl⟩) hS ?_
        try simp only [List.getElem_toArray, List.getElem_cons_succ, List.getElem_cons_zero, Act.put, List.setIfInBounds_toArray, List.set_cons_zero, List.set_cons_succ]
        refine reg_take (i := 22) (v := undef) rfl (by kernel_rfl) (by kernel_rfl) (by kernel_rfl) (fun _ _ _ h => h) (Or.inr ⟨by kernel_rfl, rfl⟩) hS ?_
        try simp only [List.getElem_toArray, List.getElem_cons_succ, List.getElem_cons_zero, Act.put, List.setIfInBounds_toArray, List.set_cons_zero, List.set_cons_succ]
        refine reg_take (i := 23) (v := undef) rfl (by kernel_rfl) (by kernel_rfl) (by kernel_rfl) (fun _ _ _ h => h) (Or.inr ⟨by kernel_rfl, rfl⟩) hS ?_
        try simp only [List.getElem_toArray, List.getElem_cons_succ, List.getElem_cons_zero, Act.put, List.setIfInBounds_toArray, List.set_cons_zero, List.set_cons_succ]
        refine reg_take (i := 24) (v := ?_) rfl (by kernel_rfl) (by kernel_rfl) (by kernel_rfl) (fun _ _ _ h => h) (Or.inl ⟨by kernel_rfl, ?_⟩) hS ?_
        rotate_left
        · (intro w' hSw; go_simp <;> with_reducible rfl)
        try simp only [List.getElem_toArray, List.getElem_cons_succ, List.getElem_cons_zero, Act.put, List.setIfInBounds_toArray, List.set_cons_zero, List.set_cons_succ]
        refine reg_take (i := 25) (v := ?_) rfl (by kernel_rfl) (by kernel_rfl) (by kernel_rfl) (fun _ _ _ h => h) (Or.inl ⟨by kernel_rfl, ?_⟩) hS ?_
        rotate_left
        · (intro w' hSw; go_simp <;> with_reducible rfl)
        try simp only [List.getElem_toArray, List.getElem_cons_succ, List.getElem_cons_zero, Act.put, List.setIfInBounds_toArray, List.set_cons_zero, List.set_cons_succ]
        refine reg_take (i := 26) (v := undef) rfl (by kernel_rfl) (by kernel_rfl) (by kernel_rfl) (fun _ _ _ h => h) (Or.inr ⟨by kernel_rfl, rfl⟩) hS ?_
        try simp only [List.getElem_toArray, List.getElem_cons_succ, List.getElem_cons_zero, Act.put, List.setIfInBounds_toArray, List.set_cons_zero, List.set_cons_succ]
        refine reg_take (i := 27) (v := undef) rfl (by kernel_rfl) (by kernel_rfl) (by kernel_rfl) (fun _ _ _ h => h) (Or.inr ⟨by kernel_rfl, rfl⟩) hS ?_
        try simp only [List.getElem_toArray, List.getElem_cons_succ, List.getElem_cons_zero, Act.put, List.setIfInBounds_toArray, List.set_cons_zero, List.set_cons_succ]
        refine reg_take (i := 28) (v := undef) rfl (by kernel_rfl) (by kernel_rfl) (by kernel_rfl) (fun _ _ _ h => h) (Or.inr ⟨by kernel_rfl, rfl⟩) hS ?_
        try simp only [List.getElem_toArray, List.getElem_cons_succ, List.getElem_cons_zero, Act.put, List.setIfInBounds_toArray, List.set_cons_zero, List.set_cons_succ]
        refine reg_take (i := 29) (v := undef) rfl (by kernel_rfl) (by kernel_rfl) (by kernel_rfl) (fun _ _ _ h => h) (Or.inr ⟨by kernel_rfl, rfl⟩) hS ?_
        try simp only [List.getElem_toArray, List.getElem_cons_succ, List.getElem_cons_zero, Act.put, List.setIfInBounds_toArray, List.set_cons_zero, List.set_cons_succ]
        refine reg_take (i := 30) (v := undef) rfl (by kernel_rfl) (by kernel_rfl) (by kernel_rfl) (fun _ _ _ h => h) (Or.inr ⟨by kernel_rfl, rfl⟩) hS ?_
        try simp only [List.getElem_toArray, List.getElem_cons_succ, List.getElem_cons_zero, Act.put, List.setIfInBounds_toArray, List.set_cons_zero, List.set_cons_succ]
        refine reg_take (i := 31) (v := undef) rfl (by kernel_rfl) (by kernel_rfl) (by kernel_rfl) (fun _ _ _ h => h) (Or.inr ⟨by kernel_rfl, rfl⟩) hS ?_
        try simp only [List.getElem_toArray, List.getElem_cons_succ, List.getElem_cons_zero, Act.put, List.setIfInBounds_toArray, List.set_cons_zero, List.set_cons_succ]
        refine reg_take (i := 32) (v := undef) rfl (by kernel_rfl) (by kernel_rfl) (by kernel_rfl) (fun _ _ _ h => h) (Or.inr ⟨by kernel_rfl, rfl⟩) hS ?_
        try simp only [List.getElem_toArray, List.getElem_cons_succ, List.getElem_cons_zero, Act.put, List.setIfInBounds_toArray, List.set_cons_zero, List.set_cons_succ]
        refine reg_take (i := 33) (v := ?_) rfl (by kernel_rfl) (by kernel_rfl) (by kernel_rfl) (fun _ _ _ h => h) (Or.inl ⟨by kernel_rfl, ?_⟩) hS ?_
        rotate_left
        · (intro w' hSw; go_simp <;> with_reducible rfl)
        try simp only [List.getElem_toArray, List.getElem_cons_succ, List.getElem_cons_zero, Act.put, List.setIfInBounds_toArray, List.set_cons_zero, List.set_cons_succ]
        refine wpAnyH_done (by kernel_rfl) ?_ _
        try simp only [List.getElem_toArray, List.getElem_cons_succ, List.getElem_cons_zero]
        try simp only [List.getElem_toArray, List.getElem_cons_succ, List.getElem_cons_zero, Act.put, List.setIfInBounds_toArray, List.set_cons_zero, List.set_cons_succ]
        have HG := Lib.hid hS.2
        clear hS
        go_wp2_with fail
        go_ret2
        exact build_none (by rw [HF.out]; rfl) HG.out
      | true =>
        have HN := Lib.hid hn
        clear hn
        go_wp2_with fail
        refine HK.out.to (NmOwn w A4 c4 j nm) (fun _ h => h) (H6.out) ?_
        clear HK hS
        have hS : (NmOwn w A4 c4 j nm) (w6) := H6.out
        try simp only [List.getElem_toArray, List.getElem_cons_succ, List.getElem_cons_zero, Act.put, List.setIfInBounds_toArray, List.set_cons_zero, List.set_cons_succ]
        by_cases hj0 : j = 0
        · have HO := Lib.hid (show namesOk nm (j + 1) = true by rw [namesOk_succ, HT.out.2.1]; unfold stepOk; rw [← HT.out.2.2.2.1, HN.out, hj0]; rfl)
          have d0 : decide ((0 : Int) < (j : Int)) = false := by simp; omega
          have d0' : decide (0 < j) = false := by simp; omega
          clear hj0
          refine reg_take (i := 6) (v := ?_) rfl (by kernel_rfl) (by kernel_rfl) (by kernel_rfl) (fun _ _ _ h => h) (Or.inl ⟨by kernel_rfl, ?_⟩) hS ?_
          rotate_left
          · (intro w' hSw; go_simp <;> with_reducible rfl)
          try simp only [List.getElem_toArray, List.getElem_cons_succ, List.getElem_cons_zero, Act.put, List.setIfInBounds_toArray, List.set_cons_zero, List.set_cons_succ]
          refine reg_take (i := 7) (v := ?_) rfl (by kernel_rfl) (by kernel_rfl) (by kernel_rfl) (fun _ _ _ h => h) (Or.inl ⟨by kernel_rfl, ?_⟩) hS ?_
          rotate_left
          · (intro w' hSw; go_simp <;> with_reducible rfl)
          try simp only [List.getElem_toArray, List.getElem_cons_succ, List.getElem_cons_zero, Act.put, List.setIfInBounds_toArray, List.set_cons_zero, List.set_cons_succ]
          refine reg_take (i := 8) (v := ?_) rfl (by kernel_rfl) (by kernel_rfl) (by kernel_rfl) (fun _ _ _ h => h) (Or.inl ⟨by kernel_rfl, ?_⟩) hS ?_
          rotate_left
          · (intro w' hSw; go_simp <;> with_reducible rfl)
          try simp only [List.getElem_toArray, List.getElem_cons_succ, List.getElem_cons_zero, Act.put, List.setIfInBounds_toArray, List.set_cons_zero, List.set_cons_succ]
          refine reg_take (i := 9) (v := ?_) rfl (by kernel_rfl) (by kernel_rfl) (by kernel_rfl) (fun _ _ _ h => h) (Or.inl ⟨by kernel_rfl, ?_⟩) hS ?_
          rotate_left
          · (intro w' hSw; go_simp <;> with_reducible rfl)
          try simp only [List.getElem_toArray, List.getElem_cons_succ, List.getElem_cons_zero, Act.put, List.setIfInBounds_toArray, List.set_cons_zero, List.set_cons_succ]
          refine reg_take (i := 10) (v := ?_) rfl (by kernel_rfl) (by kernel_rfl) (by kernel_rfl) (fun _ _ _ h => h) (Or.inl ⟨by kernel_rfl, ?_⟩) hS ?_
          rotate_left
          · (intro w' hSw; go_simp <;> with_reducible rfl)
          try simp only [List.getElem_toArray, List.getElem_cons_succ, List.getElem_cons_zero, Act.put, List.setIfInBounds_toArray, List.set_cons_zero, List.set_cons_succ]
          refine reg_take (i := 11) (v := undef) rfl (by kernel_rfl) (by kernel_rfl) (by kernel_rfl) (fun _ _ _ h => h) (Or.inr ⟨by kernel_rfl, rfl⟩) hS ?_
          try simp only [List.getElem_toArray, List.getElem_cons_succ, List.getElem_cons_zero, Act.put, List.setIfInBounds_toArray, List.set_cons_zero, List.set_cons_succ]
          refine reg_take (i := 12) (v := undef) rfl (by kernel_rfl) (by kernel_rfl) (by kernel_rfl) (fun _ _ _ h => h) (Or.inr ⟨by kernel_rfl, rfl⟩) hS ?_
          try simp only [List.getElem_toArray, List.getElem_cons_succ, List.getElem_cons_zero, Act.put, List.setIfInBounds_toArray, List.set_cons_zero, List.set_cons_succ]
          refine reg_take (i := 13) (v := undef) rfl (by kernel_rfl) (by kernel_rfl) (by kernel_rfl) (fun _ _ _ h => h) (Or.inr ⟨by kernel_rfl, rfl⟩) hS ?_
          try simp only [List.getElem_toArray, List.getElem_cons_succ, List.getElem_cons_zero, Act.put, List.setIfInBounds_toArray, List.set_cons_zero, List.set_cons_succ]
          refine reg_take (i := 14) (v := undef) rfl (by kernel_rfl) (by kernel_rfl) (by kernel_rfl) (fun _ _ _ h => h) (Or.inr ⟨by kernel_rfl, rfl⟩) hS ?_
          try simp only [List.getElem_toArray, List.getElem_cons_succ, List.getElem_cons_zero, Act.put, List.setIfInBounds_toArray, List.set_cons_zero, List.set_cons_succ]
          refine reg_take (i := 15) (v := undef) rfl (by kernel_rfl) (by kernel_rfl) (by kernel_rfl) (fun _ _ _ h => h) (Or.inr ⟨by kernel_rfl, rfl⟩) hS ?_
          try simp only [List.getElem_toArray, List.getElem_cons_succ, List.getElem_cons_zero, Act.put, List.setIfInBounds_toArray, List.set_cons_zero, List.set_cons_succ]
          refine reg_take (i := 16) (v := undef) rfl (by kernel_rfl) (by kernel_rfl) (by kernel_rfl) (fun _ _ _ h => h) (Or.inr ⟨by kernel_rfl, rfl⟩) hS ?_
          try simp only [List.getElem_toArray, List.getElem_cons_succ, List.getElem_cons_zero, Act.put, List.setIfInBounds_toArray, List.set_cons_zero, List.set_cons_succ]
          refine reg_take (i := 17) (v := undef) rfl (by kernel_rfl) (by kernel_rfl) (by kernel_rfl) (fun _ _ _ h => h) (Or.inr ⟨by kernel_rfl, rfl⟩) hS ?_
          try simp only [List.getElem_toArray, List.getElem_cons_succ, List.getElem_cons_zero, Act.put, List.setIfInBounds_toArray, List.set_cons_zero, List.set_cons_succ]
          refine reg_take (i := 18) (v := undef) rfl (by kernel_rfl) (by kernel_rfl) (by kernel_rfl) (fun _ _ _ h => h) (Or.inr ⟨by kernel_rfl, rfl⟩) hS ?_
          try simp only [List.getElem_toArray, List.getElem_cons_succ, List.getElem_cons_zero, Act.put, List.setIfInBounds_toArray, List.set_cons_zero, List.set_cons_succ]
          refine reg_take (i := 19) (v := undef) rfl (by kernel_rfl) (by kernel_rfl) (by kernel_rfl) (fun _ _ _ h => h) (Or.inr ⟨by kernel_rfl, rfl⟩) hS ?_
          try simp only [List.getElem_toArray, List.getElem_cons_succ, List.getElem_cons_zero, Act.put, List.setIfInBounds_toArray, List.set_cons_zero, List.set_cons_succ]
          refine reg_take (i := 20) (v := undef) rfl (by kernel_rfl) (by kernel_rfl) (by kernel_rfl) (fun _ _ _ h => h) (Or.inr ⟨by kernel_rfl, rfl⟩) hS ?_
          try simp only [List.getElem_toArray, List.getElem_cons_succ, List.getElem_cons_zero, Act.put, List.setIfInBounds_toArray, List.set_cons_zero, List.set_cons_succ]
          refine reg_take (i := 21) (v := undef) rfl (by kernel_rfl) (by kernel_rfl) (by kernel_rfl) (fun _ _ _ h => h) (Or.inr ⟨by kernel_rfl, rfl⟩) hS ?_
          try simp only [List.getElem_toArray, List.getElem_cons_succ, List.getElem_cons_zero, Act.put, List.setIfInBounds_toArray, List.set_cons_zero, List.set_cons_succ]
          refine reg_take (i := 22) (v := undef) rfl (by kernel_rfl) (by kernel_rfl) (by kernel_rfl) (fun _ _ _ h => h) (Or.inr ⟨by kernel_rfl, rfl⟩) hS ?_
          try simp only [List.getElem_toArray, List.getElem_cons_succ, List.getElem_cons_zero, Act.put, List.setIfInBounds_toArray, List.set_cons_zero, List.set_cons_succ]
          refine reg_take (i := 23) (v := ?_) rfl (by kernel_rfl) (by kernel_rfl) (by kernel_rfl) (fun _ _ _ h => h) (Or.inl ⟨by kernel_rfl, ?_⟩) hS ?_
          rotate_left
          · (intro w' hSw; go_simp <;> with_reducible rfl)
          try simp only [List.getElem_toArray, List.getElem_cons_succ, List.getElem_cons_zero, Act.put, List.setIfInBounds_toArray, List.set_cons_zero, List.set_cons_succ]
          refine reg_take (i := 24) (v := ?_) rfl (by kernel_rfl) (by kernel_rfl) (by kernel_rfl) (fun _ _ _ h => h) (Or.inl ⟨by kernel_rfl, ?_⟩) hS ?_
          rotate_left
          · (intro w' hSw; go_simp <;> with_reducible rfl)
          try simp only [List.getElem_toArray, List.getElem_cons_succ, List.getElem_cons_zero, Act.put, List.setIfInBounds_toArray, List.set_cons_zero, List.set_cons_succ]
          refine reg_take (i := 25) (v := ?_) rfl (by kernel_rfl) (by kernel_rfl) (by kernel_rfl) (fun _ _ _ h => h) (Or.inl ⟨by kernel_rfl, ?_⟩) hS ?_
          rotate_left
          · (intro w' hSw; go_simp <;> with_reducible rfl)
          try simp only [List.getElem_toArray, List.getElem_cons_succ, List.getElem_cons_zero, Act.put, List.setIfInBounds_toArray, List.set_cons_zero, List.set_cons_succ]
          refine reg_take (i := 26) (v := ?_) rfl (by kernel_rfl) (by kernel_rfl) (by kernel_rfl) (fun _ _ _ h => h) (Or.inl ⟨by kernel_rfl, ?_⟩) hS ?_
          rotate_left
          · (intro w' hSw; go_simp <;> with_reducible rfl)
          try simp only [List.getElem_toArray, List.getElem_cons_succ, List.getElem_cons_zero, Act.put, List.setIfInBounds_toArray, List.set_cons_zero, List.set_cons_succ]
          refine reg_take (i := 27) (v := ?_) rfl (by kernel_rfl) (by kernel_rfl) (by kernel_rfl) (fun _ _ _ h => h) (Or.inl ⟨by kernel_rfl, ?_⟩) hS ?_
          rotate_left
          · (intro w' hSw; go_simp <;> with_reducible rfl)
          try simp only [List.getElem_toArray, List.getElem_cons_succ, List.getElem_cons_zero, Act.put, List.setIfInBounds_toArray, List.set_cons_zero, List.set_cons_succ]
          refine reg_take (i := 28) (v := ?_) rfl (by kernel_rfl) (by kernel_rfl) (by kernel_rfl) (fun _ _ _ h => h) (Or.inl ⟨by kernel_rfl, ?_⟩) hS ?_
          rotate_left
          · (intro w' hSw; go_simp <;> with_reducible rfl)
          try simp only [List.getElem_toArray, List.getElem_cons_succ, List.getElem_cons_zero, Act.put, List.setIfInBounds_toArray, List.set_cons_zero, List.set_cons_succ]
          refine reg_take (i := 29) (v := ?_) rfl (by kernel_rfl) (by kernel_rfl) (by kernel_rfl) (fun _ _ _ h => h) (Or.inl ⟨by kernel_rfl, ?_⟩) hS ?_
          rotate_left
          · (intro w' hSw; go_simp <;> with_reducible rfl)
          try simp only [List.getElem_toArray, List.getElem_cons_succ, List.getElem_cons_zero, Act.put, List.setIfInBounds_toArray, List.set_cons_zero, List.set_cons_succ]
          refine reg_take (i := 30) (v := ?_) rfl (by kernel_rfl) (by kernel_rfl) (by kernel_rfl) (fun _ _ _ h => h) (Or.inl ⟨by kernel_rfl, ?_⟩) hS ?_
          rotate_left
          · (intro w' hSw; have u0 := (HT.out.2.2.2.2 w' hSw.2 j hlt).2; go_simp <;> with_reducible rfl)
          try simp only [List.getElem_toArray, List.getElem_cons_succ, List.getElem_cons_zero, Act.put, List.setIfInBounds_toArray, List.set_cons_zero, List.set_cons_succ]
          refine reg_call (i := 31) rfl (by kernel_rfl) (fun K hK => ?_)
          have HK := Lib.hid hK
          clear hK
          go_simp
          refine (fine_any _ (pa j) (pn j) (pc j) (pf j) ((H0.out.1.pts j hlt).below hS.2 |>.mono (fun _ hq => Nat.lt_of_lt_of_le hq hS.2.size)) (H0.out.2.pb j hlt) (H0.out.1.le j hlt).1 (H0.out.1.le j hlt).2).mono ?_
          rintro e w7 ⟨rfl, hb7⟩
          have H7 := Lib.hid (hS.call hb7)
          clear hb7
          cases hp : (bV (pf j) (pn j) (nbl (pn j)) && decide (0 < pn j)) with
          | false =>
            have HF := Lib.hid (show sV pf pn k = false from sV_bad (i := j) (by unfold partV; exact hp) _ hlt)
            clear hp
            go_wp2_with fail
            refine HK.out.to (NmOwn w A4 c4 j nm) (fun _ h => h) (H7.out) ?_
            clear HK hS
            have hS : (NmOwn w A4 c4 j nm) (w7) := H7.out
            try simp only [List.getElem_toArray, List.getElem_cons_succ, List.getElem_cons_zero, Act.put, List.setIfInBounds_toArray, List.set_cons_zero, List.set_cons_succ]
            refine reg_take (i := 32) (v := ?_) rfl (by kernel_rfl) (by kernel_rfl) (by kernel_rfl) (fun _ _ _ h => h) (Or.inl ⟨by kernel_rfl, ?_⟩) hS ?_
            rotate_left
            · (intro w' hSw; go_simp <;> with_reducible rfl)
            try simp only [List.getElem_toArray, List.getElem_cons_succ, List.getElem_cons_zero, Act.put, List.setIfInBounds_toArray, List.set_cons_zero, List.set_cons_succ]
            refine reg_take (i := 33) (v := ?_) rfl (by kernel_rfl) (by kernel_rfl) (by kernel_rfl) (fun _ _ _ h => h) (Or.inl ⟨by kernel_rfl, ?_⟩) hS ?_
            rotate_left
            · (intro w' hSw; go_simp <;> with_reducible rfl)
            try simp only [List.getElem_toArray, List.getElem_cons_succ, List.getElem_cons_zero, Act.put, List.setIfInBounds_toArray, List.set_cons_zero, List.set_cons_succ]
            refine wpAnyH_done (by kernel_rfl) ?_ _
            try simp only [List.getElem_toArray, List.getElem_cons_succ, List.getElem_cons_zero]
            try simp only [List.getElem_toArray, List.getElem_cons_succ, List.getElem_cons_zero, Act.put, List.setIfInBounds_toArray, List.set_cons_zero, List.set_cons_succ]
            have HG := Lib.hid hS.2
            clear hS
            go_wp2_with fail
            go_ret2
            exact build_none (by rw [HF.out]; simp) HG.out
          | true =>
            have HV := Lib.hid (show sV pf pn (j + 1) = true by show (sV pf pn j && partV pf pn j) = true; rw [HT.out.2.2.1]; unfold partV; rw [hp]; rfl)
            clear hp
            go_wp2_with fail
            refine HK.out.to (NmOwn w A4 c4 j nm) (fun _ h => h) (H7.out) ?_
            clear HK hS
            have hS : (NmOwn w A4 c4 j nm) (w7) := H7.out
            try simp only [List.getElem_toArray, List.getElem_cons_succ, List.getElem_cons_zero, Act.put, List.setIfInBounds_toArray, List.set_cons_zero, List.set_cons_succ]
            refine reg_take (i := 32) (v := ?_) rfl (by kernel_rfl) (by kernel_rfl) (by kernel_rfl) (fun _ _ _ h => h) (Or.inl ⟨by kernel_rfl, ?_⟩) hS ?_
            rotate_left
            · (intro w' hSw; go_simp <;> with_reducible rfl)
            try simp only [List.getElem_toArray, List.getElem_cons_succ, List.getElem_cons_zero, Act.put, List.setIfInBounds_toArray, List.set_cons_zero, List.set_cons_succ]
            refine reg_take (i := 33) (v := ?_) rfl (by kernel_rfl) (by kernel_rfl) (by kernel_rfl) (fun _ _ _ h => h) (Or.inl ⟨by kernel_rfl, ?_⟩) hS ?_
            rotate_left
            · (intro w' hSw; go_simp <;> with_reducible rfl)
            try simp only [List.getElem_toArray, List.getElem_cons_succ, List.getElem_cons_zero, Act.put, List.setIfInBounds_toArray, List.set_cons_zero, List.set_cons_succ]
            refine wpAnyH_done (by kernel_rfl) ?_ _
            try simp only [List.getElem_toArray, List.getElem_cons_succ, List.getElem_cons_zero]
            try simp only [List.getElem_toArray, List.getElem_cons_succ, List.getElem_cons_zero, Act.put, List.setIfInBounds_toArray, List.set_cons_zero, List.set_cons_succ]
            have HG := Lib.hid hS
            clear hS
            have u0 := (by have := (HT.out.2.2.2.2 w7 HG.out.2 j hlt).1; rw [← HT.out.2.2.2.1] at this; exact this : w7.cell? ⟨b, off + j * 2, none⟩ = some (.string s))
            go_wp2_with (at_builtin; refine wpList_append_sl (f := fun _ => .string s) (D := fun q => q = w7.heap.size) (base := w.heap.size) (n := j) (xs := nmL nm j) sgStr rfl (.tmp 67) (.tmp 73) rfl rfl rfl ?hown ?hsl ?h1 ?h63 ?hby ?hbase ?_)
            case hown => exact HG.out.1.alloc _
            case hsl => exact sl_one _ _ _
            case h1 => intro j _; rfl
            case h63 => unfold maxLen; omega
            case hby => omega
            case hbase => have := HG.out.2.size; simp; omega
            intro v8 w8 ho8 hg8 hx8
            have ho8' : w8.ownsRow w.heap.size 9 1 v8 (j + 1) (nmL nm (j + 1)) := by
              rw [nmL_succ, ← HT.out.2.2.2.1]
              exact ho8
            have hb8 : Below w.heap.size w w8 := V.lat_grown (HG.out.2.alloc HG.out.2.size _) (HG.out.1.alloc _) hg8
            obtain ⟨A8, c8, rfl, -, -⟩ := own_form ho8'
            have H8 := Lib.hid (And.intro ho8' hb8)
            clear ho8 ho8' hg8 hx8 hb8 u0
            go_wp2_with fail
            go_roundw
            case rel => exact ⟨j + 1, A8, c8, by omega, by go_num, rfl, HO.out, HV.out, H8.out.1, H8.out.2⟩
            case measure => simp [intOf] <;> omega
        · have d0 : decide ((0 : Int) < (j : Int)) = true := by simp; omega
          have d0' : decide (0 < j) = true := by simp; omega
          obtain ⟨q, hq⟩ : ∃ q, q = j - 1 := ⟨_, rfl⟩
          have km : ((j : Int) - 1) = (q : Int) := by omega
          have kw : IntKind.i64.wrap (q : Int) = (q : Int) := IntWalk.i64_in _ (by omega)
          have hqn : (q : Int) < (k : Int) := by omega
          have hqn' : q < k := by omega
          obtain ⟨t, ht⟩ : ∃ t, t = nm q := ⟨_, rfl⟩
          have hst : stepOk nm j = !leS s t := by
            unfold stepOk
            rw [← HT.out.2.2.2.1, HN.out, ← hq, ← ht]
            have : (j == 0) = false := by simp; omega
            rw [this]; simp
          have HST := Lib.hid (And.intro hst ht)
          clear hst ht hj0 hq
          refine reg_take (i := 6) (v := ?_) rfl (by kernel_rfl) (by kernel_rfl) (by kernel_rfl) (fun _ _ _ h => h) (Or.inl ⟨by kernel_rfl, ?_⟩) hS ?_
          rotate_left
          · (intro w' hSw; go_simp <;> with_reducible rfl)
          try simp only [List.getElem_toArray, List.getElem_cons_succ, List.getElem_cons_zero, Act.put, List.setIfInBounds_toArray, List.set_cons_zero, List.set_cons_succ]
          refine reg_take (i := 7) (v := ?_) rfl (by kernel_rfl) (by kernel_rfl) (by kernel_rfl) (fun _ _ _ h => h) (Or.inl ⟨by kernel_rfl, ?_⟩) hS ?_
          rotate_left
          · (intro w' hSw; go_simp <;> with_reducible rfl)
          try simp only [List.getElem_toArray, List.getElem_cons_succ, List.getElem_cons_zero, Act.put, List.setIfInBounds_toArray, List.set_cons_zero, List.set_cons_succ]
          refine reg_take (i := 8) (v := ?_) rfl (by kernel_rfl) (by kernel_rfl) (by kernel_rfl) (fun _ _ _ h => h) (Or.inl ⟨by kernel_rfl, ?_⟩) hS ?_
          rotate_left
          · (intro w' hSw; go_simp <;> with_reducible rfl)
          try simp only [List.getElem_toArray, List.getElem_cons_succ, List.getElem_cons_zero, Act.put, List.setIfInBounds_toArray, List.set_cons_zero, List.set_cons_succ]
          refine reg_take (i := 9) (v := ?_) rfl (by kernel_rfl) (by kernel_rfl) (by kernel_rfl) (fun _ _ _ h => h) (Or.inl ⟨by kernel_rfl, ?_⟩) hS ?_
          rotate_left
          · (intro w' hSw; go_simp <;> with_reducible rfl)
          try simp only [List.getElem_toArray, List.getElem_cons_succ, List.getElem_cons_zero, Act.put, List.setIfInBounds_toArray, List.set_cons_zero, List.set_cons_succ]
          refine reg_take (i := 10) (v := ?_) rfl (by kernel_rfl) (by kernel_rfl) (by kernel_rfl) (fun _ _ _ h => h) (Or.inl ⟨by kernel_rfl, ?_⟩) hS ?_
          rotate_left
          · (intro w' hSw; go_simp <;> with_reducible rfl)
          try simp only [List.getElem_toArray, List.getElem_cons_succ, List.getElem_cons_zero, Act.put, List.setIfInBounds_toArray, List.set_cons_zero, List.set_cons_succ]
          refine reg_take (i := 11) (v := ?_) rfl (by kernel_rfl) (by kernel_rfl) (by kernel_rfl) (fun _ _ _ h => h) (Or.inl ⟨by kernel_rfl, ?_⟩) hS ?_
          rotate_left
          · (intro w' hSw; go_simp <;> with_reducible rfl)
          try simp only [List.getElem_toArray, List.getElem_cons_succ, List.getElem_cons_zero, Act.put, List.setIfInBounds_toArray, List.set_cons_zero, List.set_cons_succ]
          refine reg_take (i := 12) (v := ?_) rfl (by kernel_rfl) (by kernel_rfl) (by kernel_rfl) (fun _ _ _ h => h) (Or.inl ⟨by kernel_rfl, ?_⟩) hS ?_
          rotate_left
          · (intro w' hSw; go_simp <;> with_reducible rfl)
          try simp only [List.getElem_toArray, List.getElem_cons_succ, List.getElem_cons_zero, Act.put, List.setIfInBounds_toArray, List.set_cons_zero, List.set_cons_succ]
          refine reg_take (i := 13) (v := ?_) rfl (by kernel_rfl) (by kernel_rfl) (by kernel_rfl) (fun _ _ _ h => h) (Or.inl ⟨by kernel_rfl, ?_⟩) hS ?_
          rotate_left
          · (intro w' hSw; go_simp <;> with_reducible rfl)
          try simp only [List.getElem_toArray, List.getElem_cons_succ, List.getElem_cons_zero, Act.put, List.setIfInBounds_toArray, List.set_cons_zero, List.set_cons_succ]
          refine reg_take (i := 14) (v := ?_) rfl (by kernel_rfl) (by kernel_rfl) (by kernel_rfl) (fun _ _ _ h => h) (Or.inl ⟨by kernel_rfl, ?_⟩) hS ?_
          rotate_left
          · (intro w' hSw; go_simp <;> with_reducible rfl)
          try simp only [List.getElem_toArray, List.getElem_cons_succ, List.getElem_cons_zero, Act.put, List.setIfInBounds_toArray, List.set_cons_zero, List.set_cons_succ]
          refine reg_take (i := 15) (v := ?_) rfl (by kernel_rfl) (by kernel_rfl) (by kernel_rfl) (fun _ _ _ h => h) (Or.inl ⟨by kernel_rfl, ?_⟩) hS ?_
          rotate_left
          · (intro w' hSw; have u0 := (by have := (HT.out.2.2.2.2 w' hSw.2 j hlt).1; rw [← HT.out.2.2.2.1] at this; exact this : w'.cell? ⟨b, off + j * 2, none⟩ = some (.string s)); go_simp <;> with_reducible rfl)
          try simp only [List.getElem_toArray, List.getElem_cons_succ, List.getElem_cons_zero, Act.put, List.setIfInBounds_toArray, List.set_cons_zero, List.set_cons_succ]
          refine reg_take (i := 16) (v := ?_) rfl (by kernel_rfl) (by kernel_rfl) (by kernel_rfl) (fun _ _ _ h => h) (Or.inl ⟨by kernel_rfl, ?_⟩) hS ?_
          rotate_left
          · (intro w' hSw; go_simp <;> with_reducible rfl)
          try simp only [List.getElem_toArray, List.getElem_cons_succ, List.getElem_cons_zero, Act.put, List.setIfInBounds_toArray, List.set_cons_zero, List.set_cons_succ]
          refine reg_take (i := 17) (v := ?_) rfl (by kernel_rfl) (by kernel_rfl) (by kernel_rfl) (fun _ _ _ h => h) (Or.inl ⟨by kernel_rfl, ?_⟩) hS ?_
          rotate_left
          · (intro w' hSw; go_simp <;> with_reducible rfl)
          try simp only [List.getElem_toArray, List.getElem_cons_succ, List.getElem_cons_zero, Act.put, List.setIfInBounds_toArray, List.set_cons_zero, List.set_cons_succ]
          refine reg_take (i := 18) (v := ?_) rfl (by kernel_rfl) (by kernel_rfl) (by kernel_rfl) (fun _ _ _ h => h) (Or.inl ⟨by kernel_rfl, ?_⟩) hS ?_
          rotate_left
          · (intro w' hSw; go_simp <;> with_reducible rfl)
          try simp only [List.getElem_toArray, List.getElem_cons_succ, List.getElem_cons_zero, Act.put, List.setIfInBounds_toArray, List.set_cons_zero, List.set_cons_succ]
          refine reg_take (i := 19) (v := ?_) rfl (by kernel_rfl) (by kernel_rfl) (by kernel_rfl) (fun _ _ _ h => h) (Or.inl ⟨by kernel_rfl, ?_⟩) hS ?_
          rotate_left
          · (intro w' hSw; go_simp <;> with_reducible rfl)
          try simp only [List.getElem_toArray, List.getElem_cons_succ, List.getElem_cons_zero, Act.put, List.setIfInBounds_toArray, List.set_cons_zero, List.set_cons_succ]
          refine reg_take (i := 20) (v := ?_) rfl (by kernel_rfl) (by kernel_rfl) (by kernel_rfl) (fun _ _ _ h => h) (Or.inl ⟨by kernel_rfl, ?_⟩) hS ?_
          rotate_left
          · (intro w' hSw; go_simp <;> with_reducible rfl)
          try simp only [List.getElem_toArray, List.getElem_cons_succ, List.getElem_cons_zero, Act.put, List.setIfInBounds_toArray, List.set_cons_zero, List.set_cons_succ]
          refine reg_take (i := 21) (v := ?_) rfl (by kernel_rfl) (by kernel_rfl) (by kernel_rfl) (fun _ _ _ h => h) (Or.inl ⟨by kernel_rfl, ?_⟩) hS ?_
          rotate_left
          · (intro w' hSw; have u1 := (by have := (HT.out.2.2.2.2 w' hSw.2 q hqn').1; rw [← HST.out.2] at this; exact this : w'.cell? ⟨b, off + q * 2, none⟩ = some (.string t)); go_simp <;> with_reducible rfl)
          try simp only [List.getElem_toArray, List.getElem_cons_succ, List.getElem_cons_zero, Act.put, List.setIfInBounds_toArray, List.set_cons_zero, List.set_cons_succ]
          refine reg_take (i := 22) (v := .bool (leS s t)) rfl (by kernel_rfl) (by kernel_rfl) (by kernel_rfl) (fun _ _ _ h => h) (Or.inl ⟨by kernel_rfl, ?_⟩) hS ?_
          · (intro w' hSw; (go_simp <;> rfl))
          try simp only [List.getElem_toArray, List.getElem_cons_succ, List.getElem_cons_zero, Act.put, List.setIfInBounds_toArray, List.set_cons_zero, List.set_cons_succ]
          cases hle : leS s t with
          | true =>
            have HF := Lib.hid (show namesOk nm k = false from namesOk_bad hlt (by rw [HST.out.1, hle]; rfl))
            clear hle
            refine reg_take (i := 23) (v := ?_) rfl (by kernel_rfl) (by kernel_rfl) (by kernel_rfl) (fun _ _ _ h => h) (Or.inl ⟨by kernel_rfl, ?_⟩) hS ?_
            rotate_left
            · (intro w' hSw; go_simp <;> with_reducible rfl)
            try simp only [List.getElem_toArray, List.getElem_cons_succ, List.getElem_cons_zero, Act.put, List.setIfInBounds_toArray, List.set_cons_zero, List.set_cons_succ]
            refine reg_take (i := 24) (v := ?_) rfl (by kernel_rfl) (by kernel_rfl) (by kernel_rfl) (fun _ _ _ h => h) (Or.inl ⟨by kernel_rfl, ?_⟩) hS ?_
            rotate_left
            · (intro w' hSw; go_simp <;> with_reducible rfl)
            try simp only [List.getElem_toArray, List.getElem_cons_succ, List.getElem_cons_zero, Act.put, List.setIfInBounds_toArray, List.set_cons_zero, List.set_cons_succ]
            refine reg_take (i := 25) (v := ?_) rfl (by kernel_rfl) (by kernel_rfl) (by kernel_rfl) (fun _ _ _ h => h) (Or.inl ⟨by kernel_rfl, ?_⟩) hS ?_
            rotate_left
            · (intro w' hSw; go_simp <;> with_reducible rfl)
            try simp only [List.getElem_toArray, List.getElem_cons_succ, List.getElem_cons_zero, Act.put, List.setIfInBounds_toArray, List.set_cons_zero, List.set_cons_succ]
            refine reg_take (i := 26) (v := undef) rfl (by kernel_rfl) (by kernel_rfl) (by kernel_rfl) (fun _ _ _ h => h) (Or.inr ⟨by kernel_rfl, rfl⟩) hS ?_
            try simp only [List.getElem_toArray, List.getElem_cons_succ, List.getElem_cons_zero, Act.put, List.setIfInBounds_toArray, List.set_cons_zero, List.set_cons_succ]
            refine reg_take (i := 27) (v := undef) rfl (by kernel_rfl) (by kernel_rfl) (by kernel_rfl) (fun _ _ _ h => h) (Or.inr ⟨by kernel_rfl, rfl⟩) hS ?_
            try simp only [List.getElem_toArray, List.getElem_cons_succ, List.getElem_cons_zero, Act.put, List.setIfInBounds_toArray, List.set_cons_zero, List.set_cons_succ]
            refine reg_take (i := 28) (v := undef) rfl (by kernel_rfl) (by kernel_rfl) (by kernel_rfl) (fun _ _ _ h => h) (Or.inr ⟨by kernel_rfl, rfl⟩) hS ?_
            try simp only [List.getElem_toArray, List.getElem_cons_succ, List.getElem_cons_zero, Act.put, List.setIfInBounds_toArray, List.set_cons_zero, List.set_cons_succ]
            refine reg_take (i := 29) (v := undef) rfl (by kernel_rfl) (by kernel_rfl) (by kernel_rfl) (fun _ _ _ h => h) (Or.inr ⟨by kernel_rfl, rfl⟩) hS ?_
            try simp only [List.getElem_toArray, List.getElem_cons_succ, List.getElem_cons_zero, Act.put, List.setIfInBounds_toArray, List.set_cons_zero, List.set_cons_succ]
            refine reg_take (i := 30) (v := undef) rfl (by kernel_rfl) (by kernel_rfl) (by kernel_rfl) (fun _ _ _ h => h) (Or.inr ⟨by kernel_rfl, rfl⟩) hS ?_
            try simp only [List.getElem_toArray, List.getElem_cons_succ, List.getElem_cons_zero, Act.put, List.setIfInBounds_toArray, List.set_cons_zero, List.set_cons_succ]
            refine reg_take (i := 31) (v := undef) rfl (by kernel_rfl) (by kernel_rfl) (by kernel_rfl) (fun _ _ _ h => h) (Or.inr ⟨by kernel_rfl, rfl⟩) hS ?_
            try simp only [List.getElem_toArray, List.getElem_cons_succ, List.getElem_cons_zero, Act.put, List.setIfInBounds_toArray, List.set_cons_zero, List.set_cons_succ]
            refine reg_take (i := 32) (v := undef) rfl (by kernel_rfl) (by kernel_rfl) (by kernel_rfl) (fun _ _ _ h => h) (Or.inr ⟨by kernel_rfl, rfl⟩) hS ?_
            try simp only [List.getElem_toArray, List.getElem_cons_succ, List.getElem_cons_zero, Act.put, List.setIfInBounds_toArray, List.set_cons_zero, List.set_cons_succ]
            refine reg_take (i := 33) (v := ?_) rfl (by kernel_rfl) (by kernel_rfl) (by kernel_rfl) (fun _ _ _ h => h) (Or.inl ⟨by kernel_rfl, ?_⟩) hS ?_
            rotate_left
            · (intro w' hSw; go_simp <;> with_reducible rfl)
            try simp only [List.getElem_toArray, List.getElem_cons_succ, List.getElem_cons_zero, Act.put, List.setIfInBounds_toArray, List.set_cons_zero, List.set_cons_succ]
            refine wpAnyH_done (by kernel_rfl) ?_ _
            try simp only [List.getElem_toArray, List.getElem_cons_succ, List.getElem_cons_zero]
            try simp only [List.getElem_toArray, List.getElem_cons_succ, List.getElem_cons_zero, Act.put, List.setIfInBounds_toArray, List.set_cons_zero, List.set_cons_succ]
            have HG := Lib.hid hS.2
            clear hS
            go_wp2_with fail
            go_ret2
            exact build_none (by rw [HF.out]; rfl) HG.out
          | false =>
            have HO := Lib.hid (show namesOk nm (j + 1) = true by rw [namesOk_succ, HT.out.2.1, HST.out.1, hle]; rfl)
            clear hle
            refine reg_take (i := 23) (v := ?_) rfl (by kernel_rfl) (by kernel_rfl) (by kernel_rfl) (fun _ _ _ h => h) (Or.inl ⟨by kernel_rfl, ?_⟩) hS ?_
            rotate_left
            · (intro w' hSw; go_simp <;> with_reducible rfl)
            try simp only [List.getElem_toArray, List.getElem_cons_succ, List.getElem_cons_zero, Act.put, List.setIfInBounds_toArray, List.set_cons_zero, List.set_cons_succ]
            refine reg_take (i := 24) (v := ?_) rfl (by kernel_rfl) (by kernel_rfl) (by kernel_rfl) (fun _ _ _ h => h) (Or.inl ⟨by kernel_rfl, ?_⟩) hS ?_
            rotate_left
            · (intro w' hSw; go_simp <;> with_reducible rfl)
            try simp only [List.getElem_toArray, List.getElem_cons_succ, List.getElem_cons_zero, Act.put, List.setIfInBounds_toArray, List.set_cons_zero, List.set_cons_succ]
            refine reg_take (i := 25) (v := ?_) rfl (by kernel_rfl) (by kernel_rfl) (by kernel_rfl) (fun _ _ _ h => h) (Or.inl ⟨by kernel_rfl, ?_⟩) hS ?_
            rotate_left
            · (intro w' hSw; go_simp <;> with_reducible rfl)
            try simp only [List.getElem_toArray, List.getElem_cons_succ, List.getElem_cons_zero, Act.put, List.setIfInBounds_toArray, List.set_cons_zero, List.set_cons_succ]
            refine reg_take (i := 26) (v := ?_) rfl (by kernel_rfl) (by kernel_rfl) (by kernel_rfl) (fun _ _ _ h => h) (Or.inl ⟨by kernel_rfl, ?_⟩) hS ?_
            rotate_left
            · (intro w' hSw; go_simp <;> with_reducible rfl)
            try simp only [List.getElem_toArray, List.getElem_cons_succ, List.getElem_cons_zero, Act.put, List.setIfInBounds_toArray, List.set_cons_zero, List.set_cons_succ]
            refine reg_take (i := 27) (v := ?_) rfl (by kernel_rfl) (by kernel_rfl) (by kernel_rfl) (fun _ _ _ h => h) (Or.inl ⟨by kernel_rfl, ?_⟩) hS ?_
            rotate_left
            · (intro w' hSw; go_simp <;> with_reducible rfl)
            try simp only [List.getElem_toArray, List.getElem_cons_succ, List.getElem_cons_zero, Act.put, List.setIfInBounds_toArray, List.set_cons_zero, List.set_cons_succ]
            refine reg_take (i := 28) (v := ?_) rfl (by kernel_rfl) (by kernel_rfl) (by kernel_rfl) (fun _ _ _ h => h) (Or.inl ⟨by kernel_rfl, ?_⟩) hS ?_
            rotate_left
            · (intro w' hSw; go_simp <;> with_reducible rfl)
            try simp only [List.getElem_toArray, List.getElem_cons_succ, List.getElem_cons_zero, Act.put, List.setIfInBounds_toArray, List.set_cons_zero, List.set_cons_succ]
            refine reg_take (i := 29) (v := ?_) rfl (by kernel_rfl) (by kernel_rfl) (by kernel_rfl) (fun _ _ _ h => h) (Or.inl ⟨by kernel_rfl, ?_⟩) hS ?_
            rotate_left
            · (intro w' hSw; go_simp <;> with_reducible rfl)
            try simp only [List.getElem_toArray, List.getElem_cons_succ, List.getElem_cons_zero, Act.put, List.setIfInBounds_toArray, List.set_cons_zero, List.set_cons_succ]
            refine reg_take (i := 30) (v := ?_) rfl (by kernel_rfl) (by kernel_rfl) (by kernel_rfl) (fun _ _ _ h => h) (Or.inl ⟨by kernel_rfl, ?_⟩) hS ?_
            rotate_left
            · (intro w' hSw; have u0 := (HT.out.2.2.2.2 w' hSw.2 j hlt).2; go_simp <;> with_reducible rfl)
            try simp only [List.getElem_toArray, List.getElem_cons_succ, List.getElem_cons_zero, Act.put, List.setIfInBounds_toArray, List.set_cons_zero, List.set_cons_succ]
            refine reg_call (i := 31) rfl (by kernel_rfl) (fun K hK => ?_)
            have HK := Lib.hid hK
            clear hK
            go_simp
            refine (fine_any _ (pa j) (pn j) (pc j) (pf j) ((H0.out.1.pts j hlt).below hS.2 |>.mono (fun _ hq => Nat.lt_of_lt_of_le hq hS.2.size)) (H0.out.2.pb j hlt) (H0.out.1.le j hlt).1 (H0.out.1.le j hlt).2).mono ?_
            rintro e w7 ⟨rfl, hb7⟩
            have H7 := Lib.hid (hS.call hb7)
            clear hb7
            cases hp : (bV (pf j) (pn j) (nbl (pn j)) && decide (0 < pn j)) with
            | false =>
              have HF := Lib.hid (show sV pf pn k = false from sV_bad (i := j) (by unfold partV; exact hp) _ hlt)
              clear hp
              go_wp2_with fail
              refine HK.out.to (NmOwn w A4 c4 j nm) (fun _ h => h) (H7.out) ?_
              clear HK hS
              have hS : (NmOwn w A4 c4 j nm) (w7) := H7.out
              try simp only [List.getElem_toArray, List.getElem_cons_succ, List.getElem_cons_zero, Act.put, List.setIfInBounds_toArray, List.set_cons_zero, List.set_cons_succ]
              refine reg_take (i := 32) (v := ?_) rfl (by kernel_rfl) (by kernel_rfl) (by kernel_rfl) (fun _ _ _ h => h) (Or.inl ⟨by kernel_rfl, ?_⟩) hS ?_
              rotate_left
              · (intro w' hSw; go_simp <;> with_reducible rfl)
              try simp only [List.getElem_toArray, List.getElem_cons_succ, List.getElem_cons_zero, Act.put, List.setIfInBounds_toArray, List.set_cons_zero, List.set_cons_succ]
              refine reg_take (i := 33) (v := ?_) rfl (by kernel_rfl) (by kernel_rfl) (by kernel_rfl) (fun _ _ _ h => h) (Or.inl ⟨by kernel_rfl, ?_⟩) hS ?_
              rotate_left
              · (intro w' hSw; go_simp <;> with_reducible rfl)
              try simp only [List.getElem_toArray, List.getElem_cons_succ, List.getElem_cons_zero, Act.put, List.setIfInBounds_toArray, List.set_cons_zero, List.set_cons_succ]
              refine wpAnyH_done (by kernel_rfl) ?_ _
              try simp only [List.getElem_toArray, List.getElem_cons_succ, List.getElem_cons_zero]
              try simp only [List.getElem_toArray, List.getElem_cons_succ, List.getElem_cons_zero, Act.put, List.setIfInBounds_toArray, List.set_cons_zero, List.set_cons_succ]
              have HG := Lib.hid hS.2
              clear hS
              go_wp2_with fail
              go_ret2
              exact build_none (by rw [HF.out]; simp) HG.out
            | true =>
              have HV := Lib.hid (show sV pf pn (j + 1) = true by show (sV pf pn j && partV pf pn j) = true; rw [HT.out.2.2.1]; unfold partV; rw [hp]; rfl)
              clear hp
              go_wp2_with fail
              refine HK.out.to (NmOwn w A4 c4 j nm) (fun _ h => h) (H7.out) ?_
              clear HK hS
              have hS : (NmOwn w A4 c4 j nm) (w7) := H7.out
              try simp only [List.getElem_toArray, List.getElem_cons_succ, List.getElem_cons_zero, Act.put, List.setIfInBounds_toArray, List.set_cons_zero, List.set_cons_succ]
              refine reg_take (i := 32) (v := ?_) rfl (by kernel_rfl) (by kernel_rfl) (by kernel_rfl) (fun _ _ _ h => h) (Or.inl ⟨by kernel_rfl, ?_⟩) hS ?_
              rotate_left
              · (intro w' hSw; go_simp <;> with_reducible rfl)
              try simp only [List.getElem_toArray, List.getElem_cons_succ, List.getElem_cons_zero, Act.put, List.setIfInBounds_toArray, List.set_cons_zero, List.set_cons_succ]
              refine reg_take (i := 33) (v := ?_) rfl (by kernel_rfl) (by kernel_rfl) (by kernel_rfl) (fun _ _ _ h => h) (Or.inl ⟨by kernel_rfl, ?_⟩) hS ?_
              rotate_left
              · (intro w' hSw; go_simp <;> with_reducible rfl)
              try simp only [List.getElem_toArray, List.getElem_cons_succ, List.getElem_cons_zero, Act.put, List.setIfInBounds_toArray, List.set_cons_zero, List.set_cons_succ]
              refine wpAnyH_done (by kernel_rfl) ?_ _
              try simp only [List.getElem_toArray, List.getElem_cons_succ, List.getElem_cons_zero]
              try simp only [List.getElem_toArray, List.getElem_cons_succ, List.getElem_cons_zero, Act.put, List.setIfInBounds_toArray, List.set_cons_zero, List.set_cons_succ]
              have HG := Lib.hid hS
              clear hS
              have u0 := (by have := (HT.out.2.2.2.2 w7 HG.out.2 j hlt).1; rw [← HT.out.2.2.2.1] at this; exact this : w7.cell? ⟨b, off + j * 2, none⟩ = some (.string s))
              go_wp2_with (at_builtin; refine wpList_append_sl (f := fun _ => .string s) (D := fun q => q = w7.heap.size) (base := w.heap.size) (n := j) (xs := nmL nm j) sgStr rfl (.tmp 67) (.tmp 73) rfl rfl rfl ?hown ?hsl ?h1 ?h63 ?hby ?hbase ?_)
              case hown => exact HG.out.1.alloc _
              case hsl => exact sl_one _ _ _
              case h1 => intro j _; rfl
              case h63 => unfold maxLen; omega
              case hby => omega
              case hbase => have := HG.out.2.size; simp; omega
              intro v8 w8 ho8 hg8 hx8
              have ho8' : w8.ownsRow w.heap.size 9 1 v8 (j + 1) (nmL nm (j + 1)) := by
                rw [nmL_succ, ← HT.out.2.2.2.1]
                exact ho8
              have hb8 : Below w.heap.size w w8 := V.lat_grown (HG.out.2.alloc HG.out.2.size _) (HG.out.1.alloc _) hg8
              obtain ⟨A8, c8, rfl, -, -⟩ := own_form ho8'
              have H8 := Lib.hid (And.intro ho8' hb8)
              clear ho8 ho8' hg8 hx8 hb8 u0
              go_wp2_with fail
              go_roundw
              case rel => exact ⟨j + 1, A8, c8, by omega, by go_num, rfl, HO.out, HV.out, H8.out.1, H8.out.2⟩
              case measure => simp [intOf] <;> omega
    · obtain rfl : j = k := by omega
      have HE := Lib.hid (And.intro hT (And.intro hok hv))
      clear hT hok hv
      have hst := nm_at HE.out.1.1
      have HSt := Lib.hid hst
      clear hst
      go_wp2_with fail
      refine (rBytes_any wr A4 j c4 nm HSt.out hk H0.out.2.nb).mono ?_
      rintro e w3 ⟨v3, rfl, ho3, hb3⟩
      obtain ⟨A3, c3, hv3, hc3, -⟩ := own_form ho3
      subst hv3
      obtain ⟨lf, hlf⟩ : ∃ l, l = (namesB nm j j).length := ⟨_, rfl⟩
      rw [← hlf] at ho3 ⊢
      have hT : Two w (.slice none 0 0) (.slice A3 lf c3) (sO pf pn 0) (sF nm pf pn j 0) w3 := by
        refine ⟨HE.out.1.2.trans (hb3.mono HE.out.1.2.size), own_nil _ _, ?_, fun g hg => by simp [Value.ownBlock] at hg⟩
        have h1 := own_base ho3 HE.out.1.2.size
        rw [hlf] at h1 ⊢
        exact h1
      have H3 := Lib.hid hT
      clear hT ho3 hb3 hlf
      go_wp2_with fail
      go_loopw [6, 7, 8] (fun so sf i wr => ∃ (i' : Nat), i' ≤ j ∧ i = .int .i64 (i' : Nat) ∧ Two w so sf (sO pf pn i') (sF nm pf pn j i') wr) (fun _ _ i _ => j - (intOf i).toNat)
      case atStart => exact ⟨0, by omega, rfl, H3.out⟩
      case round =>
        obtain ⟨i, hi, rfl, hT⟩ := hrel
        by_cases hlt : i < j
        · obtain ⟨b, off, hA, hbl, hcell⟩ := H0.out.1.row (by omega)
          subst hA
          have zc : wr.cell? ⟨b, off + i * 2 + 1, none⟩ = some (.slice (pa i) (pn i) (pc i)) := (hT.bel.cell (by exact hbl)).trans (hcell i hlt).2
          have hP := H0.out.1.pts i hlt
          have hLe := H0.out.1.le i hlt
          have hOk := H0.out.1.ok i
          have hpi := H0.out.2.pb i hlt
          have hob := H0.out.2.ob i (by omega)
          have hfb := H0.out.2.fb i (by omega)
          have e1 : sO pf pn (i + 1) = sO pf pn i ++ bO (pf i) (pn i) (nbl (pn i)) := rfl
          have e2 : sF nm pf pn j (i + 1) = (sF nm pf pn j i ++ V.vput (nbl (pn i))) ++ bF (pf i) (pn i) (nbl (pn i)) := rfl
          generalize pa i = P at zc hP
          generalize pc i = pcx at zc hLe
          generalize pf i = f at hP hOk e1 e2
          generalize pn i = n at zc hP hLe hpi e1 e2
          have hij : (i : Int) < (j : Int) := by omega
          obtain ⟨Af, cf, hvf, hcf, -⟩ := own_form hT.f
          subst hvf
          obtain ⟨lf, hlf⟩ : ∃ l, l = (sF nm pf pn j i).length := ⟨_, rfl⟩
          rw [← hlf] at hcf hfb ⊢
          have kq : ((n : Int) + 1023).tdiv 1024 = (nbl n : Nat) := by rw [Int.tdiv_eq_ediv_of_nonneg (by omega)]; unfold nbl; omega
          have kq' : ((n : Int) + 1023) / 1024 = (nbl n : Nat) := by unfold nbl; omega
          have hnb : nbl n ≤ 5 := by unfold nbl; omega
          have ku : IntKind.u64.wrap ((nbl n : Nat) : Int) = ((nbl n : Nat) : Int) := by rw [IntKind.wrap_u64]; omega
          have HS := Lib.hid (And.intro hT (And.intro hlf.symm (And.intro e1 (And.intro e2 (And.intro hP (And.intro hLe hOk))))))
          have hsl := V.ow_sl hT.f
          rw [← hlf] at hsl
          have HSl := Lib.hid hsl
          clear hT e1 e2 hP hLe hOk hcell hlf hsl
          go_wp2_with fail
          refine (V.rvput_any _ Af lf cf (sF nm pf pn j i) ((nbl n : Nat) : Int) HS.out.2.1 HSl.out (by omega) (by omega) (by omega)).mono ?_
          rintro e w6 ⟨v6, rfl, ho6, hb6⟩
          rw [Int.toNat_natCast] at ho6
          obtain ⟨F6, hF6⟩ : ∃ F6, F6 = sF nm pf pn j i ++ V.vput (nbl n) := ⟨_, rfl⟩
          rw [← hF6] at ho6
          have hl6 : F6.length ≤ lf + 10 := by
            have := V.vput_len10 (u := nbl n) (by omega)
            rw [hF6, List.length_append, HS.out.2.1]; omega
          have H6 := Lib.hid (And.intro (HS.out.1.foot hb6 ho6) hF6)
          clear ho6 hb6 hF6 zc kq kq' ku
          go_wp2_with fail
          go_loopw [6, 7, 10] (fun so sf i3 wr => ∃ (m : Nat), m ≤ nbl n ∧ i3 = .int .i64 ((1024 * m : Nat) : Int) ∧ Two w so sf (sO pf pn i ++ bO f n m) (F6 ++ bF f n m) wr) (fun _ _ i3 _ => n - (intOf i3).toNat)
          case atStart => exact ⟨0, by omega, rfl, by rw [show bO f n 0 = [] from rfl, show bF f n 0 = [] from rfl, List.append_nil, List.append_nil]; exact H6.out.1⟩
          case round =>
            obtain ⟨m, hm, rfl, hT⟩ := hrel
            by_cases hlm : 1024 * m < n
            · obtain ⟨b2, off2, hA2, hbl2, hcell2⟩ := HS.out.2.2.2.2.1 (by omega)
              subst hA2
              obtain ⟨a, ha⟩ : ∃ a, a = 1024 * m := ⟨_, rfl⟩
              rw [← ha]
              have hlt' : (a : Int) < (n : Int) := by omega
              obtain ⟨OO, hOO⟩ : ∃ O, O = sO pf pn i ++ bO f n m := ⟨_, rfl⟩
              obtain ⟨FF, hFF⟩ : ∃ F, F = F6 ++ bF f n m := ⟨_, rfl⟩
              rw [← hOO, ← hFF] at hT
              obtain ⟨ol, hol⟩ : ∃ l, l = OO.length := ⟨_, rfl⟩
              obtain ⟨fl, hfl⟩ : ∃ l, l = FF.length := ⟨_, rfl⟩
              have holb : ol ≤ 268435456 + 5 * 130049 := by
                have := bO_len f n (by omega) m
                rw [hol, hOO, List.length_append]; omega
              have hflb : fl ≤ 1048000 + 10 + 5 * 40 := by
                have := bF_len f HS.out.2.2.2.2.2.2 n (by omega) m
                rw [hfl, hFF, List.length_append]; omega
              obtain ⟨Ao, co, hvo, hco, -⟩ := own_form hT.o
              subst hvo
              obtain ⟨Af', cf', hvf, hcf', -⟩ := own_form hT.f
              subst hvf
              rw [← hol] at hco ⊢
              rw [← hfl] at hcf' ⊢
              have HT := Lib.hid (And.intro hT (And.intro hol.symm (And.intro hfl.symm (And.intro ha (And.intro hOO (And.intro hFF hcell2))))))
              clear hT hol hfl ha hOO hFF hcell2
              obtain ⟨ee, hee⟩ : ∃ e : Nat, e = min (a + 1024) n := ⟨_, rfl⟩
              have HEE := Lib.hid hee
              clear hee
              go_upto_if 106 with (fail)
              go_cut [11] (fun s11 wx => s11 = .int .i64 (ee : Nat) ∧ wr = wx)
              case first =>
                by_cases h : n < a + 1024
                · have d1 : decide ((n : Int) < (a : Int) + 1024) = true := by simp; omega
                  have d2 : (n : Int) < (a : Int) + 1024 := by omega
                  have hq : ee = n := by rw [HEE.out]; omega
                  subst hq
                  clear h
                  go_wp2_with fail
                  go_meet
                  exact ⟨rfl, rfl⟩
                · have d1 : decide ((n : Int) < (a : Int) + 1024) = false := by simp; omega
                  have d2 : ¬ (n : Int) < (a : Int) + 1024 := by omega
                  have hq : ((ee : Nat) : Int) = (a : Int) + 1024 := by rw [HEE.out]; omega
                  have HQ := Lib.hid hq
                  clear h hq
                  go_wp2_with fail
                  go_meet
                  exact ⟨by rw [HQ.out], rfl⟩
              case rest =>
                obtain ⟨rfl, rfl⟩ := hcut
                obtain ⟨p, hpe⟩ : ∃ p, p = blkN n a := ⟨_, rfl⟩
                have hp : ee - a = p := by rw [hpe, HEE.out]; rfl
                have hp0 : 0 < p := by rw [hpe]; unfold blkN; omega
                have hp1 : p ≤ 1024 := by rw [hpe]; unfold blkN; omega
                have hpn : a + p ≤ n := by rw [hpe]; unfold blkN; omega
                have hae : a ≤ ee := by omega
                have hen : ee ≤ n := by omega
                have hcm := HS.out.2.2.2.2.2.1
                have g1 : ee ≤ pcx := by omega
                have g2 : ¬ pcx = a := by omega
                have hce : ∀ wx, Below w.heap.size w wx → ∀ q, q < n → wx.cell? ⟨b2, off2 + q * 3, none⟩ = some (.int .i64 (f q).t) := fun wx hx q hq => (hx.cell (by exact hbl2)).trans (HT.out.2.2.2.2.2.2 q hq).1
                have hsp : SlP wr (fun q => q < w.heap.size) (some ⟨b2, off2 + a * 3, none⟩) p (shiftP f a) := by
                  have h1 : SlP wr (fun q => q < w.heap.size) (some ⟨b2, off2, none⟩) (a + p) f := (HS.out.2.2.2.2.1.below HT.out.1.bel).take hpn
                  exact h1.drop
                have HP := Lib.hid (And.intro hpe (And.intro hsp hce))
                clear hpe hsp hce hcm
                go_wp2_with fail
                refine (rcencode_any (some ⟨b2, off2 + a * 3, none⟩) p (pcx - a) (shiftP f a) _ wr HP.out.2.1 (by omega)).mono ?_
                rintro e w7 ⟨A7, c7, rfl, ho7, hk7⟩
                obtain ⟨B, hBe⟩ : ∃ B, B = (colL (shiftP f a) p).1 := ⟨_, rfl⟩
                obtain ⟨er, hee⟩ : ∃ er, er = (colL (shiftP f a) p).2 := ⟨_, rfl⟩
                have hBl : B.length ≤ 130049 := by rw [hBe]; exact colL_len _ _ (by omega)
                rw [← hBe] at ho7 ⊢
                rw [← hee]
                obtain ⟨nb, hnb⟩ : ∃ nb, nb = B.length := ⟨_, rfl⟩
                rw [← hnb] at hBl ho7 ⊢
                have H7 := Lib.hid (And.intro (HT.out.1.call hk7.to_below) (And.intro (V.ow_sl ho7) (And.intro hBe hnb.symm)))
                clear ho7 hk7 hBe hee hnb g1 g2
                go_wp2_with (at_builtin; refine wpList_append_sl (f := byteC B) (D := fun q => q < w7.heap.size) (base := w.heap.size) (n := ol) (xs := OO.map V.byteV) V.byteElem rfl (.tmp 117) (.tmp 118) rfl rfl rfl ?hown ?hsl ?h1 ?h63 ?hby ?hbase ?_)
                case hown => have := H7.out.1.o; rw [HT.out.2.1] at this; exact this
                case hsl => exact H7.out.2.1
                case h1 => intro j _; rfl
                case h63 => unfold maxLen; omega
                case hby => omega
                case hbase => exact H7.out.1.bel.size
                intro v8 w8 ho8 hg8 hx8
                have ho8' : w8.ownsRow w.heap.size 5 1 v8 (OO ++ B).length ((OO ++ B).map V.byteV) := by
                  have := ho8
                  rw [← V.range_bytes H7.out.2.2.2] at this
                  rw [List.length_append, List.map_append, HT.out.2.1, H7.out.2.2.2]
                  exact this
                have h8 := H7.out.1.out ho8' (by rw [HT.out.2.1]; exact hg8) (by rw [HT.out.2.1]; exact hx8)
                have hsl := V.ow_sl h8.f
                rw [HT.out.2.2.1] at hsl h8
                have H8 := Lib.hid (And.intro h8 hsl)
                have ku : IntKind.u64.wrap (nb : Int) = (nb : Int) := by rw [IntKind.wrap_u64]; omega
                clear ho8 hg8 hx8 ho8' h8 hsl
                go_wp2_with fail
                refine (V.rvput_any _ Af' fl cf' FF (nb : Int) HT.out.2.2.1 H8.out.2 (by omega) (by omega) (by omega)).mono ?_
                rintro e w9 ⟨v9, rfl, ho9, hb9⟩
                rw [Int.toNat_natCast] at ho9
                obtain ⟨F9, hF9⟩ : ∃ F, F = FF ++ V.vput nb := ⟨_, rfl⟩
                rw [← hF9] at ho9
                obtain ⟨l9, hl9e⟩ : ∃ l, l = F9.length := ⟨_, rfl⟩
                have hl9 : l9 ≤ fl + 10 := by
                  have := V.vput_len10 (u := nb) (by omega)
                  rw [hl9e, hF9, List.length_append, HT.out.2.2.1]; omega
                have h9 := H8.out.1.foot hb9 ho9
                obtain ⟨A9, c9, hv9, hc9, -⟩ := own_form h9.f
                subst hv9
                have hsl := V.ow_sl h9.f
                rw [← hl9e] at hsl hc9 ⊢
                have H9 := Lib.hid (And.intro h9 (And.intro hl9e.symm (And.intro hsl hF9)))
                obtain ⟨t0, ht0⟩ : ∃ z, z = (f a).t := ⟨_, rfl⟩
                have zc : w9.cell? ⟨b2, off2 + a * 3, none⟩ = some (.int .i64 t0) := by rw [ht0]; exact HP.out.2.2 w9 h9.bel a (by omega)
                have hto := (HS.out.2.2.2.2.2.2 a).1
                rw [← ht0] at hto
                have HTo := Lib.hid (And.intro ht0 hto)
                clear ho9 hb9 hF9 hl9e h9 hsl ku ht0 hto
                go_wp2_with fail
                refine (V.rputInt_any _ A9 l9 c9 F9 t0 H9.out.2.1 H9.out.2.2.1 (by omega) HTo.out.2.1 HTo.out.2.2).mono ?_
                rintro e w10 ⟨v10, rfl, ho10, hb10⟩
                obtain ⟨F10, hF10⟩ : ∃ F, F = F9 ++ V.vput (zig t0) := ⟨_, rfl⟩
                rw [← hF10] at ho10
                obtain ⟨l10, hl10e⟩ : ∃ l, l = F10.length := ⟨_, rfl⟩
                have hl10 : l10 ≤ fl + 20 := by
                  have := V.vput_len10 (u := zig t0) (zig_lt HTo.out.2.1 HTo.out.2.2)
                  rw [hl10e, hF10, List.length_append, H9.out.2.1]; omega
                have h10 := H9.out.1.foot hb10 ho10
                obtain ⟨A10, c10, hv10, hc10, -⟩ := own_form h10.f
                subst hv10
                have hsl := V.ow_sl h10.f
                rw [← hl10e] at hsl hc10 ⊢
                have H10 := Lib.hid (And.intro h10 (And.intro hl10e.symm (And.intro hsl hF10)))
                obtain ⟨q, hq⟩ : ∃ q, q = ee - 1 := ⟨_, rfl⟩
                have km : ((ee : Int) - 1) = (q : Int) := by omega
                have kw : IntKind.i64.wrap (q : Int) = (q : Int) := IntWalk.i64_in _ (by omega)
                have hqn : (q : Int) < (n : Int) := by omega
                have hqn' : q < n := by omega
                obtain ⟨t1, ht1⟩ : ∃ z, z = (f q).t := ⟨_, rfl⟩
                have zc1 : w10.cell? ⟨b2, off2 + q * 3, none⟩ = some (.int .i64 t1) := by rw [ht1]; exact HP.out.2.2 w10 h10.bel q hqn'
                have hto := (HS.out.2.2.2.2.2.2 q).1
                rw [← ht1] at hto
                have HTq := Lib.hid (And.intro ht1 (And.intro hto hq))
                clear ho10 hb10 hF10 hl10e h10 hsl ht1 hto zc hq
                go_wp2_with fail
                refine (V.rputInt_any _ A10 l10 c10 F10 t1 H10.out.2.1 H10.out.2.2.1 (by omega) HTq.out.2.1.1 HTq.out.2.1.2).mono ?_
                rintro e w11 ⟨v11, rfl, ho11, hb11⟩
                obtain ⟨F11, hF11⟩ : ∃ F, F = F10 ++ V.vput (zig t1) := ⟨_, rfl⟩
                rw [← hF11] at ho11
                obtain ⟨l11, hl11e⟩ : ∃ l, l = F11.length := ⟨_, rfl⟩
                have hl11 : l11 ≤ fl + 30 := by
                  have := V.vput_len10 (u := zig t1) (zig_lt HTq.out.2.1.1 HTq.out.2.1.2)
                  rw [hl11e, hF11, List.length_append, H10.out.2.1]; omega
                have h11 := H10.out.1.foot hb11 ho11
                obtain ⟨A11, c11, hv11, hc11, -⟩ := own_form h11.f
                subst hv11
                have hsl := V.ow_sl h11.f
                rw [← hl11e] at hsl hc11 ⊢
                have H11 := Lib.hid (And.intro h11 (And.intro hl11e.symm (And.intro hsl hF11)))
                have ke : ((ee : Int) - (a : Int)) = (p : Int) := by omega
                have kp : IntKind.i64.wrap (p : Int) = (p : Int) := IntWalk.i64_in _ (by omega)
                have ku : IntKind.u64.wrap (p : Int) = (p : Int) := by rw [IntKind.wrap_u64]; omega
                clear ho11 hb11 hF11 hl11e h11 hsl zc1 km kw
                go_wp2_with fail
                refine (V.rvput_any _ A11 l11 c11 F11 (p : Int) H11.out.2.1 H11.out.2.2.1 (by omega) (by omega) (by omega)).mono ?_
                rintro e w12 ⟨v12, rfl, ho12, hb12⟩
                rw [Int.toNat_natCast] at ho12
                have h12 := H11.out.1.foot hb12 ho12
                have H12 := Lib.hid h12
                clear ho12 hb12 h12 ke kp ku
                go_wp2_with fail
                go_roundw
                case rel =>
                  refine ⟨m + 1, by unfold nbl; have := HT.out.2.2.2.1; omega, by congr 1; have := HT.out.2.2.2.1; omega, ?_⟩
                  have e1 : sO pf pn i ++ bO f n (m + 1) = OO ++ B := by rw [HT.out.2.2.2.2.1, H7.out.2.2.1, HP.out.1, HT.out.2.2.2.1, List.append_assoc]; rfl
                  have e2 : F6 ++ bF f n (m + 1) = F11 ++ V.vput p := by
                    have hqe : shiftP f a (p - 1) = f q := by unfold shiftP; rw [HTq.out.2.2]; congr 1; omega
                    have hfb : footB (shiftP f a) p = V.vput nb ++ V.vput (zig t0) ++ V.vput (zig t1) ++ V.vput p := by
                      unfold footB
                      rw [← H7.out.2.2.1, H7.out.2.2.2, hqe, ← HTq.out.1, show (shiftP f a 0).t = t0 from HTo.out.1.symm]
                    have hb : bF f n (m + 1) = bF f n m ++ footB (shiftP f a) p := by rw [HP.out.1, HT.out.2.2.2.1]; rfl
                    rw [hb, hfb, H11.out.2.2.2, H10.out.2.2.2, H9.out.2.2.2, HT.out.2.2.2.2.2.1]
                    simp only [List.append_assoc]
                  rw [e1, e2]
                  exact H12.out
                case measure => simp [intOf] <;> omega
            · have hkm : m = nbl n := by unfold nbl at hm ⊢; omega
              have d1 : decide (((1024 * m : Nat) : Int) < (n : Int)) = false := by simp; omega
              have HK := Lib.hid (And.intro hkm hT)
              clear hkm hT
              go_wp2_with fail
              go_roundw
              case rel =>
                refine ⟨i + 1, by omega, by go_num, ?_⟩
                rw [HS.out.2.2.1, HS.out.2.2.2.1, ← H6.out.2, ← HK.out.1]
                exact HK.out.2
              case measure => simp [intOf] <;> omega
        · obtain rfl : i = j := by omega
          have HE2 := Lib.hid hT
          clear hT
          have hob := H0.out.2.ob i (Nat.le_refl _)
          have hfb := H0.out.2.fb i (Nat.le_refl _)
          obtain ⟨ol, hol⟩ : ∃ l, l = (sO pf pn i).length := ⟨_, rfl⟩
          obtain ⟨fl, hfl⟩ : ∃ l, l = (sF nm pf pn i i).length := ⟨_, rfl⟩
          obtain ⟨Ao, co, hvo, hco, -⟩ := own_form HE2.out.o
          subst hvo
          obtain ⟨Af, cf, hvf, hcf, -⟩ := own_form HE2.out.f
          subst hvf
          have hT := HE2.out
          have hTo := hT.o
          have hTf := hT.f
          rw [← hol] at hco hob hTo hT ⊢
          rw [← hfl] at hcf hfb hTf hT ⊢
          have HL := Lib.hid (And.intro hol.symm (And.intro hfl.symm (And.intro hT (And.intro hTo hTf))))
          clear hol hfl hT hTo hTf
          go_wp2_with fail
          refine (F.rseal_ok _ 5 Af fl cf _ (sF nm pf pn i i) HL.out.2.1 (V.ow_sl HL.out.2.2.2.2) (F.getD_of_mem (sF_byte nm pf pn i i)) (by omega) (by omega)).mono ?_
          rintro e w9 ⟨A9, c9, rfl, ho9, hk9⟩
          obtain ⟨S5, hS5⟩ : ∃ S, S = F.sealL 5 (sF nm pf pn i i) := ⟨_, rfl⟩
          rw [← hS5] at ho9 ⊢
          have hsl : S5.length = fl + 9 := by rw [hS5, F.sealL_length, HL.out.2.1]
          obtain ⟨q, hq⟩ : ∃ q, q = fl + 9 := ⟨_, rfl⟩
          rw [hsl, ← hq] at ho9 ⊢
          have hqb : q ≤ 1048009 := by omega
          have H9 := Lib.hid (And.intro ho9 (And.intro hk9.to_below (And.intro hS5 (And.intro hsl hq))))
          have HT9 := Lib.hid (HL.out.2.2.1.call hk9.to_below)
          clear ho9 hk9 hS5 hsl hq
          have hn : (namesOk nm i && (decide (0 < i) && sV pf pn i)) = true := by rw [HE.out.2.1, HE.out.2.2, decide_eq_true hk0]; rfl
          have HN := Lib.hid hn
          clear hn
          have kn : (ol : Int) + (q : Int) + 13 = ((ol + q + 13 : Nat) : Int) := by omega
          have kw : IntKind.i64.wrap ((ol : Int) + (q : Int) + 13) = (ol : Int) + (q : Int) + 13 := IntWalk.i64_in _ (by omega)
          have kw' : IntKind.i64.wrap ((ol : Int) + (q : Int)) = (ol : Int) + (q : Int) := IntWalk.i64_in _ (by omega)
          by_cases hbig : 1048563 < q + ol
          · have d1 : decide ((1048576 : Int) < (ol : Int) + (q : Int) + 13) = true := by simp; omega
            have hB : BuildPost nm pf pn i w (.returned (.tuple #[.slice none 0 0, .int .i64 3])) w9 := by
              have e : sB nm pf pn i = ([], 3) := by
                unfold sB
                rw [if_pos HN.out, if_pos (by rw [← H9.out.2.2.1, H9.out.2.2.2.1, ← H9.out.2.2.2.2, HL.out.1]; exact hbig)]
              unfold BuildPost
              rw [e]
              exact ⟨_, rfl, own_nil _ _, HT9.out.bel⟩
            have HF := Lib.hid hB
            clear hB hbig kn
            go_wp2_with fail
            go_ret2
            exact HF.out
          · have d1 : decide ((1048576 : Int) < (ol : Int) + (q : Int) + 13) = false := by simp; omega
            have h4 := four_sl w9 q
            rw [show (q : Int) / 16777216 % 256 = (q : Int) / 16777216 by omega] at h4
            have hal : Below w9.heap.size w9 (w9.alloc (.cells #[.int .u8 ((q : Int) % 256), .int .u8 ((q : Int) / 256 % 256), .int .u8 ((q : Int) / 65536 % 256), .int .u8 ((q : Int) / 16777216)] 5)) := (Below.refl _ _).alloc (Nat.le_refl _) _
            have HQ := Lib.hid (And.intro h4 hal)
            clear h4 hal kn hbig
            go_wp2_with fail
            refine (F.rseal_ok _ 6 _ 4 4 _ (four q) rfl HQ.out.1 (F.getD_of_mem (four_byte q)) (by omega) (by omega)).mono ?_
            rintro e w10 ⟨A10, c10, rfl, ho10, hk10⟩
            obtain ⟨S6, hS6⟩ : ∃ S, S = F.sealL 6 (four q) := ⟨_, rfl⟩
            obtain ⟨z6, hl6⟩ : ∃ z, S6.length = z := ⟨_, rfl⟩
            have hz6 : z6 ≤ 13 := by rw [← hl6, hS6, F.sealL_length]; exact Nat.le_refl _
            rw [← hS6, hl6] at ho10
            rw [← hS6, hl6]
            have hb10 := HQ.out.2.trans (hk10.to_below.mono HQ.out.2.size)
            have hT10 := HT9.out.call hb10
            have ho9' := V.own_later H9.out.1 hb10
            have hoo := V.own_later (V.own_later HL.out.2.2.2.1 H9.out.2.1) hb10
            have H10 := Lib.hid (And.intro hT10 (And.intro (V.ow_sl ho9') (And.intro (V.ow_sl ho10) (And.intro hS6 (And.intro hl6 (And.intro hoo ho10))))))
            clear ho10 hk10 hS6 hl6 hb10 hT10 ho9' hoo kw kw'
            go_wp2_with (at_builtin; refine wpList_append_sl (f := byteC S5) (D := fun k => k < w10.heap.size) (base := w.heap.size) (n := ol) (xs := (sO pf pn i).map V.byteV) V.byteElem rfl (.tmp 183) (.tmp 184) rfl rfl rfl ?hown ?hsl ?h1 ?h63 ?hby ?hbase ?_)
            case hown => exact H10.out.2.2.2.2.2.1
            case hsl => have := H10.out.2.1; exact this
            case h1 => intro i _; rfl
            case h63 => unfold maxLen; omega
            case hby => omega
            case hbase => exact H10.out.1.bel.size
            intro v11 w11 ho11 hg11 hx11
            have ho11' : w11.ownsRow w.heap.size 5 1 v11 (ol + q) ((sO pf pn i ++ S5).map V.byteV) := by
              have := ho11
              rw [← V.range_bytes (H9.out.2.2.2.1.trans H9.out.2.2.2.2.symm), ← List.map_append] at this
              exact this
            have hbl11 := V.lat_grown H10.out.1.bel H10.out.2.2.2.2.2.1 hg11
            have h10o : w11.ownsRow _ 5 1 (.slice A10 z6 c10) z6 (S6.map V.byteV) := World.ownsRow.kept H10.out.2.2.2.2.2.2 hg11 (by
              cases e : (Value.slice A10 z6 c10).ownBlock with
              | none => exact .inl rfl
              | some g =>
                refine .inr fun e' => ?_
                have h1 := (H10.out.2.2.2.2.2.2.lt g e).1
                have h2 := (HL.out.2.2.2.1.lt g e'.symm).2
                have h3 := H9.out.2.1.size
                have h4 := HQ.out.2.size
                omega)
            have H11 := Lib.hid (And.intro ho11' (And.intro hbl11 (V.ow_sl h10o)))
            clear ho11 hg11 hx11 ho11' hbl11 h10o
            go_wp2_with (at_builtin; refine wpList_append_sl (f := byteC S6) (D := fun k => k < w11.heap.size) (base := w.heap.size) (n := ol + q) (xs := (sO pf pn i ++ S5).map V.byteV) V.byteElem rfl (.tmp 185) (.tmp 186) rfl rfl rfl ?hown ?hsl ?h1 ?h63 ?hby ?hbase ?_)
            case hown => exact H11.out.1
            case hsl => exact H11.out.2.2
            case h1 => intro i _; rfl
            case h63 => unfold maxLen; omega
            case hby => omega
            case hbase => exact H11.out.2.1.size
            intro v12 w12 ho12 hg12 hx12
            have hB : BuildPost nm pf pn i w (.returned (.tuple #[v12, .int .i64 0])) w12 := by
              have e : sB nm pf pn i = (sO pf pn i ++ S5 ++ S6, 0) := by
                unfold sB
                rw [if_pos HN.out, if_neg (by rw [← H9.out.2.2.1, H9.out.2.2.2.1, ← H9.out.2.2.2.2, HL.out.1]; have := of_decide_eq_false d1; omega), ← H9.out.2.2.1, H9.out.2.2.2.1, ← H9.out.2.2.2.2, ← H10.out.2.2.2.1]
              unfold BuildPost
              rw [e]
              refine ⟨v12, rfl, ?_, V.lat_grown H11.out.2.1 H11.out.1 hg12⟩
              have := ho12
              rw [← V.range_bytes H10.out.2.2.2.2.1] at this
              show w12.ownsRow w.heap.size 5 1 v12 (sO pf pn i ++ S5 ++ S6).length ((sO pf pn i ++ S5 ++ S6).map V.byteV)
              rw [List.length_append, List.length_append, HL.out.1, H9.out.2.2.2.1, ← H9.out.2.2.2.2, H10.out.2.2.2.2.1, List.map_append, List.map_append]
              simp only [List.map_append, List.append_assoc] at this ⊢
              exact this
            have HF := Lib.hid hB
            clear hB ho12 hg12 hx12
            go_wp2_with fail
            go_ret2
            exact HF.out
end Go.Proofs.Ytopbbicjbjmdnaa
namespace Go.Proofs.Ytopbbicjbjmdnaa
open Go.RowKit
def ptCells (l : List Pt) : List Value := l.flatMap fun p => [.int .i64 p.t, .int .i64 p.v, .int .i64 p.s]
theorem ptCells_append (l l' : List Pt) : ptCells (l ++ l') = ptCells l ++ ptCells l' := by simp [ptCells]
theorem ptCells_length (l : List Pt) : (ptCells l).length = l.length * 3 := by
  induction l with
  | nil => rfl
  | cons p l ih =>
    show (Value.int .i64 p.t :: Value.int .i64 p.v :: Value.int .i64 p.s :: ptCells l).length = _
    simp only [List.length_cons, ih]
    omega
theorem ptCells_at : ∀ (l : List Pt) (j : Nat) (p : Pt), l[j]? = some p → (ptCells l)[j * 3]? = some (.int .i64 p.t) ∧ (ptCells l)[j * 3 + 1]? = some (.int .i64 p.v) ∧ (ptCells l)[j * 3 + 2]? = some (.int .i64 p.s)
  | [], _, _, h => by simp at h
  | q :: l, 0, p, h => by
    simp at h
    subst h
    exact ⟨rfl, rfl, rfl⟩
  | q :: l, j + 1, p, h => by
    simp at h
    obtain ⟨h1, h2, h3⟩ := ptCells_at l j p h
    have e : ptCells (q :: l) = .int .i64 q.t :: .int .i64 q.v :: .int .i64 q.s :: ptCells l := rfl
    rw [e, show (j + 1) * 3 = j * 3 + 1 + 1 + 1 by omega]
    simp only [List.getElem?_cons_succ]
    exact ⟨h1, h2, h3⟩
/-- The slice v owns just the points l. -/
def PtRow (w : World) (base : Nat) (v : Value) (l : List Pt) : Prop := w.ownsRow base 33 3 v l.length (ptCells l)
namespace PtRow
variable {w w' : World} {base : Nat} {v : Value} {l : List Pt}
theorem nil (w : World) (base : Nat) : PtRow w base (.slice none 0 0) [] := ⟨rfl, .inl ⟨rfl, rfl⟩⟩
theorem form (h : PtRow w base v l) : ∃ A c, v = .slice A l.length c ∧ l.length ≤ c := by
  obtain ⟨A, c, h1, h2, -⟩ := own_form h
  exact ⟨A, c, h1, h2⟩
theorem sl {A : Option Addr} {c : Nat} (h : PtRow w base (.slice A l.length c) l) : SlP w (fun k => base ≤ k ∧ (Value.slice A l.length c).ownBlock = some k) A l.length (fun j => l.getD j ⟨0, 0, 0⟩) := by
  intro hn
  obtain ⟨g, hA, hb⟩ : ∃ g, A = some ⟨g, 0, none⟩ ∧ base ≤ g := by
    rcases h.2 with ⟨_, h0⟩ | ⟨g, _, _, hv, hb, _⟩
    · omega
    · exact ⟨g, by injection hv, hb⟩
  subst hA
  refine ⟨g, 0, rfl, ⟨hb, rfl⟩, fun j hj => ?_⟩
  have hadd : ∀ i, (⟨g, 0, none⟩ : Addr).add i = ⟨g, 0 + i, none⟩ := fun i => by unfold Addr.add; split <;> simp_all
  obtain ⟨h1, h2, h3⟩ := ptCells_at l j l[j] (List.getElem?_eq_getElem hj)
  have e : (fun j => l.getD j (⟨0, 0, 0⟩ : Pt)) j = l[j] := by simp [List.getD_eq_getElem?_getD, hj]
  rw [e]
  have c1 := World.ownsRow.cells h (g := g) rfl _ _ h1
  have c2 := World.ownsRow.cells h (g := g) rfl _ _ h2
  have c3 := World.ownsRow.cells h (g := g) rfl _ _ h3
  rw [hadd] at c1 c2 c3
  exact ⟨c1, c2, c3⟩
theorem keeps {S : Nat → Prop} (h : PtRow w base v l) (hk : Keeps S w w') (hne : ∀ g, v.ownBlock = some g → ¬ S g) : PtRow w' base v l := own_keeps h hk hne
theorem below (h : PtRow w base v l) (hb : Below w.heap.size w w') : PtRow w' base v l := own_keeps h (Keeps.of_below (S := fun _ => False) hb) (fun _ _ h => h)
theorem ownBlock_lt (h : PtRow w base v l) : ∀ g, v.ownBlock = some g → base ≤ g ∧ g < w.heap.size := by
  intro g hg
  rcases h.2 with ⟨rfl, _⟩ | ⟨g', cap, cur, rfl, hb, hh, _⟩
  · simp [Value.ownBlock] at hg
  · have : g' = g := by simpa [Value.ownBlock] using hg
    subst this
    exact ⟨hb, (Array.getElem?_eq_some_iff.1 hh).1⟩
end PtRow
/-- Behind an append: known blocks of another type than the row's stay. -/
theorem Own.grown {w0 w w' : World} {L : List (Nat × TypeId × Array Value)} {row : Option Nat} (h : Own w0 L w) (hg : w.grownBy w' row) (hrow : ∀ k, row = some k → w0.heap.size ≤ k ∧ ∀ b ∈ L, b.1 ≠ k) : Own w0 L w' := by
  have hk : Keeps (fun k => row = some k) w w' := (Keeps.refl _ w).grown hg (fun k e _ => e)
  refine ⟨?_, fun b hb => ⟨(h.blk b hb).1, (h.blk b hb).2.keeps hk (fun e => (hrow _ e).2 b hb rfl)⟩, h.nd⟩
  exact h.bel.trans (hk.below h.bel.size (fun k hlt e => by have := (hrow k e).1; omega))
theorem points_info : (Try.prog.info? 33).map (fun i => (i.zero, i.size, i.bytes)) = some (some (.agg #[.int .i64 0, .int .i64 0, .int .i64 0]), 3, 24) := by kernel_rfl
/-- append(back, p): p lies alone in the block g. -/
theorem run_append_pt {w : World} {base g : Nat} {v : Value} {l : List Pt} {p : Pt} {c : Nat} {ty : TypeId} (hown : PtRow w base v l) (hg : Blk w g 33 #[.int .i64 p.t, .int .i64 p.v, .int .i64 p.s])
    (h63 : l.length < 4294967296) (hbase : base ≤ w.heap.size) :
    ∃ v' w', (Builtin.append_ #[34, 34] ty #[v, .slice (some ⟨g, 0, none⟩) 1 c]).run Try.prog w = .ok v' w' ∧ PtRow w' base v' (l ++ [p]) ∧ w.grownBy w' v.ownBlock ∧ (v'.ownBlock = v.ownBlock ∨ v'.ownBlock = some w.heap.size) := by
  obtain ⟨i, hi, hz, hs, hb⟩ := info_parts points_info
  have hadd : ∀ i, (⟨g, 0, none⟩ : Addr).add i = ⟨g, 0 + i, none⟩ := fun i => by unfold Addr.add; split <;> simp_all
  obtain ⟨v', w', h1, h2, h3, _, h4⟩ := run_append_own_at (P := Try.prog) w base 34 ty 33 i _ 3 24 Try.underlying34 hi hz hs hb rfl (by decide) v l.length (ptCells l) hown ⟨g, 0, none⟩ 1 c [.int .i64 p.t, .int .i64 p.v, .int .i64 p.s] rfl
    (fun j u hu => by
      rw [hadd, Nat.zero_add, hg.cell j]
      simpa using hu)
    (by intro u hu; simp at hu; rcases hu with rfl | rfl | rfl <;> rfl) (by unfold maxLen; omega) (by omega) hbase
  refine ⟨v', w', h1, ?_, h3, h4⟩
  unfold PtRow
  rw [ptCells_append, List.length_append]
  exact h2
theorem wpList_append_pt {w : World} {base g : Nat} {v : Value} {l : List Pt} {p : Pt} {c : Nat} {ops : Array Oper} {rest : List Oper} {o : Oper} {a : Act} {Q : Exit → Act → World → Prop} (hgd : o.guard = none) (s x : Operand)
    (ho : o.op = .call { callee := .builtin .append, args := #[s, x], argTypes := #[34, 34] }) (hs : a.eval s = v) (hx : a.eval x = .slice (some ⟨g, 0, none⟩) 1 c)
    (hown : PtRow w base v l) (hg : Blk w g 33 #[.int .i64 p.t, .int .i64 p.v, .int .i64 p.s]) (h63 : l.length < 4294967296) (hbase : base ≤ w.heap.size)
    (h : ∀ v' w', PtRow w' base v' (l ++ [p]) → w.grownBy w' v.ownBlock → (v'.ownBlock = v.ownBlock ∨ v'.ownBlock = some w.heap.size) → wpList Try.prog ops Q rest (a.put o.dst v') w') : wpList Try.prog ops Q (o :: rest) a w := by
  refine wpList_plain hgd fun K hK => ?_
  obtain ⟨v', w', hrun, h2, h3, h4⟩ := run_append_pt (ty := o.type) (c := c) hown hg h63 hbase
  unfold Oper.wp execOp
  simp only [ho, resolve, invoke, builtin, Sem.run_bind, Sem.run_pure, Result.andThen_ok, List.map_toArray, List.map_cons, List.map_nil, hs, hx, hrun]
  exact hK _ _ (h v' w' h2 h3 h4)
end Go.Proofs.Ytopbbicjbjmdnaa
