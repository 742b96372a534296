/-
  The walk of the law VarintPuts. (Printed by genVarintPuts.py.)
-/
import Derived.Test.YtgceeihdmhghiaaVarB
import Derived.Test.YtgceeihdmhghiaaReg
import Derived.Test.YtgceeihdmhghiaaConv
namespace Go.Proofs.Ytgceeihdmhghiaa
open Go.RowKit
set_option linter.unusedSimpArgs false
set_option linter.unusedVariables false
theorem sl_later {w w' : World} {A : Option Addr} {n : Nat} {f : Nat → Value} (h : Sl w (fun k => k < w.heap.size) A n f) (hb : Below w.heap.size w w') : Sl w' (fun k => k < w'.heap.size) A n f :=
  (h.below hb (fun _ hk _ => hk)).mono (fun _ hk => Nat.lt_of_lt_of_le hk hb.size)
theorem own_later {w w' : World} {base : Nat} {e : TypeId} {v : Value} {n : Nat} {xs : List Value} (h : w.ownsRow base e 1 v n xs) (hb : Below w.heap.size w w') : w'.ownsRow base e 1 v n xs :=
  own_keeps (S := fun _ => False) h (Keeps.of_below hb) (fun _ _ h => h)
theorem below_join {w w1 w2 : World} (h : Below w.heap.size w w1) (k : Below w1.heap.size w1 w2) : Below w.heap.size w w2 := h.trans (k.mono h.size)
theorem wrap_u64_range (n : Int) : 0 ≤ IntKind.u64.wrap n ∧ IntKind.u64.wrap n < 18446744073709551616 := by rw [IntKind.wrap_u64]; omega
set_option maxRecDepth 100000 in
set_option maxHeartbeats 4000000 in
theorem varintPuts_walk (a0 : Option Addr) (len0 cap0 : Nat) (z0 : List Int) (a1 : Int) (a2 : ByteArray) (w : World) (w0 : IsRow .u8 w a0 len0 cap0 z0) (w1 : (Lit.int .i64 a1).wf = true) (w2 : a2.size ≤ maxLen) (r0 : len0 * 1 ≤ 140737488355328) (r2 : a2.size ≤ 140737488355328) :
    Calls Try.prog 4 #[.slice a0 len0 cap0, .int .i64 a1, .string a2] w fun e w' => e = .returned (.bool true) ∧ Below w.heap.size w w' := by
  obtain ⟨bs, hbl, hbb, hbs⟩ := w0.bytes len0 (Nat.le_refl _)
  have l0 := w0.le
  obtain ⟨b1a, b1b⟩ := wf_i64 w1
  have hlc := l0.1
  clear w0 w1 w2 l0 hbb
  by_cases hlen : len0 + a2.size ≤ 5000
  · have HS := Lib.hid (And.intro hbl hbs)
    have HZ := Lib.hid (And.intro b1a b1b)
    have hu := wrap_u64_range a1
    obtain ⟨u, hu'⟩ : ∃ u, u = IntKind.u64.wrap a1 := ⟨_, rfl⟩
    rw [← hu'] at hu
    have HU := Lib.hid hu
    have eu : IntKind.u64.wrap a1 = u := hu'.symm
    clear hbl hbs b1a b1b hu hu'
    obtain ⟨P1, hP1⟩ : ∃ P, P = bs ++ vput u.toNat := ⟨_, rfl⟩
    obtain ⟨P2, hP2⟩ : ∃ P, P = bs ++ vput (zig a1) := ⟨_, rfl⟩
    obtain ⟨P3, hP3⟩ : ∃ P, P = bs ++ vput a2.size ++ txt a2 := ⟨_, rfl⟩
    have HP := Lib.hid (And.intro hP1 (And.intro hP2 hP3))
    clear hP1 hP2 hP3
    go_enter Try.func4, Try.ntmps4
    go_wp2_with fail
    have hS : (fun _ : World => True) (w.drew) := trivial
    refine reg_start (fun _ : World => True) (by kernel_rfl) hS ?_
    refine reg_take (i := 0) (v := ?_) rfl (by kernel_rfl) (by kernel_rfl) (by kernel_rfl) (fun _ _ _ h => h) (Or.inl ⟨by kernel_rfl, ?_⟩) hS ?_
    rotate_left
    · (intro w' hSw; go_simp <;> with_reducible rfl)
    try simp only [Act.put, List.setIfInBounds_toArray, List.set_cons_zero, List.set_cons_succ]
    refine reg_take (i := 1) (v := ?_) rfl (by kernel_rfl) (by kernel_rfl) (by kernel_rfl) (fun _ _ _ h => h) (Or.inl ⟨by kernel_rfl, ?_⟩) hS ?_
    rotate_left
    · (intro w' hSw; go_simp <;> with_reducible rfl)
    try simp only [Act.put, List.setIfInBounds_toArray, List.set_cons_zero, List.set_cons_succ]
    refine reg_take (i := 2) (v := ?_) rfl (by kernel_rfl) (by kernel_rfl) (by kernel_rfl) (fun _ _ _ h => h) (Or.inl ⟨by kernel_rfl, ?_⟩) hS ?_
    rotate_left
    · (intro w' hSw; go_simp <;> with_reducible rfl)
    try simp only [Act.put, List.setIfInBounds_toArray, List.set_cons_zero, List.set_cons_succ]
    refine reg_take (i := 5) (v := ?_) rfl (by kernel_rfl) (by kernel_rfl) (by kernel_rfl) (fun _ _ _ h => h) (Or.inl ⟨by kernel_rfl, ?_⟩) hS ?_
    rotate_left
    · (intro w' hSw; go_simp <;> with_reducible rfl)
    try simp only [Act.put, List.setIfInBounds_toArray, List.set_cons_zero, List.set_cons_succ]
    refine reg_take (i := 6) (v := ?_) rfl (by kernel_rfl) (by kernel_rfl) (by kernel_rfl) (fun _ _ _ h => h) (Or.inl ⟨by kernel_rfl, ?_⟩) hS ?_
    rotate_left
    · (intro w' hSw; go_simp <;> with_reducible rfl)
    try simp only [Act.put, List.setIfInBounds_toArray, List.set_cons_zero, List.set_cons_succ]
    refine reg_take (i := 7) (v := ?_) rfl (by kernel_rfl) (by kernel_rfl) (by kernel_rfl) (fun _ _ _ h => h) (Or.inl ⟨by kernel_rfl, ?_⟩) hS ?_
    rotate_left
    · (intro w' hSw; go_simp <;> with_reducible rfl)
    try simp only [Act.put, List.setIfInBounds_toArray, List.set_cons_zero, List.set_cons_succ]
    refine reg_call (i := 3) rfl (by kernel_rfl) (fun K hK => ?_)
    have HK := Lib.hid hK
    clear hK
    go_simp
    refine (vput_any _ _ _ _ bs _ HS.out.1 (sl_later HS.out.2 (Below.refl _ _).drew) hlc (by omega) HU.out.1 HU.out.2).mono ?_
    rintro e w3 ⟨v, rfl, ho, hb⟩
    rw [← HP.out.1] at ho
    obtain ⟨A1, c1, hv, -, -⟩ := own_form ho
    rw [hv]
    rw [hv] at ho
    have ho0 := own_base ho (Nat.zero_le _)
    have H1 := Lib.hid (And.intro (below_join (show Below w.heap.size w w.drew from (Below.refl _ _).drew) hb) ho0)
    clear ho ho0 hb hv
    go_wp2_with fail
    refine HK.out.to (fun w' : World => w'.ownsRow 0 5 1 (.slice A1 P1.length c1) P1.length (P1.map byteV)) (fun _ _ => trivial) (H1.out.2) ?_
    clear HK hS
    have hS : (fun w' : World => w'.ownsRow 0 5 1 (.slice A1 P1.length c1) P1.length (P1.map byteV)) (w3) := H1.out.2
    try simp only [Act.put, List.setIfInBounds_toArray, List.set_cons_zero, List.set_cons_succ]
    refine reg_take (i := 4) (v := ?_) rfl (by kernel_rfl) (by kernel_rfl) (by kernel_rfl) (fun _ _ _ h => h) (Or.inl ⟨by kernel_rfl, ?_⟩) hS ?_
    rotate_left
    · (intro w' hSw; have hc := conv_own (P := Try.prog) (c := c1) 23 5 9 Try.underlying23 Try.underlying5 Try.underlying9 rfl hSw; go_simp <;> with_reducible rfl)
    try simp only [Act.put, List.setIfInBounds_toArray, List.set_cons_zero, List.set_cons_succ]
    refine reg_call (i := 8) rfl (by kernel_rfl) (fun K hK => ?_)
    have HK := Lib.hid hK
    clear hK
    go_simp
    refine (rvput_any _ _ _ _ bs _ HS.out.1 (sl_later HS.out.2 H1.out.1) (by omega) HU.out.1 HU.out.2).mono ?_
    rintro e w4 ⟨v, rfl, ho, hb⟩
    rw [← HP.out.1] at ho
    obtain ⟨A2, c2, hv, -, -⟩ := own_form ho
    rw [hv]
    rw [hv] at ho
    have ho0 := own_base ho (Nat.zero_le _)
    have H2 := Lib.hid (And.intro (below_join H1.out.1 hb) (And.intro ho0 (own_later H1.out.2 hb)))
    clear ho ho0 hb hv H1
    go_wp2_with fail
    refine HK.out.to (fun w' : World => w'.ownsRow 0 5 1 (.slice A2 P1.length c2) P1.length (P1.map byteV) ∧ w'.ownsRow 0 5 1 (.slice A1 P1.length c1) P1.length (P1.map byteV)) (fun _ h => h.2) (H2.out.2) ?_
    clear HK hS
    have hS : (fun w' : World => w'.ownsRow 0 5 1 (.slice A2 P1.length c2) P1.length (P1.map byteV) ∧ w'.ownsRow 0 5 1 (.slice A1 P1.length c1) P1.length (P1.map byteV)) (w4) := H2.out.2
    try simp only [Act.put, List.setIfInBounds_toArray, List.set_cons_zero, List.set_cons_succ]
    refine reg_take (i := 9) (v := ?_) rfl (by kernel_rfl) (by kernel_rfl) (by kernel_rfl) (fun _ _ _ h => h) (Or.inl ⟨by kernel_rfl, ?_⟩) hS ?_
    rotate_left
    · (intro w' hSw; have hc := conv_own (P := Try.prog) (c := c2) 23 5 9 Try.underlying23 Try.underlying5 Try.underlying9 rfl hSw.1; go_simp <;> with_reducible rfl)
    try simp only [Act.put, List.setIfInBounds_toArray, List.set_cons_zero, List.set_cons_succ]
    refine reg_take (i := 10) (v := ?_) rfl (by kernel_rfl) (by kernel_rfl) (by kernel_rfl) (fun _ _ _ h => h) (Or.inl ⟨by kernel_rfl, ?_⟩) hS ?_
    rotate_left
    · (intro w' hSw; go_simp <;> with_reducible rfl)
    try simp only [Act.put, List.setIfInBounds_toArray, List.set_cons_zero, List.set_cons_succ]
    refine reg_take (i := 11) (v := ?_) rfl (by kernel_rfl) (by kernel_rfl) (by kernel_rfl) (fun _ _ _ h => h) (Or.inl ⟨by kernel_rfl, ?_⟩) hS ?_
    rotate_left
    · (intro w' hSw; go_simp <;> with_reducible rfl)
    try simp only [Act.put, List.setIfInBounds_toArray, List.set_cons_zero, List.set_cons_succ]
    refine reg_take (i := 12) (v := ?_) rfl (by kernel_rfl) (by kernel_rfl) (by kernel_rfl) (fun _ _ _ h => h) (Or.inl ⟨by kernel_rfl, ?_⟩) hS ?_
    rotate_left
    · (intro w' hSw; go_simp <;> with_reducible rfl)
    try simp only [Act.put, List.setIfInBounds_toArray, List.set_cons_zero, List.set_cons_succ]
    refine reg_take (i := 13) (v := ?_) rfl (by kernel_rfl) (by kernel_rfl) (by kernel_rfl) (fun _ _ _ h => h) (Or.inl ⟨by kernel_rfl, ?_⟩) hS ?_
    rotate_left
    · (intro w' hSw; go_simp <;> with_reducible rfl)
    try simp only [Act.put, List.setIfInBounds_toArray, List.set_cons_zero, List.set_cons_succ]
    refine reg_take (i := 16) (v := ?_) rfl (by kernel_rfl) (by kernel_rfl) (by kernel_rfl) (fun _ _ _ h => h) (Or.inl ⟨by kernel_rfl, ?_⟩) hS ?_
    rotate_left
    · (intro w' hSw; go_simp <;> with_reducible rfl)
    try simp only [Act.put, List.setIfInBounds_toArray, List.set_cons_zero, List.set_cons_succ]
    refine reg_take (i := 17) (v := ?_) rfl (by kernel_rfl) (by kernel_rfl) (by kernel_rfl) (fun _ _ _ h => h) (Or.inl ⟨by kernel_rfl, ?_⟩) hS ?_
    rotate_left
    · (intro w' hSw; go_simp <;> with_reducible rfl)
    try simp only [Act.put, List.setIfInBounds_toArray, List.set_cons_zero, List.set_cons_succ]
    refine reg_call (i := 14) rfl (by kernel_rfl) (fun K hK => ?_)
    have HK := Lib.hid hK
    clear hK
    go_simp
    refine (putInt_any _ _ _ _ bs _ HS.out.1 (sl_later HS.out.2 H2.out.1) hlc (by omega) HZ.out.1 HZ.out.2).mono ?_
    rintro e w5 ⟨v, rfl, ho, hb⟩
    rw [← HP.out.2.1] at ho
    obtain ⟨A3, c3, hv, -, -⟩ := own_form ho
    rw [hv]
    rw [hv] at ho
    have ho0 := own_base ho (Nat.zero_le _)
    have H3 := Lib.hid (And.intro (below_join H2.out.1 hb) (And.intro ho0 (And.intro (own_later H2.out.2.1 hb) (own_later H2.out.2.2 hb))))
    clear ho ho0 hb hv H2
    go_wp2_with fail
    refine HK.out.to (fun w' : World => w'.ownsRow 0 5 1 (.slice A3 P2.length c3) P2.length (P2.map byteV) ∧ w'.ownsRow 0 5 1 (.slice A2 P1.length c2) P1.length (P1.map byteV) ∧ w'.ownsRow 0 5 1 (.slice A1 P1.length c1) P1.length (P1.map byteV)) (fun _ h => h.2) (H3.out.2) ?_
    clear HK hS
    have hS : (fun w' : World => w'.ownsRow 0 5 1 (.slice A3 P2.length c3) P2.length (P2.map byteV) ∧ w'.ownsRow 0 5 1 (.slice A2 P1.length c2) P1.length (P1.map byteV) ∧ w'.ownsRow 0 5 1 (.slice A1 P1.length c1) P1.length (P1.map byteV)) (w5) := H3.out.2
    try simp only [Act.put, List.setIfInBounds_toArray, List.set_cons_zero, List.set_cons_succ]
    refine reg_take (i := 15) (v := ?_) rfl (by kernel_rfl) (by kernel_rfl) (by kernel_rfl) (fun _ _ _ h => h) (Or.inl ⟨by kernel_rfl, ?_⟩) hS ?_
    rotate_left
    · (intro w' hSw; have hc := conv_own (P := Try.prog) (c := c3) 23 5 9 Try.underlying23 Try.underlying5 Try.underlying9 rfl hSw.1; go_simp <;> with_reducible rfl)
    try simp only [Act.put, List.setIfInBounds_toArray, List.set_cons_zero, List.set_cons_succ]
    refine reg_call (i := 18) rfl (by kernel_rfl) (fun K hK => ?_)
    have HK := Lib.hid hK
    clear hK
    go_simp
    refine (rputInt_any _ _ _ _ bs _ HS.out.1 (sl_later HS.out.2 H3.out.1) (by omega) HZ.out.1 HZ.out.2).mono ?_
    rintro e w6 ⟨v, rfl, ho, hb⟩
    rw [← HP.out.2.1] at ho
    obtain ⟨A4, c4, hv, -, -⟩ := own_form ho
    rw [hv]
    rw [hv] at ho
    have ho0 := own_base ho (Nat.zero_le _)
    have H4 := Lib.hid (And.intro (below_join H3.out.1 hb) (And.intro ho0 (And.intro (own_later H3.out.2.1 hb) (And.intro (own_later H3.out.2.2.1 hb) (own_later H3.out.2.2.2 hb)))))
    clear ho ho0 hb hv H3
    go_wp2_with fail
    refine HK.out.to (fun w' : World => w'.ownsRow 0 5 1 (.slice A4 P2.length c4) P2.length (P2.map byteV) ∧ w'.ownsRow 0 5 1 (.slice A3 P2.length c3) P2.length (P2.map byteV) ∧ w'.ownsRow 0 5 1 (.slice A2 P1.length c2) P1.length (P1.map byteV) ∧ w'.ownsRow 0 5 1 (.slice A1 P1.length c1) P1.length (P1.map byteV)) (fun _ h => h.2) (H4.out.2) ?_
    clear HK hS
    have hS : (fun w' : World => w'.ownsRow 0 5 1 (.slice A4 P2.length c4) P2.length (P2.map byteV) ∧ w'.ownsRow 0 5 1 (.slice A3 P2.length c3) P2.length (P2.map byteV) ∧ w'.ownsRow 0 5 1 (.slice A2 P1.length c2) P1.length (P1.map byteV) ∧ w'.ownsRow 0 5 1 (.slice A1 P1.length c1) P1.length (P1.map byteV)) (w6) := H4.out.2
    try simp only [Act.put, List.setIfInBounds_toArray, List.set_cons_zero, List.set_cons_succ]
    refine reg_take (i := 19) (v := ?_) rfl (by kernel_rfl) (by kernel_rfl) (by kernel_rfl) (fun _ _ _ h => h) (Or.inl ⟨by kernel_rfl, ?_⟩) hS ?_
    rotate_left
    · (intro w' hSw; have hc := conv_own (P := Try.prog) (c := c4) 23 5 9 Try.underlying23 Try.underlying5 Try.underlying9 rfl hSw.1; go_simp <;> with_reducible rfl)
    try simp only [Act.put, List.setIfInBounds_toArray, List.set_cons_zero, List.set_cons_succ]
    refine reg_take (i := 20) (v := ?_) rfl (by kernel_rfl) (by kernel_rfl) (by kernel_rfl) (fun _ _ _ h => h) (Or.inl ⟨by kernel_rfl, ?_⟩) hS ?_
    rotate_left
    · (intro w' hSw; go_simp <;> with_reducible rfl)
    try simp only [Act.put, List.setIfInBounds_toArray, List.set_cons_zero, List.set_cons_succ]
    refine reg_take (i := 21) (v := ?_) rfl (by kernel_rfl) (by kernel_rfl) (by kernel_rfl) (fun _ _ _ h => h) (Or.inl ⟨by kernel_rfl, ?_⟩) hS ?_
    rotate_left
    · (intro w' hSw; go_simp <;> with_reducible rfl)
    try simp only [Act.put, List.setIfInBounds_toArray, List.set_cons_zero, List.set_cons_succ]
    refine reg_take (i := 22) (v := ?_) rfl (by kernel_rfl) (by kernel_rfl) (by kernel_rfl) (fun _ _ _ h => h) (Or.inl ⟨by kernel_rfl, ?_⟩) hS ?_
    rotate_left
    · (intro w' hSw; go_simp <;> with_reducible rfl)
    try simp only [Act.put, List.setIfInBounds_toArray, List.set_cons_zero, List.set_cons_succ]
    refine reg_take (i := 23) (v := ?_) rfl (by kernel_rfl) (by kernel_rfl) (by kernel_rfl) (fun _ _ _ h => h) (Or.inl ⟨by kernel_rfl, ?_⟩) hS ?_
    rotate_left
    · (intro w' hSw; go_simp <;> with_reducible rfl)
    try simp only [Act.put, List.setIfInBounds_toArray, List.set_cons_zero, List.set_cons_succ]
    refine reg_take (i := 24) (v := ?_) rfl (by kernel_rfl) (by kernel_rfl) (by kernel_rfl) (fun _ _ _ h => h) (Or.inl ⟨by kernel_rfl, ?_⟩) hS ?_
    rotate_left
    · (intro w' hSw; go_simp <;> with_reducible rfl)
    try simp only [Act.put, List.setIfInBounds_toArray, List.set_cons_zero, List.set_cons_succ]
    refine reg_take (i := 27) (v := ?_) rfl (by kernel_rfl) (by kernel_rfl) (by kernel_rfl) (fun _ _ _ h => h) (Or.inl ⟨by kernel_rfl, ?_⟩) hS ?_
    rotate_left
    · (intro w' hSw; go_simp <;> with_reducible rfl)
    try simp only [Act.put, List.setIfInBounds_toArray, List.set_cons_zero, List.set_cons_succ]
    refine reg_take (i := 28) (v := ?_) rfl (by kernel_rfl) (by kernel_rfl) (by kernel_rfl) (fun _ _ _ h => h) (Or.inl ⟨by kernel_rfl, ?_⟩) hS ?_
    rotate_left
    · (intro w' hSw; go_simp <;> with_reducible rfl)
    try simp only [Act.put, List.setIfInBounds_toArray, List.set_cons_zero, List.set_cons_succ]
    refine reg_call (i := 25) rfl (by kernel_rfl) (fun K hK => ?_)
    have HK := Lib.hid hK
    clear hK
    go_simp
    refine (putText_any _ _ _ _ bs _ HS.out.1 (sl_later HS.out.2 H4.out.1) hlc (by omega) (by omega)).mono ?_
    rintro e w7 ⟨v, rfl, ho, hb⟩
    rw [← HP.out.2.2] at ho
    obtain ⟨A5, c5, hv, -, -⟩ := own_form ho
    rw [hv]
    rw [hv] at ho
    have ho0 := own_base ho (Nat.zero_le _)
    have H5 := Lib.hid (And.intro (below_join H4.out.1 hb) (And.intro ho0 (And.intro (own_later H4.out.2.1 hb) (And.intro (own_later H4.out.2.2.1 hb) (And.intro (own_later H4.out.2.2.2.1 hb) (own_later H4.out.2.2.2.2 hb))))))
    clear ho ho0 hb hv H4
    go_wp2_with fail
    refine HK.out.to (fun w' : World => w'.ownsRow 0 5 1 (.slice A5 P3.length c5) P3.length (P3.map byteV) ∧ w'.ownsRow 0 5 1 (.slice A4 P2.length c4) P2.length (P2.map byteV) ∧ w'.ownsRow 0 5 1 (.slice A3 P2.length c3) P2.length (P2.map byteV) ∧ w'.ownsRow 0 5 1 (.slice A2 P1.length c2) P1.length (P1.map byteV) ∧ w'.ownsRow 0 5 1 (.slice A1 P1.length c1) P1.length (P1.map byteV)) (fun _ h => h.2) (H5.out.2) ?_
    clear HK hS
    have hS : (fun w' : World => w'.ownsRow 0 5 1 (.slice A5 P3.length c5) P3.length (P3.map byteV) ∧ w'.ownsRow 0 5 1 (.slice A4 P2.length c4) P2.length (P2.map byteV) ∧ w'.ownsRow 0 5 1 (.slice A3 P2.length c3) P2.length (P2.map byteV) ∧ w'.ownsRow 0 5 1 (.slice A2 P1.length c2) P1.length (P1.map byteV) ∧ w'.ownsRow 0 5 1 (.slice A1 P1.length c1) P1.length (P1.map byteV)) (w7) := H5.out.2
    try simp only [Act.put, List.setIfInBounds_toArray, List.set_cons_zero, List.set_cons_succ]
    refine reg_take (i := 26) (v := ?_) rfl (by kernel_rfl) (by kernel_rfl) (by kernel_rfl) (fun _ _ _ h => h) (Or.inl ⟨by kernel_rfl, ?_⟩) hS ?_
    rotate_left
    · (intro w' hSw; have hc := conv_own (P := Try.prog) (c := c5) 23 5 9 Try.underlying23 Try.underlying5 Try.underlying9 rfl hSw.1; go_simp <;> with_reducible rfl)
    try simp only [Act.put, List.setIfInBounds_toArray, List.set_cons_zero, List.set_cons_succ]
    refine reg_call (i := 29) rfl (by kernel_rfl) (fun K hK => ?_)
    have HK := Lib.hid hK
    clear hK
    go_simp
    refine (rputText_any _ _ _ _ bs _ HS.out.1 (sl_later HS.out.2 H5.out.1) (by omega) (by omega)).mono ?_
    rintro e w8 ⟨v, rfl, ho, hb⟩
    rw [← HP.out.2.2] at ho
    obtain ⟨A6, c6, hv, -, -⟩ := own_form ho
    rw [hv]
    rw [hv] at ho
    have ho0 := own_base ho (Nat.zero_le _)
    have H6 := Lib.hid (And.intro (below_join H5.out.1 hb) (And.intro ho0 (And.intro (own_later H5.out.2.1 hb) (And.intro (own_later H5.out.2.2.1 hb) (And.intro (own_later H5.out.2.2.2.1 hb) (And.intro (own_later H5.out.2.2.2.2.1 hb) (own_later H5.out.2.2.2.2.2 hb)))))))
    clear ho ho0 hb hv H5
    go_wp2_with fail
    refine HK.out.to (fun w' : World => w'.ownsRow 0 5 1 (.slice A6 P3.length c6) P3.length (P3.map byteV) ∧ w'.ownsRow 0 5 1 (.slice A5 P3.length c5) P3.length (P3.map byteV) ∧ w'.ownsRow 0 5 1 (.slice A4 P2.length c4) P2.length (P2.map byteV) ∧ w'.ownsRow 0 5 1 (.slice A3 P2.length c3) P2.length (P2.map byteV) ∧ w'.ownsRow 0 5 1 (.slice A2 P1.length c2) P1.length (P1.map byteV) ∧ w'.ownsRow 0 5 1 (.slice A1 P1.length c1) P1.length (P1.map byteV)) (fun _ h => h.2) (H6.out.2) ?_
    clear HK hS
    have hS : (fun w' : World => w'.ownsRow 0 5 1 (.slice A6 P3.length c6) P3.length (P3.map byteV) ∧ w'.ownsRow 0 5 1 (.slice A5 P3.length c5) P3.length (P3.map byteV) ∧ w'.ownsRow 0 5 1 (.slice A4 P2.length c4) P2.length (P2.map byteV) ∧ w'.ownsRow 0 5 1 (.slice A3 P2.length c3) P2.length (P2.map byteV) ∧ w'.ownsRow 0 5 1 (.slice A2 P1.length c2) P1.length (P1.map byteV) ∧ w'.ownsRow 0 5 1 (.slice A1 P1.length c1) P1.length (P1.map byteV)) (w8) := H6.out.2
    try simp only [Act.put, List.setIfInBounds_toArray, List.set_cons_zero, List.set_cons_succ]
    refine reg_take (i := 30) (v := ?_) rfl (by kernel_rfl) (by kernel_rfl) (by kernel_rfl) (fun _ _ _ h => h) (Or.inl ⟨by kernel_rfl, ?_⟩) hS ?_
    rotate_left
    · (intro w' hSw; have hc := conv_own (P := Try.prog) (c := c6) 23 5 9 Try.underlying23 Try.underlying5 Try.underlying9 rfl hSw.1; go_simp <;> with_reducible rfl)
    try simp only [Act.put, List.setIfInBounds_toArray, List.set_cons_zero, List.set_cons_succ]
    refine reg_take (i := 31) (v := ?_) rfl (by kernel_rfl) (by kernel_rfl) (by kernel_rfl) (fun _ _ _ h => h) (Or.inl ⟨by kernel_rfl, ?_⟩) hS ?_
    rotate_left
    · (intro w' hSw; go_simp <;> with_reducible rfl)
    try simp only [Act.put, List.setIfInBounds_toArray, List.set_cons_zero, List.set_cons_succ]
    refine reg_take (i := 32) (v := ?_) rfl (by kernel_rfl) (by kernel_rfl) (by kernel_rfl) (fun _ _ _ h => h) (Or.inl ⟨by kernel_rfl, ?_⟩) hS ?_
    rotate_left
    · (intro w' hSw; go_simp <;> with_reducible rfl)
    try simp only [Act.put, List.setIfInBounds_toArray, List.set_cons_zero, List.set_cons_succ]
    refine reg_take (i := 33) (v := ?_) rfl (by kernel_rfl) (by kernel_rfl) (by kernel_rfl) (fun _ _ _ h => h) (Or.inl ⟨by kernel_rfl, ?_⟩) hS ?_
    rotate_left
    · (intro w' hSw; go_simp <;> with_reducible rfl)
    try simp only [Act.put, List.setIfInBounds_toArray, List.set_cons_zero, List.set_cons_succ]
    refine wpAnyH_done (by kernel_rfl) ?_ _
    go_wp2_with fail
    go_ret
    exact ⟨rfl, H6.out.1⟩
  · have hlen2 : 5000 < len0 + a2.size := by omega
    go_enter Try.func4, Try.ntmps4
    go_wp2_with fail
    go_ret
    exact ⟨rfl, Below.refl _ _⟩
end Go.Proofs.Ytgceeihdmhghiaa
