/-
  The contracts of water.Put and tidemillref17.Put. (Printed by mk.py.)
-/
import Derived.Test.YtgceeihdmhghiaaDoorWtB
namespace Go.Proofs.YtgceeihdmhghiaaDoor
open Go.RowKit
set_option linter.unusedVariables false
set_option linter.unusedSimpArgs false
/-- A mark as bytes. -/
def mput (s : Bool) (l g : Int) : List Nat := vput (g % 18446744073709551616).toNat ++ (if s = true then vput 1 ++ vput (zig l) else vput 0)
set_option maxRecDepth 100000 in
set_option maxHeartbeats 4000000 in
theorem wput_any (w : World) (A : Option Addr) (len c : Nat) (bs : List Nat) (s : Bool) (l g : Int) (hl : bs.length = len) (hsl : Sl w (fun k => k < w.heap.size) A len (byteC bs)) (hlc : len ≤ c) (hsm : len ≤ 1099511627000) (h0 : -9223372036854775808 ≤ l) (h1 : l ≤ 9223372036854775807) :
    Calls Tryd.prog 16 #[.slice A len c, .agg #[.bool s, .int .i64 l, .int .i64 g]] w (VPutPost w (bs ++ mput s l g)) := by
  obtain ⟨x, hx⟩ : ∃ x, x = w.heap.size := ⟨_, rfl⟩
  have o0 := Own.own1 w hx 37 #[.bool s, .int .i64 l, .int .i64 g]
  obtain ⟨u, hu⟩ : ∃ u, u = (g % 18446744073709551616).toNat := ⟨_, rfl⟩
  have ku : IntKind.u64.wrap g = (u : Int) := by rw [IntKind.wrap_u64]; omega
  have hu64 : u < 18446744073709551616 := by omega
  have HO := Lib.hid (And.intro hx (And.intro o0 (And.intro (sl_later hsl o0.bel) (And.intro hl hu))))
  have HZ := Lib.hid (And.intro h0 h1)
  clear hx o0 hsl hl hu h0 h1
  go_enter Tryd.func16, Tryd.ntmps16
  go_wp2_with fail
  refine (vput_any _ A len c bs (u : Int) HO.out.2.2.2.1 HO.out.2.2.1 hlc (by omega) (by omega) (by omega)).mono ?_
  rintro e w1 ⟨v, rfl, ho, hb⟩
  rw [Int.toNat_natCast] at ho
  have hlen : (bs ++ vput u).length ≤ len + 10 := by
    have := vput_len10 hu64
    rw [List.length_append, HO.out.2.2.2.1]; omega
  obtain ⟨B, hB⟩ : ∃ B, B = bs ++ vput u := ⟨_, rfl⟩
  rw [← hB] at ho hlen
  obtain ⟨n1, hn1⟩ : ∃ n, n = B.length := ⟨_, rfl⟩
  rw [← hn1] at ho hlen
  obtain ⟨A1, c1, hv1, hc1, -⟩ := own_form ho
  subst hv1
  have hS := HO.out.2.1.call hb
  have HB := Lib.hid (And.intro hB (And.intro hn1.symm (And.intro (ow_sl ho) hS)))
  clear hb hB hn1 ho
  rw [← HO.out.1]
  have z0_0 := hS.cell 0 0 rfl rfl; have z0_1 := hS.cell 0 1 rfl rfl; have z0_2 := hS.cell 0 2 rfl rfl
  clear hS
  cases s with
  | false =>
    go_wp2_with fail
    refine (vput_any _ A1 n1 c1 B 0 HB.out.2.1 HB.out.2.2.1 hc1 (by omega) (by omega) (by omega)).mono ?_
    rintro e w2 ⟨v, rfl, ho, hb⟩
    rw [show (0 : Int).toNat = 0 from rfl] at ho
    have e1 : bs ++ mput false l g = B ++ vput 0 := by unfold mput; rw [← HO.out.2.2.2.2, HB.out.1, List.append_assoc]; rfl
    have HF := Lib.hid (And.intro ho (And.intro hb e1))
    clear ho hb e1
    go_wp2_with fail
    go_ret
    refine ⟨v, rfl, ?_, (HB.out.2.2.2.call HF.out.2.1).bel⟩
    rw [HF.out.2.2]
    exact own_base HF.out.1 HB.out.2.2.2.size
  | true =>
    go_wp2_with fail
    have hS : (Own w [(x, 37, #[.bool true, .int .i64 l, .int .i64 g])]) (w1.drew) := HB.out.2.2.2.drew
    refine reg_start (Own w [(x, 37, #[.bool true, .int .i64 l, .int .i64 g])]) (by kernel_rfl) hS ?_
    refine reg_take (i := 0) (v := ?_) rfl (by kernel_rfl) (by kernel_rfl) (by kernel_rfl) (fun _ _ _ h => h) (Or.inl ⟨by kernel_rfl, ?_⟩) hS ?_
    rotate_left
    · (intro w' hSw; have z0_0 := hSw.cell 0 0 rfl rfl; have z0_1 := hSw.cell 0 1 rfl rfl; have z0_2 := hSw.cell 0 2 rfl rfl; go_simp <;> with_reducible rfl)
    try simp only [List.getElem_toArray, List.getElem_cons_succ, List.getElem_cons_zero, Act.put, List.setIfInBounds_toArray, List.set_cons_zero, List.set_cons_succ]
    refine reg_take (i := 2) (v := ?_) rfl (by kernel_rfl) (by kernel_rfl) (by kernel_rfl) (fun _ _ _ h => h) (Or.inl ⟨by kernel_rfl, ?_⟩) hS ?_
    rotate_left
    · (intro w' hSw; have z0_0 := hSw.cell 0 0 rfl rfl; have z0_1 := hSw.cell 0 1 rfl rfl; have z0_2 := hSw.cell 0 2 rfl rfl; go_simp <;> with_reducible rfl)
    try simp only [List.getElem_toArray, List.getElem_cons_succ, List.getElem_cons_zero, Act.put, List.setIfInBounds_toArray, List.set_cons_zero, List.set_cons_succ]
    refine reg_take (i := 3) (v := ?_) rfl (by kernel_rfl) (by kernel_rfl) (by kernel_rfl) (fun _ _ _ h => h) (Or.inl ⟨by kernel_rfl, ?_⟩) hS ?_
    rotate_left
    · (intro w' hSw; have z0_0 := hSw.cell 0 0 rfl rfl; have z0_1 := hSw.cell 0 1 rfl rfl; have z0_2 := hSw.cell 0 2 rfl rfl; go_simp <;> with_reducible rfl)
    try simp only [List.getElem_toArray, List.getElem_cons_succ, List.getElem_cons_zero, Act.put, List.setIfInBounds_toArray, List.set_cons_zero, List.set_cons_succ]
    refine reg_call (i := 1) rfl (by kernel_rfl) (fun K hK => ?_)
    have HK := Lib.hid hK
    clear hK
    go_simp
    refine (vput_any _ A1 n1 c1 B 1 HB.out.2.1 (sl_later HB.out.2.2.1 (Below.refl _ _).drew) hc1 (by omega) (by omega) (by omega)).mono ?_
    rintro e w2 ⟨v, rfl, ho, hb⟩
    rw [show (1 : Int).toNat = 1 from rfl] at ho
    have hlen2 : (B ++ vput 1).length ≤ len + 20 := by
      have := vput_len10 (u := 1) (by omega)
      rw [List.length_append, HB.out.2.1]; omega
    obtain ⟨B2, hB2⟩ : ∃ C, C = B ++ vput 1 := ⟨_, rfl⟩
    rw [← hB2] at ho hlen2
    obtain ⟨n2, hn2⟩ : ∃ n, n = B2.length := ⟨_, rfl⟩
    rw [← hn2] at ho hlen2
    obtain ⟨A2, c2, hv2, hc2, -⟩ := own_form ho
    subst hv2
    have hS2 := hS.call hb
    have H2 := Lib.hid (And.intro hB2 (And.intro hn2.symm (And.intro (ow_sl ho) hS2)))
    clear ho hb hB2 hn2 hS2
    go_wp2_with fail
    refine HK.out.to (Own w [(x, 37, #[.bool true, .int .i64 l, .int .i64 g])]) (fun _ h => h) (H2.out.2.2.2) ?_
    clear HK hS
    have hS : (Own w [(x, 37, #[.bool true, .int .i64 l, .int .i64 g])]) (w2) := H2.out.2.2.2
    try simp only [List.getElem_toArray, List.getElem_cons_succ, List.getElem_cons_zero, Act.put, List.setIfInBounds_toArray, List.set_cons_zero, List.set_cons_succ]
    refine reg_call (i := 4) rfl (by kernel_rfl) (fun K hK => ?_)
    have HK := Lib.hid hK
    clear hK
    go_simp
    refine (putInt_any _ A2 n2 c2 B2 l H2.out.2.1 H2.out.2.2.1 hc2 (by omega) HZ.out.1 HZ.out.2).mono ?_
    rintro e w3 ⟨v, rfl, ho, hb⟩
    have e1 : bs ++ mput true l g = B2 ++ vput (zig l) := by unfold mput; rw [← HO.out.2.2.2.2, H2.out.1, HB.out.1, List.append_assoc, List.append_assoc]; rfl
    have HF := Lib.hid (And.intro ho (And.intro (hS.call hb) e1))
    clear ho hb e1
    go_wp2_with fail
    refine HK.out.to (Own w [(x, 37, #[.bool true, .int .i64 l, .int .i64 g])]) (fun _ h => h) (HF.out.2.1) ?_
    clear HK hS
    have hS : (Own w [(x, 37, #[.bool true, .int .i64 l, .int .i64 g])]) (w3) := HF.out.2.1
    try simp only [List.getElem_toArray, List.getElem_cons_succ, List.getElem_cons_zero, Act.put, List.setIfInBounds_toArray, List.set_cons_zero, List.set_cons_succ]
    refine reg_take (i := 5) (v := ?_) rfl (by kernel_rfl) (by kernel_rfl) (by kernel_rfl) (fun _ _ _ h => h) (Or.inl ⟨by kernel_rfl, ?_⟩) hS ?_
    rotate_left
    · (intro w' hSw; go_simp <;> with_reducible rfl)
    try simp only [List.getElem_toArray, List.getElem_cons_succ, List.getElem_cons_zero, Act.put, List.setIfInBounds_toArray, List.set_cons_zero, List.set_cons_succ]
    refine wpAnyH_done (by kernel_rfl) ?_ _
    try simp only [List.getElem_toArray, List.getElem_cons_succ, List.getElem_cons_zero]
    try simp only [List.getElem_toArray, List.getElem_cons_succ, List.getElem_cons_zero, Act.put, List.setIfInBounds_toArray, List.set_cons_zero, List.set_cons_succ]
    go_wp2_with fail
    go_ret
    refine ⟨v, rfl, ?_, HF.out.2.1.bel⟩
    rw [HF.out.2.2]
    exact own_base HF.out.1 H2.out.2.2.2.size
set_option maxRecDepth 100000 in
set_option maxHeartbeats 4000000 in
theorem rwput_any (w : World) (A : Option Addr) (len c : Nat) (bs : List Nat) (s : Bool) (l g : Int) (hl : bs.length = len) (hsl : Sl w (fun k => k < w.heap.size) A len (byteC bs)) (hlc : len ≤ c) (hsm : len ≤ 1099511627000) (h0 : -9223372036854775808 ≤ l) (h1 : l ≤ 9223372036854775807) :
    Calls Tryd.prog 17 #[.slice A len c, .agg #[.bool s, .int .i64 l, .int .i64 g]] w (VPutPost w (bs ++ mput s l g)) := by
  obtain ⟨x, hx⟩ : ∃ x, x = w.heap.size := ⟨_, rfl⟩
  have o0 := Own.own1 w hx 40 #[.bool s, .int .i64 l, .int .i64 g]
  obtain ⟨u, hu⟩ : ∃ u, u = (g % 18446744073709551616).toNat := ⟨_, rfl⟩
  have ku : IntKind.u64.wrap g = (u : Int) := by rw [IntKind.wrap_u64]; omega
  have hu64 : u < 18446744073709551616 := by omega
  have HO := Lib.hid (And.intro hx (And.intro o0 (And.intro (sl_later hsl o0.bel) (And.intro hl hu))))
  have HZ := Lib.hid (And.intro h0 h1)
  clear hx o0 hsl hl hu h0 h1
  go_enter Tryd.func17, Tryd.ntmps17
  go_wp2_with fail
  refine (rvput_any _ A len c bs (u : Int) HO.out.2.2.2.1 HO.out.2.2.1  (by omega) (by omega) (by omega)).mono ?_
  rintro e w1 ⟨v, rfl, ho, hb⟩
  rw [Int.toNat_natCast] at ho
  have hlen : (bs ++ vput u).length ≤ len + 10 := by
    have := vput_len10 hu64
    rw [List.length_append, HO.out.2.2.2.1]; omega
  obtain ⟨B, hB⟩ : ∃ B, B = bs ++ vput u := ⟨_, rfl⟩
  rw [← hB] at ho hlen
  obtain ⟨n1, hn1⟩ : ∃ n, n = B.length := ⟨_, rfl⟩
  rw [← hn1] at ho hlen
  obtain ⟨A1, c1, hv1, hc1, -⟩ := own_form ho
  subst hv1
  have hS := HO.out.2.1.call hb
  have HB := Lib.hid (And.intro hB (And.intro hn1.symm (And.intro (ow_sl ho) hS)))
  clear hb hB hn1 ho
  rw [← HO.out.1]
  have z0_0 := hS.cell 0 0 rfl rfl; have z0_1 := hS.cell 0 1 rfl rfl; have z0_2 := hS.cell 0 2 rfl rfl
  clear hS
  cases s with
  | false =>
    go_wp2_with fail
    refine (rvput_any _ A1 n1 c1 B 0 HB.out.2.1 HB.out.2.2.1  (by omega) (by omega) (by omega)).mono ?_
    rintro e w2 ⟨v, rfl, ho, hb⟩
    rw [show (0 : Int).toNat = 0 from rfl] at ho
    have e1 : bs ++ mput false l g = B ++ vput 0 := by unfold mput; rw [← HO.out.2.2.2.2, HB.out.1, List.append_assoc]; rfl
    have HF := Lib.hid (And.intro ho (And.intro hb e1))
    clear ho hb e1
    go_wp2_with fail
    go_ret
    refine ⟨v, rfl, ?_, (HB.out.2.2.2.call HF.out.2.1).bel⟩
    rw [HF.out.2.2]
    exact own_base HF.out.1 HB.out.2.2.2.size
  | true =>
    go_wp2_with fail
    have hS : (Own w [(x, 40, #[.bool true, .int .i64 l, .int .i64 g])]) (w1.drew) := HB.out.2.2.2.drew
    refine reg_start (Own w [(x, 40, #[.bool true, .int .i64 l, .int .i64 g])]) (by kernel_rfl) hS ?_
    refine reg_take (i := 0) (v := ?_) rfl (by kernel_rfl) (by kernel_rfl) (by kernel_rfl) (fun _ _ _ h => h) (Or.inl ⟨by kernel_rfl, ?_⟩) hS ?_
    rotate_left
    · (intro w' hSw; have z0_0 := hSw.cell 0 0 rfl rfl; have z0_1 := hSw.cell 0 1 rfl rfl; have z0_2 := hSw.cell 0 2 rfl rfl; go_simp <;> with_reducible rfl)
    try simp only [List.getElem_toArray, List.getElem_cons_succ, List.getElem_cons_zero, Act.put, List.setIfInBounds_toArray, List.set_cons_zero, List.set_cons_succ]
    refine reg_take (i := 2) (v := ?_) rfl (by kernel_rfl) (by kernel_rfl) (by kernel_rfl) (fun _ _ _ h => h) (Or.inl ⟨by kernel_rfl, ?_⟩) hS ?_
    rotate_left
    · (intro w' hSw; have z0_0 := hSw.cell 0 0 rfl rfl; have z0_1 := hSw.cell 0 1 rfl rfl; have z0_2 := hSw.cell 0 2 rfl rfl; go_simp <;> with_reducible rfl)
    try simp only [List.getElem_toArray, List.getElem_cons_succ, List.getElem_cons_zero, Act.put, List.setIfInBounds_toArray, List.set_cons_zero, List.set_cons_succ]
    refine reg_take (i := 3) (v := ?_) rfl (by kernel_rfl) (by kernel_rfl) (by kernel_rfl) (fun _ _ _ h => h) (Or.inl ⟨by kernel_rfl, ?_⟩) hS ?_
    rotate_left
    · (intro w' hSw; have z0_0 := hSw.cell 0 0 rfl rfl; have z0_1 := hSw.cell 0 1 rfl rfl; have z0_2 := hSw.cell 0 2 rfl rfl; go_simp <;> with_reducible rfl)
    try simp only [List.getElem_toArray, List.getElem_cons_succ, List.getElem_cons_zero, Act.put, List.setIfInBounds_toArray, List.set_cons_zero, List.set_cons_succ]
    refine reg_call (i := 1) rfl (by kernel_rfl) (fun K hK => ?_)
    have HK := Lib.hid hK
    clear hK
    go_simp
    refine (rvput_any _ A1 n1 c1 B 1 HB.out.2.1 (sl_later HB.out.2.2.1 (Below.refl _ _).drew)  (by omega) (by omega) (by omega)).mono ?_
    rintro e w2 ⟨v, rfl, ho, hb⟩
    rw [show (1 : Int).toNat = 1 from rfl] at ho
    have hlen2 : (B ++ vput 1).length ≤ len + 20 := by
      have := vput_len10 (u := 1) (by omega)
      rw [List.length_append, HB.out.2.1]; omega
    obtain ⟨B2, hB2⟩ : ∃ C, C = B ++ vput 1 := ⟨_, rfl⟩
    rw [← hB2] at ho hlen2
    obtain ⟨n2, hn2⟩ : ∃ n, n = B2.length := ⟨_, rfl⟩
    rw [← hn2] at ho hlen2
    obtain ⟨A2, c2, hv2, hc2, -⟩ := own_form ho
    subst hv2
    have hS2 := hS.call hb
    have H2 := Lib.hid (And.intro hB2 (And.intro hn2.symm (And.intro (ow_sl ho) hS2)))
    clear ho hb hB2 hn2 hS2
    go_wp2_with fail
    refine HK.out.to (Own w [(x, 40, #[.bool true, .int .i64 l, .int .i64 g])]) (fun _ h => h) (H2.out.2.2.2) ?_
    clear HK hS
    have hS : (Own w [(x, 40, #[.bool true, .int .i64 l, .int .i64 g])]) (w2) := H2.out.2.2.2
    try simp only [List.getElem_toArray, List.getElem_cons_succ, List.getElem_cons_zero, Act.put, List.setIfInBounds_toArray, List.set_cons_zero, List.set_cons_succ]
    refine reg_call (i := 4) rfl (by kernel_rfl) (fun K hK => ?_)
    have HK := Lib.hid hK
    clear hK
    go_simp
    refine (rputInt_any _ A2 n2 c2 B2 l H2.out.2.1 H2.out.2.2.1  (by omega) HZ.out.1 HZ.out.2).mono ?_
    rintro e w3 ⟨v, rfl, ho, hb⟩
    have e1 : bs ++ mput true l g = B2 ++ vput (zig l) := by unfold mput; rw [← HO.out.2.2.2.2, H2.out.1, HB.out.1, List.append_assoc, List.append_assoc]; rfl
    have HF := Lib.hid (And.intro ho (And.intro (hS.call hb) e1))
    clear ho hb e1
    go_wp2_with fail
    refine HK.out.to (Own w [(x, 40, #[.bool true, .int .i64 l, .int .i64 g])]) (fun _ h => h) (HF.out.2.1) ?_
    clear HK hS
    have hS : (Own w [(x, 40, #[.bool true, .int .i64 l, .int .i64 g])]) (w3) := HF.out.2.1
    try simp only [List.getElem_toArray, List.getElem_cons_succ, List.getElem_cons_zero, Act.put, List.setIfInBounds_toArray, List.set_cons_zero, List.set_cons_succ]
    refine reg_take (i := 5) (v := ?_) rfl (by kernel_rfl) (by kernel_rfl) (by kernel_rfl) (fun _ _ _ h => h) (Or.inl ⟨by kernel_rfl, ?_⟩) hS ?_
    rotate_left
    · (intro w' hSw; go_simp <;> with_reducible rfl)
    try simp only [List.getElem_toArray, List.getElem_cons_succ, List.getElem_cons_zero, Act.put, List.setIfInBounds_toArray, List.set_cons_zero, List.set_cons_succ]
    refine wpAnyH_done (by kernel_rfl) ?_ _
    try simp only [List.getElem_toArray, List.getElem_cons_succ, List.getElem_cons_zero]
    try simp only [List.getElem_toArray, List.getElem_cons_succ, List.getElem_cons_zero, Act.put, List.setIfInBounds_toArray, List.set_cons_zero, List.set_cons_succ]
    go_wp2_with fail
    go_ret
    refine ⟨v, rfl, ?_, HF.out.2.1.bel⟩
    rw [HF.out.2.2]
    exact own_base HF.out.1 H2.out.2.2.2.size
end Go.Proofs.YtgceeihdmhghiaaDoor
