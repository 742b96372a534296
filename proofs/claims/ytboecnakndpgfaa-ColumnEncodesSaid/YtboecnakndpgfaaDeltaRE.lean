/-
  The contract of tidemillref05.Encode. (Printed by genDeltaRE.py.)
-/
import Derived.Test.YtboecnakndpgfaaDeltaR
import Derived.Test.YtboecnakndpgfaaReg
namespace Go.Proofs.Ytboecnakndpgfaa.D
open Go.RowKit
set_option linter.unusedVariables false
set_option linter.unusedSimpArgs false
theorem _root_.Go.Proofs.Ytboecnakndpgfaa.RWr.drewN {w : World} {a : Nat} {g : Option Nat} {L : List Nat} (h : RWr w a g L) : RWr w.drew a g L := h.keeps (S := fun _ => False) (Keeps.refl _ w).drew (fun h => h) (fun _ _ h => h)
theorem wrap_u64n (n : Int) : IntKind.u64.wrap n = (u64 n : Int) := by rw [IntKind.wrap_u64]; unfold u64; omega
theorem bits_one_one : bitsTo (1 : Int).toNat (1 : Int).toNat (1 : Int).toNat = [1] := by decide
theorem bits_zero_one : bitsTo (0 : Int).toNat (1 : Int).toNat (1 : Int).toNat = [0] := by decide
set_option maxRecDepth 100000 in
set_option maxHeartbeats 1600000 in
theorem rencode_any (w : World) (A : Option Addr) (len c : Nat) (D : Nat → Prop) (f : Nat → Int) (hsl : Sl w D A len (fun j => .int .i64 (f j))) (hf : ∀ j, -9223372036854775808 ≤ f j ∧ f j ≤ 9223372036854775807) (hlen : len ≤ 4096) :
    Calls Try.prog 13 #[.slice A len c] w (EncPost w (pack (encTo f len))) := by
  have HS := Lib.hid (And.intro hsl hf)
  clear hsl hf
  have d0 : decide ((4096 : Int) < len) = false := by simp; omega
  go_enter Try.func13, Try.ntmps13
  go_wp2_with fail
  clear d0
  obtain ⟨x, hx⟩ : ∃ x, x = w.heap.size := ⟨_, rfl⟩
  have hxB : w.heap.size ≤ x := by omega
  have hy1 : RWr (w.alloc (.cells #[.slice none 0 0] 64)) x none [] := ⟨by simp, by simp, .slice none 0 0, rfl, by rw [hx]; exact Blk.fresh _ _ _, ⟨by simp, .inl ⟨rfl, rfl⟩⟩⟩
  have H1 := Lib.hid hy1
  rw [← hx]
  clear hx hy1
  go_loopw [5, 6] (fun s i wr => ∃ (k : Nat) (g : Option Nat), k ≤ len ∧ i = .int .i64 k ∧ s = .int .i64 (st f k) ∧ RWr wr x g (encTo f k) ∧ Keeps (fun _ => False) w wr ∧ (∀ q, g = some q → w.heap.size ≤ q))
    (fun _ i _ => len - (intOf i).toNat)
  case atStart => exact ⟨0, none, Nat.zero_le _, rfl, rfl, H1.out, (Keeps.refl _ _).alloc _, fun _ h => by cases h⟩
  case round =>
    obtain ⟨k, g, hk, rfl, rfl, hxr, hkr, hgr⟩ := hrel
    by_cases hlt : k < len
    · obtain ⟨b, off, hA, hD, hcell⟩ := (HS.out.1.keep (w' := wr) (fun q _ hq => hkr.block q hq (fun h => h))) (by omega)
      have ck : wr.cell? ⟨b, off + k, none⟩ = some (.int .i64 (f k)) := hcell k hlt
      have hcp : 1 ≤ k → wr.cell? ⟨b, off + (k - 1), none⟩ = some (.int .i64 (f (k - 1))) := fun h => hcell (k - 1) (by omega)
      subst hA
      have HR := Lib.hid (And.intro hxr (And.intro hkr (And.intro hgr hcell)))
      clear hxr hkr hgr hcell
      have hlk := encTo_len f k
      rcases Nat.eq_zero_or_pos k with hk0 | hk0
      · subst hk0
        clear hcp
        have e1 := wrap_u64n (f 0)
        have hu := u64_lt (f 0)
        obtain ⟨u, hu'⟩ : ∃ u, u = Go.Proofs.Ytboecnakndpgfaa.D.u64 (f 0) := ⟨_, rfl⟩
        rw [← hu'] at e1 hu
        have HU := Lib.hid (And.intro hu hu')
        clear hu hu' hlk
        rw [show ((0 : Nat) : Int) = 0 from rfl]
        rw [Nat.add_zero] at ck
        go_wp2_with fail
        refine (rput_fit _ _ _ _ _ _ HR.out.1 (by omega) (by have := HU.out.1; omega) (by omega) (by omega) (by simp [encTo])).mono ?_
        rintro e w2 ⟨rfl, g2, hx2, hk2, hm2⟩
        have H2 := Lib.hid (And.intro hx2 (And.intro (keeps_new HR.out.2.1 hk2 hxB HR.out.2.2.1) (moved_new (w0 := w) hm2 HR.out.2.1.size HR.out.2.2.1)))
        clear hx2 hk2 hm2 e1 ck
        go_wp2_with fail
        go_roundw
        case rel =>
          refine ⟨1, g2, by omega, rfl, rfl, ?_, H2.out.2.1, H2.out.2.2⟩
          have := H2.out.1
          rw [show ((u : Int)).toNat = u from rfl, show (64 : Int).toNat = 64 from rfl, HU.out.2] at this
          exact this
        case measure => simp [intOf]; omega
      · obtain ⟨j, rfl⟩ : ∃ j, k = j + 1 := ⟨k - 1, by omega⟩
        have cp := hcp (by omega)
        rw [show j + 1 - 1 = j by omega] at cp
        obtain ⟨r1, r2⟩ := HS.out.2 (j + 1)
        obtain ⟨r3, r4⟩ := HS.out.2 j
        obtain ⟨a, ha⟩ : ∃ a, a = f (j + 1) := ⟨_, rfl⟩
        obtain ⟨p, hp⟩ : ∃ p, p = f j := ⟨_, rfl⟩
        obtain ⟨s, hs⟩ : ∃ s, s = st f (j + 1) := ⟨_, rfl⟩
        rw [← ha] at ck r1 r2
        rw [← hp] at cp r3 r4
        rw [← hs]
        have hsr := st_range f (j + 1)
        rw [← hs] at hsr
        have HV := Lib.hid (And.intro ha (And.intro hp (And.intro hs (And.intro r1 (And.intro r2 (And.intro r3 (And.intro r4 hsr)))))))
        have HC := Lib.hid (And.intro ck cp)
        have hjl : (j : Int) < (len : Int) := by omega
        have ejw : IntKind.i64.wrap ((j : Int) + 1 - 1) = (j : Int) := by rw [IntWalk.i64_in _ (by omega)]; omega
        have ejw2 : (j : Int) + 1 - 1 = (j : Int) := by omega
        have hj1 : (j : Int) + 1 < (len : Int) := by omega
        have hj0 : (0 : Int) ≤ (j : Int) + 1 := by omega
        have ejw3 : IntKind.i64.wrap (j : Int) = (j : Int) := IntWalk.i64_in _ (by omega)
        have ejw4 : ((j : Int)).toNat = j := by omega
        have hj2 : (0 : Int) ≤ (j : Int) := by omega
        clear ha hp hs r1 r2 r3 r4 hsr hcp hk0 ck cp
        go_wp2_with fail
        have hS : (fun w' : World => w'.cell? ⟨b, off + (j + 1), none⟩ = some (.int .i64 a) ∧ w'.cell? ⟨b, off + j, none⟩ = some (.int .i64 p)) (wr.drew) := HC.out
        refine reg_start (fun w' : World => w'.cell? ⟨b, off + (j + 1), none⟩ = some (.int .i64 a) ∧ w'.cell? ⟨b, off + j, none⟩ = some (.int .i64 p)) (by kernel_rfl) hS ?_
        refine reg_take (i := 0) (v := ?_) rfl (by kernel_rfl) (by kernel_rfl) (by kernel_rfl) (fun _ _ _ h => h) (Or.inl ⟨by kernel_rfl, ?_⟩) hS ?_
        rotate_left
        · (intro w' hSw; go_simp <;> with_reducible rfl)
        try simp only [Act.put, List.setIfInBounds_toArray, List.set_cons_zero, List.set_cons_succ]
        refine reg_take (i := 1) (v := ?_) rfl (by kernel_rfl) (by kernel_rfl) (by kernel_rfl) (fun _ _ _ h => h) (Or.inl ⟨by kernel_rfl, ?_⟩) hS ?_
        rotate_left
        · (intro w' hSw; go_simp <;> with_reducible rfl)
        try simp only [Act.put, List.setIfInBounds_toArray, List.set_cons_zero, List.set_cons_succ]
        refine reg_take (i := 2) (v := ?_) rfl (by kernel_rfl) (by kernel_rfl) (by kernel_rfl) (fun _ _ _ h => h) (Or.inl ⟨by kernel_rfl, ?_⟩) hS ?_
        rotate_left
        · (intro w' hSw; go_simp <;> with_reducible rfl)
        try simp only [Act.put, List.setIfInBounds_toArray, List.set_cons_zero, List.set_cons_succ]
        refine reg_take (i := 3) (v := ?_) rfl (by kernel_rfl) (by kernel_rfl) (by kernel_rfl) (fun _ _ _ h => h) (Or.inl ⟨by kernel_rfl, ?_⟩) hS ?_
        rotate_left
        · (intro w' hSw; go_simp <;> with_reducible rfl)
        try simp only [Act.put, List.setIfInBounds_toArray, List.set_cons_zero, List.set_cons_succ]
        refine reg_take (i := 4) (v := ?_) rfl (by kernel_rfl) (by kernel_rfl) (by kernel_rfl) (fun _ _ _ h => h) (Or.inl ⟨by kernel_rfl, ?_⟩) hS ?_
        rotate_left
        · (intro w' hSw; go_simp <;> with_reducible rfl)
        try simp only [Act.put, List.setIfInBounds_toArray, List.set_cons_zero, List.set_cons_succ]
        refine reg_take (i := 5) (v := ?_) rfl (by kernel_rfl) (by kernel_rfl) (by kernel_rfl) (fun _ _ _ h => h) (Or.inl ⟨by kernel_rfl, ?_⟩) hS ?_
        rotate_left
        · (intro w' hSw; go_simp <;> with_reducible rfl)
        try simp only [Act.put, List.setIfInBounds_toArray, List.set_cons_zero, List.set_cons_succ]
        refine reg_take (i := 6) (v := ?_) rfl (by kernel_rfl) (by kernel_rfl) (by kernel_rfl) (fun _ _ _ h => h) (Or.inl ⟨by kernel_rfl, ?_⟩) hS ?_
        rotate_left
        · (intro w' hSw; go_simp <;> with_reducible rfl)
        try simp only [Act.put, List.setIfInBounds_toArray, List.set_cons_zero, List.set_cons_succ]
        refine reg_take (i := 7) (v := ?_) rfl (by kernel_rfl) (by kernel_rfl) (by kernel_rfl) (fun _ _ _ h => h) (Or.inl ⟨by kernel_rfl, ?_⟩) hS ?_
        rotate_left
        · (intro w' hSw; go_simp <;> with_reducible rfl)
        try simp only [Act.put, List.setIfInBounds_toArray, List.set_cons_zero, List.set_cons_succ]
        refine reg_take (i := 8) (v := ?_) rfl (by kernel_rfl) (by kernel_rfl) (by kernel_rfl) (fun _ _ _ h => h) (Or.inl ⟨by kernel_rfl, ?_⟩) hS ?_
        rotate_left
        · (intro w' hSw; go_simp <;> with_reducible rfl)
        try simp only [Act.put, List.setIfInBounds_toArray, List.set_cons_zero, List.set_cons_succ]
        refine reg_call (i := 9) rfl (by kernel_rfl) (fun K hK => ?_)
        have HK := Lib.hid hK
        clear hK
        go_simp
        refine (rsub_any _ _ _ HV.out.2.2.2.1 HV.out.2.2.2.2.1 HV.out.2.2.2.2.2.1 HV.out.2.2.2.2.2.2.1).mono ?_
        rintro e w2 ⟨rfl, rfl⟩
        go_wp2_with fail
        refine HK.out.to (fun w' : World => w'.cell? ⟨b, off + (j + 1), none⟩ = some (.int .i64 a) ∧ w'.cell? ⟨b, off + j, none⟩ = some (.int .i64 p)) (fun _ h => h) (HC.out) ?_
        clear HK hS
        have hS : (fun w' : World => w'.cell? ⟨b, off + (j + 1), none⟩ = some (.int .i64 a) ∧ w'.cell? ⟨b, off + j, none⟩ = some (.int .i64 p)) (wr.drew) := HC.out
        try simp only [Act.put, List.setIfInBounds_toArray, List.set_cons_zero, List.set_cons_succ]
        refine reg_take (i := 10) (v := ?_) rfl (by kernel_rfl) (by kernel_rfl) (by kernel_rfl) (fun _ _ _ h => h) (Or.inl ⟨by kernel_rfl, ?_⟩) hS ?_
        rotate_left
        · (intro w' hSw; go_simp <;> with_reducible rfl)
        try simp only [Act.put, List.setIfInBounds_toArray, List.set_cons_zero, List.set_cons_succ]
        refine wpAnyH_done (by kernel_rfl) ?_ _
        clear hS ejw ejw2 ejw3 ejw4
        obtain ⟨t, ht⟩ : ∃ t, t = sub64 a p := ⟨_, rfl⟩
        have htr := sub64_range a p
        rw [← ht] at htr
        rw [← ht]
        have HT := Lib.hid (And.intro ht htr)
        clear ht htr
        go_wp2_with fail
        refine (rsub_any _ _ _ HT.out.2.1 HT.out.2.2 HV.out.2.2.2.2.2.2.2.1 HV.out.2.2.2.2.2.2.2.2).mono ?_
        rintro e w2 ⟨rfl, rfl⟩
        go_wp2_with fail
        refine (rzig_any _ _ (sub64_range _ _).1 (sub64_range _ _).2).mono ?_
        rintro e w2 ⟨rfl, rfl⟩
        have hzl := zig_lt (sub64_range t s).1 (sub64_range t s).2
        obtain ⟨z, hz⟩ : ∃ z, z = zig (sub64 t s) := ⟨_, rfl⟩
        rw [← hz] at hzl
        rw [← hz]
        have HZ := Lib.hid (And.intro hz hzl)
        clear hz hzl
        go_wp2_with fail
        refine (class_any _ _).mono ?_
        rintro e w2 ⟨rfl, rfl⟩
        have hcl := cls_le z
        obtain ⟨q, hq⟩ : ∃ q, q = cls z := ⟨_, rfl⟩
        rw [← hq] at hcl
        rw [← hq]
        have hwq := wd_le hcl
        obtain ⟨n, hn⟩ : ∃ n, n = wd q := ⟨_, rfl⟩
        rw [← hn] at hwq
        rw [← hn]
        have HQ := Lib.hid (And.intro hq hn)
        clear hq hn
        obtain ⟨L, hL⟩ : ∃ L, L = encTo f (j + 1) := ⟨_, rfl⟩
        rw [← hL] at hlk
        have HL := Lib.hid hL
        clear hL
        obtain ⟨wo, rfl⟩ : ∃ wo : World, wo = wr := ⟨_, rfl⟩
        go_wp2_with fail
        go_loopw [11] (fun i wq => ∃ (m : Nat) (g1 : Option Nat), m ≤ q ∧ i = .int .i64 m ∧ RWr wq x g1 (L ++ List.replicate m 1) ∧ Keeps (fun _ => False) w wq ∧ (∀ q, g1 = some q → w.heap.size ≤ q))
          (fun i _ => q - (intOf i).toNat)
        case atStart =>
          refine ⟨0, g, Nat.zero_le _, rfl, ?_, HR.out.2.1.drew, HR.out.2.2.1⟩
          have := HR.out.1
          rw [HL.out]
          simpa using this.drewN
        case round =>
          obtain ⟨m, g1, hm, rfl, hx1, hk1, hg1⟩ := hrel
          have HI := Lib.hid (And.intro hx1 (And.intro hk1 hg1))
          clear hx1 hk1 hg1
          by_cases hmq : m < q
          · go_wp2_with fail
            refine (rput_fit _ _ _ _ _ _ HI.out.1 (by omega) (by omega) (by omega) (by omega) (by rw [List.length_append, List.length_replicate]; omega)).mono ?_
            rintro e w2 ⟨rfl, g2, hx2, hk2, hm2⟩
            rw [bits_one_one, List.append_assoc, ← List.replicate_succ'] at hx2
            have H2 := Lib.hid (And.intro hx2 (And.intro (keeps_new HI.out.2.1 hk2 hxB HI.out.2.2) (moved_new (w0 := w) hm2 HI.out.2.1.size HI.out.2.2)))
            clear hx2 hk2 hm2
            go_wp2_with fail
            go_roundw
            case rel => exact ⟨m + 1, g2, by omega, by go_num, H2.out.1, H2.out.2.1, H2.out.2.2⟩
            case measure => simp [intOf]; omega
          · obtain rfl : m = q := by omega
            by_cases h4 : m < 4
            · go_wp2_with fail
              refine (rput_fit _ _ _ _ _ _ HI.out.1 (by omega) (by omega) (by omega) (by omega) (by rw [List.length_append, List.length_replicate]; omega)).mono ?_
              rintro e w2 ⟨rfl, g2, hx2, hk2, hm2⟩
              rw [bits_zero_one] at hx2
              have H2 := Lib.hid (And.intro hx2 (And.intro (keeps_new HI.out.2.1 hk2 hxB HI.out.2.2) (moved_new (w0 := w) hm2 HI.out.2.1.size HI.out.2.2)))
              clear hx2 hk2 hm2
              go_wp2_with fail
              refine (rput_fit _ _ _ _ _ _ H2.out.1 (by omega) (by have := HZ.out.2; omega) (by omega) (by omega) (by simp; omega)).mono ?_
              rintro e w3 ⟨rfl, g3, hx3, hk3, hm3⟩
              have H3 := Lib.hid (And.intro hx3 (And.intro (keeps_new H2.out.2.1 hk3 hxB H2.out.2.2) (moved_new (w0 := w) hm3 H2.out.2.1.size H2.out.2.2)))
              clear hx3 hk3 hm3
              go_wp2_with fail
              go_roundw
              case rel =>
                obtain ⟨ha, hp, hs, -⟩ := HV.out
                have ht := HT.out.1
                refine ⟨j + 2, g3, by omega, by go_num, by rw [ht, ha, hp]; rfl, ?_, H3.out.2.1, H3.out.2.2⟩
                have h3 := H3.out.1
                have e : encTo f (j + 2) = L ++ List.replicate m 1 ++ [0] ++ bitsTo ((z : Int)).toNat ((n : Int)).toNat ((n : Int)).toNat := by
                  show encTo f (j + 1) ++ dbits (zig (sub64 (sub64 (f (j + 1)) (f j)) (st f (j + 1)))) = _
                  rw [← ha, ← hp, ← hs, ← ht, ← HZ.out.1, ← HL.out, dbits_ref, ← HQ.out.1, ← HQ.out.2, if_pos h4]
                  simp
                rw [e]
                exact h3
              case measure => simp [intOf]; omega
            · go_wp2_with fail
              refine (rput_fit _ _ _ _ _ _ HI.out.1 (by omega) (by have := HZ.out.2; omega) (by omega) (by omega) (by simp; omega)).mono ?_
              rintro e w3 ⟨rfl, g3, hx3, hk3, hm3⟩
              have H3 := Lib.hid (And.intro hx3 (And.intro (keeps_new HI.out.2.1 hk3 hxB HI.out.2.2) (moved_new (w0 := w) hm3 HI.out.2.1.size HI.out.2.2)))
              clear hx3 hk3 hm3
              go_wp2_with fail
              go_roundw
              case rel =>
                obtain ⟨ha, hp, hs, -⟩ := HV.out
                have ht := HT.out.1
                refine ⟨j + 2, g3, by omega, by go_num, by rw [ht, ha, hp]; rfl, ?_, H3.out.2.1, H3.out.2.2⟩
                have h3 := H3.out.1
                have e : encTo f (j + 2) = L ++ List.replicate m 1 ++ bitsTo ((z : Int)).toNat ((n : Int)).toNat ((n : Int)).toNat := by
                  show encTo f (j + 1) ++ dbits (zig (sub64 (sub64 (f (j + 1)) (f j)) (st f (j + 1)))) = _
                  rw [← ha, ← hp, ← hs, ← ht, ← HZ.out.1, ← HL.out, dbits_ref, ← HQ.out.1, ← HQ.out.2, if_neg h4]
                  simp
                rw [e]
                exact h3
              case measure => simp [intOf]; omega
    · obtain rfl : k = len := by omega
      have HR := Lib.hid (And.intro hxr hkr)
      clear hxr hkr hgr
      go_wp2_with fail
      refine (bytes_rwr _ _ _ _ HR.out.1).mono ?_
      rintro e w2 ⟨A2, c2, rfl, ho2, hk2⟩
      have H2 := Lib.hid (And.intro (own_base ho2 HR.out.2.size) (HR.out.2.trans' hk2))
      clear ho2 hk2
      go_wp2_with fail
      go_ret2
      exact ⟨A2, c2, rfl, H2.out.1, H2.out.2⟩
end Go.Proofs.Ytboecnakndpgfaa.D
