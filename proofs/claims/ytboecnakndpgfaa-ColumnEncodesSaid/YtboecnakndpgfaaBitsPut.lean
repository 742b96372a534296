/-
  Contracts of bits.Writer's Put, Len and Bytes.
-/
import Derived.Test.YtboecnakndpgfaaBitsWr
import Derived.Laws.CopyOwn
namespace Go.Proofs.Ytboecnakndpgfaa
open Go.RowKit
theorem func_nil_wr (w : World) (a : Nat) : (binOp .eql 70 (.func (.func 39) #[.pointer (some ⟨a, 0, none⟩)] #[]) .nilFunc).run Try.prog w = .ok (.bool false) w := by kernel_rfl
set_option maxHeartbeats 400000 in
theorem none_wr (w : World) (a : Nat) (g : Option Nat) (L : List Nat) (h : Wr w a g L) :
    Calls Try.prog 40 #[.pointer (some ⟨a, 0, none⟩)] w fun e w' => e = .returned (.bool false) ∧ w = w' := by
  obtain ⟨v, hv, hblk, hown⟩ := h.blk
  have c0 := hblk.cell 0
  simp [oneOf] at c0
  clear hv hblk hown h
  have hfn := fun w => func_nil_wr w a
  go_enter Try.func40, Try.ntmps40
  go_wp2
  go_ret
  exact ⟨rfl, rfl⟩

set_option maxHeartbeats 400000 in
theorem at_any (w : World) (p : Nat) (i : Nat) (v : Nat) (hv : v < 18446744073709551616) (h : Blk w p 34 #[.int .u64 v]) (hi : i < 64) :
    Calls Try.prog 41 #[.int .i64 i, .pointer (some ⟨p, 0, none⟩)] w fun e w' => e = .returned (.int .u64 (v / 2 ^ i % 2 : Nat)) ∧ w' = w := by
  have c0 := h.cell 0
  simp at c0
  clear h
  go_enter Try.func41, Try.ntmps41
  go_wp2
  go_ret
  exact ⟨ret_int (and_one_u64' v i hv), rfl⟩

theorem Wr.keeps {S : Nat → Prop} {w w' : World} {a : Nat} {g : Option Nat} {L : List Nat} (h : Wr w a g L) (hk : Keeps S w w') (ha : ¬ S a) (hg : ∀ k, g = some k → ¬ S k) : Wr w' a g L := by
  obtain ⟨h1, h2, v, hv, hb, ho⟩ := h
  exact ⟨h1, h2, v, hv, hb.keeps hk ha, own_keeps ho hk (fun k hk => hg k (by rw [← hv, hk]))⟩
theorem Wr.drewN {w : World} {a : Nat} {g : Option Nat} {L : List Nat} (h : Wr w a g L) (n : Nat) : Wr (w.drewN n) a g L := by
  obtain ⟨h1, h2, v, hv, hb, ho⟩ := h
  exact ⟨h1, h2, v, hv, hb, ho⟩
theorem Wr.ne {w : World} {a p : Nat} {g : Option Nat} {L : List Nat} {t : TypeId} {cs : Array Value} (h : Wr w a g L) (hp : Blk w p t cs) (h1 : 72 ≠ t) (h2 : 5 ≠ t) : p ≠ a ∧ some p ≠ g := by
  obtain ⟨_, _, v, hv, hb, ho⟩ := h
  exact ⟨fun e => hb.ne hp h1 e.symm, fun e => own_ne ho hp h2 (by rw [hv, e])⟩
theorem Wr.lt {w : World} {a : Nat} {g : Option Nat} {L : List Nat} (h : Wr w a g L) : a < w.heap.size := by
  obtain ⟨_, _, v, hv, hb, ho⟩ := h
  exact hb.lt
theorem Wr.glt {w : World} {a k : Nat} {L : List Nat} (h : Wr w a (some k) L) : k < w.heap.size := by
  obtain ⟨_, _, v, hv, hb, ho⟩ := h
  exact (ho.lt k hv).2
/-- The writer's bytes lie where they lay, or in new memory. -/
def Moved (w : World) (g g' : Option Nat) : Prop := g' = g ∨ ∃ k, g' = some k ∧ w.heap.size ≤ k
theorem Moved.refl (w : World) (g : Option Nat) : Moved w g g := .inl rfl
theorem Moved.trans {w w1 : World} {g g1 g2 : Option Nat} (h : Moved w g g1) (hs : w.heap.size ≤ w1.heap.size) (k : Moved w1 g1 g2) : Moved w g g2 := by
  rcases k with rfl | ⟨x, rfl, hx⟩
  · exact h
  · exact .inr ⟨x, rfl, by omega⟩
def PutPost (w : World) (a : Nat) (g : Option Nat) (L' : List Nat) (r : Int) (e : Ending) (w' : World) : Prop :=
  e = .returned (.int .i64 r) ∧ ∃ g', Wr w' a g' L' ∧ Keeps (fun k => k = a ∨ some k = g) w w' ∧ Moved w g g'

set_option maxHeartbeats 400000 in
theorem put_arg (w : World) (a : Nat) (g : Option Nat) (L : List Nat) (v n : Int) (h : Wr w a g L) (hn : n < 0 ∨ 64 < n) :
    Calls Try.prog 19 #[.pointer (some ⟨a, 0, none⟩), .int .u64 v, .int .i64 n] w (PutPost w a g L 2) := by
  have h1 : Wr (w.alloc (.cells #[.int .u64 v] 34)) a g L := h.keeps (S := fun _ => False) ((Keeps.refl _ _).alloc _) (fun h => h) (fun _ _ h => h)
  rcases hn with hn | hn
  · go_enter Try.func19, Try.ntmps19
    go_wp2_with fail
    refine (none_wr _ _ _ _ h1).mono ?_
    rintro e w' ⟨rfl, rfl⟩
    go_wp2_with fail
    go_ret
    exact ⟨rfl, g, h1, (Keeps.refl _ _).alloc _, Moved.refl _ _⟩
  · have hn' : ¬ n < 0 := by omega
    go_enter Try.func19, Try.ntmps19
    go_wp2_with fail
    refine (none_wr _ _ _ _ h1).mono ?_
    rintro e w' ⟨rfl, rfl⟩
    go_wp2_with fail
    go_ret
    exact ⟨rfl, g, h1, (Keeps.refl _ _).alloc _, Moved.refl _ _⟩

set_option maxHeartbeats 400000 in
theorem put_big (w : World) (a : Nat) (g : Option Nat) (L : List Nat) (v n : Int) (h : Wr w a g L) (h0 : 0 ≤ n) (h64 : n ≤ 64) (hn : 8388608 - (L.length : Int) < n) :
    Calls Try.prog 19 #[.pointer (some ⟨a, 0, none⟩), .int .u64 v, .int .i64 n] w (PutPost w a g L 3) := by
  have h1 : Wr (w.alloc (.cells #[.int .u64 v] 34)) a g L := h.keeps (S := fun _ => False) ((Keeps.refl _ _).alloc _) (fun h => h) (fun _ _ h => h)
  have hlen := h.len
  obtain ⟨_, _, vv, -, hb, -⟩ := h1
  have c2 := hb.cell 2
  simp only [List.getElem?_toArray, List.getElem?_cons_succ, List.getElem?_cons_zero] at c2
  clear hb
  have h1 : Wr (w.alloc (.cells #[.int .u64 v] 34)) a g L := h.keeps (S := fun _ => False) ((Keeps.refl _ _).alloc _) (fun h => h) (fun _ _ h => h)
  go_enter Try.func19, Try.ntmps19
  go_wp2_with fail
  refine (none_wr _ _ _ _ h1).mono ?_
  rintro e w' ⟨rfl, rfl⟩
  go_wp2_with fail
  go_ret
  exact ⟨rfl, g, h1, (Keeps.refl _ _).alloc _, Moved.refl _ _⟩

set_option maxHeartbeats 800000 in
theorem put_ok (w : World) (a : Nat) (g : Option Nat) (L : List Nat) (v n : Nat) (h : Wr w a g L) (hv : v < 18446744073709551616) (h64 : n ≤ 64) (hn : (n : Int) ≤ 8388608 - (L.length : Int)) :
    Calls Try.prog 19 #[.pointer (some ⟨a, 0, none⟩), .int .u64 v, .int .i64 n] w (PutPost w a g (L ++ bitsTo v n n) 0) := by
  have h1 : Wr (w.alloc (.cells #[.int .u64 v] 34)) a g L := h.keeps (S := fun _ => False) ((Keeps.refl _ _).alloc _) (fun h => h) (fun _ _ h => h)
  have hlen := h.len
  obtain ⟨_, _, vv, -, hb, -⟩ := h1
  have c2 := hb.cell 2
  simp only [List.getElem?_toArray, List.getElem?_cons_succ, List.getElem?_cons_zero] at c2
  clear hb
  have h1 : Wr (w.alloc (.cells #[.int .u64 v] 34)) a g L := h.keeps (S := fun _ => False) ((Keeps.refl _ _).alloc _) (fun h => h) (fun _ _ h => h)
  have d1 : decide ((n : Int) < 0) = false := by simp
  have d2 : decide ((64 : Int) < n) = false := by simp; omega
  have d3 : decide (8388608 - (L.length : Int) < n) = false := by simp; omega
  go_enter Try.func19, Try.ntmps19
  go_wp2_with fail
  refine (none_wr _ _ _ _ h1).mono ?_
  rintro e w' ⟨rfl, rfl⟩
  go_wp2_with fail
  clear d1 d2 d3 c2
  go_loopw [8] (fun i wr => ∃ (k : Nat) (g' : Option Nat), k ≤ n ∧ i = .int .i64 ((n : Int) - 1 - k) ∧ Wr wr a g' (L ++ bitsTo v n k) ∧ Blk wr w.heap.size 34 #[.int .u64 v] ∧ Keeps (fun x => x = a ∨ some x = g) w wr ∧ Moved w g g')
    (fun i _ => (intOf i + 1).toNat)
  case atStart => exact ⟨0, g, by omega, by simp, by simpa [bitsTo_zero] using h1, Blk.fresh _ _ _, (Keeps.refl _ _).alloc _, Moved.refl _ _⟩
  case round =>
    obtain ⟨k, g', hk, rfl, hw, hbox, hkp, hmv⟩ := hrel
    clear h1
    by_cases hlt : k < n
    · obtain ⟨m, hm⟩ : ∃ m : Nat, (n : Int) - 1 - k = (m : Int) := ⟨n - 1 - k, by omega⟩
      rw [hm]
      have hm64 : m < 64 := by omega
      have HM := Lib.hid hm
      clear hm
      have HW := Lib.hid hw
      obtain ⟨_, _, vv, -, hb, -⟩ := hw
      have c0 := hb.cell 0
      simp [oneOf] at c0
      clear hb
      go_wp2_with fail
      go_still_tail 7, (by kernel_rfl)
      still_call (at_any wr.drew w.heap.size m v hv hbox.drew (by have := HM.out; omega))
      refine wpStill_nil ?_
      change wpList _ _ _ _ _ wr.drew
      go_wp2_with fail
      refine (one_any wr.drew a g' _ _ (HW.out.drewN 1) (Nat.mod_lt _ (by omega)) (by have := HM.out; rw [List.length_append, bitsTo_length]; omega)).mono ?_
      rintro e w1 ⟨rfl, g2, hw1, hk1, hm1⟩
      have hbox1 : Blk w1 w.heap.size 34 #[.int .u64 v] := hbox.drew.keeps hk1 (fun e => by
        have := Wr.ne HW.out hbox (by decide) (by decide)
        rcases e with e | e
        · exact this.1 e
        · exact this.2 e)
      have hkw : Keeps (fun x => x = a ∨ some x = g) w w1 := (hkp.drew).trans hk1 (fun x hx e => by
        rcases e with e | e
        · exact .inl e
        · rcases hmv with h | ⟨y, h, hy⟩
          · exact .inr (e.trans h)
          · rw [h] at e; injection e with e; omega)
      have hmv1 : Moved w g g2 := hmv.trans (show w.heap.size ≤ wr.drew.heap.size from hkp.size) hm1
      rw [show L ++ bitsTo v n k ++ [v / 2 ^ m % 2] = L ++ bitsTo v n (k + 1) from by rw [bitsTo_succ, List.append_assoc, show n - 1 - k = m from by have := HM.out; omega]] at hw1
      clear hk1 hm1 hbox c0 hkp hmv
      go_wp2_with fail
      go_roundw
      case rel => exact ⟨k + 1, g2, by omega, by have := HM.out; go_num, hw1, hbox1, hkw, hmv1⟩
      case measure => simp [intOf]
    · obtain rfl : k = n := by omega
      have e1 : (k : Int) - 1 - k = -1 := by omega
      rw [e1]
      go_wp2_with fail
      go_ret
      exact ⟨rfl, g', hw, hkp, hmv⟩

theorem put_any (w : World) (a : Nat) (g : Option Nat) (L : List Nat) (v n : Int) (h : Wr w a g L) (h0 : 0 ≤ v) (hv : v < 18446744073709551616) :
    Calls Try.prog 19 #[.pointer (some ⟨a, 0, none⟩), .int .u64 v, .int .i64 n] w (PutPost w a g (putL L v.toNat n) (putE L.length n)) := by
  obtain ⟨v, rfl⟩ := Int.eq_ofNat_of_zero_le h0
  by_cases h1 : 0 ≤ n ∧ n ≤ 64
  · by_cases h2 : n ≤ 8388608 - (L.length : Int)
    · obtain ⟨m, rfl⟩ := Int.eq_ofNat_of_zero_le h1.1
      have e1 : putE L.length m = 0 := by unfold putE; rw [if_pos h1, if_pos h2]
      have e2 : putL L (Int.toNat v) m = L ++ bitsTo v m m := by unfold putL; rw [if_pos ⟨h1.1, h1.2, h2⟩]; simp
      rw [e1, e2]
      exact put_ok w a g L v m h (by omega) (by omega) h2
    · have e1 : putE L.length n = 3 := by unfold putE; rw [if_pos h1, if_neg h2]
      have e2 : putL L (Int.toNat v) n = L := by unfold putL; rw [if_neg (by omega)]
      rw [e1, e2]
      exact put_big w a g L v n h h1.1 h1.2 (by omega)
  · have e1 : putE L.length n = 2 := by unfold putE; rw [if_neg h1]
    have e2 : putL L (Int.toNat v) n = L := by unfold putL; rw [if_neg (by omega)]
    rw [e1, e2]
    exact put_arg w a g L v n h (by omega)

end Go.Proofs.Ytboecnakndpgfaa
