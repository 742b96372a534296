/-
  Contracts of tidemillref02.Writer's methods.
-/
import Derived.Test.YtboecnakndpgfaaBitsBy
namespace Go.Proofs.Ytboecnakndpgfaa
open Go.RowKit
def intV (b : Nat) : Value := .int .i64 (b : Int)
theorem intElem : Elem1 Try.prog 32 3 (.int .i64 0) 8 := Elem1.mk' Try.underlying32 rfl (by kernel_rfl)
/-- A tidemillref02.Writer at block a, its list in the block g: its bits. -/
structure RWr (w : World) (a : Nat) (g : Option Nat) (L : List Nat) : Prop where
  len : L.length ≤ 8388608
  bit : ∀ j, L.getD j 0 < 2
  blk : ∃ v, v.ownBlock = g ∧ Blk w a 64 #[v] ∧ w.ownsRow 0 3 1 v L.length (L.map intV)
theorem RWr.keeps {S : Nat → Prop} {w w' : World} {a : Nat} {g : Option Nat} {L : List Nat} (h : RWr w a g L) (hk : Keeps S w w') (ha : ¬ S a) (hg : ∀ k, g = some k → ¬ S k) : RWr w' a g L := by
  obtain ⟨h1, h2, v, hv, hb, ho⟩ := h
  exact ⟨h1, h2, v, hv, hb.keeps hk ha, own_keeps ho hk (fun k hk => hg k (by rw [← hv, hk]))⟩
theorem RWr.lt {w : World} {a : Nat} {g : Option Nat} {L : List Nat} (h : RWr w a g L) : a < w.heap.size := by
  obtain ⟨_, _, v, hv, hb, ho⟩ := h
  exact hb.lt
theorem RWr.glt {w : World} {a k : Nat} {L : List Nat} (h : RWr w a (some k) L) : k < w.heap.size := by
  obtain ⟨_, _, v, hv, hb, ho⟩ := h
  exact (ho.lt k hv).2
theorem RWr.ne {w : World} {a p : Nat} {g : Option Nat} {L : List Nat} {t : TypeId} {cs : Array Value} (h : RWr w a g L) (hp : Blk w p t cs) (h1 : 64 ≠ t) (h2 : 3 ≠ t) : p ≠ a ∧ some p ≠ g := by
  obtain ⟨_, _, v, hv, hb, ho⟩ := h
  exact ⟨fun e => hb.ne hp h1 e.symm, fun e => own_ne ho hp h2 (by rw [hv, e])⟩
def RPutPost (w : World) (a : Nat) (g : Option Nat) (L' : List Nat) (r : Int) (e : Ending) (w' : World) : Prop :=
  e = .returned (.int .i64 r) ∧ ∃ g', RWr w' a g' L' ∧ Keeps (fun k => k = a ∨ some k = g) w w' ∧ Moved w g g'
theorem rwr_snoc {w w1 : World} {a : Nat} {g : Option Nat} {L : List Nat} {v v1 : Value} {o : Obj} {b : Nat} (hb : b < 2) (hlt : L.length < 8388608) (hbit : ∀ j, L.getD j 0 < 2) (hv : v.ownBlock = g) (hblk : Blk w a 64 #[v]) (hown : w.ownsRow 0 3 1 v L.length (L.map intV))
    (hg1 : (w.alloc o).grownBy w1 v.ownBlock) (hown1 : w1.ownsRow 0 3 1 v1 (L.length + 1) (L.map intV ++ [intV b])) (hat1 : v1.ownBlock = v.ownBlock ∨ v1.ownBlock = some (w.heap.size + 1)) :
    Blk w1 a 64 #[v] ∧ ∃ g', RWr (w1.setCell ⟨a, 0, none⟩ v1) a g' (L ++ [b]) ∧ Keeps (fun k => k = a ∨ some k = g) w (w1.setCell ⟨a, 0, none⟩ v1) ∧ Moved w g g' := by
  have hka : Keeps (fun k => some k = g) w w1 := ((Keeps.refl _ w).alloc o).grown hg1 (fun k hk _ => by rw [← hk, hv])
  have hb1 : Blk w1 a 64 #[v] := hblk.keeps hka (fun e => own_ne hown hblk (by decide) (by rw [hv, e]))
  refine ⟨hb1, v1.ownBlock, ⟨by simp; omega, bits_snoc hbit hb, v1, rfl, ?_, ?_⟩, ?_, ?_⟩
  · have := hb1.set 0 v1
    simpa using this
  · have := own_setCell_other (i := 0) (u := v1) hown1 hb1 (by decide)
    simpa using this
  · exact (hka.mono (fun k _ h => .inr h)).setCell (fun _ => .inl rfl) _
  · rcases hat1 with h | h
    · exact .inl (h.trans hv)
    · exact .inr ⟨_, h, by omega⟩

set_option maxHeartbeats 400000 in
theorem rput_arg (w : World) (a : Nat) (g : Option Nat) (L : List Nat) (v n : Int) (h : RWr w a g L) (hn : n < 0 ∨ 64 < n) :
    Calls Try.prog 30 #[.pointer (some ⟨a, 0, none⟩), .int .u64 v, .int .i64 n] w (RPutPost w a g L 2) := by
  rcases hn with hn | hn
  · go_enter Try.func30, Try.ntmps30
    go_wp2
    go_ret
    exact ⟨rfl, g, h, Keeps.refl _ _, Moved.refl _ _⟩
  · have hn' : ¬ n < 0 := by omega
    go_enter Try.func30, Try.ntmps30
    go_wp2
    go_ret
    exact ⟨rfl, g, h, Keeps.refl _ _, Moved.refl _ _⟩

set_option maxHeartbeats 400000 in
theorem rput_big (w : World) (a : Nat) (g : Option Nat) (L : List Nat) (v n : Int) (h : RWr w a g L) (h0 : 0 ≤ n) (h64 : n ≤ 64) (hn : 8388608 - (L.length : Int) < n) :
    Calls Try.prog 30 #[.pointer (some ⟨a, 0, none⟩), .int .u64 v, .int .i64 n] w (RPutPost w a g L 3) := by
  have HH := Lib.hid h
  obtain ⟨hlen, _, vv, -, hb, ho⟩ := h
  obtain ⟨A, c, rfl, -, -⟩ := own_form ho
  have c0 := hb.cell 0
  simp only [List.getElem?_toArray, List.getElem?_cons_zero] at c0
  clear hb ho
  go_enter Try.func30, Try.ntmps30
  go_wp2
  go_ret
  exact ⟨rfl, g, HH.out, Keeps.refl _ _, Moved.refl _ _⟩

theorem wrap_bit (v m : Nat) (hv : v < 18446744073709551616) : wrap64 (bits .and .u64 ((v : Int) / 2 ^ m) 1) = ((v / 2 ^ m % 2 : Nat) : Int) := by
  rw [and_one_u64' v m hv]
  have : v / 2 ^ m % 2 < 2 := Nat.mod_lt _ (by omega)
  exact IntWalk.wrap64_in _ ⟨by omega, by omega⟩
set_option maxHeartbeats 800000 in
theorem rput_ok (w : World) (a : Nat) (g : Option Nat) (L : List Nat) (v n : Nat) (h : RWr w a g L) (hv : v < 18446744073709551616) (h64 : n ≤ 64) (hn : (n : Int) ≤ 8388608 - (L.length : Int)) :
    Calls Try.prog 30 #[.pointer (some ⟨a, 0, none⟩), .int .u64 v, .int .i64 n] w (RPutPost w a g (L ++ bitsTo v n n) 0) := by
  have HH := Lib.hid h
  obtain ⟨hlen, _, vv, -, hb, ho⟩ := h
  obtain ⟨A, c, rfl, -, -⟩ := own_form ho
  have c0 := hb.cell 0
  simp only [List.getElem?_toArray, List.getElem?_cons_zero] at c0
  clear hb ho
  have d1 : decide ((n : Int) < 0) = false := by simp
  have d2 : decide ((64 : Int) < n) = false := by simp; omega
  have d3 : decide (8388608 - (L.length : Int) < n) = false := by simp; omega
  go_enter Try.func30, Try.ntmps30
  go_wp2
  clear d1 d2 d3 c0
  go_loopw [7] (fun i wr => ∃ (k : Nat) (g' : Option Nat), k ≤ n ∧ i = .int .i64 ((n : Int) - 1 - k) ∧ RWr wr a g' (L ++ bitsTo v n k) ∧ Keeps (fun x => x = a ∨ some x = g) w wr ∧ Moved w g g')
    (fun i _ => (intOf i + 1).toNat)
  case atStart => exact ⟨0, g, by omega, by simp, by simpa [bitsTo_zero] using HH.out, Keeps.refl _ _, Moved.refl _ _⟩
  case round =>
    obtain ⟨k, g', hk, rfl, hw, hkp, hmv⟩ := hrel
    by_cases hlt : k < n
    · obtain ⟨m, hm⟩ : ∃ m : Nat, (n : Int) - 1 - k = (m : Int) := ⟨n - 1 - k, by omega⟩
      rw [hm]
      have hm64 : m < 64 := by omega
      have HM := Lib.hid hm
      clear hm
      obtain ⟨M, hM⟩ : ∃ M, M = L ++ bitsTo v n k := ⟨_, rfl⟩
      have hML : M.length = L.length + k := by rw [hM, List.length_append, bitsTo_length]
      rw [← hM] at hw
      have HMM := Lib.hid (And.intro hM hML)
      have hMlt : M.length < 8388608 := by omega
      clear hM hML
      obtain ⟨_, hbit, vv, hvv, hb, ho⟩ := hw
      obtain ⟨A1, c1, hv1, -, -⟩ := own_form ho
      rw [hv1] at hb ho hvv
      clear hv1
      have c0 := hb.cell 0
      simp only [List.getElem?_toArray, List.getElem?_cons_zero] at c0
      have HB := Lib.hid (And.intro hvv (And.intro hb (And.intro ho hbit)))
      clear hvv hb ho hbit
      go_wp2_with (at_builtin; refine wpList_append_sl (f := fun _ => intV (v / 2 ^ m % 2)) (D := fun k => k = wr.heap.size) (base := 0) (n := M.length) (xs := M.map intV) intElem rfl (.tmp 32) (.tmp 39) rfl rfl rfl ?hown ?hsl ?h1 ?h63 ?hby ?hbase ?_)
      case hown => exact HB.out.2.2.1.alloc _
      case hsl =>
        have e1 := wrap_bit v m hv
        rw [e1]
        exact sl_one _ _ _
      case h1 => intro j _; rfl
      case h63 => unfold maxLen; omega
      case hby => omega
      case hbase => simp
      intro v1 w1 hown1 hg1 hat1
      obtain ⟨A2, c2, hv2, -, -⟩ := own_form hown1
      rw [hv2]
      rw [hv2] at hown1 hat1
      clear hv2
      obtain ⟨hvv, hb, ho, hbit⟩ := HB.out
      obtain ⟨hb1, g2, hw2, hk2, hm2⟩ := rwr_snoc (Nat.mod_lt _ (by omega)) hMlt hbit hvv hb ho hg1 hown1 hat1
      have hkw : Keeps (fun x => x = a ∨ some x = g) w (w1.setCell ⟨a, 0, none⟩ (.slice A2 (M.length + 1) c2)) := hkp.trans hk2 (fun x hx e => by
        rcases e with e | e
        · exact .inl e
        · rcases hmv with h | ⟨y, h, hy⟩
          · exact .inr (e.trans h)
          · rw [h] at e; injection e with e; omega)
      have hmv1 : Moved w g g2 := hmv.trans hkp.size hm2
      rw [HMM.out.1, show L ++ bitsTo v n k ++ [v / 2 ^ m % 2] = L ++ bitsTo v n (k + 1) from by rw [bitsTo_succ, List.append_assoc, show n - 1 - k = m from by have := HM.out; omega]] at hw2
      rw [HMM.out.1] at hkw
      have f0 := hb1.frozen 0
      have c00 := hb1.cell 0
      simp only [List.getElem?_toArray, List.getElem?_cons_zero] at c00
      have HR := Lib.hid (And.intro hw2 (And.intro hkw hmv1))
      clear hown1 hg1 hat1 hvv hb ho hbit hb1 hw2 hk2 hm2 hkw hmv1 c0 hkp hmv HB
      go_wp2_with fail
      go_roundw
      case rel =>
        obtain ⟨hw2, hkw, hmv1⟩ := HR.out
        rw [HMM.out.1]
        exact ⟨k + 1, g2, by omega, by have := HM.out; go_num, hw2, hkw, hmv1⟩
      case measure => simp [intOf]
    · obtain rfl : k = n := by omega
      have e1 : (k : Int) - 1 - k = -1 := by omega
      rw [e1]
      go_wp2
      go_ret
      exact ⟨rfl, g', hw, hkp, hmv⟩

theorem rput_any (w : World) (a : Nat) (g : Option Nat) (L : List Nat) (v n : Int) (h : RWr w a g L) (h0 : 0 ≤ v) (hv : v < 18446744073709551616) :
    Calls Try.prog 30 #[.pointer (some ⟨a, 0, none⟩), .int .u64 v, .int .i64 n] w (RPutPost w a g (putL L v.toNat n) (putE L.length n)) := by
  obtain ⟨v, rfl⟩ := Int.eq_ofNat_of_zero_le h0
  by_cases h1 : 0 ≤ n ∧ n ≤ 64
  · by_cases h2 : n ≤ 8388608 - (L.length : Int)
    · obtain ⟨m, rfl⟩ := Int.eq_ofNat_of_zero_le h1.1
      have e1 : putE L.length m = 0 := by unfold putE; rw [if_pos h1, if_pos h2]
      have e2 : putL L (Int.toNat v) m = L ++ bitsTo v m m := by unfold putL; rw [if_pos ⟨h1.1, h1.2, h2⟩]; simp
      rw [e1, e2]
      exact rput_ok w a g L v m h (by omega) (by omega) h2
    · have e1 : putE L.length n = 3 := by unfold putE; rw [if_pos h1, if_neg h2]
      have e2 : putL L (Int.toNat v) n = L := by unfold putL; rw [if_neg (by omega)]
      rw [e1, e2]
      exact rput_big w a g L v n h h1.1 h1.2 (by omega)
  · have e1 : putE L.length n = 2 := by unfold putE; rw [if_neg h1]
    have e2 : putL L (Int.toNat v) n = L := by unfold putL; rw [if_neg (by omega)]
    rw [e1, e2]
    exact rput_arg w a g L v n h (by omega)
end Go.Proofs.Ytboecnakndpgfaa
