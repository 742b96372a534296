/-
  Contracts of bits.Reader's and tidemillref02.Reader's methods.
-/
import Derived.Test.YtllmdgbaidkmfaaRows
import Derived.Test.YtllmdgbaidkmfaaArgs
import Derived.Test.YtllmdgbaidkmfaaBitPl
import Derived.WalkKit
import Derived.WalkSpells
import Derived.WalkLawsBesides
import Derived.Deep.QuietTactic
import Derived.BigQuiet
import Derived.Outline
import Derived.Lib.Hide
namespace Go.Proofs.Ytllmdgbaidkmfaa
open Go.RowKit
/-- A bits.Reader at block r: its bytes lie in a block of D. -/
structure Rd (w : World) (r : Nat) (D : Nat → Prop) (bs : List Nat) (a en : Nat) : Prop where
  small : bs.length ≤ 1099511627776
  le : a ≤ en
  en_le : en ≤ 8 * bs.length
  notIn : ¬ D r
  byte : ∀ j, bs.getD j 0 < 256
  blk : ∃ A c, Blk w r 68 #[.bool true, .slice A bs.length c, .int .i64 a, .int .i64 en] ∧ Sl w D A bs.length (byteC bs)

set_option maxHeartbeats 400000 in
theorem get_arg (w : World) (r : Nat) (D : Nat → Prop) (bs : List Nat) (a en : Nat) (n : Int) (h : Rd w r D bs a en) (hn : n < 0 ∨ 64 < n) :
    Calls Try.prog 33 #[.pointer (some ⟨r, 0, none⟩), .int .i64 n] w fun e w' => e = .returned (.tuple #[.int .u64 0, .int .i64 2]) ∧ w = w' := by
  obtain ⟨A, c, hb, -⟩ := h.blk
  have c0 := hb.cell 0
  simp at c0
  clear hb h
  rcases hn with hn | hn
  · go_enter Try.func33, Try.ntmps33
    go_wp2
    go_ret2
    exact ⟨rfl, rfl⟩
  · have hn' : ¬ n < 0 := by omega
    go_enter Try.func33, Try.ntmps33
    go_wp2
    go_ret2
    exact ⟨rfl, rfl⟩

set_option maxHeartbeats 400000 in
theorem get_end (w : World) (r : Nat) (D : Nat → Prop) (bs : List Nat) (a en : Nat) (n : Int) (h : Rd w r D bs a en) (h0 : 0 ≤ n) (h64 : n ≤ 64) (hn : (en : Int) - a < n) :
    Calls Try.prog 33 #[.pointer (some ⟨r, 0, none⟩), .int .i64 n] w fun e w' => e = .returned (.tuple #[.int .u64 0, .int .i64 10]) ∧ ∃ k, w' = w.drewN k := by
  obtain ⟨A, c, hb, -⟩ := h.blk
  have c0 := hb.cell 0
  have c2 := hb.cell 2
  have c3 := hb.cell 3
  simp at c0 c2 c3
  have := h.le
  have := h.en_le
  have := h.small
  clear hb h
  go_enter Try.func33, Try.ntmps33
  go_wp2
  go_quiet (fail)
  go_wp2
  go_ret2
  exact ⟨rfl, _, rfl⟩

set_option maxHeartbeats 400000 in
theorem get_ok (w : World) (r : Nat) (D : Nat → Prop) (bs : List Nat) (a en : Nat) (n : Nat) (h : Rd w r D bs a en) (h64 : n ≤ 64) (hn : n ≤ en - a) :
    Calls Try.prog 33 #[.pointer (some ⟨r, 0, none⟩), .int .i64 n] w fun e w' => e = .returned (.tuple #[.int .u64 (gets bs a n : Nat), .int .i64 0]) ∧ Rd w' r D bs (a + n) en ∧ Keeps (fun k => k = r) w w' := by
  obtain ⟨A, c, hb, hsl⟩ := h.blk
  have c0 := hb.cell 0
  have c2 := hb.cell 2
  have c3 := hb.cell 3
  simp at c0 c2 c3
  have hle := h.le
  have hen := h.en_le
  have hsm := h.small
  have HH := Lib.hid h
  clear h
  have d1 : decide ((n : Int) < 0) = false := by simp
  have d2 : decide ((64 : Int) < n) = false := by simp; omega
  have d3 : decide ((en : Int) - a < n) = false := by simp; omega
  go_enter Try.func33, Try.ntmps33
  go_wp2
  go_quiet (fail)
  go_wp2
  go_loopw [6, 37] (fun v i wr => ∃ k : Nat, k ≤ n ∧ i = .int .i64 k ∧ v = .int .u64 (gets bs a k : Nat) ∧ Blk wr r 68 #[.bool true, .slice A bs.length c, .int .i64 (a + k : Nat), .int .i64 en] ∧ Keeps (fun k => k = r) w wr)
    (fun _ i _ => n - (intOf i).toNat)
  case atStart => exact ⟨0, Nat.zero_le _, rfl, rfl, hb, (Keeps.refl _ _).drewN _⟩
  case round =>
    obtain ⟨k, hk, rfl, rfl, hbr, hkp⟩ := hrel
    clear c0 c2 c3 d1 d2 d3
    by_cases hlt : k < n
    · have hslr := hsl.keeps hkp (fun k hk e => HH.out.notIn (e ▸ hk))
      obtain ⟨b, off, rfl, hDb, hcell⟩ := hslr (by omega)
      have c1 := hbr.cell 1
      obtain ⟨p, hp⟩ : ∃ p, p = a + k := ⟨_, rfl⟩
      rw [← hp] at hbr
      have hpl : p < en := by omega
      obtain ⟨q, hq⟩ : ∃ q, q = p / 8 := ⟨_, rfl⟩
      obtain ⟨t, ht⟩ : ∃ t, t = p % 8 := ⟨_, rfl⟩
      obtain ⟨s, hs⟩ : ∃ s, s = 7 - t := ⟨_, rfl⟩
      obtain ⟨x, hx⟩ : ∃ x, x = bs.getD q 0 := ⟨_, rfl⟩
      obtain ⟨g, hg⟩ : ∃ g, g = gets bs a k := ⟨_, rfl⟩
      have hxb : x < 256 := hx ▸ HH.out.byte q
      have hcb := hcell q (by omega)
      unfold byteC at hcb
      rw [← hx] at hcb
      have hgb := gets_lt bs a k
      rw [← hg] at hgb ⊢
      have hgb2 : (2 : Nat) ^ k ≤ 2 ^ 63 := Nat.pow_le_pow_right (by omega) (by omega)
      have e1 : IntKind.i64.wrap ((p : Int) / 8) = (q : Int) := by rw [IntWalk.i64_in _ (by omega)]; omega
      have e2 : IntKind.i64.wrap ((p : Int) % 8) = (t : Int) := by rw [IntWalk.i64_in _ (by omega)]; omega
      have e3 : (p : Int) % 8 = (t : Int) := by omega
      have e4 : IntKind.i64.wrap (7 - (t : Int)) = (s : Int) := by rw [IntWalk.i64_in _ (by omega)]; omega
      have hqi : (q : Int) < (bs.length : Int) := by omega
      have hs7 : s ≤ 7 := by omega
      have HP := Lib.hid (And.intro hp (And.intro hq (And.intro ht (And.intro hs (And.intro hx hg)))))
      clear hp hq ht hs hx hg hgb hgb2
      have c2 := hbr.cell 2
      have f2 := hbr.frozen 2
      simp at c1 c2 f2
      clear hcell hslr
      go_wp2
      go_quiet (fail)
      clear e1 e2 e3 e4
      go_wp2
      go_roundw
      case rel =>
        obtain ⟨hp, hq, ht, hs, hx, hg⟩ := HP.out
        have hgb : g < 9223372036854775808 := by
          have h1 := gets_lt bs a k
          have h2 : (2 : Nat) ^ k ≤ 2 ^ 63 := Nat.pow_le_pow_right (by omega) (by omega)
          omega
        refine ⟨k + 1, by omega, by go_num, ?_, ?_, (hkp.drewN _).setCell (fun _ => rfl) _⟩
        · rw [get_step g x s hgb hxb, gets, ← hg, bitOf, ← hp, ← hq, ← ht, ← hs, ← hx]
        · have := (hbr.drewN nq).set 2 (.int .i64 ((p : Int) + 1))
          rw [show ((a + (k + 1) : Nat) : Int) = (p : Int) + 1 from by omega]
          simpa using this
      case measure => simp [intOf]; omega
    · go_wp2
      go_ret2
      obtain rfl : k = n := by omega
      exact ⟨rfl, ⟨hsm, by omega, hen, HH.out.notIn, HH.out.byte, A, c, hbr, hsl.keeps hkp (fun k hk e => HH.out.notIn (e ▸ hk))⟩, hkp⟩

theorem get_any (w : World) (r : Nat) (D : Nat → Prop) (bs : List Nat) (a en : Nat) (n : Int) (h : Rd w r D bs a en) :
    Calls Try.prog 33 #[.pointer (some ⟨r, 0, none⟩), .int .i64 n] w fun e w' => e = .returned (.tuple #[.int .u64 (getV bs a en n : Nat), .int .i64 (getE a en n)]) ∧ Rd w' r D bs (a + getN a en n) en ∧ Keeps (fun k => k = r) w w' := by
  by_cases h1 : 0 ≤ n ∧ n ≤ 64
  · by_cases h2 : n ≤ (en : Int) - a
    · obtain ⟨m, rfl⟩ := Int.eq_ofNat_of_zero_le h1.1
      have hv : getV bs a en m = gets bs a m := by unfold getV; rw [if_pos ⟨h1.1, h1.2, h2⟩]; rfl
      have he : getE a en m = 0 := by unfold getE; rw [if_pos h1, if_pos h2]
      have hn : getN a en m = m := by unfold getN; rw [if_pos ⟨h1.1, h1.2, h2⟩]; rfl
      rw [hv, he, hn]
      exact get_ok w r D bs a en m h (by omega) (by omega)
    · have hv : getV bs a en n = 0 := by unfold getV; rw [if_neg (by omega)]
      have he : getE a en n = 10 := by unfold getE; rw [if_pos h1, if_neg h2]
      have hn : getN a en n = 0 := by unfold getN; rw [if_neg (by omega)]
      rw [hv, he, hn]
      refine (get_end w r D bs a en n h h1.1 h1.2 (by omega)).mono ?_
      rintro e w' ⟨rfl, k, rfl⟩
      obtain ⟨s1, s2, s3, s4, s5, A, c, s6, s7⟩ := h
      exact ⟨rfl, ⟨s1, s2, s3, s4, s5, A, c, s6, s7⟩, (Keeps.refl _ _).drewN _⟩
  · have hv : getV bs a en n = 0 := by unfold getV; rw [if_neg (by omega)]
    have he : getE a en n = 2 := by unfold getE; rw [if_neg h1]
    have hn : getN a en n = 0 := by unfold getN; rw [if_neg (by omega)]
    rw [hv, he, hn]
    refine (get_arg w r D bs a en n h (by omega)).mono ?_
    rintro e w' ⟨rfl, rfl⟩
    exact ⟨rfl, h, Keeps.refl _ _⟩

set_option maxHeartbeats 400000 in
theorem left_any (w : World) (r : Nat) (D : Nat → Prop) (bs : List Nat) (a en : Nat) (h : Rd w r D bs a en) :
    Calls Try.prog 26 #[.pointer (some ⟨r, 0, none⟩)] w fun e w' => e = .returned (.int .i64 ((en : Int) - a)) ∧ ∃ k, w' = w.drewN k := by
  obtain ⟨A, c, hb, -⟩ := h.blk
  have c0 := hb.cell 0
  have c2 := hb.cell 2
  have c3 := hb.cell 3
  simp at c0 c2 c3
  have := h.le
  have := h.en_le
  have := h.small
  clear hb h
  have e1 : IntKind.i64.wrap ((en : Int) - a) = (en : Int) - a := IntWalk.i64_in _ (by omega)
  go_enter Try.func26, Try.ntmps26
  go_wp2
  go_quiet (fail)
  go_wp2
  go_ret
  exact ⟨rfl, _, rfl⟩

theorem byteElem : Elem1 Try.prog 23 5 (.int .u8 0) 1 := Elem1.mk' Try.underlying23 rfl (by kernel_rfl)

def NewRdPost (w : World) (bs : List Nat) (n : Nat) (e : Ending) (w' : World) : Prop :=
  ∃ r, e = .returned (.tuple #[.pointer (some ⟨r, 0, none⟩), .int .i64 0]) ∧ w.heap.size ≤ r ∧ Rd w' r (fun k => w.heap.size ≤ k ∧ k < r) bs 0 n ∧ Keeps (fun _ => False) w w'

set_option maxHeartbeats 400000 in
theorem newReader_ok (w : World) (A : Option Addr) (c : Nat) (D : Nat → Prop) (bs : List Nat) (n : Nat) (hsl : Sl w D A bs.length (byteC bs)) (hbyte : ∀ j, bs.getD j 0 < 256) (hsm : bs.length ≤ 1099511627776) (hn : n ≤ 8 * bs.length) :
    Calls Try.prog 23 #[.slice A bs.length c, .int .i64 n] w (NewRdPost w bs n) := by
  go_enter Try.func23, Try.ntmps23
  go_wp2_with (at_builtin; refine wpList_append_sl (D := D) (f := byteC bs) (base := w.heap.size) (n := 0) (xs := []) byteElem rfl (.tmp 15) (.tmp 16) rfl rfl rfl ?hown ?hsl ?h1 ?h63 ?hby ?hbase ?_)
  case hown => exact World.ownsRow_made w _ 0 (Nat.le_refl _) (by decide) (by simp)
  case hsl => exact hsl.keep fun k _ hlt => Below.heap_alloc w _ k hlt
  case h1 => intro j _; rfl
  case h63 => simp only [maxLen]; omega
  case hby => omega
  case hbase => simp
  intro v1 w1 hown1 hg1 hat1
  obtain ⟨A1, c1, hv1, -, hA1⟩ := own_form hown1
  rw [hv1]
  rw [hv1] at hown1
  have H1 := Lib.hid hown1
  have H2 := Lib.hid hA1
  have H3 := Lib.hid hg1
  clear hown1 hA1 hg1 hat1 hv1
  go_wp2
  go_ret2
  have hk1 : Keeps (fun _ => False) w w1 := ((Keeps.refl _ w).alloc _).grown H3.out (fun k hk hlt => by simp [Value.ownBlock] at hk; omega)
  refine ⟨w1.heap.size, rfl, hk1.size, ⟨hsm, Nat.zero_le _, hn, fun hx => by omega, hbyte, A1, c1, Blk.fresh _ _ _, ?_⟩, hk1.alloc _⟩
  refine ((Sl.of_own (f := byteC bs) H1.out ?_).mono ?_).keep fun k _ hlt => Below.heap_alloc w1 _ k hlt
  · intro j u hu
    rw [List.getElem?_map] at hu
    rcases Nat.lt_or_ge j bs.length with hj | hj
    · rw [List.getElem?_range hj] at hu
      simpa using hu.symm
    · rw [List.getElem?_eq_none (by simpa using hj)] at hu
      cases hu
  · intro k hk
    have := H1.out.lt k hk
    exact this

set_option maxHeartbeats 400000 in
theorem newReader_arg (w : World) (A : Option Addr) (len c : Nat) (n : Int) (hsm : len ≤ 1099511627776) (hn : n < 0 ∨ 8 * (len : Int) < n) :
    Calls Try.prog 23 #[.slice A len c, .int .i64 n] w fun e w' => e = .returned (.tuple #[.pointer none, .int .i64 2]) ∧ w = w' := by
  rcases hn with hn | hn
  · go_enter Try.func23, Try.ntmps23
    go_wp2
    go_ret2
    exact ⟨rfl, rfl⟩
  · have hn' : ¬ n < 0 := by omega
    go_enter Try.func23, Try.ntmps23
    go_wp2
    go_ret2
    exact ⟨rfl, rfl⟩
end Go.Proofs.Ytllmdgbaidkmfaa
