/-
  Contracts of tidemillref02.Reader's methods.
-/
import Derived.Test.YtgphdigcilbnlaaBitsRd
namespace Go.Proofs.Ytgphdigcilbnlaa
open Go.RowKit
/-- A tidemillref02.Reader at block r: its bytes lie in a block of D. -/
structure RRd (w : World) (r : Nat) (D : Nat → Prop) (bs : List Nat) (a en : Nat) : Prop where
  small : bs.length ≤ 1099511627776
  le : a ≤ en
  en_le : en ≤ 8 * bs.length
  notIn : ¬ D r
  byte : ∀ j, bs.getD j 0 < 256
  blk : ∃ A c, Blk w r 38 #[.slice A bs.length c, .int .i64 a, .int .i64 en] ∧ Sl w D A bs.length (byteC bs)

theorem RRd.drewN {w : World} {r : Nat} {D : Nat → Prop} {bs : List Nat} {a en : Nat} (h : RRd w r D bs a en) (k : Nat) : RRd (w.drewN k) r D bs a en := by
  obtain ⟨s1, s2, s3, s4, s5, A, c, s6, s7⟩ := h
  exact ⟨s1, s2, s3, s4, s5, A, c, s6, s7⟩
theorem Rd.drewN {w : World} {r : Nat} {D : Nat → Prop} {bs : List Nat} {a en : Nat} (h : Rd w r D bs a en) (k : Nat) : Rd (w.drewN k) r D bs a en := by
  obtain ⟨s1, s2, s3, s4, s5, A, c, s6, s7⟩ := h
  exact ⟨s1, s2, s3, s4, s5, A, c, s6, s7⟩
theorem RRd.keeps {S : Nat → Prop} {w w' : World} {r : Nat} {D : Nat → Prop} {bs : List Nat} {a en : Nat} (h : RRd w r D bs a en) (hk : Keeps S w w') (hr : ¬ S r) (hd : ∀ k, D k → ¬ S k) : RRd w' r D bs a en := by
  obtain ⟨s1, s2, s3, s4, s5, A, c, s6, s7⟩ := h
  exact ⟨s1, s2, s3, s4, s5, A, c, s6.keeps hk hr, s7.keeps hk hd⟩
theorem Rd.keeps {S : Nat → Prop} {w w' : World} {r : Nat} {D : Nat → Prop} {bs : List Nat} {a en : Nat} (h : Rd w r D bs a en) (hk : Keeps S w w') (hr : ¬ S r) (hd : ∀ k, D k → ¬ S k) : Rd w' r D bs a en := by
  obtain ⟨s1, s2, s3, s4, s5, A, c, s6, s7⟩ := h
  exact ⟨s1, s2, s3, s4, s5, A, c, s6.keeps hk hr, s7.keeps hk hd⟩

set_option maxHeartbeats 400000 in
theorem rget_arg (w : World) (r : Nat) (n : Int) (hn : n < 0 ∨ 64 < n) :
    Calls Try.prog 18 #[.pointer (some ⟨r, 0, none⟩), .int .i64 n] w fun e w' => e = .returned (.tuple #[.int .u64 0, .int .i64 2]) ∧ w = w' := by
  rcases hn with hn | hn
  · go_enter Try.func18, Try.ntmps18
    go_wp2
    go_ret2
    exact ⟨rfl, rfl⟩
  · have hn' : ¬ n < 0 := by omega
    go_enter Try.func18, Try.ntmps18
    go_wp2
    go_ret2
    exact ⟨rfl, rfl⟩

set_option maxHeartbeats 400000 in
theorem rget_end (w : World) (r : Nat) (D : Nat → Prop) (bs : List Nat) (a en : Nat) (n : Int) (h : RRd w r D bs a en) (h0 : 0 ≤ n) (h64 : n ≤ 64) (hn : (en : Int) - a < n) :
    Calls Try.prog 18 #[.pointer (some ⟨r, 0, none⟩), .int .i64 n] w fun e w' => e = .returned (.tuple #[.int .u64 0, .int .i64 10]) ∧ ∃ k, w' = w.drewN k := by
  obtain ⟨A, c, hb, -⟩ := h.blk
  have c1 := hb.cell 1
  have c2 := hb.cell 2
  simp at c1 c2
  have := h.le
  have := h.en_le
  have := h.small
  clear hb h
  go_enter Try.func18, Try.ntmps18
  go_wp2
  go_quiet (fail)
  go_wp2
  go_ret2
  exact ⟨rfl, _, rfl⟩

set_option maxHeartbeats 400000 in
theorem rget_ok (w : World) (r : Nat) (D : Nat → Prop) (bs : List Nat) (a en : Nat) (n : Nat) (h : RRd w r D bs a en) (h64 : n ≤ 64) (hn : n ≤ en - a) :
    Calls Try.prog 18 #[.pointer (some ⟨r, 0, none⟩), .int .i64 n] w fun e w' => e = .returned (.tuple #[.int .u64 (gets bs a n : Nat), .int .i64 0]) ∧ RRd w' r D bs (a + n) en ∧ Keeps (fun k => k = r) w w' := by
  obtain ⟨A, c, hb, hsl⟩ := h.blk
  have c1 := hb.cell 1
  have c2 := hb.cell 2
  simp at c1 c2
  have hle := h.le
  have hen := h.en_le
  have hsm := h.small
  have HH := Lib.hid h
  clear h
  have d1 : decide ((n : Int) < 0) = false := by simp
  have d2 : decide ((64 : Int) < n) = false := by simp; omega
  have d3 : decide ((en : Int) - a < n) = false := by simp; omega
  go_enter Try.func18, Try.ntmps18
  go_wp2
  go_quiet (fail)
  go_wp2
  go_loopw [6, 7] (fun v i wr => ∃ k : Nat, k ≤ n ∧ i = .int .i64 k ∧ v = .int .u64 (gets bs a k : Nat) ∧ Blk wr r 38 #[.slice A bs.length c, .int .i64 (a + k : Nat), .int .i64 en] ∧ Keeps (fun k => k = r) w wr)
    (fun _ i _ => n - (intOf i).toNat)
  case atStart => exact ⟨0, Nat.zero_le _, rfl, rfl, hb, (Keeps.refl _ _).drewN _⟩
  case round =>
    obtain ⟨k, hk, rfl, rfl, hbr, hkp⟩ := hrel
    clear c1 c2 d1 d2 d3
    by_cases hlt : k < n
    · have hslr := hsl.keeps hkp (fun k hk e => HH.out.notIn (e ▸ hk))
      obtain ⟨b, off, rfl, hDb, hcell⟩ := hslr (by omega)
      have c1 := hbr.cell 0
      obtain ⟨p, hp⟩ : ∃ p, p = a + k := ⟨_, rfl⟩
      rw [← hp] at hbr
      have hpl : p < en := by omega
      obtain ⟨q, hq⟩ : ∃ q, q = p / 8 := ⟨_, rfl⟩
      obtain ⟨t, ht⟩ : ∃ t, t = p % 8 := ⟨_, rfl⟩
      obtain ⟨s, hs⟩ : ∃ s, s = 7 - t := ⟨_, rfl⟩
      obtain ⟨x, hx⟩ : ∃ x, x = bs.getD q 0 := ⟨_, rfl⟩
      obtain ⟨g, hg⟩ : ∃ g, g = gets bs a k := ⟨_, rfl⟩
      have hxb : x < 256 := hx ▸ HH.out.byte q
      have hcb := hcell q (by omega)
      unfold byteC at hcb
      rw [← hx] at hcb
      have hgb := gets_lt bs a k
      rw [← hg] at hgb ⊢
      have hgb2 : (2 : Nat) ^ k ≤ 2 ^ 63 := Nat.pow_le_pow_right (by omega) (by omega)
      have e1 : IntKind.i64.wrap ((p : Int) / 8) = (q : Int) := by rw [IntWalk.i64_in _ (by omega)]; omega
      have e2 : IntKind.i64.wrap ((p : Int) % 8) = (t : Int) := by rw [IntWalk.i64_in _ (by omega)]; omega
      have e3 : (p : Int) % 8 = (t : Int) := by omega
      have e4 : IntKind.i64.wrap (7 - (t : Int)) = (s : Int) := by rw [IntWalk.i64_in _ (by omega)]; omega
      have hqi : (q : Int) < (bs.length : Int) := by omega
      have hs7 : s ≤ 7 := by omega
      have HP := Lib.hid (And.intro hp (And.intro hq (And.intro ht (And.intro hs (And.intro hx hg)))))
      clear hp hq ht hs hx hg hgb hgb2
      have c2 := hbr.cell 1
      have f2 := hbr.frozen 1
      simp at c1 c2 f2
      clear hcell hslr
      go_wp2
      go_quiet (fail)
      clear e1 e2 e3 e4
      go_wp2
      go_roundw
      case rel =>
        obtain ⟨hp, hq, ht, hs, hx, hg⟩ := HP.out
        have hgb : g < 9223372036854775808 := by
          have h1 := gets_lt bs a k
          have h2 : (2 : Nat) ^ k ≤ 2 ^ 63 := Nat.pow_le_pow_right (by omega) (by omega)
          omega
        refine ⟨k + 1, by omega, by go_num, ?_, ?_, (hkp.drewN _).setCell (fun _ => rfl) _⟩
        · rw [rget_step g x s hgb hxb, gets, ← hg, bitOf, ← hp, ← hq, ← ht, ← hs, ← hx]
        · have := (hbr.drewN nq).set 1 (.int .i64 ((p : Int) + 1))
          rw [show ((a + (k + 1) : Nat) : Int) = (p : Int) + 1 from by omega]
          simpa using this
      case measure => simp [intOf]; omega
    · go_wp2
      go_ret2
      obtain rfl : k = n := by omega
      exact ⟨rfl, ⟨hsm, by omega, hen, HH.out.notIn, HH.out.byte, A, c, hbr, hsl.keeps hkp (fun k hk e => HH.out.notIn (e ▸ hk))⟩, hkp⟩

theorem rget_any (w : World) (r : Nat) (D : Nat → Prop) (bs : List Nat) (a en : Nat) (n : Int) (h : RRd w r D bs a en) :
    Calls Try.prog 18 #[.pointer (some ⟨r, 0, none⟩), .int .i64 n] w fun e w' => e = .returned (.tuple #[.int .u64 (getV bs a en n : Nat), .int .i64 (getE a en n)]) ∧ RRd w' r D bs (a + getN a en n) en ∧ Keeps (fun k => k = r) w w' := by
  by_cases h1 : 0 ≤ n ∧ n ≤ 64
  · by_cases h2 : n ≤ (en : Int) - a
    · obtain ⟨m, rfl⟩ := Int.eq_ofNat_of_zero_le h1.1
      have hv : getV bs a en m = gets bs a m := by unfold getV; rw [if_pos ⟨h1.1, h1.2, h2⟩]; rfl
      have he : getE a en m = 0 := by unfold getE; rw [if_pos h1, if_pos h2]
      have hn : getN a en m = m := by unfold getN; rw [if_pos ⟨h1.1, h1.2, h2⟩]; rfl
      rw [hv, he, hn]
      exact rget_ok w r D bs a en m h (by omega) (by omega)
    · have hv : getV bs a en n = 0 := by unfold getV; rw [if_neg (by omega)]
      have he : getE a en n = 10 := by unfold getE; rw [if_pos h1, if_neg h2]
      have hn : getN a en n = 0 := by unfold getN; rw [if_neg (by omega)]
      rw [hv, he, hn]
      refine (rget_end w r D bs a en n h h1.1 h1.2 (by omega)).mono ?_
      rintro e w' ⟨rfl, k, rfl⟩
      exact ⟨rfl, h.drewN k, (Keeps.refl _ _).drewN _⟩
  · have hv : getV bs a en n = 0 := by unfold getV; rw [if_neg (by omega)]
    have he : getE a en n = 2 := by unfold getE; rw [if_neg h1]
    have hn : getN a en n = 0 := by unfold getN; rw [if_neg (by omega)]
    rw [hv, he, hn]
    refine (rget_arg w r n (by omega)).mono ?_
    rintro e w' ⟨rfl, rfl⟩
    exact ⟨rfl, h, Keeps.refl _ _⟩

def NewRRdPost (w : World) (D : Nat → Prop) (bs : List Nat) (n : Nat) (e : Ending) (w' : World) : Prop :=
  ∃ r, e = .returned (.tuple #[.pointer (some ⟨r, 0, none⟩), .int .i64 0]) ∧ w.heap.size ≤ r ∧ RRd w' r D bs 0 n ∧ Keeps (fun _ => False) w w'

set_option maxHeartbeats 400000 in
theorem rnewReader_ok (w : World) (A : Option Addr) (c : Nat) (D : Nat → Prop) (bs : List Nat) (n : Nat) (hsl : Sl w D A bs.length (byteC bs)) (hbyte : ∀ j, bs.getD j 0 < 256) (hsm : bs.length ≤ 1099511627776) (hn : n ≤ 8 * bs.length) (hD : ∀ k, D k → k < w.heap.size) :
    Calls Try.prog 16 #[.slice A bs.length c, .int .i64 n] w (NewRRdPost w D bs n) := by
  go_enter Try.func16, Try.ntmps16
  go_wp2
  go_ret2
  refine ⟨w.heap.size, rfl, Nat.le_refl _, ⟨hsm, Nat.zero_le _, hn, fun hx => by have := hD _ hx; omega, hbyte, A, c, Blk.fresh _ _ _, ?_⟩, (Keeps.refl _ _).alloc _⟩
  exact hsl.keep fun k _ hlt => Below.heap_alloc w _ k hlt

set_option maxHeartbeats 400000 in
theorem rnewReader_arg (w : World) (A : Option Addr) (len c : Nat) (n : Int) (hsm : len ≤ 1099511627776) (hn : n < 0 ∨ 8 * (len : Int) < n) :
    Calls Try.prog 16 #[.slice A len c, .int .i64 n] w fun e w' => e = .returned (.tuple #[.pointer none, .int .i64 2]) ∧ w = w' := by
  rcases hn with hn | hn
  · go_enter Try.func16, Try.ntmps16
    go_wp2
    go_ret2
    exact ⟨rfl, rfl⟩
  · have hn' : ¬ n < 0 := by omega
    go_enter Try.func16, Try.ntmps16
    go_wp2
    go_ret2
    exact ⟨rfl, rfl⟩

theorem newReader_fit (w : World) (A : Option Addr) (len c : Nat) (D : Nat → Prop) (bs : List Nat) (n : Int) (hl : bs.length = len) (hsl : Sl w D A len (byteC bs)) (hbyte : ∀ j, bs.getD j 0 < 256) (hsm : len ≤ 1099511627776) (h0 : 0 ≤ n) (hn : n ≤ 8 * (len : Int)) :
    Calls Try.prog 15 #[.slice A len c, .int .i64 n] w (NewRdPost w bs n.toNat) := by
  subst hl
  obtain ⟨m, rfl⟩ := Int.eq_ofNat_of_zero_le h0
  exact newReader_ok w A c D bs m hsl hbyte hsm (by omega)
theorem rnewReader_fit (w : World) (A : Option Addr) (len c : Nat) (D : Nat → Prop) (bs : List Nat) (n : Int) (hl : bs.length = len) (hsl : Sl w D A len (byteC bs)) (hbyte : ∀ j, bs.getD j 0 < 256) (hsm : len ≤ 1099511627776) (h0 : 0 ≤ n) (hn : n ≤ 8 * (len : Int)) (hD : ∀ k, D k → k < w.heap.size) :
    Calls Try.prog 16 #[.slice A len c, .int .i64 n] w (NewRRdPost w D bs n.toNat) := by
  subst hl
  obtain ⟨m, rfl⟩ := Int.eq_ofNat_of_zero_le h0
  exact rnewReader_ok w A c D bs m hsl hbyte hsm (by omega) hD
end Go.Proofs.Ytgphdigcilbnlaa
