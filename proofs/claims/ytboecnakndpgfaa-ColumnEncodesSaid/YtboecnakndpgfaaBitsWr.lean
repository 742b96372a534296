/-
  Contracts of bits.Writer's methods.
-/
import Derived.Test.YtboecnakndpgfaaBitsRd
import Derived.Test.YtboecnakndpgfaaPack
import Derived.Laws.EntriesVeiled
import Derived.StillTailTactics
import Derived.Deep.DeepCutAuto
import Derived.BigRegion
namespace Go.Proofs.Ytboecnakndpgfaa
open Go.RowKit
def byteV (b : Nat) : Value := .int .u8 (b : Int)
/-- The method value one of the writer at block a. -/
def oneOf (a : Nat) : Value := .func (.func 39) #[.pointer (some ⟨a, 0, none⟩)] #[]
/-- A bits.Writer at block a, its bytes in the block g: its bits. -/
structure Wr (w : World) (a : Nat) (g : Option Nat) (L : List Nat) : Prop where
  len : L.length ≤ 8388608
  bit : ∀ j, L.getD j 0 < 2
  blk : ∃ v, v.ownBlock = g ∧ Blk w a 72 #[oneOf a, v, .int .i64 L.length] ∧ w.ownsRow 0 5 1 v (pack L).length ((pack L).map byteV)
def NewWrPost (w : World) (e : Ending) (w' : World) : Prop :=
  e = .returned (.pointer (some ⟨w.heap.size, 0, none⟩)) ∧ Wr w' w.heap.size none [] ∧ Keeps (fun _ => False) w w'
set_option maxHeartbeats 400000 in
theorem newWriter_any (w : World) : Calls Try.prog 18 #[] w (NewWrPost w) := by
  go_enter Try.func18, Try.ntmps18
  go_wp2
  go_ret
  refine ⟨rfl, ⟨by simp, by simp, .slice none 0 0, rfl, ?_, ⟨by simp [pack], .inl ⟨rfl, by simp [pack]⟩⟩⟩, ((Keeps.refl _ _).alloc _)⟩
  exact Blk.fresh _ _ _

/-- Behind the first statement of one: there is room for the bit. -/
def Roomy (w : World) (a : Nat) (g : Option Nat) (L : List Nat) (wx : World) : Prop :=
  ∃ gb c, Blk wx a 72 #[oneOf a, .slice (some ⟨gb, 0, none⟩) (L.length / 8 + 1) c, .int .i64 L.length] ∧
    wx.ownsRow 0 5 1 (.slice (some ⟨gb, 0, none⟩) (L.length / 8 + 1) c) (L.length / 8 + 1) ((oneMore L).map byteV) ∧ Keeps (fun k => k = a ∨ some k = g) w wx ∧ (g = some gb ∨ w.heap.size ≤ gb)
theorem roomy_same {w : World} {a : Nat} {g : Option Nat} {L : List Nat} (h : Wr w a g L) (h8 : ¬ L.length % 8 = 0) : Roomy w a g L w := by
  obtain ⟨v, hv, hblk, hown⟩ := h.blk
  obtain ⟨A, c, rfl, hlec, hA⟩ := own_form hown
  have hl := pack_length L
  obtain ⟨gb, rfl, -, -⟩ := hA (by omega)
  have e : (pack L).length = L.length / 8 + 1 := by omega
  rw [e] at hblk hown hv
  refine ⟨gb, c, hblk, ?_, Keeps.refl _ _, .inl hv.symm⟩
  unfold oneMore
  rw [if_neg h8]
  exact hown
theorem own_setCell_other {w : World} {base : Nat} {e t : TypeId} {size n a i : Nat} {v u : Value} {xs : List Value} {cs : Array Value} (h : w.ownsRow base e size v n xs) (hg : Blk w a t cs) (hne : e ≠ t) : (w.setCell ⟨a, i, none⟩ u).ownsRow base e size v n xs := by
  refine own_keeps h (S := fun k => k = a) (Keeps.setCell (Keeps.refl (fun k => k = a) w) (p := ⟨a, i, none⟩) (fun _ => rfl) u) (fun g hgv e => own_ne h hg hne (by rw [hgv, e]))
theorem roomy_new {w w1 : World} {a : Nat} {g : Option Nat} {L : List Nat} {v v1 : Value} {o : Obj} (hv : v.ownBlock = g) (hblk : Blk w a 72 #[oneOf a, v, .int .i64 L.length]) (hown : w.ownsRow 0 5 1 v (pack L).length ((pack L).map byteV))
    (h8 : L.length % 8 = 0) (hg1 : (w.alloc o).grownBy w1 v.ownBlock) (hown1 : w1.ownsRow 0 5 1 v1 ((pack L).length + 1) ((pack L).map byteV ++ [.int .u8 0])) (hat1 : v1.ownBlock = v.ownBlock ∨ v1.ownBlock = some (w.heap.size + 1)) :
    Blk w1 a 72 #[oneOf a, v, .int .i64 L.length] ∧ Roomy w a g L (w1.setCell ⟨a, 1, none⟩ v1) := by
  have hk : Keeps (fun k => k = a ∨ some k = g) w w1 := ((Keeps.refl _ w).alloc o).grown hg1 (fun k hk _ => .inr (by rw [← hk, hv]))
  have hka : Keeps (fun k => some k = g) w w1 := ((Keeps.refl _ w).alloc o).grown hg1 (fun k hk _ => by rw [← hk, hv])
  have hb1 : Blk w1 a 72 #[oneOf a, v, .int .i64 L.length] := hblk.keeps hka (fun e => own_ne hown hblk (by decide) (by rw [hv, e]))
  refine ⟨hb1, ?_⟩
  have hl := pack_length L
  obtain ⟨A, c, rfl, hlec, hA⟩ := own_form hown1
  obtain ⟨gb, rfl, -, hgb⟩ := hA (by omega)
  have e : (pack L).length + 1 = L.length / 8 + 1 := by omega
  rw [e] at hown1 ⊢
  refine ⟨gb, c, ?_, ?_, hk.setCell (fun _ => .inl rfl) _, ?_⟩
  · have := hb1.set 1 (.slice (some ⟨gb, 0, none⟩) (L.length / 8 + 1) c)
    simpa using this
  · have : (oneMore L).map byteV = (pack L).map byteV ++ [.int .u8 0] := by
      unfold oneMore; rw [if_pos h8, List.map_append]; rfl
    rw [this]
    exact own_setCell_other hown1 hb1 (by decide)
  · rcases hat1 with h | h
    · left; rw [← hv, ← h]; rfl
    · right
      simp [Value.ownBlock] at h
      omega
def OnePost (w : World) (a : Nat) (g : Option Nat) (L : List Nat) (b : Nat) (e : Ending) (w' : World) : Prop :=
  e = .returned (.tuple #[]) ∧ ∃ g', Wr w' a g' (L ++ [b]) ∧ Keeps (fun k => k = a ∨ some k = g) w w' ∧ (g' = g ∨ ∃ k, g' = some k ∧ w.heap.size ≤ k)

theorem one_post {w wc : World} {a : Nat} {g : Option Nat} {L : List Nat} {b gb c : Nat} (h : Wr w a g L) (hb : b < 2) (hl : L.length < 8388608)
    (hbx : Blk wc a 72 #[oneOf a, .slice (some ⟨gb, 0, none⟩) (L.length / 8 + 1) c, .int .i64 L.length])
    (hox : wc.ownsRow 0 5 1 (.slice (some ⟨gb, 0, none⟩) (L.length / 8 + 1) c) (L.length / 8 + 1) ((oneMore L).map byteV))
    (hkx : Keeps (fun k => k = a ∨ some k = g) w wc) (hgx : g = some gb ∨ w.heap.size ≤ gb) :
    ∃ g', Wr ((wc.setCell ⟨gb, L.length / 8, none⟩ (byteV (byteAt L (L.length / 8) ||| b * 2 ^ (7 - L.length % 8)))).setCell ⟨a, 2, none⟩ (.int .i64 ((L.length : Int) + 1))).drew a g' (L ++ [b]) ∧
      Keeps (fun k => k = a ∨ some k = g) w ((wc.setCell ⟨gb, L.length / 8, none⟩ (byteV (byteAt L (L.length / 8) ||| b * 2 ^ (7 - L.length % 8)))).setCell ⟨a, 2, none⟩ (.int .i64 ((L.length : Int) + 1))).drew ∧ (g' = g ∨ ∃ k, g' = some k ∧ w.heap.size ≤ k) := by
  have hga : gb ≠ a := fun e => own_ne hox hbx (by decide) (by rw [← e]; rfl)
  obtain ⟨hs1, hs2⟩ := hox.stored (L.length / 8) (byteV (byteAt L (L.length / 8) ||| b * 2 ^ (7 - L.length % 8)))
  have hb1 : Blk (wc.setCell ⟨gb, L.length / 8, none⟩ (byteV (byteAt L (L.length / 8) ||| b * 2 ^ (7 - L.length % 8)))) a 72 #[oneOf a, .slice (some ⟨gb, 0, none⟩) (L.length / 8 + 1) c, .int .i64 L.length] := hbx.far (p := ⟨gb, L.length / 8, none⟩) (fun e => hga e.symm) _
  refine ⟨some gb, ⟨by simp; omega, bits_snoc h.bit hb, .slice (some ⟨gb, 0, none⟩) (L.length / 8 + 1) c, rfl, ?_, ?_⟩, ?_, ?_⟩
  · have := hb1.set 2 (.int .i64 ((L.length : Int) + 1))
    have e : (((L ++ [b]).length : Nat) : Int) = (L.length : Int) + 1 := by simp
    rw [e]
    exact this.drew
  · have e : (pack (L ++ [b])).length = L.length / 8 + 1 := by rw [pack_length]; simp; omega
    rw [e, ← pack_snoc L b hb, List.map_set]
    exact own_setCell_other (i := 2) hs1 hb1 (by decide)
  · refine ((hkx.setCell (p := ⟨gb, L.length / 8, none⟩) (fun hlt => ?_) _).setCell (fun _ => .inl rfl) _).drew
    rcases hgx with h | h
    · exact .inr h.symm
    · exact absurd hlt (by simpa using h)
  · rcases hgx with h | h
    · exact .inl h.symm
    · exact .inr ⟨gb, rfl, h⟩

set_option maxHeartbeats 800000 in
theorem one_any (w : World) (a : Nat) (g : Option Nat) (L : List Nat) (b : Nat) (h : Wr w a g L) (hb : b < 2) (hl : L.length < 8388608) :
    Calls Try.prog 39 #[.pointer (some ⟨a, 0, none⟩), .int .u64 b] w (OnePost w a g L b) := by
  obtain ⟨v, hv, hblk, hown⟩ := h.blk
  obtain ⟨n, hn⟩ : ∃ n, n = L.length := ⟨_, rfl⟩
  rw [← hn] at hblk hl
  have c1 := hblk.cell 1
  have c2 := hblk.cell 2
  have f1 := hblk.frozen 1
  simp at c1 c2
  have HN := Lib.hid hn
  have HH := Lib.hid h
  have HO := Lib.hid hown
  have HV := Lib.hid hv
  have HB := Lib.hid hblk
  clear hn hown hv hblk h
  go_enter Try.func39, Try.ntmps39
  go_upto_if 9 with (fail)
  go_cut [] (fun wx => Roomy w a g L wx)
  case first =>
    by_cases h8 : n % 8 = 0
    · have e8 : (((n : Int) % 8) == 0) = true := by simp; omega
      go_wp2_with (at_builtin; refine wpList_append_sl (f := fun _ => .int .u8 0) (D := fun k => k = w.heap.size) (base := 0) (n := (pack L).length) (xs := (pack L).map byteV) byteElem rfl (.tmp 14) (.tmp 15) rfl rfl rfl ?hown ?hsl ?h1 ?h63 ?hby ?hbase ?_)
      case hown => exact HO.out.alloc _
      case hsl => exact sl_one _ _ _
      case h1 => intro j _; rfl
      case h63 => have := pack_length L; have := HN.out; simp only [maxLen]; omega
      case hby => have := pack_length L; have := HN.out; omega
      case hbase => simp
      intro v1 w1 hown1 hg1 hat1
      obtain ⟨A1, k1, hv1, -, -⟩ := own_form hown1
      rw [hv1]
      rw [hv1] at hown1 hat1
      clear hv1
      obtain ⟨hb1, hr1⟩ := roomy_new (L := L) HV.out (by rw [← HN.out]; exact HB.out) HO.out (by rw [← HN.out]; exact h8) hg1 hown1 hat1
      have HR := Lib.hid hr1
      have c11 := hb1.cell 1
      have f11 := hb1.frozen 1
      simp at c11
      clear hown1 hg1 hat1 hb1 hr1
      go_wp2_with fail
      go_meet
      exact HR.out
    · have e8 : (((n : Int) % 8) == 0) = false := by simp; omega
      go_wp2_with fail
      go_meet
      exact roomy_same HH.out (by rw [← HN.out]; exact h8)
  case rest =>
    clear c1 c2 f1
    obtain ⟨gb, c, hbx, hox, hkx, hgx⟩ := hcut
    rw [← HN.out] at hbx hox
    obtain ⟨q, hq⟩ : ∃ q, q = n / 8 := ⟨_, rfl⟩
    obtain ⟨t, ht⟩ : ∃ t, t = n % 8 := ⟨_, rfl⟩
    obtain ⟨s, hs⟩ : ∃ s, s = 7 - t := ⟨_, rfl⟩
    obtain ⟨x, hx⟩ : ∃ x, x = (oneMore L).getD q 0 := ⟨_, rfl⟩
    rw [← hq] at hbx hox
    have hxb : x < 256 := hx ▸ oneMore_lt HH.out.bit q
    have hcb : wc.cell? ⟨gb, q, none⟩ = some (.int .u8 x) := by
      rw [hox.cellAt q (by omega), List.getElem?_map, List.getElem?_eq_getElem (by rw [oneMore_length, ← HN.out]; omega), hx, List.getD_eq_getElem?_getD, List.getElem?_eq_getElem (by rw [oneMore_length, ← HN.out]; omega)]
      rfl
    have hfb := hox.frozenAt q
    have c1 := hbx.cell 1
    have c2 := hbx.cell 2
    have f2 := hbx.frozen 2
    simp at c1 c2
    have hga : gb ≠ a := fun e => own_ne hox hbx (by decide) (by rw [← e]; rfl)
    have e1 : IntKind.i64.wrap ((n : Int) / 8) = (q : Int) := by rw [IntWalk.i64_in _ (by omega)]; omega
    have e2 : IntKind.i64.wrap ((n : Int) % 8) = (t : Int) := by rw [IntWalk.i64_in _ (by omega)]; omega
    have e3 : (n : Int) % 8 = (t : Int) := by omega
    have e5 : (n : Int).tmod 8 = (t : Int) := by rw [Int.tmod_eq_emod_of_nonneg (by omega)]; exact e3
    have e4 : IntKind.i64.wrap (7 - (t : Int)) = (s : Int) := by rw [IntWalk.i64_in _ (by omega)]; omega
    have hqi : (q : Int) < (q : Int) + 1 := by omega
    have hs7 : s ≤ 7 := by omega
    have HP := Lib.hid (And.intro hq (And.intro ht (And.intro hs hx)))
    have HX := Lib.hid (And.intro hbx (And.intro hox (And.intro hkx hgx)))
    clear hq ht hs hx hbx hox hkx hgx
    go_wp2
    go_still_tail 22, (by kernel_rfl)
    change wpList _ _ _ _ _ wc.drew
    clear e1 e2 e3 e4 e5
    go_wp2
    go_end0
    obtain ⟨hq, ht, hs, hx⟩ := HP.out
    obtain ⟨hbx, hox, hkx, hgx⟩ := HX.out
    obtain rfl := HN.out
    subst hq ht hs
    have hx' : x = byteAt L (L.length / 8) := hx.trans (oneMore_getD L)
    rw [one_or x b _ hxb hb hs7, hx']
    exact ⟨rfl, one_post HH.out hb hl hbx hox hkx hgx⟩
end Go.Proofs.Ytboecnakndpgfaa
