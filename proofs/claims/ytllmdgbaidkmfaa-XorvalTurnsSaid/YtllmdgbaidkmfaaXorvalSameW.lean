/-
  The walk of the law XorvalSame.
-/
import Derived.Test.YtllmdgbaidkmfaaU64s
import Derived.Test.YtllmdgbaidkmfaaMask
namespace Go.Proofs.Ytllmdgbaidkmfaa
open Go.RowKit
set_option linter.unusedVariables false
set_option linter.unusedSimpArgs false
theorem sl_of_words {w : World} {base c n : Nat} {A : Option Addr} {f : Nat → Nat} (ho : w.ownsRow base 30 1 (.slice A n c) n ((List.range n).map fun j => Value.int .u64 (f j : Nat))) : Sl w (fun k => (Value.slice A n c).ownBlock = some k) A n (fun j => .int .u64 (f j : Nat)) := by
  refine Sl.of_own ho ?_
  intro j u hu
  rw [List.getElem?_map] at hu
  rcases Nat.lt_or_ge j n with hj | hj
  · rw [List.getElem?_range hj] at hu
    simpa using hu.symm
  · rw [List.getElem?_eq_none (by simpa using hj)] at hu
    cases hu
theorem xor_own (v a : Nat) : (v ^^^ a) ^^^ v = a := by rw [Nat.xor_comm v a, Nat.xor_assoc, Nat.xor_self, Nat.xor_zero]
theorem xbits_zero (o : Option (Nat × Nat)) : xbits o 0 = bitsTo 0 1 1 := by unfold xbits; rw [if_pos rfl]
theorem same_len (v n : Nat) : (xencTo (fun _ => v) (n + 1)).length = 64 + n := by
  induction n with
  | zero => show (bitsTo v 64 64).length = _; rw [bitsTo_length]
  | succ n ih =>
    show (xencTo (fun _ => v) (n + 1) ++ xbits (xwin (fun _ => v) (n + 1)) (v ^^^ v)).length = _
    rw [List.length_append, ih, Nat.xor_self, xbits_zero, bitsTo_length]
    omega
/-- Every second value has one bit turned. -/
def turn (v b : Nat) (j : Nat) : Nat := v ^^^ (j % 2 * 2 ^ b)
theorem turn_step (v b j : Nat) : turn v b (j + 1) ^^^ turn v b j = 2 ^ b := by
  unfold turn
  rcases Nat.mod_two_eq_zero_or_one j with h | h
  · rw [h, show (j + 1) % 2 = 1 by omega, Nat.zero_mul, Nat.one_mul, Nat.xor_zero, xor_own]
  · rw [h, show (j + 1) % 2 = 0 by omega, Nat.zero_mul, Nat.one_mul, Nat.xor_zero, Nat.xor_comm, xor_own]
theorem trail_pow {b : Nat} (h : b ≤ 63) : trail (2 ^ b) = b :=
  trail_uniq (m := 0) (Nat.pow_lt_pow_right (by omega : 1 < 2) (by omega : b < 64)) (by simp)
theorem pow_pos' (b : Nat) : 2 ^ b ≠ 0 := by have := Nat.two_pow_pos b; omega
theorem fits_turn {b : Nat} (h : b ≤ 63) : fits (some (63 - b, b)) (2 ^ b) = true := by
  show (decide (63 - b ≤ lead (2 ^ b)) && decide (b ≤ trail (2 ^ b))) = true
  rw [lead_pow h, trail_pow h]; simp
theorem turn_win {v b : Nat} (h : b ≤ 63) (n : Nat) : xwin (turn v b) (n + 2) = some (63 - b, b) := by
  induction n with
  | zero =>
    show nextW none (turn v b 1 ^^^ turn v b 0) = _
    rw [turn_step]
    unfold nextW
    rw [if_neg (pow_pos' b), if_neg (by simp [fits]), lead_pow h, trail_pow h]
  | succ n ih =>
    show nextW (xwin (turn v b) (n + 2)) (turn v b (n + 2) ^^^ turn v b (n + 1)) = _
    rw [ih, turn_step]
    exact (xbits_old (pow_pos' b) (fits_turn h)).2
theorem turn_len {v b : Nat} (h : b ≤ 63) (n : Nat) : (xencTo (turn v b) (n + 2)).length = 64 + 15 + 3 * n := by
  induction n with
  | zero =>
    show (bitsTo (turn v b 0) 64 64 ++ xbits none (turn v b 1 ^^^ turn v b 0)).length = _
    rw [turn_step, (xbits_new (pow_pos' b) rfl).1, lead_pow h, trail_pow h]
    simp only [List.length_append, bitsTo_length]
    omega
  | succ n ih =>
    show (xencTo (turn v b) (n + 2) ++ xbits (xwin (turn v b) (n + 2)) (turn v b (n + 2) ^^^ turn v b (n + 1))).length = _
    rw [List.length_append, ih, turn_step, turn_win h, (xbits_old (pow_pos' b) (fits_turn h)).1]
    simp only [List.length_append, bitsTo_length]
    omega
theorem turn_lt {v b : Nat} (hv : v < 18446744073709551616) (h : b ≤ 63) (j : Nat) : turn v b j < 18446744073709551616 := by
  refine xor_lt hv ?_
  have h1 : 2 ^ b < 2 ^ 64 := Nat.pow_lt_pow_right (by omega) (by omega)
  have h2 : j % 2 * 2 ^ b ≤ 1 * 2 ^ b := Nat.mul_le_mul_right _ (by omega)
  omega
theorem turn_walk {v b j : Nat} (hv : v < 18446744073709551616) (h : b ≤ 63) : bits .xor .u64 (v : Int) (IntKind.u64.wrap ((j % 2 : Nat) * 2 ^ b)) = (turn v b j : Nat) := by
  have h1 : 2 ^ b < 2 ^ 64 := Nat.pow_lt_pow_right (by omega) (by omega)
  have h2 : j % 2 * 2 ^ b ≤ 1 * 2 ^ b := Nat.mul_le_mul_right _ (by omega)
  have e : ((j % 2 : Nat) : Int) * 2 ^ b = ((j % 2 * 2 ^ b : Nat) : Int) := by simp
  rw [e, IntKind.wrap_u64, show ((j % 2 * 2 ^ b : Nat) : Int) % 18446744073709551616 = ((j % 2 * 2 ^ b : Nat) : Int) by omega]
  exact u64_xor_nat _ _ hv (by omega)
theorem and_1' (x : Nat) : bits .and .i64 (x : Int) 1 = ((x % 2 : Nat) : Int) := (and_mask_i64 (x : Int) 1 (by omega)).trans (by congr 1)
/-- Behind an append to one of two rows: the other one. -/
theorem grown_two {w wr w1 : World} {B n m : Nat} {e : TypeId} {p q v1 : Value} {xs ys : List Value} (o : Obj) (hop : wr.ownsRow B e 1 p n xs) (hoq : wr.ownsRow B e 1 q m ys) (hne : ∀ g, p.ownBlock = some g → q.ownBlock ≠ some g) (hbr : Below B w wr) (hB : B ≤ w.heap.size)
    (hg : (wr.alloc o).grownBy w1 p.ownBlock) (hat : v1.ownBlock = p.ownBlock ∨ v1.ownBlock = some (wr.heap.size + 1)) : w1.ownsRow B e 1 q m ys ∧ (∀ g, v1.ownBlock = some g → q.ownBlock ≠ some g) ∧ Below B w w1 := by
  have hs := hbr.size
  have hk : Keeps (fun g => p.ownBlock = some g) wr w1 := ((Keeps.refl _ wr).alloc _).grown hg (fun g h _ => h)
  refine ⟨own_keeps hoq hk (fun g h h' => hne g h' h), fun g h h' => ?_, (hbr.alloc (by omega) _).grown hg (by simp; omega) (fun q hq => (hop.lt q hq).1)⟩
  rcases hat with h1 | h1
  · exact hne g (h1 ▸ h) h'
  · have h2 := (hoq.lt g h').2
    rw [h1] at h
    injection h with h
    omega
set_option maxRecDepth 100000 in
set_option maxHeartbeats 1600000 in
theorem xorvalSame_walk (a0 a1 a2 : Int) (w : World) (w0 : (Lit.int .u64 a0).wf = true) (w1 : (Lit.int .i64 a1).wf = true) (w2 : (Lit.int .i64 a2).wf = true) :
    Calls Try.prog 4 #[.int .u64 a0, .int .i64 a1, .int .i64 a2] w fun e w' => e = .returned (.bool true) ∧ Below w.heap.size w w' := by
  have b0 := wf_u64 w0
  obtain ⟨v, rfl⟩ : ∃ v : Nat, a0 = (v : Int) := ⟨a0.toNat, by omega⟩
  have hv : v < 18446744073709551616 := by omega
  clear w0 w1 w2 b0
  obtain ⟨m, hm⟩ : ∃ m : Nat, m = (a1 % 1024).toNat := ⟨_, rfl⟩
  have e1 : bits .and .i64 a1 1023 = (m : Int) := by rw [and_1023, hm]
  obtain ⟨b, hb⟩ : ∃ b : Nat, b = (a2 % 64).toNat := ⟨_, rfl⟩
  have eb : bits .and .i64 a2 63 = (b : Int) := by rw [and_63', hb]
  have hb63 : b ≤ 63 := by omega
  obtain ⟨n, hn⟩ : ∃ n, n = m + 1 := ⟨_, rfl⟩
  have e2 : 1 + (m : Int) = (n : Int) := by omega
  have hn5 : n ≤ 1024 := by omega
  have HN := Lib.hid (And.intro hn hv)
  clear hm hn hb hv
  go_enter Try.func4, Try.ntmps4
  go_wp2_with fail
  clear e1 e2 eb
  go_loopw [7, 8, 9] (fun p q i wr => ∃ k : Nat, k ≤ n ∧ i = .int .i64 k ∧ wr.ownsRow w.heap.size 30 1 p k ((List.range k).map fun _ => Value.int .u64 (v : Nat)) ∧ wr.ownsRow w.heap.size 30 1 q k ((List.range k).map fun j => Value.int .u64 (turn v b j : Nat)) ∧ (∀ g, p.ownBlock = some g → q.ownBlock ≠ some g) ∧ Below w.heap.size w wr)
    (fun _ _ i _ => n - (intOf i).toNat)
  case atStart => exact ⟨0, Nat.zero_le _, rfl, ⟨by simp, .inl ⟨rfl, rfl⟩⟩, ⟨by simp, .inl ⟨rfl, rfl⟩⟩, (fun _ h => by cases h), Below.refl _ _⟩
  case round =>
    obtain ⟨k, hk, rfl, hop, hoq, hne, hbr⟩ := hrel
    have HO := Lib.hid (And.intro hop (And.intro hoq (And.intro hne hbr)))
    clear hop hoq hne hbr
    by_cases hlt : k < n
    · have ea := and_1' k
      have et := turn_walk (j := k) HN.out.2 hb63
      obtain ⟨r, hr⟩ : ∃ r, r = k % 2 := ⟨_, rfl⟩
      rw [← hr] at ea et
      have hr1 : r ≤ 1 := by omega
      obtain ⟨t, ht⟩ : ∃ t, t = turn v b k := ⟨_, rfl⟩
      rw [← ht] at et
      have HT := Lib.hid ht
      clear ht hr
      go_wp2_with (at_builtin; refine wpList_append_sl (f := fun _ => .int .u64 (v : Nat)) (D := fun k => k = wr.heap.size) (base := w.heap.size) (n := k) (xs := (List.range k).map fun _ => Value.int .u64 (v : Nat)) u64Elem rfl (.tmp 25) (.tmp 27) rfl rfl rfl ?hown ?hsl ?h1 ?h63 ?hby ?hbase ?_)
      case hown => exact HO.out.1.alloc _
      case hsl => exact sl_one _ _ _
      case h1 => intro j _; rfl
      case h63 => unfold maxLen; omega
      case hby => omega
      case hbase => have := HO.out.2.2.2.size; simp; omega
      intro v1 w1 hown1 hg1 hat1
      obtain ⟨hoq1, hne1, hb1⟩ := grown_two _ HO.out.1 HO.out.2.1 HO.out.2.2.1 HO.out.2.2.2 (Nat.le_refl _) hg1 hat1
      have H1 := Lib.hid (And.intro hown1 (And.intro hoq1 (And.intro hne1 hb1)))
      clear hown1 hg1 hat1 hb1 hoq1 hne1
      go_wp2_with (at_builtin; refine wpList_append_sl (f := fun _ => .int .u64 (t : Nat)) (D := fun k => k = w1.heap.size) (base := w.heap.size) (n := k) (xs := (List.range k).map fun j => Value.int .u64 (turn v b j : Nat)) u64Elem rfl (.tmp 29) (.tmp 38) rfl rfl rfl ?hown ?hsl ?h1 ?h63 ?hby ?hbase ?_)
      case hown => exact H1.out.2.1.alloc _
      case hsl => exact sl_one _ _ _
      case h1 => intro j _; rfl
      case h63 => unfold maxLen; omega
      case hby => omega
      case hbase => have := H1.out.2.2.2.size; simp; omega
      intro v2 w2 hown2 hg2 hat2
      obtain ⟨hop2, hne2, hb2⟩ := grown_two _ H1.out.2.1 H1.out.1 (fun g h h' => H1.out.2.2.1 g h' h) H1.out.2.2.2 (Nat.le_refl _) hg2 hat2
      have H2 := Lib.hid (And.intro hown2 (And.intro hop2 (And.intro hne2 hb2)))
      clear hown2 hg2 hat2 hb2 hop2 hne2
      go_wp2_with fail
      go_roundw
      case rel =>
        refine ⟨k + 1, by omega, by go_num, ?_, ?_, (fun g h h' => H2.out.2.2.1 g h' h), H2.out.2.2.2⟩
        · rw [List.range_succ, List.map_append]
          exact H2.out.2.1
        · rw [List.range_succ, List.map_append]
          have := H2.out.1
          rw [HT.out] at this
          exact this
      case measure => simp [intOf]; omega
    · obtain rfl : k = n := by omega
      obtain ⟨hop, hoq, hne, hbr⟩ := HO.out
      obtain ⟨A1, c1, hv1, -, -⟩ := own_form hop
      obtain ⟨A2, c2, hv2, -, -⟩ := own_form hoq
      rw [hv1, hv2]
      rw [hv1] at hop
      rw [hv2] at hoq
      have H2 := Lib.hid (And.intro (sl_of_words hop) (And.intro (sl_of_words hoq) hbr))
      clear hop hoq hne hbr hv1 hv2 HO
      go_wp2_with fail
      refine (xencode_any _ _ _ _ _ (fun _ => v) H2.out.1 (fun _ => HN.out.2) (by omega)).mono ?_
      rintro e w2 ⟨A3, c3, rfl, ho3, hk3⟩
      have hsl3 := H2.out.2.1.keeps hk3 (fun _ _ h => h)
      obtain ⟨j, hj⟩ : ∃ j, k = j + 1 := ⟨k - 1, by have := HN.out.1; omega⟩
      have hl3 := pack_length (xencTo (fun _ => v) k)
      rw [show (xencTo (fun _ => v) k).length = 64 + j by rw [hj]; exact same_len v j] at hl3
      obtain ⟨p3, hp3⟩ : ∃ p3, p3 = (pack (xencTo (fun _ => v) k)).length := ⟨_, rfl⟩
      rw [← hp3] at hl3
      rw [← hp3]
      have H3 := Lib.hid (And.intro hsl3 (And.intro (H2.out.2.2.trans (hk3.to_below.mono H2.out.2.2.size)) hl3))
      have HJ := Lib.hid hj
      clear ho3 hk3 hsl3 hl3 hp3 hj
      go_wp2_with fail
      refine (xencode_any w2 A2 k c2 _ (turn v b) H3.out.1 (turn_lt HN.out.2 hb63) (by omega)).mono ?_
      rintro e w4 ⟨A4, c4, rfl, ho4, hk4⟩
      have hj := HJ.out
      have hl4 := pack_length (xencTo (turn v b) k)
      have hsz : (xencTo (turn v b) k).length = if j = 0 then 64 else 64 + 15 + 3 * (j - 1) := by
        split
        · rename_i h; subst h; rw [hj]; show (bitsTo (turn v b 0) 64 64).length = 64; rw [bitsTo_length]
        · rename_i h
          have := turn_len (v := v) hb63 (j - 1)
          rw [show j - 1 + 2 = k by omega] at this
          exact this
      rw [hsz] at hl4
      obtain ⟨p4, hp4⟩ : ∃ p4, p4 = (pack (xencTo (turn v b) k)).length := ⟨_, rfl⟩
      rw [← hp4] at hl4
      rw [← hp4]
      have H4 := Lib.hid (H3.out.2.1.trans (hk4.to_below.mono H3.out.2.1.size))
      have hl3 := H3.out.2.2
      have e5 : (64 + (k : Int) - 1 + 7) / 8 = (p3 : Int) := by omega
      clear ho4 hk4 hp4 hsz hl3
      by_cases h1 : 1 < k
      · have hj0 : ¬ j = 0 := by omega
        rw [if_neg hj0] at hl4
        have e6 : (79 + 3 * ((k : Int) - 2) + 7) / 8 = (p4 : Int) := by omega
        clear hl4 hj hj0
        go_wp2_with fail
        go_ret
        exact ⟨rfl, H4.out⟩
      · have hj0 : j = 0 := by omega
        rw [if_pos hj0] at hl4
        have e6 : p4 = 8 := by omega
        subst e6
        clear hl4 hj hj0
        go_wp2_with fail
        go_ret
        exact ⟨rfl, H4.out⟩
end Go.Proofs.Ytllmdgbaidkmfaa
