/-
  Values that are put are taken, and the other way round: the plain law of xorval. No walk.
-/
import Derived.Test.YtllmdgbaidkmfaaXorDec
import Derived.Test.YtllmdgbaidkmfaaBegins
namespace Go.Proofs.Ytllmdgbaidkmfaa
theorem gets_one (bs : List Nat) (p : Nat) : gets bs p 1 = bitOf bs p := by show 2 * 0 + bitOf bs (p + 0) = _; simp
theorem gets_two (bs : List Nat) (p : Nat) : gets bs p 2 = 2 * gets bs p 1 + gets bs (p + 1) 1 := by
  rw [gets_one, gets_one]
  show 2 * gets bs p 1 + bitOf bs (p + 1) = _
  rw [gets_one]
theorem gets_one_lt (bs : List Nat) (p : Nat) : gets bs p 1 < 2 := gets_lt bs p 1
/-- A number in a window: its leading and trailing bits are the window's, or more. -/
theorem win_spec {v l t : Nat} (hlt : l + t ≤ 63) (h0 : v ≠ 0) (hv : v < 2 ^ (64 - l - t)) : v * 2 ^ t < 18446744073709551616 ∧ v * 2 ^ t ≠ 0 ∧ l ≤ lead (v * 2 ^ t) ∧ t ≤ trail (v * 2 ^ t) ∧ v * 2 ^ t / 2 ^ t = v := by
  have hp : 0 < 2 ^ t := Nat.two_pow_pos t
  have hx : v * 2 ^ t < 18446744073709551616 := shift_lt hv (by omega)
  have hx0 : 0 < v * 2 ^ t := Nat.mul_pos (by omega) hp
  have hxl : v * 2 ^ t < 2 ^ (64 - l) := by
    rw [show 64 - l = (64 - l - t) + t by omega, Nat.pow_add]
    exact Nat.mul_lt_mul_of_pos_right hv hp
  refine ⟨hx, by omega, ?_, ?_, Nat.mul_div_cancel _ hp⟩
  · obtain ⟨h1, h2, h3⟩ := lead_spec hx0 hx
    rcases Nat.lt_or_ge (lead (v * 2 ^ t)) l with hlt' | hge
    · have : 2 ^ (64 - l) ≤ 2 ^ (63 - lead (v * 2 ^ t)) := Nat.pow_le_pow_right (by omega) (by omega)
      omega
    · exact hge
  · have hv64 : v < 18446744073709551616 := Nat.lt_of_lt_of_le hv (Nat.le_trans (Nat.pow_le_pow_right (by omega) (show 64 - l - t ≤ 64 by omega)) (by decide))
    obtain ⟨-, m, hm⟩ := trail_spec (by omega) hv64
    have : trail (v * 2 ^ t) = trail v + t := by
      refine trail_uniq (m := m) hx ?_
      rw [Nat.pow_add, Nat.mul_assoc, Nat.mul_comm (2 ^ t), ← Nat.mul_assoc, ← hm]
    omega
/-- .. and a number whose leading and trailing bits are so lies in the window. -/
theorem win_back {x l t : Nat} (hx : x < 18446744073709551616) (h0 : x ≠ 0) (hl : l ≤ lead x) (ht : t ≤ trail x) : x / 2 ^ t < 2 ^ (64 - l - t) ∧ x / 2 ^ t ≠ 0 ∧ x / 2 ^ t * 2 ^ t = x ∧ l + t ≤ 63 := by
  have hp : 0 < 2 ^ t := Nat.two_pow_pos t
  have hw := window_le (by omega) hx
  obtain ⟨h1, h2, h3⟩ := lead_spec (u := x) (by omega) hx
  obtain ⟨h4, m, hm⟩ := trail_spec (u := x) (by omega) hx
  have hd : x / 2 ^ t * 2 ^ t = x := by
    refine Nat.div_mul_cancel ?_
    refine ⟨2 ^ (trail x - t) * (2 * m + 1), ?_⟩
    rw [← Nat.mul_assoc, ← Nat.pow_add, show t + (trail x - t) = trail x by omega]
    exact hm
  refine ⟨?_, ?_, hd, by omega⟩
  · refine Nat.div_lt_of_lt_mul ?_
    rw [← Nat.pow_add]
    refine Nat.lt_of_lt_of_le h3 (Nat.pow_le_pow_right (by omega) (by omega))
  · intro he
    rw [he] at hd
    omega
theorem mark2 {bs L : List Nat} (h : Begins bs L) (hr : L.length + 1 + 1 ≤ 8 * bs.length) (h1 : ¬ gets bs L.length 1 = 0) {b : Nat} (h2 : gets bs (L.length + 1) 1 = b) : Begins bs (L ++ bitsTo (2 + b) 2 2) := by
  refine h.put (by omega) ?_
  rw [gets_two, h2]
  have := gets_one_lt bs L.length
  omega
theorem nextX_bwd {bs L : List Nat} {o o' : Option (Nat × Nat)} {x p' : Nat} (ho : WinOk o) (hb : Begins bs L) (h : nextX bs (8 * bs.length) o L.length = some (x, o', p')) :
    Begins bs (L ++ xbits o x) ∧ o' = nextW o x ∧ p' = (L ++ xbits o x).length ∧ x < 18446744073709551616 := by
  unfold nextX at h
  split at h
  · rename_i hr1
    split at h
    · rename_i hz
      injection h with h
      injection h with hx h
      injection h with h2 h3
      subst hx
      subst h2
      have e : xbits o 0 = bitsTo 0 1 1 := by unfold xbits; rw [if_pos rfl]
      rw [e]
      refine ⟨hb.put hr1 hz, by unfold nextW; rw [if_pos rfl], ?_, by omega⟩
      rw [List.length_append, bitsTo_length, h3]
    · rename_i hnz
      split at h
      · rename_i hr2
        split at h
        · rename_i hz2
          have hm := mark2 hb hr2 hnz hz2
          unfold oldX at h
          split at h
          · cases h
          · rename_i l t
            split at h
            · rename_i hr3
              split at h
              · cases h
              · rename_i hv0
                injection h with h
                injection h with hx h
                injection h with h2 h3
                have hlt : l + t ≤ 63 := ho _ rfl
                obtain ⟨w1, w2, w3, w4, w5⟩ := win_spec hlt hv0 (gets_lt bs (L.length + 1 + 1) (64 - l - t))
                rw [hx] at w1 w2 w3 w4 w5
                have hf : fits (some (l, t)) x = true := by
                  unfold fits
                  simp [w3, w4]
                obtain ⟨e1, e2⟩ := xbits_old w2 hf
                have hml : (L ++ bitsTo (2 + 0) 2 2).length = L.length + 1 + 1 := by rw [List.length_append, bitsTo_length]
                have hB := hm.put (n := 64 - l - t) (v := x / 2 ^ t) (by rw [hml]; exact hr3) (by rw [hml, w5])
                rw [e1, e2, ← List.append_assoc]
                refine ⟨hB, h2.symm, ?_, w1⟩
                rw [List.length_append, hml, bitsTo_length, h3]
            · cases h
        · rename_i hz2
          have hz3 : gets bs (L.length + 1) 1 = 1 := by have := gets_one_lt bs (L.length + 1); omega
          have hm := mark2 hb hr2 hnz hz3
          have hml : (L ++ bitsTo (2 + 1) 2 2).length = L.length + 1 + 1 := by rw [List.length_append, bitsTo_length]
          unfold newX at h
          split at h
          · rename_i hr4
            split at h
            · rename_i hr5
              unfold newY at h
              split at h
              · rename_i hlm
                split at h
                · rename_i hr6
                  split at h
                  · rename_i hc
                    injection h with h
                    injection h with hx h
                    injection h with h2 h3
                    rw [hx] at hc
                    obtain ⟨c1, c2, c3, c4⟩ := hc
                    obtain ⟨e1, e2⟩ := xbits_new c1 c4
                    have hB1 := hm.put (n := 6) (v := lead x) (by rw [hml]; exact hr4) (by rw [hml]; exact c2.symm)
                    have hl1 : (L ++ bitsTo (2 + 1) 2 2 ++ bitsTo (lead x) 6 6).length = L.length + 1 + 1 + 6 := by rw [List.length_append, hml, bitsTo_length]
                    have hB2 := hB1.put (n := 6) (v := 64 - lead x - trail x - 1) (by rw [hl1]; exact hr5) (by rw [hl1, c3]; omega)
                    have hl2 : (L ++ bitsTo (2 + 1) 2 2 ++ bitsTo (lead x) 6 6 ++ bitsTo (64 - lead x - trail x - 1) 6 6).length = L.length + 1 + 1 + 6 + 6 := by rw [List.length_append, hl1, bitsTo_length]
                    have hmm : 64 - lead x - trail x = gets bs (L.length + 1 + 1 + 6) 6 + 1 := by omega
                    have hxt : x / 2 ^ trail x = gets bs (L.length + 1 + 1 + 6 + 6) (64 - lead x - trail x) := by
                      rw [hmm, c3, ← hx, Nat.mul_div_cancel _ (Nat.two_pow_pos _)]
                    have hB3 := hB2.put (n := 64 - lead x - trail x) (v := x / 2 ^ trail x) (by rw [hl2, hmm]; exact hr6) (by rw [hl2]; exact hxt.symm)
                    have h64 : x < 18446744073709551616 := by
                      rw [← hx]
                      exact shift_lt (gets_lt _ _ _) (by omega)
                    have ee : L ++ xbits o x = L ++ bitsTo (2 + 1) 2 2 ++ bitsTo (lead x) 6 6 ++ bitsTo (64 - lead x - trail x - 1) 6 6 ++ bitsTo (x / 2 ^ trail x) (64 - lead x - trail x) (64 - lead x - trail x) := by
                      rw [e1]; simp only [List.append_assoc]
                    rw [ee, e2]
                    refine ⟨hB3, ?_, ?_, h64⟩
                    · rw [← h2, c2, c3]
                    · rw [List.length_append, hl2, bitsTo_length, hmm, h3]
                  · cases h
                · cases h
              · cases h
            · cases h
          · cases h
      · cases h
  · cases h
theorem nextX_fwd {bs L : List Nat} {o : Option (Nat × Nat)} {x : Nat} (ho : WinOk o) (hx : x < 18446744073709551616) (h : Begins bs (L ++ xbits o x)) :
    nextX bs (8 * bs.length) o L.length = some (x, nextW o x, (L ++ xbits o x).length) := by
  have hroom := h.room
  by_cases h0 : x = 0
  · subst h0
    have e : xbits o 0 = bitsTo 0 1 1 := by unfold xbits; rw [if_pos rfl]
    rw [e] at h hroom ⊢
    rw [bitsTo_length] at hroom
    unfold nextX
    rw [if_pos hroom, if_pos (h.get (by decide)), List.length_append, bitsTo_length]
    unfold nextW
    rw [if_pos rfl]
  · cases hf : fits o x with
    | true =>
      match o, ho, hf, h, hroom with
      | none, _, hf, _, _ => cases hf
      | some (l, t), ho, hf, h, hroom =>
        obtain ⟨e1, e2⟩ := xbits_old h0 hf
        have hf' := hf
        unfold fits at hf'
        simp only [Bool.and_eq_true, decide_eq_true_eq] at hf'
        obtain ⟨b1, b2, b3, b4⟩ := win_back hx h0 hf'.1 hf'.2
        rw [e1, ← List.append_assoc] at h
        rw [e1, List.length_append, bitsTo_length, bitsTo_length] at hroom
        have hm := h.pre.get (by decide)
        rw [gets_two] at hm
        have g1 := gets_one_lt bs L.length
        have g2 := gets_one_lt bs (L.length + 1)
        have hml : (L ++ bitsTo 2 2 2).length = L.length + 1 + 1 := by rw [List.length_append, bitsTo_length]
        have hg := h.get b1
        rw [hml] at hg
        unfold nextX
        rw [if_pos (by omega), if_neg (by omega), if_pos (by omega), if_pos (by omega)]
        unfold oldX
        show (if L.length + 1 + 1 + (64 - l - t) ≤ 8 * bs.length then _ else _) = _
        rw [if_pos (by omega), hg, if_neg b2, b3, e2, e1, ← List.append_assoc, List.length_append, hml, bitsTo_length]
    | false =>
      obtain ⟨e1, e2⟩ := xbits_new h0 hf
      have hw := window_le (u := x) (by omega) hx
      obtain ⟨b1, b2, b3, -⟩ := win_back hx h0 (Nat.le_refl _) (Nat.le_refl _)
      have ee : L ++ xbits o x = L ++ bitsTo 3 2 2 ++ bitsTo (lead x) 6 6 ++ bitsTo (64 - lead x - trail x - 1) 6 6 ++ bitsTo (x / 2 ^ trail x) (64 - lead x - trail x) (64 - lead x - trail x) := by
        rw [e1]; simp only [List.append_assoc]
      rw [ee] at h ⊢
      have hml : (L ++ bitsTo 3 2 2).length = L.length + 1 + 1 := by rw [List.length_append, bitsTo_length]
      have hl1 : (L ++ bitsTo 3 2 2 ++ bitsTo (lead x) 6 6).length = L.length + 1 + 1 + 6 := by rw [List.length_append, hml, bitsTo_length]
      have hl2 : (L ++ bitsTo 3 2 2 ++ bitsTo (lead x) 6 6 ++ bitsTo (64 - lead x - trail x - 1) 6 6).length = L.length + 1 + 1 + 6 + 6 := by rw [List.length_append, hl1, bitsTo_length]
      have hr := h.room
      rw [hl2, bitsTo_length] at hr
      have hm := h.pre.pre.pre.get (by decide)
      rw [gets_two] at hm
      have q1 := h.pre.pre.get (by show lead x < 64; omega)
      have q2 := h.pre.get (by show 64 - lead x - trail x - 1 < 64; omega)
      have q3 := h.get b1
      rw [hml] at q1
      rw [hl1] at q2
      rw [hl2] at q3
      have g1 := gets_one_lt bs L.length
      have g2 := gets_one_lt bs (L.length + 1)
      unfold nextX
      rw [if_pos (by omega), if_neg (by omega), if_pos (by omega), if_neg (by omega)]
      unfold newX
      rw [if_pos (by omega), if_pos (by omega), q1, q2, show 64 - lead x - trail x - 1 + 1 = 64 - lead x - trail x by omega]
      unfold newY
      rw [if_pos (by omega), if_pos (by omega), show 64 - lead x - (64 - lead x - trail x) = trail x by omega, q3, b3, if_pos ⟨h0, rfl, rfl, hf⟩, e2, List.length_append, hl2, bitsTo_length]
theorem xencTo_congr {f g : Nat → Nat} : ∀ k, (∀ j, j < k → f j = g j) → xencTo f k = xencTo g k ∧ xwin f k = xwin g k
  | 0, _ => ⟨rfl, rfl⟩
  | 1, h => ⟨by show bitsTo (f 0) 64 64 = bitsTo (g 0) 64 64; rw [h 0 (by omega)], rfl⟩
  | k + 2, h => by
    obtain ⟨h1, h2⟩ := xencTo_congr (k + 1) (fun j hj => h j (by omega))
    refine ⟨?_, ?_⟩
    · show xencTo f (k + 1) ++ xbits (xwin f (k + 1)) (f (k + 1) ^^^ f k) = xencTo g (k + 1) ++ xbits (xwin g (k + 1)) (g (k + 1) ^^^ g k)
      rw [h1, h2, h k (by omega), h (k + 1) (by omega)]
    · show nextW (xwin f (k + 1)) (f (k + 1) ^^^ f k) = nextW (xwin g (k + 1)) (g (k + 1) ^^^ g k)
      rw [h2, h k (by omega), h (k + 1) (by omega)]
theorem xencTo_pre (f : Nat → Nat) (k : Nat) : ∀ n, k ≤ n → ∃ M, xencTo f n = xencTo f k ++ M := by
  intro n
  induction n with
  | zero => intro h; obtain rfl : k = 0 := by omega
            exact ⟨[], by simp⟩
  | succ n ih =>
    intro h
    by_cases he : k = n + 1
    · subst he; exact ⟨[], by simp⟩
    · obtain ⟨M, hM⟩ := ih (by omega)
      match n, hM with
      | 0, hM => obtain rfl : k = 0 := by omega
                 exact ⟨xencTo f 1, rfl⟩
      | n + 1, hM =>
        refine ⟨M ++ xbits (xwin f (n + 1)) (f (n + 1) ^^^ f n), ?_⟩
        show xencTo f (n + 1) ++ _ = _
        rw [hM, List.append_assoc]
/-- The first k numbers. -/
def upToN (f : Nat → Nat) (k : Nat) : List Nat := (List.range k).map f
theorem upToN_length (f : Nat → Nat) (k : Nat) : (upToN f k).length = k := by simp [upToN]
theorem upToN_succ (f : Nat → Nat) (k : Nat) : upToN f (k + 1) = upToN f k ++ [f k] := by simp [upToN, List.range_succ]
theorem upToN_getD (f : Nat → Nat) (k j : Nat) (h : j < k) : (upToN f k).getD j 0 = f j := by
  unfold upToN
  rw [List.getD_eq_getElem?_getD, List.getElem?_map, List.getElem?_range h]; rfl
theorem xor_back (a b : Nat) : a ^^^ (b ^^^ a) = b := by
  rw [Nat.xor_comm b a, ← Nat.xor_assoc, Nat.xor_self, Nat.zero_xor]
theorem xor_back' (a b : Nat) : (a ^^^ b) ^^^ a = b := by
  rw [Nat.xor_comm (a ^^^ b) a, ← Nat.xor_assoc, Nat.xor_self, Nat.zero_xor]
theorem stepX_fwd {bs : List Nat} {f : Nat → Nat} {k : Nat} (hf : ∀ j, f j < 18446744073709551616) (h : Begins bs (xencTo f (k + 1))) :
    stepX bs (8 * bs.length) (upToN f k) (xwin f k) (xencTo f k).length = some (f k, xwin f (k + 1), (xencTo f (k + 1)).length) := by
  match k with
  | 0 =>
    have h' : Begins bs ([] ++ bitsTo (f 0) 64 64) := h
    have hg : gets bs 0 64 = f 0 := h'.get (hf 0)
    have hroom : 0 + 64 ≤ 8 * bs.length := by have := h'.room; rw [bitsTo_length] at this; exact this
    unfold stepX
    rw [upToN_length, if_pos rfl]
    show (if 0 + 64 ≤ 8 * bs.length then some (gets bs 0 64, none, 0 + 64) else none) = some (f 0, none, (bitsTo (f 0) 64 64).length)
    rw [if_pos hroom, hg, bitsTo_length]
  | k + 1 =>
    have h' : Begins bs (xencTo f (k + 1) ++ xbits (xwin f (k + 1)) (f (k + 1) ^^^ f k)) := h
    have ht := nextX_fwd (xwin_ok hf (k + 1)) (xor_lt (hf _) (hf _)) h'
    unfold stepX
    rw [upToN_length, if_neg (by omega), ht]
    show some ((upToN f (k + 1)).getD (k + 1 - 1) 0 ^^^ (f (k + 1) ^^^ f k), _, _) = _
    rw [show k + 1 - 1 = k by omega, upToN_getD f (k + 1) k (by omega), xor_back]
    rfl
theorem decX_fwd {bs : List Nat} {f : Nat → Nat} {n : Nat} (hf : ∀ j, f j < 18446744073709551616) (h : Begins bs (xencTo f n)) : ∀ m k, m + k = n → decX bs (8 * bs.length) m (upToN f k) (xwin f k) (xencTo f k).length = some (upToN f n, (xencTo f n).length)
  | 0, k, hk => by
    obtain rfl : k = n := by omega
    rfl
  | m + 1, k, hk => by
    obtain ⟨M, hM⟩ := xencTo_pre f (k + 1) n (by omega)
    have hb : Begins bs (xencTo f (k + 1)) := by rw [hM] at h; exact h.pre
    unfold decX
    rw [stepX_fwd hf hb]
    show decX bs (8 * bs.length) m (upToN f k ++ [f k]) (xwin f (k + 1)) (xencTo f (k + 1)).length = _
    rw [← upToN_succ]
    exact decX_fwd hf h m (k + 1) (by omega)
theorem xdec_back {f : Nat → Nat} (hf : ∀ j, f j < 18446744073709551616) (n : Nat) : decXL (pack (xencTo f n)) n = some (upToN f n) := by
  have hb := xencTo_bit f n
  have h : decX (pack (xencTo f n)) (8 * (pack (xencTo f n)).length) n [] none 0 = some (upToN f n, (xencTo f n).length) := decX_fwd hf (Begins.pack hb) n 0 (by omega)
  unfold decXL
  rw [h]
  show (if endX _ _ (xencTo f n).length then some (upToN f n) else none) = _
  rw [if_pos]
  unfold endX
  rw [gets_pack_end hb, pack_length]
  refine ⟨?_, rfl⟩
  omega
theorem stepX_bwd {bs out : List Nat} {t p' : Nat} {o' : Option (Nat × Nat)} (hu : ∀ j, out.getD j 0 < 18446744073709551616) (hb : Begins bs (xencTo (fun j => out.getD j 0) out.length))
    (h : stepX bs (8 * bs.length) out (xwin (fun j => out.getD j 0) out.length) (xencTo (fun j => out.getD j 0) out.length).length = some (t, o', p')) :
    Begins bs (xencTo (fun j => (out ++ [t]).getD j 0) (out.length + 1)) ∧ o' = xwin (fun j => (out ++ [t]).getD j 0) (out.length + 1) ∧ p' = (xencTo (fun j => (out ++ [t]).getD j 0) (out.length + 1)).length ∧ t < 18446744073709551616 := by
  have hg : ∀ j, j < out.length → out.getD j 0 = (out ++ [t]).getD j 0 := fun j hj => by
    rw [List.getD_eq_getElem?_getD, List.getD_eq_getElem?_getD, List.getElem?_append_left hj]
  have hlast : (out ++ [t]).getD out.length 0 = t := by
    rw [List.getD_eq_getElem?_getD]; simp
  obtain ⟨c1, c2⟩ := xencTo_congr out.length hg
  unfold stepX at h
  cases hl : out.length with
  | zero =>
    have ho : out = [] := List.eq_nil_of_length_eq_zero hl
    subst ho
    rw [if_pos (show ([] : List Nat).length = 0 from rfl)] at h
    have h' : (if 0 + 64 ≤ 8 * bs.length then some (gets bs 0 64, (none : Option (Nat × Nat)), 0 + 64) else none) = some (t, o', p') := h
    split at h'
    · rename_i hfit
      injection h' with h'
      injection h' with h1 h2
      injection h2 with h2 h3
      have hz := gets_u64 bs 0 64 (by omega)
      have hB := (Begins.nil bs).put (n := 64) (v := gets bs 0 64) hfit rfl
      have e : xencTo (fun j => ([] ++ [t]).getD j 0) (0 + 1) = [] ++ bitsTo (gets bs 0 64) 64 64 := by
        show bitsTo t 64 64 = _
        rw [← h1]
        rfl
      rw [e]
      refine ⟨hB, h2.symm, ?_, by rw [← h1]; exact hz⟩
      rw [← h3, List.nil_append, bitsTo_length]
    · cases h'
  | succ k =>
    rw [if_neg (by omega)] at h
    rw [hl] at hb h c1 c2
    cases htk : nextX bs (8 * bs.length) (xwin (fun j => out.getD j 0) (k + 1)) (xencTo (fun j => out.getD j 0) (k + 1)).length with
    | none => rw [htk] at h; cases h
    | some q =>
      obtain ⟨x, o2, p2⟩ := q
      rw [htk] at h
      injection h with h
      injection h with h1 h2
      injection h2 with h2 h3
      simp only [] at h1 h2 h3
      obtain ⟨hB, hq, hd, hx⟩ := nextX_bwd (xwin_ok hu (k + 1)) hb htk
      rw [show k + 1 - 1 = k by omega] at h1
      have e1 : (out ++ [t]).getD (k + 1) 0 = t := by rw [← hl]; exact hlast
      have e2 : (out ++ [t]).getD k 0 = out.getD k 0 := (hg k (by omega)).symm
      have e3 : t ^^^ out.getD k 0 = x := by rw [← h1, xor_back']
      have e : xencTo (fun j => (out ++ [t]).getD j 0) (k + 1 + 1) = xencTo (fun j => out.getD j 0) (k + 1) ++ xbits (xwin (fun j => out.getD j 0) (k + 1)) x := by
        show xencTo (fun j => (out ++ [t]).getD j 0) (k + 1) ++ xbits (xwin (fun j => (out ++ [t]).getD j 0) (k + 1)) ((out ++ [t]).getD (k + 1) 0 ^^^ (out ++ [t]).getD k 0) = _
        rw [← c1, ← c2, e1, e2, e3]
      rw [e]
      refine ⟨hB, ?_, by rw [← h3, hd], by rw [← h1]; exact xor_lt (hu k) hx⟩
      show o' = nextW (xwin (fun j => (out ++ [t]).getD j 0) (k + 1)) ((out ++ [t]).getD (k + 1) 0 ^^^ (out ++ [t]).getD k 0)
      rw [← c2, e1, e2, e3, ← hq, h2]
theorem decX_bwd {bs : List Nat} {l : List Nat} {q : Nat} : ∀ m (out : List Nat), (∀ j, out.getD j 0 < 18446744073709551616) → Begins bs (xencTo (fun j => out.getD j 0) out.length) →
    decX bs (8 * bs.length) m out (xwin (fun j => out.getD j 0) out.length) (xencTo (fun j => out.getD j 0) out.length).length = some (l, q) →
    l.length = out.length + m ∧ Begins bs (xencTo (fun j => l.getD j 0) l.length) ∧ q = (xencTo (fun j => l.getD j 0) l.length).length
  | 0, out, _, hb, h => by
    injection h with h
    injection h with h1 h2
    subst h1
    exact ⟨rfl, hb, h2.symm⟩
  | m + 1, out, hu, hb, h => by
    unfold decX at h
    cases hn : stepX bs (8 * bs.length) out (xwin (fun j => out.getD j 0) out.length) (xencTo (fun j => out.getD j 0) out.length).length with
    | none => rw [hn] at h; cases h
    | some r =>
      obtain ⟨t, o', p'⟩ := r
      rw [hn] at h
      have h' : decX bs (8 * bs.length) m (out ++ [t]) o' p' = some (l, q) := h
      obtain ⟨h1, h2, h3, h4⟩ := stepX_bwd hu hb hn
      have hl : (out ++ [t]).length = out.length + 1 := by simp
      rw [h2, h3] at h'
      have := decX_bwd m (out ++ [t]) (getD_u hu h4) (by rw [hl]; exact h1) (by rw [hl]; exact h')
      rw [hl] at this
      exact ⟨by omega, this.2⟩
theorem xdec_one {bs : List Nat} (hbyte : ∀ j, bs.getD j 0 < 256) {n : Nat} {l : List Nat} (h : decXL bs n = some l) : l.length = n ∧ pack (xencTo (fun j => l.getD j 0) n) = bs := by
  unfold decXL at h
  cases hd : decX bs (8 * bs.length) n [] none 0 with
  | none => rw [hd] at h; cases h
  | some r =>
    obtain ⟨o, q⟩ := r
    rw [hd] at h
    have h' : (if endX bs (8 * bs.length) q then some o else none) = some l := h
    split at h'
    · rename_i hend
      injection h' with h1
      subst h1
      obtain ⟨g1, g2, g3⟩ := decX_bwd n [] (fun j => by simp) (Begins.nil bs) hd
      have hl : o.length = n := by simpa using g1
      refine ⟨hl, ?_⟩
      rw [hl] at g2 g3
      obtain ⟨e1, e2⟩ := hend
      rw [g3] at e1 e2
      have := g2.le
      exact (g2.all hbyte (xencTo_bit _ _) (by omega) e2).symm
    · cases h'
end Go.Proofs.Ytllmdgbaidkmfaa
