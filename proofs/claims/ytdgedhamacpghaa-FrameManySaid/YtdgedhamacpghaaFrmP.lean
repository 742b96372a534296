/-
  Plain facts on frames: what is sealed is opened; what is turned is not. No walk.
-/
import Derived.Test.YtdgedhamacpghaaFrmE
namespace Go.Proofs.Ytdgedhamacpghaa
theorem take_body (kind : Nat) (bs more : List Nat) : (sealL kind bs ++ more).take 5 = kind :: fourL bs.length := by
  unfold sealL bodyL fourL
  simp
theorem frameN_seal (kind : Nat) (bs more : List Nat) (h : bs.length < 4294967296) : frameN (sealL kind bs ++ more) = bs.length := by
  unfold frameN
  rw [take_body]
  exact le_four _ h
theorem lenE_seal (kind : Nat) (bs more : List Nat) (h : bs.length ≤ 1048576) : lenE (sealL kind bs ++ more) = 0 ∧ lenV (sealL kind bs ++ more) = bs.length + 9 := by
  have hn := frameN_seal kind bs more (by omega)
  have hl : (sealL kind bs ++ more).length = bs.length + 9 + more.length := by rw [List.length_append, sealL_length]
  have h1 : lenE (sealL kind bs ++ more) = 0 := by
    unfold lenE
    rw [hn, hl, if_neg (by omega), if_neg (by omega), if_neg (by omega)]
  refine ⟨h1, ?_⟩
  unfold lenV
  rw [if_pos h1, hn]
theorem seal_take (kind : Nat) (bs : List Nat) : (sealL kind bs).take ((sealL kind bs).length - 4) = bodyL kind bs := by
  have : (sealL kind bs).length - 4 = (bodyL kind bs).length := by rw [sealL_length, bodyL_length]; omega
  rw [this]
  unfold sealL
  exact List.take_left
theorem seal_drop (kind : Nat) (bs : List Nat) : (sealL kind bs).drop ((sealL kind bs).length - 4) = fourL (crcS (bodyL kind bs)) := by
  have : (sealL kind bs).length - 4 = (bodyL kind bs).length := by rw [sealL_length, bodyL_length]; omega
  rw [this]
  unfold sealL
  exact List.drop_left
theorem with_seal {kind : Nat} {bs : List Nat} (hk : kind < 256) (hb : ∀ j, bs.getD j 0 < 256) : withE (sealL kind bs) = 0 ∧ withK (sealL kind bs) = kind ∧ withI (sealL kind bs) = bs := by
  have h1 : withE (sealL kind bs) = 0 := by
    unfold withE sumOf
    rw [List.take_length, seal_drop, seal_take, le_four _ (crcS_lt (bodyL_byte hk hb)), if_pos rfl]
  refine ⟨h1, ?_, ?_⟩
  · unfold withK
    rw [if_pos h1]
    rfl
  · unfold withI
    rw [if_pos h1, seal_take]
    rfl
theorem open_seal {kind : Nat} {bs : List Nat} (hk : kind < 256) (hb : ∀ j, bs.getD j 0 < 256) (h : bs.length ≤ 1048576) : openE (sealL kind bs) = 0 ∧ openK (sealL kind bs) = kind ∧ openI (sealL kind bs) = bs := by
  obtain ⟨g1, g2⟩ := lenE_seal kind bs [] h
  rw [List.append_nil] at g1 g2
  obtain ⟨w1, w2, w3⟩ := with_seal hk hb
  have h1 : openE (sealL kind bs) = 0 := by
    unfold openE
    rw [if_pos g1, g2, sealL_length, if_pos rfl, w1]
  refine ⟨h1, ?_, ?_⟩
  · unfold openK; rw [if_pos h1, w2]
  · unfold openI; rw [if_pos h1, w3]
theorem read_seal {kind : Nat} {bs : List Nat} (more : List Nat) (hk : kind < 256) (hb : ∀ j, bs.getD j 0 < 256) (h : bs.length ≤ 1048576) :
    readE (sealL kind bs ++ more) = 0 ∧ readK (sealL kind bs ++ more) = kind ∧ readI (sealL kind bs ++ more) = bs ∧ readN (sealL kind bs ++ more) = bs.length + 9 := by
  obtain ⟨g1, g2⟩ := lenE_seal kind bs more h
  obtain ⟨w1, w2, w3⟩ := with_seal hk hb
  have ht : (sealL kind bs ++ more).take (bs.length + 9) = sealL kind bs := by
    rw [← sealL_length kind bs]
    exact List.take_left
  have h1 : readE (sealL kind bs ++ more) = 0 := by
    unfold readE
    rw [if_pos g1, g2, ht, w1]
  refine ⟨h1, ?_, ?_, ?_⟩
  · unfold readK; rw [if_pos h1, g2, ht, w2]
  · unfold readI; rw [if_pos h1, g2, ht, w3]
  · unfold readN; rw [if_pos h1, g2]
theorem open_err {bs : List Nat} (h : openE bs ≠ 0) : openK bs = 0 ∧ openI bs = [] := by unfold openK openI; rw [if_neg h, if_neg h]; exact ⟨rfl, rfl⟩
theorem open_short (kind : Nat) (bs : List Nat) (h : bs.length ≤ 1048576) : openE ((sealL kind bs).take ((sealL kind bs).length - 1)) = 10 := by
  have hl : ((sealL kind bs).take ((sealL kind bs).length - 1)).length = bs.length + 8 := by rw [List.length_take, sealL_length]; omega
  have hE : lenE ((sealL kind bs).take ((sealL kind bs).length - 1)) = 10 := by
    unfold lenE
    rw [hl]
    by_cases h9 : bs.length + 8 < 9
    · rw [if_pos h9]
    · have hn : frameN ((sealL kind bs).take ((sealL kind bs).length - 1)) = bs.length := by
        unfold frameN
        rw [List.take_take, show min 5 ((sealL kind bs).length - 1) = 5 by rw [sealL_length]; omega]
        have := take_body kind bs []
        rw [List.append_nil] at this
        rw [this]
        exact le_four _ (by omega)
      rw [if_neg h9, hn, if_neg (by omega), if_pos (by omega)]
  unfold openE
  rw [hE, if_neg (by omega)]
theorem open_more (kind : Nat) (bs : List Nat) (h : bs.length ≤ 1048576) : openE (sealL kind bs ++ [0]) = 11 := by
  obtain ⟨g1, g2⟩ := lenE_seal kind bs [0] h
  unfold openE
  rw [if_pos g1, g2, List.length_append, sealL_length, if_neg (by simp)]
/-- A frame that opens is whole: its sum is its bytes' sum. -/
theorem open_ok {bs : List Nat} (h : openE bs = 0) : 9 ≤ bs.length ∧ le (bs.drop (bs.length - 4)) = crcS (bs.take (bs.length - 4)) := by
  unfold openE at h
  by_cases h1 : lenE bs = 0
  · rw [if_pos h1] at h
    obtain ⟨g1, g2, g3⟩ := lenE_zero h1
    by_cases h2 : lenV bs = bs.length
    · rw [if_pos h2] at h
      refine ⟨by omega, ?_⟩
      unfold withE sumOf at h
      rw [List.take_length] at h
      split at h
      · assumption
      · omega
    · rw [if_neg h2] at h; omega
  · rw [if_neg h1] at h; exact absurd h h1
theorem le_split {bs : List Nat} (hb : ∀ b ∈ bs, b < 256) (m : Nat) (hm : m ≤ bs.length) : le bs = 2 ^ (8 * m) * le (bs.drop m) ^^^ le (bs.take m) := by
  have h1 := le_append (bs.take m) (bs.drop m)
  rw [List.take_append_drop, List.length_take, Nat.min_eq_left hm] at h1
  have h2 : le (bs.take m) < 2 ^ (8 * m) := by
    have := le_lt (l := bs.take m) (fun b hb' => hb b (List.mem_of_mem_take hb'))
    rw [List.length_take, Nat.min_eq_left hm] at this
    exact this
  rw [join_xor _ _ _ h2, h1]
  omega
/-- Two frames of one length that open differ by no burst of at most 32 bits. -/
theorem burst_open {a b : List Nat} {at_ by_ : Nat} (ha : ∀ x ∈ a, x < 256) (hb : ∀ x ∈ b, x < 256) (hl : a.length = b.length) (h : le b = le a ^^^ by_ * 2 ^ at_) (hby : by_ < 4294967296) (oa : openE a = 0) (ob : openE b = 0) : by_ = 0 := by
  obtain ⟨l1, s1⟩ := open_ok oa
  obtain ⟨l2, s2⟩ := open_ok ob
  obtain ⟨m, hm⟩ : ∃ m, m = a.length - 4 := ⟨_, rfl⟩
  rw [← hm] at s1
  rw [← hl, ← hm] at s2
  have e1 := le_split ha m (by omega)
  have e2 := le_split hb m (by omega)
  unfold crcS at s1 s2
  rw [crcL_le (fun x hx => ha x (List.mem_of_mem_take hx)), List.length_take, Nat.min_eq_left (by omega)] at s1
  rw [crcL_le (fun x hx => hb x (List.mem_of_mem_take hx)), List.length_take, Nat.min_eq_left (by omega)] at s2
  rw [e1, e2] at h
  exact burst (8 * m) at_ by_ hby (crc_diff h s2.symm s1.symm)
theorem le_set {bs : List Nat} (hb : ∀ b ∈ bs, b < 256) (i r : Nat) (hi : i < bs.length) (hr : r < 8) : le (bs.set i (bs.getD i 0 ^^^ 2 ^ r)) = le bs ^^^ 2 ^ (8 * i + r) := by
  induction bs generalizing i with
  | nil => simp at hi
  | cons x l ih =>
    have hx := hb x (by simp)
    have hl : ∀ b ∈ l, b < 256 := fun b hm => hb b (by simp [hm])
    have h28 : (2 : Nat) ^ r ≤ 2 ^ 7 := Nat.pow_le_pow_right (by omega) (by omega)
    cases i with
    | zero =>
      show (x ^^^ 2 ^ r) + 256 * le l = (x + 256 * le l) ^^^ 2 ^ (8 * 0 + r)
      have e1 : x + 256 * le l = 2 ^ 8 * le l ^^^ x := by rw [join_xor 8 _ _ (by omega)]; omega
      have hxr : x ^^^ 2 ^ r < 2 ^ 8 := Nat.xor_lt_two_pow (by omega) (by omega)
      have e2 : (x ^^^ 2 ^ r) + 256 * le l = 2 ^ 8 * le l ^^^ (x ^^^ 2 ^ r) := by rw [join_xor 8 _ _ hxr]; omega
      rw [e1, e2, Nat.xor_assoc, show 8 * 0 + r = r by omega]
    | succ i =>
      have hi' : i < l.length := by simpa using hi
      have h := ih hl i hi'
      show x + 256 * le (l.set i (l.getD i 0 ^^^ 2 ^ r)) = (x + 256 * le l) ^^^ 2 ^ (8 * (i + 1) + r)
      rw [h]
      have e1 : x + 256 * le l = 2 ^ 8 * le l ^^^ x := by rw [join_xor 8 _ _ (by omega)]; omega
      have e2 : x + 256 * (le l ^^^ 2 ^ (8 * i + r)) = 2 ^ 8 * (le l ^^^ 2 ^ (8 * i + r)) ^^^ x := by rw [join_xor 8 _ _ (by omega)]; omega
      have e3 : 2 ^ 8 * (le l ^^^ 2 ^ (8 * i + r)) = 2 ^ 8 * le l ^^^ 2 ^ (8 * (i + 1) + r) := by
        have := Nat.shiftLeft_xor_distrib (a := le l) (b := 2 ^ (8 * i + r)) (i := 8)
        simp only [Nat.shiftLeft_eq] at this
        rw [Nat.mul_comm, this, Nat.mul_comm (le l), ← Nat.pow_add, show 8 * i + r + 8 = 8 * (i + 1) + r by omega]
      rw [e1, e2, e3, Nat.xor_assoc, Nat.xor_assoc, Nat.xor_comm x]
theorem set_byte {bs : List Nat} (hb : ∀ b ∈ bs, b < 256) (i r : Nat) (hr : r < 8) : ∀ b ∈ bs.set i (bs.getD i 0 ^^^ 2 ^ r), b < 256 := by
  intro b hm
  rcases List.mem_or_eq_of_mem_set hm with h | h
  · exact hb b h
  · subst h
    have h28 : (2 : Nat) ^ r ≤ 2 ^ 7 := Nat.pow_le_pow_right (by omega) (by omega)
    exact Nat.xor_lt_two_pow (n := 8) (getD_of_mem hb i) (by omega)
end Go.Proofs.Ytdgedhamacpghaa
