/-
  Times that are put are taken, and the other way round: the plain law of delta. No walk.
-/
import Derived.Test.YtgphdigcilbnlaaDeltaDec
import Derived.Test.YtgphdigcilbnlaaBegins
namespace Go.Proofs.Ytgphdigcilbnlaa
def markBits (c : Nat) : List Nat := List.replicate c 1 ++ (if c < 4 then [0] else [])
theorem markBits_length {c : Nat} (h : c ≤ 4) : (markBits c).length = ah c := by
  unfold markBits ah
  rw [List.length_append, List.length_replicate]
  split
  · simp; omega
  · simp; omega
theorem dbits_mark (z : Nat) : dbits z = markBits (cls z) ++ bitsTo z (wd (cls z)) (wd (cls z)) := dbits_ref z
theorem markR_bwd (bs L : List Nat) (c q : Nat) : ∀ f, f ≤ 4 → Begins bs (L ++ List.replicate (4 - f) 1) → markR bs (8 * bs.length) f (L.length + (4 - f)) = (c, 0, q) → c ≤ 4 ∧ Begins bs (L ++ markBits c) ∧ q = L.length + ah c
  | 0, _, hb, h => by
    injection h with h1 h2
    injection h2 with h2 h3
    subst h1
    subst h3
    refine ⟨Nat.le_refl _, ?_, rfl⟩
    simpa [markBits] using hb
  | f + 1, hf, hb, h => by
    have hl : (L ++ List.replicate (4 - (f + 1)) 1).length = L.length + (4 - (f + 1)) := by simp
    unfold markR at h
    by_cases hp : L.length + (4 - (f + 1)) < 8 * bs.length
    · rw [if_pos hp] at h
      by_cases h0 : bitOf bs (L.length + (4 - (f + 1))) = 0
      · rw [if_pos h0] at h
        injection h with h1 h2
        injection h2 with h2 h3
        subst h1
        subst h3
        refine ⟨by omega, ?_, by unfold ah; omega⟩
        unfold markBits
        rw [if_pos (by omega), ← List.append_assoc]
        exact hb.snoc (by rw [hl]; exact hp) (by rw [hl]; exact h0)
      · rw [if_neg h0] at h
        have h1 : bitOf bs (L.length + (4 - (f + 1))) = 1 := by have := bitOf_lt bs (L.length + (4 - (f + 1))); omega
        have hs := hb.snoc (b := 1) (by rw [hl]; exact hp) (by rw [hl]; exact h1)
        rw [List.append_assoc, ← List.replicate_succ', show 4 - (f + 1) + 1 = 4 - f by omega] at hs
        rw [show L.length + (4 - (f + 1)) + 1 = L.length + (4 - f) by omega] at h
        exact markR_bwd bs L c q f (by omega) hs h
    · rw [if_neg hp] at h
      injection h with h1 h2
      injection h2 with h2 h3
      omega
theorem take_bwd {bs L : List Nat} {d : Int} {q : Nat} (hb : Begins bs L) (h : takeR bs (8 * bs.length) L.length = (d, 0, q)) : Begins bs (L ++ dbits (zig d)) ∧ q = (L ++ dbits (zig d)).length ∧ I64 d := by
  have hr := takeR_range bs (8 * bs.length) L.length
  rw [h] at hr
  unfold takeR at h
  have hm := markR_bwd bs L (markR bs (8 * bs.length) 4 L.length).1 (markR bs (8 * bs.length) 4 L.length).2.2 4 (Nat.le_refl _) (by simpa using hb)
  generalize markR bs (8 * bs.length) 4 L.length = mm at h hm
  obtain ⟨c, e, p⟩ := mm
  simp only [] at h hm
  unfold takeM at h
  by_cases he : e = 0
  · subst he
    obtain ⟨hc, hB, hp⟩ := hm rfl
    rw [if_pos rfl] at h
    by_cases hfit : p + wd c ≤ 8 * bs.length
    · rw [if_pos hfit] at h
      by_cases hcl : cls (gets bs p (wd c)) = c
      · rw [if_pos hcl] at h
        injection h with h1 h2
        injection h2 with h2 h3
        have hz : zig d = gets bs p (wd c) := by rw [← h1, zig_zag]
        have hpl : p = (L ++ markBits c).length := by rw [List.length_append, markBits_length hc]; exact hp
        have hB2 := hB.put (n := wd c) (v := gets bs p (wd c)) (by rw [← hpl]; exact hfit) (by rw [← hpl])
        rw [hz, dbits_mark, hcl, ← List.append_assoc]
        refine ⟨hB2, ?_, hr⟩
        rw [List.length_append, bitsTo_length, ← hpl, h3]
      · rw [if_neg hcl] at h
        injection h with h1 h2
        injection h2 with h2 h3
        omega
    · rw [if_neg hfit] at h
      injection h with h1 h2
      injection h2 with h2 h3
      omega
  · rw [if_neg he] at h
    injection h with h1 h2
    injection h2 with h2 h3
    exact absurd h2 he
theorem markR_fwd {bs L : List Nat} {c : Nat} (hc : c ≤ 4) (h : Begins bs (L ++ markBits c)) : markR bs (8 * bs.length) 4 L.length = (c, 0, L.length + ah c) := by
  have hr := h.room
  rw [markBits_length hc] at hr
  have hbit : ∀ j, j < ah c → bitOf bs (L.length + j) = (markBits c).getD j 0 := fun j hj => h.bit j (by rw [markBits_length hc]; exact hj)
  rcases (show c = 0 ∨ c = 1 ∨ c = 2 ∨ c = 3 ∨ c = 4 by omega) with rfl | rfl | rfl | rfl | rfl
  · have hr' : L.length + 1 ≤ 8 * bs.length := hr
    have a0 : bitOf bs (L.length + 0) = 0 := hbit 0 (by decide)
    show markR bs (8 * bs.length) 4 L.length = (0, 0, L.length + 1)
    rw [markR, if_pos (by omega), if_pos (by exact a0)]
  · have hr' : L.length + 2 ≤ 8 * bs.length := hr
    have a0 : bitOf bs (L.length + 0) = 1 := hbit 0 (by decide)
    have a1 : bitOf bs (L.length + 1) = 0 := hbit 1 (by decide)
    show markR bs (8 * bs.length) 4 L.length = (1, 0, L.length + 2)
    rw [markR, if_pos (by omega), if_neg (fun e => by have e' : bitOf bs (L.length + 0) = 0 := e; omega)]
    rw [markR, if_pos (by omega), if_pos (by exact a1)]
  · have hr' : L.length + 3 ≤ 8 * bs.length := hr
    have a0 : bitOf bs (L.length + 0) = 1 := hbit 0 (by decide)
    have a1 : bitOf bs (L.length + 1) = 1 := hbit 1 (by decide)
    have a2 : bitOf bs (L.length + 2) = 0 := hbit 2 (by decide)
    show markR bs (8 * bs.length) 4 L.length = (2, 0, L.length + 3)
    rw [markR, if_pos (by omega), if_neg (fun e => by have e' : bitOf bs (L.length + 0) = 0 := e; omega)]
    rw [markR, if_pos (by omega), if_neg (fun e => by have e' : bitOf bs (L.length + 1) = 0 := e; omega)]
    rw [markR, if_pos (by omega), if_pos (by exact a2)]
  · have hr' : L.length + 4 ≤ 8 * bs.length := hr
    have a0 : bitOf bs (L.length + 0) = 1 := hbit 0 (by decide)
    have a1 : bitOf bs (L.length + 1) = 1 := hbit 1 (by decide)
    have a2 : bitOf bs (L.length + 2) = 1 := hbit 2 (by decide)
    have a3 : bitOf bs (L.length + 3) = 0 := hbit 3 (by decide)
    show markR bs (8 * bs.length) 4 L.length = (3, 0, L.length + 4)
    rw [markR, if_pos (by omega), if_neg (fun e => by have e' : bitOf bs (L.length + 0) = 0 := e; omega)]
    rw [markR, if_pos (by omega), if_neg (fun e => by have e' : bitOf bs (L.length + 1) = 0 := e; omega)]
    rw [markR, if_pos (by omega), if_neg (fun e => by have e' : bitOf bs (L.length + 2) = 0 := e; omega)]
    rw [markR, if_pos (by omega), if_pos (by exact a3)]
  · have hr' : L.length + 4 ≤ 8 * bs.length := hr
    have a0 : bitOf bs (L.length + 0) = 1 := hbit 0 (by decide)
    have a1 : bitOf bs (L.length + 1) = 1 := hbit 1 (by decide)
    have a2 : bitOf bs (L.length + 2) = 1 := hbit 2 (by decide)
    have a3 : bitOf bs (L.length + 3) = 1 := hbit 3 (by decide)
    show markR bs (8 * bs.length) 4 L.length = (4, 0, L.length + 4)
    rw [markR, if_pos (by omega), if_neg (fun e => by have e' : bitOf bs (L.length + 0) = 0 := e; omega)]
    rw [markR, if_pos (by omega), if_neg (fun e => by have e' : bitOf bs (L.length + 1) = 0 := e; omega)]
    rw [markR, if_pos (by omega), if_neg (fun e => by have e' : bitOf bs (L.length + 2) = 0 := e; omega)]
    rw [markR, if_pos (by omega), if_neg (fun e => by have e' : bitOf bs (L.length + 3) = 0 := e; omega)]
    rfl
theorem cls_fits {z : Nat} (hz : z < 18446744073709551616) : z < 2 ^ wd (cls z) := by
  unfold cls
  split
  · subst z; decide
  · split
    · show z < 2 ^ 7; omega
    · split
      · show z < 2 ^ 12; omega
      · split
        · show z < 2 ^ 32; omega
        · show z < 2 ^ 64; omega
theorem take_fwd {bs L : List Nat} {z : Nat} (hz : z < 18446744073709551616) (h : Begins bs (L ++ dbits z)) : takeR bs (8 * bs.length) L.length = (zag z, 0, (L ++ dbits z).length) := by
  have hc := cls_le z
  rw [dbits_mark, ← List.append_assoc] at h
  have hm := markR_fwd hc h.pre
  have hpl : L.length + ah (cls z) = (L ++ markBits (cls z)).length := by rw [List.length_append, markBits_length hc]
  have hg := h.get (cls_fits hz)
  have hroom := h.room
  rw [bitsTo_length] at hroom
  unfold takeR
  rw [hm]
  show takeM bs (8 * bs.length) (cls z) 0 (L.length + ah (cls z)) = _
  unfold takeM
  rw [if_pos rfl, hpl, if_pos hroom, hg, if_pos rfl, dbits_mark, ← List.append_assoc]
  have e : (L ++ markBits (cls z) ++ bitsTo z (wd (cls z)) (wd (cls z))).length = (L ++ markBits (cls z)).length + wd (cls z) := by rw [List.length_append, bitsTo_length]
  rw [e]
theorem encTo_congr {f g : Nat → Int} : ∀ k, (∀ j, j < k → f j = g j) → encTo f k = encTo g k ∧ st f k = st g k
  | 0, _ => ⟨rfl, rfl⟩
  | 1, h => ⟨by unfold encTo; rw [h 0 (by omega)], rfl⟩
  | k + 2, h => by
    obtain ⟨h1, h2⟩ := encTo_congr (k + 1) (fun j hj => h j (by omega))
    refine ⟨?_, ?_⟩
    · unfold encTo
      rw [h1, h2, h (k + 1) (by omega), h k (by omega)]
    · show sub64 (f (k + 1)) (f k) = sub64 (g (k + 1)) (g k)
      rw [h (k + 1) (by omega), h k (by omega)]
theorem encTo_pre (f : Nat → Int) (k n : Nat) (h : k ≤ n) : ∃ M, encTo f n = encTo f k ++ M := by
  obtain ⟨m, rfl⟩ : ∃ m, n = k + m := ⟨n - k, by omega⟩
  clear h
  induction m with
  | zero => exact ⟨[], by simp⟩
  | succ m ih =>
    obtain ⟨M, hM⟩ := ih
    match hk : k + m with
    | 0 =>
      have : k = 0 := by omega
      subst this
      exact ⟨_, by rw [show encTo f 0 = [] from rfl, List.nil_append]⟩
    | j + 1 =>
      rw [hk] at hM
      rw [show k + (m + 1) = j + 2 by omega]
      refine ⟨M ++ dbits (zig (sub64 (sub64 (f (j + 1)) (f j)) (st f (j + 1)))), ?_⟩
      show encTo f (j + 1) ++ _ = _
      rw [hM, List.append_assoc]
theorem i64of_u64 {n : Int} (h : I64 n) : i64of (u64 n) = n := by unfold i64of u64; unfold I64 at h; split <;> omega
theorem u64_i64of {u : Nat} (h : u < 18446744073709551616) : u64 (i64of u) = u := by unfold i64of u64; split <;> omega
theorem add_sub64 {a b : Int} (h : I64 a) : add64 b (sub64 a b) = a := by unfold add64 sub64; unfold I64 at h; omega
theorem sub_add' {a s : Int} (h : I64 s) : sub64 (add64 a s) a = s := by unfold add64 sub64; unfold I64 at h; omega
/-- The first k numbers. -/
def upTo (f : Nat → Int) (k : Nat) : List Int := (List.range k).map f
theorem upTo_length (f : Nat → Int) (k : Nat) : (upTo f k).length = k := by simp [upTo]
theorem upTo_succ (f : Nat → Int) (k : Nat) : upTo f (k + 1) = upTo f k ++ [f k] := by simp [upTo, List.range_succ]
theorem upTo_getD (f : Nat → Int) (k j : Nat) (h : j < k) : (upTo f k).getD j 0 = f j := by
  unfold upTo
  rw [List.getD_eq_getElem?_getD, List.getElem?_map, List.getElem?_range h]; rfl
theorem next_fwd {bs : List Nat} {f : Nat → Int} {k : Nat} (hf : ∀ j, I64 (f j)) (h : Begins bs (encTo f (k + 1))) :
    nextR bs (8 * bs.length) (upTo f k) (st f k) (encTo f k).length = (f k, 0, st f (k + 1), (encTo f (k + 1)).length) := by
  match k with
  | 0 =>
    have h' : Begins bs ([] ++ bitsTo (u64 (f 0)) 64 64) := h
    have hg := h'.get (u64_lt _)
    have hroom := h'.room
    rw [bitsTo_length] at hroom
    unfold nextR
    rw [upTo_length, if_pos rfl]
    show (if 0 + 64 ≤ 8 * bs.length then _ else _) = _
    rw [if_pos (show 0 + 64 ≤ 8 * bs.length from hroom)]
    show (i64of (gets bs 0 64), _, _, _) = _
    have hg' : gets bs 0 64 = u64 (f 0) := hg
    rw [hg', i64of_u64 (hf 0)]
    show _ = (f 0, 0, 0, (bitsTo (u64 (f 0)) 64 64).length)
    rw [bitsTo_length]
    rfl
  | k + 1 =>
    have h' : Begins bs (encTo f (k + 1) ++ dbits (zig (sub64 (sub64 (f (k + 1)) (f k)) (st f (k + 1))))) := h
    have ht := take_fwd (zig_lt (sub64_range _ _).1 (sub64_range _ _).2) h'
    rw [zag_zig] at ht
    unfold nextR
    rw [upTo_length, if_neg (by omega), ht]
    show (add64 _ (add64 _ (sub64 _ _)), 0, add64 _ (sub64 _ _), _) = _
    have e1 : add64 (st f (k + 1)) (sub64 (sub64 (f (k + 1)) (f k)) (st f (k + 1))) = sub64 (f (k + 1)) (f k) := add_sub64 (sub64_range _ _)
    rw [show k + 1 - 1 = k by omega, upTo_getD f (k + 1) k (by omega), e1, add_sub64 (hf (k + 1))]
    rfl
theorem dec_fwd {bs : List Nat} {f : Nat → Int} {n : Nat} (hf : ∀ j, I64 (f j)) (h : Begins bs (encTo f n)) : ∀ m k, m + k = n → decR bs (8 * bs.length) m (upTo f k) (st f k) (encTo f k).length = (upTo f n, 0, (encTo f n).length)
  | 0, k, hk => by
    obtain rfl : k = n := by omega
    rfl
  | m + 1, k, hk => by
    obtain ⟨M, hM⟩ := encTo_pre f (k + 1) n (by omega)
    have hb : Begins bs (encTo f (k + 1)) := by rw [hM] at h; exact h.pre
    unfold decR
    rw [next_fwd hf hb]
    show (if (0 : Int) = 0 then _ else _) = _
    rw [if_pos rfl, ← upTo_succ]
    exact dec_fwd hf h m (k + 1) (by omega)
theorem dec_back {f : Nat → Int} (hf : ∀ j, I64 (f j)) (n : Nat) : decL (pack (encTo f n)) n = (upTo f n, 0) := by
  have hb := encTo_bit f n
  have h := dec_fwd hf (Begins.pack hb) n 0 (by omega)
  have h' : decR (pack (encTo f n)) (8 * (pack (encTo f n)).length) n [] 0 0 = (upTo f n, 0, (encTo f n).length) := h
  unfold decL
  rw [h']
  show (if (0 : Int) = 0 then _ else _) = _
  rw [if_pos rfl]
  have he : endR (pack (encTo f n)) (8 * (pack (encTo f n)).length) (encTo f n).length = true := by
    unfold endR
    rw [gets_pack_end hb, pack_length]
    simp
    omega
  show (if endR _ _ (encTo f n).length = true then _ else _) = _
  rw [he]
  rfl
theorem next_bwd {bs : List Nat} {out : List Int} {t s' : Int} {p' : Nat} (hb : Begins bs (encTo (fun j => out.getD j 0) out.length))
    (h : nextR bs (8 * bs.length) out (st (fun j => out.getD j 0) out.length) (encTo (fun j => out.getD j 0) out.length).length = (t, 0, s', p')) :
    Begins bs (encTo (fun j => (out ++ [t]).getD j 0) (out.length + 1)) ∧ s' = st (fun j => (out ++ [t]).getD j 0) (out.length + 1) ∧ p' = (encTo (fun j => (out ++ [t]).getD j 0) (out.length + 1)).length := by
  have hg : ∀ j, j < out.length → out.getD j 0 = (out ++ [t]).getD j 0 := fun j hj => by
    rw [List.getD_eq_getElem?_getD, List.getD_eq_getElem?_getD, List.getElem?_append_left hj]
  have hlast : (out ++ [t]).getD out.length 0 = t := by
    rw [List.getD_eq_getElem?_getD]; simp
  obtain ⟨c1, c2⟩ := encTo_congr out.length hg
  unfold nextR at h
  cases hl : out.length with
  | zero =>
    have ho : out = [] := List.eq_nil_of_length_eq_zero hl
    subst ho
    rw [if_pos (show ([] : List Int).length = 0 from rfl)] at h
    have h' : (if 0 + 64 ≤ 8 * bs.length then (i64of (gets bs 0 64), (0 : Int), (0 : Int), 0 + 64) else (0, 10, 0, 0)) = (t, 0, s', p') := h
    by_cases hfit : 0 + 64 ≤ 8 * bs.length
    · rw [if_pos hfit] at h'
      injection h' with h1 h2
      injection h2 with h2 h3
      injection h3 with h3 h4
      have hz := gets_64 bs 0 64 (by omega)
      have hB := (Begins.nil bs).put (n := 64) (v := gets bs 0 64) hfit rfl
      have e : encTo (fun j => ([] ++ [t]).getD j 0) (0 + 1) = [] ++ bitsTo (gets bs 0 64) 64 64 := by
        show bitsTo (u64 t) 64 64 = _
        rw [← h1, u64_i64of hz]
        rfl
      rw [e]
      refine ⟨hB, h3.symm, ?_⟩
      rw [← h4, List.nil_append, bitsTo_length]
    · rw [if_neg hfit] at h'
      injection h' with h1 h2
      injection h2 with h2 h3
      omega
  | succ k =>
    rw [if_neg (by omega)] at h
    rw [hl] at hb h c1 c2
    rcases htk : takeR bs (8 * bs.length) (encTo (fun j => out.getD j 0) (k + 1)).length with ⟨d, er, q⟩
    rw [htk] at h
    injection h with h1 h2
    injection h2 with h2 h3
    injection h3 with h3 h4
    simp only [] at h1 h2 h3 h4
    subst h2
    obtain ⟨hB, hq, hd⟩ := take_bwd hb htk
    have e1 : (out ++ [t]).getD (k + 1) 0 = t := by rw [← hl]; exact hlast
    have e2 : (out ++ [t]).getD k 0 = out.getD k 0 := (hg k (by omega)).symm
    have e3 : sub64 t (out.getD k 0) = s' := by
      rw [← h1, h3, show k + 1 - 1 = k by omega, ]
      exact sub_add' (by rw [← h3]; exact add64_I _ _)
    have e4 : sub64 s' (st (fun j => out.getD j 0) (k + 1)) = d := by rw [← h3]; exact sub_add' hd
    have e : encTo (fun j => (out ++ [t]).getD j 0) (k + 1 + 1) = encTo (fun j => out.getD j 0) (k + 1) ++ dbits (zig d) := by
      show encTo (fun j => (out ++ [t]).getD j 0) (k + 1) ++ dbits (zig (sub64 (sub64 ((out ++ [t]).getD (k + 1) 0) ((out ++ [t]).getD k 0)) (st (fun j => (out ++ [t]).getD j 0) (k + 1)))) = _
      rw [← c1, ← c2, e1, e2, e3, e4]
    rw [e]
    refine ⟨hB, ?_, by rw [← h4, hq]⟩
    show s' = sub64 ((out ++ [t]).getD (k + 1) 0) ((out ++ [t]).getD k 0)
    rw [e1, e2, e3]
theorem dec_bwd {bs : List Nat} {l : List Int} {q : Nat} : ∀ m (out : List Int), Begins bs (encTo (fun j => out.getD j 0) out.length) →
    decR bs (8 * bs.length) m out (st (fun j => out.getD j 0) out.length) (encTo (fun j => out.getD j 0) out.length).length = (l, 0, q) →
    l.length = out.length + m ∧ Begins bs (encTo (fun j => l.getD j 0) l.length) ∧ q = (encTo (fun j => l.getD j 0) l.length).length
  | 0, out, hb, h => by
    injection h with h1 h2
    injection h2 with h2 h3
    subst h1
    exact ⟨rfl, hb, h3.symm⟩
  | m + 1, out, hb, h => by
    unfold decR at h
    rcases hn : nextR bs (8 * bs.length) out (st (fun j => out.getD j 0) out.length) (encTo (fun j => out.getD j 0) out.length).length with ⟨t, er, s', p'⟩
    rw [hn] at h
    have h' : (if er = 0 then decR bs (8 * bs.length) m (out ++ [t]) s' p' else ([], er, (encTo (fun j => out.getD j 0) out.length).length)) = (l, 0, q) := h
    by_cases he : er = 0
    · subst he
      rw [if_pos rfl] at h'
      obtain ⟨h1, h2, h3⟩ := next_bwd hb hn
      have hl : (out ++ [t]).length = out.length + 1 := by simp
      rw [h2, h3] at h'
      have := dec_bwd m (out ++ [t]) (by rw [hl]; exact h1) (by rw [hl]; exact h')
      rw [hl] at this
      exact ⟨by omega, this.2⟩
    · rw [if_neg he] at h'
      injection h' with h1 h2
      injection h2 with h2 h3
      exact absurd h2 he
theorem dec_one {bs : List Nat} (hbyte : ∀ j, bs.getD j 0 < 256) {n : Nat} {l : List Int} (h : decL bs n = (l, 0)) : l.length = n ∧ pack (encTo (fun j => l.getD j 0) n) = bs := by
  unfold decL at h
  rcases hd : decR bs (8 * bs.length) n [] 0 0 with ⟨o, er, q⟩
  rw [hd] at h
  have h' : (if er = 0 then (if endR bs (8 * bs.length) q = true then (o, (0 : Int)) else ([], 11)) else ([], er)) = (l, 0) := h
  by_cases he : er = 0
  · subst he
    rw [if_pos rfl] at h'
    by_cases hend : endR bs (8 * bs.length) q = true
    · rw [if_pos hend] at h'
      injection h' with h1 h2
      subst h1
      obtain ⟨g1, g2, g3⟩ := dec_bwd n [] (Begins.nil bs) hd
      have hl : o.length = n := by simpa using g1
      refine ⟨hl, ?_⟩
      rw [hl] at g2 g3
      unfold endR at hend
      simp only [Bool.and_eq_true, decide_eq_true_eq] at hend
      obtain ⟨e1, e2⟩ := hend
      rw [g3] at e1 e2
      have := g2.le
      exact (g2.all hbyte (encTo_bit _ _) (by omega) (by rw [show min (8 * bs.length - (encTo (fun j => o.getD j 0) n).length) 64 = 8 * bs.length - (encTo (fun j => o.getD j 0) n).length by omega] at e2; exact e2)).symm
    · rw [if_neg hend] at h'
      injection h' with h1 h2
      omega
  · rw [if_neg he] at h'
    injection h' with h1 h2
    exact absurd h2 he
end Go.Proofs.Ytgphdigcilbnlaa
