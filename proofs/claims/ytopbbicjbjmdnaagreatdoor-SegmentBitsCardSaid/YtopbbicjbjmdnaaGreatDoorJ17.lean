/-
  Texts of this proof, joined: Mask, SgR, FrmQ.
-/
import Derived.Below
import Derived.Laws.BitsAllLaws
import Derived.Laws.BitsLemmas
import Derived.Test.YtopbbicjbjmdnaaGreatDoorJ15
import Derived.Deep.Slices
import Derived.Deep.Fields
import Derived.ChangeSame
import Derived.SizedLaws
import Derived.Test.YtopbbicjbjmdnaaGreatDoorJ08
namespace Go.Proofs.YtopbbicjbjmdnaaGreatDoor
theorem ofInt_mod64 (x : Int) : (BitVec.ofInt 64 x).toNat = (x % 18446744073709551616).toNat := by
  rw [BitVec.toNat_ofInt]; rfl
theorem and_mask_i64 (x : Int) (k : Nat) (hk : k ≤ 62) : bits .and .i64 x ((2 ^ k - 1 : Nat) : Int) = ((x % (2 ^ k : Nat)).toNat : Int) := by
  have h64 : (2 : Nat) ^ k ≤ 2 ^ 62 := Nat.pow_le_pow_right (by omega) hk
  have hp : 0 < 2 ^ k := Nat.two_pow_pos k
  show IntKind.i64.wrap ((BitVec.ofInt 64 x &&& BitVec.ofInt 64 ((2 ^ k - 1 : Nat) : Int)).toNat : Int) = _
  have h2 : (BitVec.ofInt 64 ((2 ^ k - 1 : Nat) : Int)).toNat = 2 ^ k - 1 := by
    rw [BitVec.ofInt_natCast, BitVec.toNat_ofNat]; exact Nat.mod_eq_of_lt (by omega)
  have h3 : (x % 18446744073709551616).toNat % 2 ^ k = (x % (2 ^ k : Nat)).toNat := by
    have hd : ((2 ^ k : Nat) : Int) ∣ 18446744073709551616 := by
      have : (18446744073709551616 : Int) = ((2 ^ k : Nat) : Int) * ((2 ^ (64 - k) : Nat) : Int) := by
        rw [← Int.natCast_mul, ← Nat.pow_add, show k + (64 - k) = 64 by omega]; rfl
      exact ⟨_, this⟩
    have h4 : x % 18446744073709551616 % ((2 ^ k : Nat) : Int) = x % ((2 ^ k : Nat) : Int) := Int.emod_emod_of_dvd x hd
    have h5 : 0 ≤ x % 18446744073709551616 := Int.emod_nonneg _ (by omega)
    obtain ⟨y, hy⟩ := Int.eq_ofNat_of_zero_le h5
    rw [hy] at h4 ⊢
    rw [← h4]
    rfl
  rw [BitVec.toNat_and, h2, ofInt_mod64, Nat.and_two_pow_sub_one_eq_mod, h3, IntKind.wrap_i64]
  have h6 : 0 ≤ x % ((2 ^ k : Nat) : Int) := Int.emod_nonneg _ (by omega)
  have h7 : x % ((2 ^ k : Nat) : Int) < ((2 ^ k : Nat) : Int) := Int.emod_lt_of_pos _ (by omega)
  omega
theorem and_255 (x : Int) : bits .and .i64 x 255 = ((x % 256).toNat : Int) := and_mask_i64 x 8 (by omega)
theorem and_4095 (x : Int) : bits .and .i64 x 4095 = ((x % 4096).toNat : Int) := and_mask_i64 x 12 (by omega)
theorem and_65535 (x : Int) : bits .and .i64 x 65535 = ((x % 65536).toNat : Int) := and_mask_i64 x 16 (by omega)
theorem and_1023 (x : Int) : bits .and .i64 x 1023 = ((x % 1024).toNat : Int) := and_mask_i64 x 10 (by omega)
theorem and_63' (x : Int) : bits .and .i64 x 63 = ((x % 64).toNat : Int) := and_mask_i64 x 6 (by omega)
theorem and_31' (x : Int) : bits .and .i64 x 31 = ((x % 32).toNat : Int) := and_mask_i64 x 5 (by omega)
end Go.Proofs.YtopbbicjbjmdnaaGreatDoor
namespace Go.Proofs.YtopbbicjbjmdnaaGreatDoor
open Go.RowKit Go.ChangeShapes Go.WideShapes Go.Deep
set_option maxRecDepth 100000
set_option linter.unusedVariables false
set_option linter.unusedSimpArgs false
theorem part_cells : Tryz.prog.cellsOf 33 = 2 := by kernel_rfl
theorem weights_all {H : Type} {P : Program} {e : TypeId} {d : DataW H} : ∀ {l : List (DataW H)}, d ∈ l → ∀ n ∈ d.weights P e, n ∈ DataW.weightsAll P e l
  | d' :: r, hd, n, hn => by
    simp only [DataW.weightsAll, List.mem_append]
    rcases List.mem_cons.1 hd with rfl | h
    · exact .inl hn
    · exact .inr (weights_all h n hn)
/-- What is told of one part. -/
structure OnePart {H : Type} (w : World) (D : DataW H) (c0 c1 : Value) (t : ByteArray × Option Addr × Nat × Nat × (Nat → Pt)) : Prop where
  s : c0 = .string t.1
  p : c1 = .slice t.2.1 t.2.2.1 t.2.2.2.1
  le : t.2.2.1 ≤ t.2.2.2.1 ∧ t.2.2.2.1 ≤ maxLen
  sl : SlP w (fun q => q < w.heap.size) t.2.1 t.2.2.1 t.2.2.2.2
  sz : t.1.size ≤ maxLen
  wt : ∀ R, (∀ n ∈ D.weights Tryz.prog 33, n ≤ R) → t.1.size ≤ R ∧ t.2.2.1 * 24 ≤ R
theorem open_part {H : Type} {enc : TypeId × Value → H} {w : World} {fuel : Nat} {c0 c1 : Value} {x : DataW H × List MemPlace}
    (h : DataW.trod enc Tryz.prog w 0 (fun _ => true) true fuel 33 [c0, c1] = some x) : ∃ t, (∀ j, PtOk (t.2.2.2.2 j)) ∧ OnePart w x.1 c0 c1 t := by
  obtain ⟨y0, y1, n, hx, hl, g0, g1⟩ := trod_struct2 Tryz.underlying33 h
  subst hx
  have hC : Tryz.prog.cellsOf 9 = 1 := by kernel_rfl
  have hC1 : Tryz.prog.cellsOf 31 = 1 := by kernel_rfl
  simp [hC] at g0
  simp [hC1] at g1
  obtain ⟨s, e0, hy0, hs⟩ := DataW.trod_string Tryz.underlying9 g0
  simp at e0
  subst e0 hy0
  have hb : Tryz.prog.bytesOf 30 = 24 := by kernel_rfl
  have hfs : ∀ l l' : List (DataW H), ∀ R, (∀ n ∈ (DataW.agg [.lit (.string s.data.toList), .slice l l']).weights Tryz.prog 33, n ≤ R) → s.size ≤ R ∧ (l.length + l'.length) * 24 ≤ R := by
    intro l l' R hR
    simp only [DataW.weights, DataW.weightsEach, Tryz.underlying33, Tryz.underlying31, List.map_cons, List.map_nil, hb] at hR
    refine ⟨?_, ?_⟩
    · have := hR s.data.toList.length (by simp)
      simpa using this
    · exact hR _ (by simp)
  have hfn : ∀ R, (∀ n ∈ (DataW.agg [.lit (.string s.data.toList), (DataW.nil : DataW H)]).weights Tryz.prog 33, n ≤ R) → s.size ≤ R := by
    intro R hR
    simp only [DataW.weights, DataW.weightsEach, Tryz.underlying33, List.map_cons, List.map_nil] at hR
    have := hR s.data.toList.length (by simp)
    simpa using this
  rcases open_slice Tryz.underlying31 g1 with ⟨hcs, hx⟩ | ⟨ad, l, c, m, n', D, Pl, hcs, -, hlc, hm, hmm, hx, hi⟩
  · simp at hcs
    subst hcs hx
    exact ⟨(s, none, 0, 0, fun _ => ⟨0, 0, 0⟩), fun j => ⟨by unfold I64; simp, by unfold I64; simp, by unfold I64; simp⟩, rfl, rfl, ⟨Nat.le_refl _, Nat.zero_le _⟩, fun h0 => absurd h0 (by simp), hs, fun R hR => ⟨hfn R hR, by simp⟩⟩
  · simp at hcs
    subst hcs
    obtain ⟨f, hf⟩ := open_points (a := some ad) (len := l) (cap := c) g1
    obtain ⟨g, hg, hsl⟩ := hf.cut l (Nat.le_refl _)
    subst hx
    refine ⟨(s, some ad, l, c, g), hg, rfl, rfl, ⟨hlc, hm⟩, hsl, hs, fun R hR => ?_⟩
    obtain ⟨h1, h2⟩ := hfs _ _ R hR
    refine ⟨h1, ?_⟩
    simp only [List.length_map, List.length_range] at h2
    show l * 24 ≤ R
    omega
theorem open_parts {H : Type} {enc : TypeId × Value → H} {w : World} {fuel : Nat} {a : Option Addr} {len cap : Nat} {x : DataW H × List MemPlace}
    (h : DataW.trod enc Tryz.prog w 0 (fun _ => true) true fuel 22 (Value.cells (.slice a len cap)).toList = some x) (hsz : ∀ n ∈ x.1.weights Tryz.prog 22, n ≤ reachBytes) :
    ∃ nm pa pn pc pf, PartsAt w a len nm pa pn pc pf ∧ Reach nm pn len := by
  have hz : ∀ j : Nat, PtOk ((fun _ => ⟨0, 0, 0⟩ : Nat → Pt) j) := fun j => ⟨by unfold I64; simp, by unfold I64; simp, by unfold I64; simp⟩
  rcases open_slice Tryz.underlying22 h with ⟨hcs, _⟩ | ⟨ad, l, c, m, n, D, Pl, hcs, -, hl, hm, hmm, hx, hi⟩
  · simp [Value.cells] at hcs
    obtain ⟨rfl, rfl, rfl⟩ := hcs
    exact ⟨fun _ => ByteArray.empty, fun _ => none, fun _ => 0, fun _ => 0, fun _ _ => ⟨0, 0, 0⟩, ⟨fun h0 => absurd h0 (by omega), fun j hj => absurd hj (by omega), fun j hj => absurd hj (by omega), fun j i => hz i, fun j hj => absurd hj (by omega)⟩,
      ⟨by omega, fun j hj => absurd hj (by omega), fun j hj => absurd hj (by omega)⟩⟩
  · simp [Value.cells] at hcs
    obtain ⟨rfl, rfl, rfl⟩ := hcs
    have hmc : m = cap := by simpa using hmm
    subst hx
    have hb : Tryz.prog.bytesOf 33 = 40 := by kernel_rfl
    have hlen : len * 40 ≤ reachBytes := by
      have := hsz ((((List.range len).map D).length + ((List.range (m - len)).map fun j => D (len + j)).length) * 40) (by simp [DataW.weights, Tryz.underlying22, hb])
      simp only [List.length_map, List.length_range] at this
      omega
    have hwt : ∀ i, i < len → ∀ n ∈ (D i).weights Tryz.prog 33, n ≤ reachBytes := fun i hi n hn => hsz n (by
      simp only [DataW.weights, Tryz.underlying22, List.mem_cons, List.mem_append]
      exact .inr (.inl (weights_all (List.mem_map.2 ⟨i, List.mem_range.2 hi, rfl⟩) n hn)))
    have hone : ∀ i, i < cap → ∃ t c0 c1, w.cell? ((ad.add (i * 2)).add 0) = some c0 ∧ w.cell? ((ad.add (i * 2)).add 1) = some c1 ∧ (∀ j, PtOk (t.2.2.2.2 j)) ∧ OnePart w (D i) c0 c1 t := by
      intro i hic
      obtain ⟨cs', hc, ht'⟩ := hi i (by omega)
      rw [part_cells] at hc
      obtain ⟨_, hcl, hat⟩ := World.cells?_some hc
      match cs', hcl with
      | [c0, c1], _ =>
        obtain ⟨t, h1, h2⟩ := open_part ht'
        exact ⟨t, c0, c1, by simpa using hat 0 (by omega), by simpa using hat 1 (by omega), h1, h2⟩
    rcases Nat.eq_zero_or_pos len with h0 | h0
    · subst h0
      exact ⟨fun _ => ByteArray.empty, fun _ => none, fun _ => 0, fun _ => 0, fun _ _ => ⟨0, 0, 0⟩, ⟨fun h0 => absurd h0 (by omega), fun j hj => absurd hj (by omega), fun j hj => absurd hj (by omega), fun j i => hz i, fun j hj => absurd hj (by omega)⟩,
        ⟨by omega, fun j hj => absurd hj (by omega), fun j hj => absurd hj (by omega)⟩⟩
    · obtain ⟨b, off, spot⟩ := ad
      have hspot : spot = none := by
        obtain ⟨t, c0, c1, hv, -⟩ := hone 0 (by omega)
        simpa [Addr.add] using World.cell?_spot hv
      subst hspot
      have hadd : ∀ i j, ((⟨b, off, none⟩ : Addr).add i).add j = ⟨b, off + i + j, none⟩ := fun i j => by
        have h1 : (⟨b, off, none⟩ : Addr).add i = ⟨b, off + i, none⟩ := by unfold Addr.add; split <;> simp_all
        rw [h1]
        unfold Addr.add; split <;> simp_all
      have hone' : ∀ i, ∃ t : ByteArray × Option Addr × Nat × Nat × (Nat → Pt), (∀ j, PtOk (t.2.2.2.2 j)) ∧ (i < cap → ∃ c0 c1, w.cell? ⟨b, off + i * 2, none⟩ = some c0 ∧ w.cell? ⟨b, off + i * 2 + 1, none⟩ = some c1 ∧ OnePart w (D i) c0 c1 t) := by
        intro i
        by_cases hic : i < cap
        · obtain ⟨t, c0, c1, h1, h2, h3, h4⟩ := hone i hic
          rw [hadd] at h1 h2
          exact ⟨t, h3, fun _ => ⟨c0, c1, h1, h2, h4⟩⟩
        · exact ⟨(ByteArray.empty, none, 0, 0, fun _ => ⟨0, 0, 0⟩), hz, fun h => absurd h hic⟩
      have hT : ∃ T : Nat → ByteArray × Option Addr × Nat × Nat × (Nat → Pt), ∀ i, (∀ j, PtOk ((T i).2.2.2.2 j)) ∧ (i < cap → ∃ c0 c1, w.cell? ⟨b, off + i * 2, none⟩ = some c0 ∧ w.cell? ⟨b, off + i * 2 + 1, none⟩ = some c1 ∧ OnePart w (D i) c0 c1 (T i)) := ⟨fun i => Classical.choose (hone' i), fun i => Classical.choose_spec (hone' i)⟩
      obtain ⟨T, hT⟩ := hT
      refine ⟨fun i => (T i).1, fun i => (T i).2.1, fun i => (T i).2.2.1, fun i => (T i).2.2.2.1, fun i => (T i).2.2.2.2, ⟨fun _ => ⟨b, off, rfl, ?_, fun j hj => ?_⟩, fun j hj => ?_, fun j hj => ?_, fun j => (hT j).1, fun j hj => ?_⟩, ⟨?_, fun j hj => ?_, fun j hj => ?_⟩⟩
      · obtain ⟨c0, c1, h1, -⟩ := (hT 0).2 (by omega)
        exact World.block_lt_of_cell? w _ h1
      · obtain ⟨c0, c1, h1, h2, h3⟩ := (hT j).2 (by omega)
        exact ⟨by rw [h1, h3.s], by rw [h2, h3.p]⟩
      · obtain ⟨c0, c1, h1, h2, h3⟩ := (hT j).2 (by omega)
        exact h3.sl
      · obtain ⟨c0, c1, h1, h2, h3⟩ := (hT j).2 (by omega)
        exact h3.le
      · obtain ⟨c0, c1, h1, h2, h3⟩ := (hT j).2 (by omega)
        exact h3.sz
      · unfold reachBytes at hlen; omega
      · obtain ⟨c0, c1, h1, h2, h3⟩ := (hT j).2 (by omega)
        have := (h3.wt _ (hwt j hj)).2
        unfold reachBytes at this
        show (T j).2.2.1 ≤ _
        omega
      · obtain ⟨c0, c1, h1, h2, h3⟩ := (hT j).2 (by omega)
        have := (h3.wt _ (hwt j hj)).1
        unfold reachBytes at this
        show (T j).1.size ≤ _
        omega
end Go.Proofs.YtopbbicjbjmdnaaGreatDoor
namespace Go.Proofs.YtopbbicjbjmdnaaGreatDoor.F
def flipL (S : List Nat) (p b : Nat) : Nat → List Nat
  | 0 => S
  | i + 1 => if b / 2 ^ i % 2 = 1 then (flipL S p b i).set ((p + i) / 8) ((flipL S p b i).getD ((p + i) / 8) 0 ^^^ 2 ^ ((p + i) % 8)) else flipL S p b i
theorem flipL_length (S : List Nat) (p b i : Nat) : (flipL S p b i).length = S.length := by
  induction i with
  | zero => rfl
  | succ i ih => unfold flipL; split; rw [List.length_set, ih]; exact ih
theorem flipL_byte {S : List Nat} (hS : ∀ x ∈ S, x < 256) (p b i : Nat) : ∀ x ∈ flipL S p b i, x < 256 := by
  induction i with
  | zero => exact hS
  | succ i ih =>
    unfold flipL
    split
    · exact set_byte ih _ _ (Nat.mod_lt _ (by omega))
    · exact ih
theorem mod_pow_succ (b i : Nat) : b % 2 ^ (i + 1) = b % 2 ^ i + b / 2 ^ i % 2 * 2 ^ i := by
  rw [Nat.pow_succ, Nat.mod_mul, Nat.mul_comm (2 ^ i)]
theorem flipL_le {S : List Nat} (hS : ∀ x ∈ S, x < 256) (p b i : Nat) (h : p + i ≤ 8 * S.length) : le (flipL S p b i) = le S ^^^ b % 2 ^ i * 2 ^ p := by
  induction i with
  | zero => simp [flipL, Nat.mod_one]
  | succ i ih =>
    have ih := ih (by omega)
    unfold flipL
    have hm := mod_pow_succ b i
    by_cases hb : b / 2 ^ i % 2 = 1
    · rw [if_pos hb, le_set (flipL_byte hS p b i) _ _ (by rw [flipL_length]; omega) (Nat.mod_lt _ (by omega)), ih, show 8 * ((p + i) / 8) + (p + i) % 8 = p + i by omega, hm, hb, Nat.one_mul, Nat.xor_assoc]
      congr 1
      have hlt : b % 2 ^ i < 2 ^ i := Nat.mod_lt _ (Nat.two_pow_pos i)
      have e := join_xor i 1 _ hlt
      rw [Nat.mul_one] at e
      rw [Nat.add_comm (b % 2 ^ i) (2 ^ i), ← e]
      have d := Nat.shiftLeft_xor_distrib (a := 2 ^ i) (b := b % 2 ^ i) (i := p)
      simp only [Nat.shiftLeft_eq] at d
      rw [d, ← Nat.pow_add, Nat.add_comm i p]
      exact Nat.xor_comm _ _
    · rw [if_neg hb, ih, hm, show b / 2 ^ i % 2 = 0 by omega]
      simp
theorem flipL_same (S : List Nat) (p b i : Nat) (h : b % 2 ^ i = 0) : flipL S p b i = S := by
  induction i with
  | zero => rfl
  | succ i ih =>
    have hm := mod_pow_succ b i
    have hp := Nat.two_pow_pos i
    have hb : b / 2 ^ i % 2 = 0 := by
      rcases (show b / 2 ^ i % 2 = 0 ∨ b / 2 ^ i % 2 = 1 by omega) with h1 | h1
      · exact h1
      · rw [h1] at hm; omega
    rw [hb] at hm
    unfold flipL
    rw [if_neg (by omega)]
    exact ih (by omega)
theorem flip_open {S : List Nat} (hS : ∀ x ∈ S, x < 256) {p b i : Nat} (hi : i ≤ 32) (h : p + i ≤ 8 * S.length) (ho : openE S = 0) (hb : b % 2 ^ i ≠ 0) : openE (flipL S p b i) ≠ 0 := by
  intro hT
  have hlt : b % 2 ^ i < 4294967296 := by
    have h1 : b % 2 ^ i < 2 ^ i := Nat.mod_lt _ (Nat.two_pow_pos i)
    have h2 : (2 : Nat) ^ i ≤ 2 ^ 32 := Nat.pow_le_pow_right (by omega) hi
    omega
  exact hb (burst_open hS (flipL_byte hS p b i) (flipL_length S p b i).symm (flipL_le hS p b i h) hlt ho hT)
theorem chg_step (b i : Nat) : decide (b % 2 ^ (i + 1) ≠ 0) = if b / 2 ^ i % 2 = 1 then true else decide (b % 2 ^ i ≠ 0) := by
  have hm := mod_pow_succ b i
  have hp := Nat.two_pow_pos i
  by_cases h1 : b / 2 ^ i % 2 = 1
  · rw [if_pos h1]
    rw [h1] at hm
    simp
    omega
  · rw [if_neg h1, hm, show b / 2 ^ i % 2 = 0 by omega, Nat.zero_mul, Nat.add_zero]
end Go.Proofs.YtopbbicjbjmdnaaGreatDoor.F
