/-
  Texts of this proof, joined: FrmC, BitPl, BitsRd, Pack, BitsWr, BitsPut, BitsBy, BitsRr, PackB, BitsPiecesW, Delta, DeltaB, DeltaE.
-/
import Derived.Test.YtopbbicjbjmdnaaJ02
import Derived.Below
import Derived.Laws.BitsAllLaws
import Derived.Laws.BitsLemmas
import Derived.Test.YtopbbicjbjmdnaaRows
import Derived.Test.YtopbbicjbjmdnaaJ01
import Derived.WalkKit
import Derived.WalkSpells
import Derived.WalkLawsBesides
import Derived.Deep.QuietTactic
import Derived.BigQuiet
import Derived.Outline
import Derived.Lib.Hide
import Derived.Laws.EntriesVeiled
import Derived.StillTailTactics
import Derived.Deep.DeepCutAuto
import Derived.BigRegion
import Derived.Laws.CopyOwn
namespace Go.Proofs.Ytopbbicjbjmdnaa.F
open Go.RowKit
set_option linter.unusedVariables false
set_option linter.unusedSimpArgs false
def byteV (b : Nat) : Value := .int .u8 (b : Int)
theorem byteElem : Elem1 Try.prog 24 5 (.int .u8 0) 1 := Elem1.mk' Try.underlying24 rfl (by kernel_rfl)
theorem range_bytes {bs : List Nat} {len : Nat} (hl : bs.length = len) : (List.range len).map (byteC bs) = bs.map byteV := by
  subst hl
  apply List.ext_getElem (by simp)
  intro j h1 h2
  simp at h1
  simp [byteC, byteV, List.getD_eq_getElem?_getD, List.getElem?_eq_getElem h1]
def bodyL (kind : Nat) (bs : List Nat) : List Nat := kind :: (fourL bs.length ++ bs)
def sealL (kind : Nat) (bs : List Nat) : List Nat := bodyL kind bs ++ fourL (crcS (bodyL kind bs))
theorem bodyL_byte {kind : Nat} {bs : List Nat} (hk : kind < 256) (hb : ∀ j, bs.getD j 0 < 256) : ∀ b ∈ bodyL kind bs, b < 256 := by
  intro b hm
  unfold bodyL at hm
  simp only [List.mem_cons, List.mem_append] at hm
  rcases hm with rfl | hm | hm
  · exact hk
  · exact fourL_byte _ b hm
  · exact mem_byte hb b hm
theorem bodyL_length (kind : Nat) (bs : List Nat) : (bodyL kind bs).length = bs.length + 5 := by simp [bodyL, fourL]
theorem sealL_length (kind : Nat) (bs : List Nat) : (sealL kind bs).length = bs.length + 9 := by unfold sealL; rw [List.length_append, bodyL_length]; simp [fourL]
theorem getD_of_mem {bs : List Nat} (h : ∀ b ∈ bs, b < 256) (j : Nat) : bs.getD j 0 < 256 := by
  rw [List.getD_eq_getElem?_getD]
  rcases Nat.lt_or_ge j bs.length with hj | hj
  · rw [List.getElem?_eq_getElem hj]; exact h _ (List.getElem_mem _)
  · rw [List.getElem?_eq_none hj]; decide
theorem sealL_byte {kind : Nat} {bs : List Nat} (hk : kind < 256) (hb : ∀ j, bs.getD j 0 < 256) : ∀ b ∈ sealL kind bs, b < 256 := by
  intro b hm
  unfold sealL at hm
  rcases List.mem_append.1 hm with hm | hm
  · exact bodyL_byte hk hb b hm
  · exact fourL_byte _ b hm
theorem four_fit (z : Int) (u : Nat) (w : World) (hz : z = (u : Nat)) (hu : u < 4294967296) : Calls Try.prog 32 #[.int .u32 z] w (FourPost w u) := by
  subst hz
  exact four_any u w hu
theorem own_sl {w : World} {base : Nat} {A : Option Addr} {n c : Nat} {bs : List Nat} (hn : bs.length = n) (h : w.ownsRow base 5 1 (.slice A n c) n (bs.map byteV)) : Sl w (fun k => (Value.slice A n c).ownBlock = some k) A n (byteC bs) := by
  refine Sl.of_own h ?_
  intro j u hu
  rw [List.getElem?_map] at hu
  cases hj : bs[j]? with
  | none => rw [hj] at hu; cases hu
  | some x => rw [hj] at hu; injection hu with hu; unfold byteC; rw [List.getD_eq_getElem?_getD, hj]; exact hu.symm
theorem blk_grown {w w' : World} {g : Nat} {t e : TypeId} {cs : Array Value} {base n : Nat} {v : Value} {xs : List Value} (h : Blk w g t cs) (ho : w.ownsRow base e 1 v n xs) (hne : e ≠ t) (hg : w.grownBy w' v.ownBlock) : Blk w' g t cs :=
  (hg.block g h.lt (fun e' => own_ne ho h hne e'.symm)).trans h
theorem keeps_grown {w0 w w' : World} {e : TypeId} {n : Nat} {v : Value} {xs : List Value} (hk : Keeps (fun _ => False) w0 w) (ho : w.ownsRow w0.heap.size e 1 v n xs) (hg : w.grownBy w' v.ownBlock) : Keeps (fun _ => False) w0 w' :=
  hk.grown hg (fun k hk' hlt => by have := (ho.lt k hk').1; omega)
def BytesPost (w : World) (bs : List Nat) (er : Int) (e : Ending) (w' : World) : Prop :=
  ∃ A c, e = .returned (.tuple #[.slice A bs.length c, .int .i64 er]) ∧ w'.ownsRow w.heap.size 5 1 (.slice A bs.length c) bs.length (bs.map byteV) ∧ Keeps (fun _ => False) w w'
set_option maxRecDepth 100000 in
set_option maxHeartbeats 1600000 in
theorem seal_ok (w : World) (kind : Nat) (A : Option Addr) (len c : Nat) (D : Nat → Prop) (bs : List Nat) (hl : bs.length = len) (hsl : Sl w D A len (byteC bs)) (hb : ∀ j, bs.getD j 0 < 256) (hk : kind < 256) (hlen : len ≤ 1048576) :
    Calls Try.prog 15 #[.int .u8 (kind : Nat), .slice A len c] w (BytesPost w (sealL kind bs) 0) := by
  have HS := Lib.hid (And.intro hl (And.intro hsl (And.intro hb hk)))
  clear hl hsl hb hk
  obtain ⟨ht, -, i, hi, hz, hs1, hby⟩ := byteElem
  have HI := Lib.hid (And.intro ht (And.intro hi (And.intro hz (And.intro hs1 hby))))
  clear ht hi hz hs1 hby
  have d0 : decide ((1048576 : Int) < (len : Int)) = false := by simp; omega
  go_enter Try.func15, Try.ntmps15
  go_wp2_with fail
  refine (four_fit _ len _ (by first | rfl | omega | (rw [IntKind.wrap_u32']; omega)) (by omega)).mono ?_
  rintro e w1 ⟨rfl, hb1⟩
  clear d0
  have H1 := Lib.hid hb1
  clear hb1
  go_wp2_with (at_make; refine wpList_make_own _ rfl _ _ 24 rfl w.heap.size 5 i (.int .u8 0) 1 HI.out.1 HI.out.2.1 HI.out.2.2.1 HI.out.2.2.2.1 .i64 .i64 ((len : Int) + 9) (len + 9) rfl rfl (by omega) ?hb2 ?hb3 ?hb4 ?_)
  case hb2 => rw [HI.out.2.2.2.2]; omega
  case hb3 => unfold maxLen; omega
  case hb4 => have := H1.out.size; simp; omega
  intro w2 ho2 hg2
  obtain ⟨p, hp⟩ : ∃ p, p = w1.heap.size := ⟨_, rfl⟩
  have k1 : Keeps (fun _ => False) w w1 := Keeps.of_below H1.out
  have k2 : Keeps (fun _ => False) w w2 := (k1.alloc _).grown hg2 (fun k hk => by cases hk)
  have bp2 : Blk w2 p 71 #[.int .u8 ((len : Int) % 256), .int .u8 ((len : Int) / 256 % 256), .int .u8 ((len : Int) / 65536 % 256), .int .u8 ((len : Int) / 16777216 % 256)] := by
    rw [hp]
    exact (hg2.block w1.heap.size (Blk.fresh w1 _ _).lt (by simp)).trans (Blk.fresh w1 _ _)
  have H2 := Lib.hid (And.intro ho2 (And.intro k2 bp2))
  clear ho2 hg2 k1 k2 bp2
  go_wp2_with (at_builtin; refine wpList_append_sl (f := fun _ => .int .u8 (kind : Nat)) (D := fun k => k = w2.heap.size) (base := w.heap.size) (n := 0) (xs := []) byteElem rfl (.tmp 19) (.tmp 21) rfl rfl rfl ?hown ?hsl ?h1 ?h63 ?hby ?hbase ?_)
  case hown => exact H2.out.1.alloc _
  case hsl => exact sl_one _ _ _
  case h1 => intro j _; rfl
  case h63 => unfold maxLen; omega
  case hby => omega
  case hbase => have := H2.out.2.1.size; simp; omega
  intro v3 w3 ho3 hg3 hx
  clear hx
  have k3 := keeps_grown (H2.out.2.1.alloc _) (H2.out.1.alloc _) hg3
  have bp3 := blk_grown (H2.out.2.2.alloc _) (H2.out.1.alloc _) (by decide) hg3
  rw [← hp]
  have H3 := Lib.hid (And.intro ho3 (And.intro k3 bp3))
  clear ho3 hg3 k3 bp3 hp
  go_wp2_with (at_builtin; refine wpList_append_sl (f := byteC (fourL len)) (D := fun k => k = p) (base := w.heap.size) (n := 1) (xs := [byteV kind]) byteElem rfl (.tmp 23) (.tmp 24) rfl rfl rfl ?hown ?hsl ?h1 ?h63 ?hby ?hbase ?_)
  case hown => exact H3.out.1
  case hsl => exact sl_four _ _ _ H3.out.2.2
  case h1 => intro j _; rfl
  case h63 => unfold maxLen; omega
  case hby => omega
  case hbase => exact H3.out.2.1.size
  intro v4 w4 ho4 hg4 hx
  clear hx
  have k4 := keeps_grown H3.out.2.1 H3.out.1 hg4
  have H4 := Lib.hid (And.intro ho4 k4)
  clear ho4 hg4 k4
  go_wp2_with (at_builtin; refine wpList_append_sl (f := byteC bs) (D := D) (base := w.heap.size) (n := 5) (xs := [byteV kind] ++ (List.range 4).map (byteC (fourL len))) byteElem rfl (.tmp 25) (.tmp 26) rfl rfl rfl ?hown ?hsl ?h1 ?h63 ?hby ?hbase ?_)
  case hown => exact H4.out.1
  case hsl => exact HS.out.2.1.keep (w' := w4) (fun q _ hq => H4.out.2.block q hq (fun h => h))
  case h1 => intro j _; rfl
  case h63 => unfold maxLen; omega
  case hby => omega
  case hbase => exact H4.out.2.size
  intro v5 w5 ho5 hg5 hx
  clear hx
  have k5 := keeps_grown H4.out.2 H4.out.1 hg5
  have e5 : byteV kind :: byteC (fourL len) 0 :: byteC (fourL len) 1 :: byteC (fourL len) 2 :: byteC (fourL len) 3 :: (List.range len).map (byteC bs) = (bodyL kind bs).map byteV := by
    rw [range_bytes HS.out.1, ← HS.out.1]
    rfl
  rw [e5] at ho5
  obtain ⟨A5, c5, hv5, -, -⟩ := own_form ho5
  subst hv5
  have hbl : (bodyL kind bs).length = 5 + len := by rw [bodyL_length, HS.out.1]; omega
  have H5 := Lib.hid (And.intro ho5 (And.intro k5 hbl))
  clear ho5 hg5 k5 e5 hbl
  go_wp2_with fail
  refine (sum_any _ _ _ _ _ (bodyL kind bs) H5.out.2.2 (own_sl H5.out.2.2 H5.out.1) (getD_of_mem (bodyL_byte HS.out.2.2.2 HS.out.2.2.1)) (by omega)).mono ?_
  rintro e w6 ⟨rfl, rfl⟩
  have hcl := crcS_lt (bodyL_byte HS.out.2.2.2 HS.out.2.2.1)
  obtain ⟨u, hu⟩ : ∃ u, u = crcS (bodyL kind bs) := ⟨_, rfl⟩
  rw [← hu] at hcl
  rw [← hu]
  have HU := Lib.hid (And.intro hu hcl)
  clear hu hcl
  go_wp2_with fail
  refine (four_any u _ HU.out.2).mono ?_
  rintro e w7 ⟨rfl, hb7⟩
  have k7' : Keeps (fun _ => False) w5 w7 := Keeps.of_below hb7
  have o7 := own_keeps H5.out.1 k7' (fun _ _ h => h)
  have k7 := H5.out.2.1.trans' k7'
  have H7 := Lib.hid (And.intro o7 k7)
  clear hb7 k7' o7 k7
  go_wp2_with (at_builtin; refine wpList_append_sl (f := byteC (fourL u)) (D := fun k => k = w7.heap.size) (base := w.heap.size) (n := 5 + len) (xs := (bodyL kind bs).map byteV) byteElem rfl (.tmp 31) (.tmp 32) rfl rfl rfl ?hown ?hsl ?h1 ?h63 ?hby ?hbase ?_)
  case hown => exact H7.out.1.alloc _
  case hsl => exact sl_four _ _ _ (Blk.fresh w7 _ _)
  case h1 => intro j _; rfl
  case h63 => unfold maxLen; omega
  case hby => omega
  case hbase => have := H7.out.2.size; simp; omega
  intro v8 w8 ho8 hg8 hx
  clear hx
  have k8 := keeps_grown (H7.out.2.alloc _) (H7.out.1.alloc _) hg8
  have e8 : (bodyL kind bs).map byteV ++ [byteC (fourL u) 0, byteC (fourL u) 1, byteC (fourL u) 2, byteC (fourL u) 3] = (sealL kind bs).map byteV := by
    unfold sealL
    rw [HU.out.1, List.map_append]
    rfl
  rw [e8] at ho8
  have hsl : 5 + len + 4 = (sealL kind bs).length := by rw [sealL_length, HS.out.1]; omega
  rw [hsl] at ho8
  obtain ⟨A8, c8, hv8, -, -⟩ := own_form ho8
  subst hv8
  have H8 := Lib.hid (And.intro ho8 k8)
  clear ho8 hg8 k8 e8 hsl
  go_wp2_with fail
  go_ret2
  exact ⟨A8, c8, rfl, H8.out.1, H8.out.2⟩
end Go.Proofs.Ytopbbicjbjmdnaa.F
namespace Go.Proofs.Ytopbbicjbjmdnaa
/-- Bit i of bytes, of each the highest first. -/
def bitOf (bs : List Nat) (i : Nat) : Nat := bs.getD (i / 8) 0 / 2 ^ (7 - i % 8) % 2
/-- n bits from the bit a on, as a number. -/
def gets (bs : List Nat) (a : Nat) : Nat → Nat
  | 0 => 0
  | n + 1 => 2 * gets bs a n + bitOf bs (a + n)
theorem bitOf_lt (bs : List Nat) (i : Nat) : bitOf bs i < 2 := Nat.mod_lt _ (by omega)
theorem gets_lt (bs : List Nat) (a n : Nat) : gets bs a n < 2 ^ n := by
  induction n with
  | zero => simp [gets]
  | succ n ih => have := bitOf_lt bs (a + n); rw [gets, Nat.pow_succ]; omega
/-- What Get answers: the number, its error, how many bits are taken. -/
def getV (bs : List Nat) (a en : Nat) (n : Int) : Nat := if 0 ≤ n ∧ n ≤ 64 ∧ n ≤ (en : Int) - a then gets bs a n.toNat else 0
def getE (a en : Nat) (n : Int) : Int := if 0 ≤ n ∧ n ≤ 64 then (if n ≤ (en : Int) - a then 0 else 10) else 2
def getN (a en : Nat) (n : Int) : Nat := if 0 ≤ n ∧ n ≤ 64 ∧ n ≤ (en : Int) - a then n.toNat else 0
theorem getN_le (a en : Nat) (n : Int) (h : a ≤ en) : a + getN a en n ≤ en := by unfold getN; split <;> omega
theorem two_or (g b : Nat) (hb : b < 2) : g * 2 ||| b = 2 * g + b := by
  have h := Nat.shiftLeft_add_eq_or_of_lt (i := 1) (b := b) (by omega) g
  rw [Nat.shiftLeft_eq] at h
  rw [show g * 2 = g * 2 ^ 1 from by omega, ← h]
  omega
theorem pow_cast (s : Nat) : ((2 : Int) ^ s) = ((2 ^ s : Nat) : Int) := by simp
theorem div_cast (x s : Nat) : (x : Int) / 2 ^ s = ((x / 2 ^ s : Nat) : Int) := by rw [pow_cast]; rfl
theorem and_one_u8 (x s : Nat) (hx : x < 256) : bits .and .u8 ((x : Int) / 2 ^ s) 1 = ((x / 2 ^ s % 2 : Nat) : Int) := by
  have h1 : x / 2 ^ s < 256 := Nat.lt_of_le_of_lt (Nat.div_le_self _ _) hx
  rw [div_cast, show (1 : Int) = ((1 : Nat) : Int) from rfl, u8_and_nat _ _ h1 (by omega), Nat.and_one_is_mod]
theorem get_step (g x s : Nat) (hg : g < 9223372036854775808) (hx : x < 256) :
    bits .or .u64 (IntKind.u64.wrap ((g : Int) * 2)) (IntKind.u64.wrap (bits .and .u8 ((x : Int) / 2 ^ s) 1)) = ((2 * g + x / 2 ^ s % 2 : Nat) : Int) := by
  rw [and_one_u8 x s hx, IntKind.wrap_u64, IntKind.wrap_u64]
  have h2 : x / 2 ^ s % 2 < 2 := Nat.mod_lt _ (by omega)
  generalize x / 2 ^ s % 2 = b at h2 ⊢
  rw [show (g : Int) * 2 % 18446744073709551616 = ((g * 2 : Nat) : Int) from by omega, show (b : Int) % 18446744073709551616 = (b : Int) from by omega,
    u64_or_nat _ _ (by omega) (by omega), two_or g b h2]
theorem rget_step (g x s : Nat) (hg : g < 9223372036854775808) (hx : x < 256) :
    IntKind.u64.wrap (IntKind.u64.wrap ((g : Int) * 2) + IntKind.u64.wrap (bits .and .u8 ((x : Int) / 2 ^ s) 1)) = ((2 * g + x / 2 ^ s % 2 : Nat) : Int) := by
  rw [and_one_u8 x s hx, IntKind.wrap_u64, IntKind.wrap_u64, IntKind.wrap_u64]
  have h2 : x / 2 ^ s % 2 < 2 := Nat.mod_lt _ (by omega)
  generalize x / 2 ^ s % 2 = b at h2 ⊢
  omega
end Go.Proofs.Ytopbbicjbjmdnaa
namespace Go.Proofs.Ytopbbicjbjmdnaa
open Go.RowKit
theorem byteElem : Elem1 Try.prog 24 5 (.int .u8 0) 1 := Elem1.mk' Try.underlying24 rfl (by kernel_rfl)

end Go.Proofs.Ytopbbicjbjmdnaa
namespace Go.Proofs.Ytopbbicjbjmdnaa
/-- Byte j of bits. -/
def byteAt (L : List Nat) (j : Nat) : Nat :=
  128 * L.getD (8 * j) 0 + 64 * L.getD (8 * j + 1) 0 + 32 * L.getD (8 * j + 2) 0 + 16 * L.getD (8 * j + 3) 0 + 8 * L.getD (8 * j + 4) 0 + 4 * L.getD (8 * j + 5) 0 + 2 * L.getD (8 * j + 6) 0 + L.getD (8 * j + 7) 0
/-- Bits as bytes, with bits 0 up to a whole byte. -/
def pack (L : List Nat) : List Nat := (List.range ((L.length + 7) / 8)).map (byteAt L)
/-- The bits of a number: the first k of the lowest n ones, the highest of them first. -/
def bitsTo (v n k : Nat) : List Nat := (List.range k).map fun j => v / 2 ^ (n - 1 - j) % 2
theorem bitsTo_zero (v n : Nat) : bitsTo v n 0 = [] := rfl
theorem bitsTo_succ (v n k : Nat) : bitsTo v n (k + 1) = bitsTo v n k ++ [v / 2 ^ (n - 1 - k) % 2] := by
  unfold bitsTo; rw [List.range_succ, List.map_append]; rfl
theorem bitsTo_length (v n k : Nat) : (bitsTo v n k).length = k := by simp [bitsTo]
theorem bits_snoc {L : List Nat} (h : ∀ j, L.getD j 0 < 2) {b : Nat} (hb : b < 2) : ∀ j, (L ++ [b]).getD j 0 < 2 := by
  intro j
  rw [List.getD_eq_getElem?_getD]
  rcases Nat.lt_trichotomy j L.length with h1 | h1 | h1
  · rw [List.getElem?_append_left h1, ← List.getD_eq_getElem?_getD]; exact h j
  · subst h1; simpa using hb
  · rw [List.getElem?_eq_none (by simp; omega)]; simp
theorem getD_snoc_lt (L : List Nat) (b j : Nat) (h : j < L.length) : (L ++ [b]).getD j 0 = L.getD j 0 := by
  rw [List.getD_eq_getElem?_getD, List.getD_eq_getElem?_getD, List.getElem?_append_left h]
theorem getD_snoc_eq (L : List Nat) (b : Nat) : (L ++ [b]).getD L.length 0 = b := by
  rw [List.getD_eq_getElem?_getD]; simp
theorem getD_ge (L : List Nat) (j : Nat) (h : L.length ≤ j) : L.getD j 0 = 0 := by
  rw [List.getD_eq_getElem?_getD, List.getElem?_eq_none h]; rfl
theorem getD_snoc (L : List Nat) (b j : Nat) : (L ++ [b]).getD j 0 = L.getD j 0 + if j = L.length then b else 0 := by
  rcases Nat.lt_trichotomy j L.length with h1 | h1 | h1
  · rw [getD_snoc_lt L b j h1, if_neg (by omega)]; omega
  · subst h1; rw [getD_snoc_eq, getD_ge L _ (Nat.le_refl _)]; simp
  · rw [getD_ge L j (by omega), getD_ge (L ++ [b]) j (by simp; omega), if_neg (by omega)]
theorem pack_length (L : List Nat) : (pack L).length = (L.length + 7) / 8 := by simp [pack]
theorem byteAt_ge (L : List Nat) (j : Nat) (h : L.length ≤ 8 * j) : byteAt L j = 0 := by
  unfold byteAt
  rw [getD_ge L _ h, getD_ge L (8 * j + 1) (by omega), getD_ge L (8 * j + 2) (by omega), getD_ge L (8 * j + 3) (by omega), getD_ge L (8 * j + 4) (by omega), getD_ge L (8 * j + 5) (by omega), getD_ge L (8 * j + 6) (by omega), getD_ge L (8 * j + 7) (by omega)]
theorem pack_getD (L : List Nat) (j : Nat) : (pack L).getD j 0 = byteAt L j := by
  rw [List.getD_eq_getElem?_getD, pack, List.getElem?_map]
  rcases Nat.lt_or_ge j ((L.length + 7) / 8) with h | h
  · rw [List.getElem?_range h]; rfl
  · rw [List.getElem?_eq_none (by simpa using h), byteAt_ge L j (by omega)]; rfl
theorem byteAt_lt {L : List Nat} (h : ∀ j, L.getD j 0 < 2) (j : Nat) : byteAt L j < 256 := by
  unfold byteAt
  have := h (8 * j); have := h (8 * j + 1); have := h (8 * j + 2); have := h (8 * j + 3); have := h (8 * j + 4); have := h (8 * j + 5); have := h (8 * j + 6); have := h (8 * j + 7)
  omega
/-- A bit more: its byte is more by it. -/
theorem byteAt_snoc (L : List Nat) (b j : Nat) : byteAt (L ++ [b]) j = byteAt L j + if j = L.length / 8 then b * 2 ^ (7 - L.length % 8) else 0 := by
  unfold byteAt
  simp only [getD_snoc]
  rcases Nat.lt_or_ge (L.length / 8) j with h1 | h1
  · rw [if_neg (show ¬ 8 * j = L.length by omega), if_neg (show ¬ 8 * j + 1 = L.length by omega), if_neg (show ¬ 8 * j + 2 = L.length by omega), if_neg (show ¬ 8 * j + 3 = L.length by omega), if_neg (show ¬ 8 * j + 4 = L.length by omega), if_neg (show ¬ 8 * j + 5 = L.length by omega), if_neg (show ¬ 8 * j + 6 = L.length by omega), if_neg (show ¬ 8 * j + 7 = L.length by omega), if_neg (show ¬ j = L.length / 8 by omega)]
    omega
  · rcases Nat.lt_or_ge j (L.length / 8) with h2 | h2
    · rw [if_neg (show ¬ 8 * j = L.length by omega), if_neg (show ¬ 8 * j + 1 = L.length by omega), if_neg (show ¬ 8 * j + 2 = L.length by omega), if_neg (show ¬ 8 * j + 3 = L.length by omega), if_neg (show ¬ 8 * j + 4 = L.length by omega), if_neg (show ¬ 8 * j + 5 = L.length by omega), if_neg (show ¬ 8 * j + 6 = L.length by omega), if_neg (show ¬ 8 * j + 7 = L.length by omega), if_neg (show ¬ j = L.length / 8 by omega)]
      omega
    · obtain rfl : j = L.length / 8 := by omega
      rw [if_pos (show L.length / 8 = L.length / 8 from rfl)]
      have hr : L.length % 8 < 8 := Nat.mod_lt _ (by omega)
      have hd := Nat.div_add_mod L.length 8
      obtain ⟨q, hq⟩ : ∃ q, q = L.length / 8 := ⟨_, rfl⟩
      obtain ⟨r, hrr⟩ : ∃ r, r = L.length % 8 := ⟨_, rfl⟩
      rw [← hrr] at hr hd ⊢
      rw [← hq] at hd ⊢
      generalize L.length = n at *
      rcases (show r = 0 ∨ r = 1 ∨ r = 2 ∨ r = 3 ∨ r = 4 ∨ r = 5 ∨ r = 6 ∨ r = 7 by omega) with h | h | h | h | h | h | h | h
      all_goals
        subst h
        subst hd
        simp
        omega
/-- Its byte has bits 0 from there on. -/
theorem byteAt_mul (L : List Nat) : ∃ x, byteAt L (L.length / 8) = x * 2 ^ (8 - L.length % 8) := by
  have hr : L.length % 8 < 8 := Nat.mod_lt _ (by omega)
  have hd := Nat.div_add_mod L.length 8
  have hg : ∀ j, L.length ≤ j → L.getD j 0 = 0 := fun j hj => getD_ge L j hj
  obtain ⟨q, hq⟩ : ∃ q, q = L.length / 8 := ⟨_, rfl⟩
  obtain ⟨r, hrr⟩ : ∃ r, r = L.length % 8 := ⟨_, rfl⟩
  rw [← hrr] at hr hd ⊢
  rw [← hq] at hd ⊢
  have z0 : r = 0 → L.getD (8 * q) 0 = 0 := fun _ => hg _ (by omega)
  have z1 : r ≤ 1 → L.getD (8 * q + 1) 0 = 0 := fun _ => hg _ (by omega)
  have z2 : r ≤ 2 → L.getD (8 * q + 2) 0 = 0 := fun _ => hg _ (by omega)
  have z3 : r ≤ 3 → L.getD (8 * q + 3) 0 = 0 := fun _ => hg _ (by omega)
  have z4 : r ≤ 4 → L.getD (8 * q + 4) 0 = 0 := fun _ => hg _ (by omega)
  have z5 : r ≤ 5 → L.getD (8 * q + 5) 0 = 0 := fun _ => hg _ (by omega)
  have z6 : r ≤ 6 → L.getD (8 * q + 6) 0 = 0 := fun _ => hg _ (by omega)
  have z7 : r ≤ 7 → L.getD (8 * q + 7) 0 = 0 := fun _ => hg _ (by omega)
  unfold byteAt
  clear hg
  generalize L.getD (8 * q) 0 = b0 at *
  generalize L.getD (8 * q + 1) 0 = b1 at *
  generalize L.getD (8 * q + 2) 0 = b2 at *
  generalize L.getD (8 * q + 3) 0 = b3 at *
  generalize L.getD (8 * q + 4) 0 = b4 at *
  generalize L.getD (8 * q + 5) 0 = b5 at *
  generalize L.getD (8 * q + 6) 0 = b6 at *
  generalize L.getD (8 * q + 7) 0 = b7 at *
  rcases (show r = 0 ∨ r = 1 ∨ r = 2 ∨ r = 3 ∨ r = 4 ∨ r = 5 ∨ r = 6 ∨ r = 7 by omega) with h | h | h | h | h | h | h | h
  · exact ⟨0, by omega⟩
  · exact ⟨b0, by rw [h]; omega⟩
  · exact ⟨2 * b0 + b1, by rw [h]; omega⟩
  · exact ⟨4 * b0 + 2 * b1 + b2, by rw [h]; omega⟩
  · exact ⟨8 * b0 + 4 * b1 + 2 * b2 + b3, by rw [h]; omega⟩
  · exact ⟨16 * b0 + 8 * b1 + 4 * b2 + 2 * b3 + b4, by rw [h]; omega⟩
  · exact ⟨32 * b0 + 16 * b1 + 8 * b2 + 4 * b3 + 2 * b4 + b5, by rw [h]; omega⟩
  · exact ⟨64 * b0 + 32 * b1 + 16 * b2 + 8 * b3 + 4 * b4 + 2 * b5 + b6, by rw [h]; omega⟩
theorem byteAt_or (L : List Nat) (b : Nat) (hb : b < 2) : byteAt L (L.length / 8) ||| b * 2 ^ (7 - L.length % 8) = byteAt (L ++ [b]) (L.length / 8) := by
  rw [byteAt_snoc, if_pos rfl]
  obtain ⟨x, hx⟩ := byteAt_mul L
  rw [hx]
  have hr : L.length % 8 < 8 := Nat.mod_lt _ (by omega)
  generalize L.length % 8 = r at *
  have hlt : b * 2 ^ (7 - r) < 2 ^ (8 - r) := by
    rw [show 8 - r = (7 - r) + 1 by omega, Nat.pow_succ]
    have : 0 < 2 ^ (7 - r) := Nat.pow_pos (by omega)
    rcases (show b = 0 ∨ b = 1 by omega) with rfl | rfl <;> omega
  have h := Nat.shiftLeft_add_eq_or_of_lt hlt x
  rw [Nat.shiftLeft_eq] at h
  exact h.symm
/-- The bytes behind one bit more. -/
def oneMore (L : List Nat) : List Nat := if L.length % 8 = 0 then pack L ++ [0] else pack L
theorem oneMore_length (L : List Nat) : (oneMore L).length = L.length / 8 + 1 := by
  unfold oneMore; split
  · rw [List.length_append, pack_length]; simp; omega
  · rw [pack_length]; omega
theorem oneMore_getD (L : List Nat) : (oneMore L).getD (L.length / 8) 0 = byteAt L (L.length / 8) := by
  unfold oneMore; split
  · next h =>
    have hl : (pack L).length = L.length / 8 := by rw [pack_length]; omega
    rw [← hl, getD_snoc_eq, hl, byteAt_ge L _ (by omega)]
  · exact pack_getD L _
theorem pack_snoc (L : List Nat) (b : Nat) (hb : b < 2) : (oneMore L).set (L.length / 8) (byteAt L (L.length / 8) ||| b * 2 ^ (7 - L.length % 8)) = pack (L ++ [b]) := by
  rw [byteAt_or L b hb]
  have hlen : (pack (L ++ [b])).length = L.length / 8 + 1 := by rw [pack_length]; simp; omega
  apply List.ext_getElem?
  intro j
  rcases Nat.lt_or_ge j (L.length / 8 + 1) with hj | hj
  · have e : (pack (L ++ [b]))[j]? = some (byteAt (L ++ [b]) j) := by
      rw [List.getElem?_eq_getElem (by omega)]
      have := pack_getD (L ++ [b]) j
      rw [List.getD_eq_getElem?_getD, List.getElem?_eq_getElem (by omega)] at this
      simpa using this
    rw [e, List.getElem?_set]
    split
    · next h => subst h; rw [if_pos (by rw [oneMore_length]; omega)]
    · next h =>
      rw [byteAt_snoc, if_neg (by omega)]
      have hjl : j < (oneMore L).length := by rw [oneMore_length]; omega
      have : (oneMore L).getD j 0 = byteAt L j := by
        unfold oneMore; split
        · next h8 =>
          rw [getD_snoc_lt _ _ _ (by rw [pack_length]; omega)]; exact pack_getD L j
        · exact pack_getD L j
      rw [List.getD_eq_getElem?_getD, List.getElem?_eq_getElem hjl] at this
      rw [List.getElem?_eq_getElem hjl]
      simpa using this
  · rw [List.getElem?_eq_none (by rw [List.length_set, oneMore_length]; omega), List.getElem?_eq_none (by omega)]
theorem oneMore_lt {L : List Nat} (h : ∀ j, L.getD j 0 < 2) (j : Nat) : (oneMore L).getD j 0 < 256 := by
  unfold oneMore; split
  · rw [getD_snoc]; split
    · rw [pack_getD]; have := byteAt_lt h j; omega
    · rw [pack_getD]; have := byteAt_lt h j; omega
  · rw [pack_getD]; exact byteAt_lt h j
theorem one_or (x b s : Nat) (hx : x < 256) (hb : b < 2) (hs : s ≤ 7) : bits .or .u8 (x : Int) (IntKind.u64.wrap ((b : Int) * 2 ^ s) % 256) = ((x ||| b * 2 ^ s : Nat) : Int) := by
  have hp : 2 ^ s ≤ 2 ^ 7 := Nat.pow_le_pow_right (by omega) hs
  have hlt : b * 2 ^ s < 256 := by rcases (show b = 0 ∨ b = 1 by omega) with rfl | rfl <;> omega
  rw [show (b : Int) * 2 ^ s = ((b * 2 ^ s : Nat) : Int) from by rw [pow_cast, ← Int.natCast_mul]]
  generalize b * 2 ^ s = y at hlt ⊢
  rw [IntKind.wrap_u64, show (y : Int) % 18446744073709551616 % 256 = (y : Int) from by omega, u8_or_nat x y hx hlt]
theorem and_one_u64' (v i : Nat) (hv : v < 18446744073709551616) : bits .and .u64 ((v : Int) / 2 ^ i) 1 = ((v / 2 ^ i % 2 : Nat) : Int) := by
  have h1 : v / 2 ^ i < 18446744073709551616 := Nat.lt_of_le_of_lt (Nat.div_le_self _ _) hv
  rw [div_cast, show (1 : Int) = ((1 : Nat) : Int) from rfl, u64_and_nat _ _ h1 (by omega), Nat.and_one_is_mod]
theorem ret_int {k : IntKind} {a b : Int} (h : a = b) : Ending.returned (.int k a) = .returned (.int k b) := by rw [h]
/-- What Put answers, and the bits behind it. -/
def putE (len : Nat) (n : Int) : Int := if 0 ≤ n ∧ n ≤ 64 then (if n ≤ 8388608 - (len : Int) then 0 else 3) else 2
def putL (L : List Nat) (v : Nat) (n : Int) : List Nat := if 0 ≤ n ∧ n ≤ 64 ∧ n ≤ 8388608 - (L.length : Int) then L ++ bitsTo v n.toNat n.toNat else L
theorem bitsTo_bit (v n k : Nat) : ∀ j, (bitsTo v n k).getD j 0 < 2 := by
  intro j
  unfold bitsTo
  rw [List.getD_eq_getElem?_getD, List.getElem?_map]
  rcases Nat.lt_or_ge j k with h | h
  · rw [List.getElem?_range h]; exact Nat.mod_lt _ (by omega)
  · rw [List.getElem?_eq_none (by simpa using h)]; simp
theorem bits_append {L M : List Nat} (h : ∀ j, L.getD j 0 < 2) (k : ∀ j, M.getD j 0 < 2) : ∀ j, (L ++ M).getD j 0 < 2 := by
  intro j
  rw [List.getD_eq_getElem?_getD]
  rcases Nat.lt_or_ge j L.length with h1 | h1
  · rw [List.getElem?_append_left h1, ← List.getD_eq_getElem?_getD]; exact h j
  · rw [List.getElem?_append_right h1, ← List.getD_eq_getElem?_getD]; exact k _
/-- The bytes of the first k bits, in m bytes. -/
def packTo (L : List Nat) (m k : Nat) : List Nat := (List.range m).map (byteAt (L.take k))
theorem packTo_length (L : List Nat) (m k : Nat) : (packTo L m k).length = m := by simp [packTo]
theorem packTo_zero (L : List Nat) (m : Nat) : packTo L m 0 = List.replicate m 0 := by
  unfold packTo
  apply List.ext_getElem?
  intro j
  rw [List.getElem?_map, List.getElem?_replicate]
  rcases Nat.lt_or_ge j m with h | h
  · rw [List.getElem?_range h, if_pos h]
    show some (byteAt (L.take 0) j) = _
    rw [byteAt_ge _ _ (by simp)]
  · rw [List.getElem?_eq_none (by simpa using h), if_neg (by omega)]; rfl
theorem packTo_all (L : List Nat) : packTo L ((L.length + 7) / 8) L.length = pack L := by
  unfold packTo pack; rw [List.take_length]
theorem packTo_getD (L : List Nat) (m k j : Nat) (h : j < m) : (packTo L m k).getD j 0 = byteAt (L.take k) j := by
  rw [List.getD_eq_getElem?_getD, packTo, List.getElem?_map, List.getElem?_range h]; rfl
theorem take_snocD (L : List Nat) (k : Nat) (h : k < L.length) : L.take (k + 1) = L.take k ++ [L.getD k 0] := by
  rw [List.take_succ_eq_append_getElem h, List.getD_eq_getElem?_getD, List.getElem?_eq_getElem h]; rfl
theorem byteAt_take_succ (L : List Nat) (k j : Nat) (h : k < L.length) : byteAt (L.take (k + 1)) j = byteAt (L.take k) j + if j = k / 8 then L.getD k 0 * 2 ^ (7 - k % 8) else 0 := by
  rw [take_snocD L k h, byteAt_snoc, List.length_take, Nat.min_eq_left (by omega)]
theorem packTo_skip (L : List Nat) (m k : Nat) (h : k < L.length) (hb : L.getD k 0 = 0) : packTo L m (k + 1) = packTo L m k := by
  unfold packTo
  apply List.map_congr_left
  intro j _
  rw [byteAt_take_succ L k j h, hb]; simp
theorem packTo_set (L : List Nat) (m k : Nat) (h : k < L.length) (hb : L.getD k 0 = 1) : (packTo L m k).set (k / 8) (byteAt (L.take k) (k / 8) + 2 ^ (7 - k % 8)) = packTo L m (k + 1) := by
  apply List.ext_getElem?
  intro j
  rw [List.getElem?_set, packTo_length]
  unfold packTo
  rcases Nat.lt_or_ge j m with hj | hj
  · rw [List.getElem?_map, List.getElem?_map, List.getElem?_range hj]
    simp only [Option.map_some]
    rw [byteAt_take_succ L k j h, hb]
    split
    · next e => rw [if_pos (by omega)]; subst e; simp
    · next e => rw [if_neg (by omega)]; simp
  · rw [List.getElem?_eq_none (by simpa using hj), List.getElem?_eq_none (by simpa using hj)]
    split
    · next e => rw [if_neg (by omega)]
    · rfl
theorem take_bit {L : List Nat} (h : ∀ j, L.getD j 0 < 2) (k : Nat) : ∀ j, (L.take k).getD j 0 < 2 := by
  intro j
  rw [List.getD_eq_getElem?_getD, List.getElem?_take]
  split
  · rw [← List.getD_eq_getElem?_getD]; exact h j
  · simp
theorem rby_step (x s : Nat) (h : x + 2 ^ s < 256) : ((x : Int) + (2 : Int) ^ s) % 256 = ((x + 2 ^ s : Nat) : Int) := by
  rw [pow_cast]
  generalize 2 ^ s = y at h ⊢
  omega
end Go.Proofs.Ytopbbicjbjmdnaa
namespace Go.Proofs.Ytopbbicjbjmdnaa
open Go.RowKit
set_option maxRecDepth 100000
def byteV (b : Nat) : Value := .int .u8 (b : Int)
/-- The method value one of the writer at block a. -/
def oneOf (a : Nat) : Value := .func (.func 59) #[.pointer (some ⟨a, 0, none⟩)] #[]
/-- A bits.Writer at block a, its bytes in the block g: its bits. -/
structure Wr (w : World) (a : Nat) (g : Option Nat) (L : List Nat) : Prop where
  len : L.length ≤ 8388608
  bit : ∀ j, L.getD j 0 < 2
  blk : ∃ v, v.ownBlock = g ∧ Blk w a 101 #[oneOf a, v, .int .i64 L.length] ∧ w.ownsRow 0 5 1 v (pack L).length ((pack L).map byteV)
def NewWrPost (w : World) (e : Ending) (w' : World) : Prop :=
  e = .returned (.pointer (some ⟨w.heap.size, 0, none⟩)) ∧ Wr w' w.heap.size none [] ∧ Keeps (fun _ => False) w w'
set_option maxHeartbeats 400000 in
theorem newWriter_any (w : World) : Calls Try.prog 42 #[] w (NewWrPost w) := by
  go_enter Try.func42, Try.ntmps42
  go_wp2
  go_ret
  refine ⟨rfl, ⟨by simp, by simp, .slice none 0 0, rfl, ?_, ⟨by simp [pack], .inl ⟨rfl, by simp [pack]⟩⟩⟩, ((Keeps.refl _ _).alloc _)⟩
  exact Blk.fresh _ _ _

/-- Behind the first statement of one: there is room for the bit. -/
def Roomy (w : World) (a : Nat) (g : Option Nat) (L : List Nat) (wx : World) : Prop :=
  ∃ gb c, Blk wx a 101 #[oneOf a, .slice (some ⟨gb, 0, none⟩) (L.length / 8 + 1) c, .int .i64 L.length] ∧
    wx.ownsRow 0 5 1 (.slice (some ⟨gb, 0, none⟩) (L.length / 8 + 1) c) (L.length / 8 + 1) ((oneMore L).map byteV) ∧ Keeps (fun k => k = a ∨ some k = g) w wx ∧ (g = some gb ∨ w.heap.size ≤ gb)
theorem roomy_same {w : World} {a : Nat} {g : Option Nat} {L : List Nat} (h : Wr w a g L) (h8 : ¬ L.length % 8 = 0) : Roomy w a g L w := by
  obtain ⟨v, hv, hblk, hown⟩ := h.blk
  obtain ⟨A, c, rfl, hlec, hA⟩ := own_form hown
  have hl := pack_length L
  obtain ⟨gb, rfl, -, -⟩ := hA (by omega)
  have e : (pack L).length = L.length / 8 + 1 := by omega
  rw [e] at hblk hown hv
  refine ⟨gb, c, hblk, ?_, Keeps.refl _ _, .inl hv.symm⟩
  unfold oneMore
  rw [if_neg h8]
  exact hown
theorem own_setCell_other {w : World} {base : Nat} {e t : TypeId} {size n a i : Nat} {v u : Value} {xs : List Value} {cs : Array Value} (h : w.ownsRow base e size v n xs) (hg : Blk w a t cs) (hne : e ≠ t) : (w.setCell ⟨a, i, none⟩ u).ownsRow base e size v n xs := by
  refine own_keeps h (S := fun k => k = a) (Keeps.setCell (Keeps.refl (fun k => k = a) w) (p := ⟨a, i, none⟩) (fun _ => rfl) u) (fun g hgv e => own_ne h hg hne (by rw [hgv, e]))
theorem roomy_new {w w1 : World} {a : Nat} {g : Option Nat} {L : List Nat} {v v1 : Value} {o : Obj} (hv : v.ownBlock = g) (hblk : Blk w a 101 #[oneOf a, v, .int .i64 L.length]) (hown : w.ownsRow 0 5 1 v (pack L).length ((pack L).map byteV))
    (h8 : L.length % 8 = 0) (hg1 : (w.alloc o).grownBy w1 v.ownBlock) (hown1 : w1.ownsRow 0 5 1 v1 ((pack L).length + 1) ((pack L).map byteV ++ [.int .u8 0])) (hat1 : v1.ownBlock = v.ownBlock ∨ v1.ownBlock = some (w.heap.size + 1)) :
    Blk w1 a 101 #[oneOf a, v, .int .i64 L.length] ∧ Roomy w a g L (w1.setCell ⟨a, 1, none⟩ v1) := by
  have hk : Keeps (fun k => k = a ∨ some k = g) w w1 := ((Keeps.refl _ w).alloc o).grown hg1 (fun k hk _ => .inr (by rw [← hk, hv]))
  have hka : Keeps (fun k => some k = g) w w1 := ((Keeps.refl _ w).alloc o).grown hg1 (fun k hk _ => by rw [← hk, hv])
  have hb1 : Blk w1 a 101 #[oneOf a, v, .int .i64 L.length] := hblk.keeps hka (fun e => own_ne hown hblk (by decide) (by rw [hv, e]))
  refine ⟨hb1, ?_⟩
  have hl := pack_length L
  obtain ⟨A, c, rfl, hlec, hA⟩ := own_form hown1
  obtain ⟨gb, rfl, -, hgb⟩ := hA (by omega)
  have e : (pack L).length + 1 = L.length / 8 + 1 := by omega
  rw [e] at hown1 ⊢
  refine ⟨gb, c, ?_, ?_, hk.setCell (fun _ => .inl rfl) _, ?_⟩
  · have := hb1.set 1 (.slice (some ⟨gb, 0, none⟩) (L.length / 8 + 1) c)
    simpa using this
  · have : (oneMore L).map byteV = (pack L).map byteV ++ [.int .u8 0] := by
      unfold oneMore; rw [if_pos h8, List.map_append]; rfl
    rw [this]
    exact own_setCell_other hown1 hb1 (by decide)
  · rcases hat1 with h | h
    · left; rw [← hv, ← h]; rfl
    · right
      simp [Value.ownBlock] at h
      omega
def OnePost (w : World) (a : Nat) (g : Option Nat) (L : List Nat) (b : Nat) (e : Ending) (w' : World) : Prop :=
  e = .returned (.tuple #[]) ∧ ∃ g', Wr w' a g' (L ++ [b]) ∧ Keeps (fun k => k = a ∨ some k = g) w w' ∧ (g' = g ∨ ∃ k, g' = some k ∧ w.heap.size ≤ k)

theorem one_post {w wc : World} {a : Nat} {g : Option Nat} {L : List Nat} {b gb c : Nat} (h : Wr w a g L) (hb : b < 2) (hl : L.length < 8388608)
    (hbx : Blk wc a 101 #[oneOf a, .slice (some ⟨gb, 0, none⟩) (L.length / 8 + 1) c, .int .i64 L.length])
    (hox : wc.ownsRow 0 5 1 (.slice (some ⟨gb, 0, none⟩) (L.length / 8 + 1) c) (L.length / 8 + 1) ((oneMore L).map byteV))
    (hkx : Keeps (fun k => k = a ∨ some k = g) w wc) (hgx : g = some gb ∨ w.heap.size ≤ gb) :
    ∃ g', Wr ((wc.setCell ⟨gb, L.length / 8, none⟩ (byteV (byteAt L (L.length / 8) ||| b * 2 ^ (7 - L.length % 8)))).setCell ⟨a, 2, none⟩ (.int .i64 ((L.length : Int) + 1))).drew a g' (L ++ [b]) ∧
      Keeps (fun k => k = a ∨ some k = g) w ((wc.setCell ⟨gb, L.length / 8, none⟩ (byteV (byteAt L (L.length / 8) ||| b * 2 ^ (7 - L.length % 8)))).setCell ⟨a, 2, none⟩ (.int .i64 ((L.length : Int) + 1))).drew ∧ (g' = g ∨ ∃ k, g' = some k ∧ w.heap.size ≤ k) := by
  have hga : gb ≠ a := fun e => own_ne hox hbx (by decide) (by rw [← e]; rfl)
  obtain ⟨hs1, hs2⟩ := hox.stored (L.length / 8) (byteV (byteAt L (L.length / 8) ||| b * 2 ^ (7 - L.length % 8)))
  have hb1 : Blk (wc.setCell ⟨gb, L.length / 8, none⟩ (byteV (byteAt L (L.length / 8) ||| b * 2 ^ (7 - L.length % 8)))) a 101 #[oneOf a, .slice (some ⟨gb, 0, none⟩) (L.length / 8 + 1) c, .int .i64 L.length] := hbx.far (p := ⟨gb, L.length / 8, none⟩) (fun e => hga e.symm) _
  refine ⟨some gb, ⟨by simp; omega, bits_snoc h.bit hb, .slice (some ⟨gb, 0, none⟩) (L.length / 8 + 1) c, rfl, ?_, ?_⟩, ?_, ?_⟩
  · have := hb1.set 2 (.int .i64 ((L.length : Int) + 1))
    have e : (((L ++ [b]).length : Nat) : Int) = (L.length : Int) + 1 := by simp
    rw [e]
    exact this.drew
  · have e : (pack (L ++ [b])).length = L.length / 8 + 1 := by rw [pack_length]; simp; omega
    rw [e, ← pack_snoc L b hb, List.map_set]
    exact own_setCell_other (i := 2) hs1 hb1 (by decide)
  · refine ((hkx.setCell (p := ⟨gb, L.length / 8, none⟩) (fun hlt => ?_) _).setCell (fun _ => .inl rfl) _).drew
    rcases hgx with h | h
    · exact .inr h.symm
    · exact absurd hlt (by simpa using h)
  · rcases hgx with h | h
    · exact .inl h.symm
    · exact .inr ⟨gb, rfl, h⟩

set_option maxHeartbeats 800000 in
theorem one_any (w : World) (a : Nat) (g : Option Nat) (L : List Nat) (b : Nat) (h : Wr w a g L) (hb : b < 2) (hl : L.length < 8388608) :
    Calls Try.prog 59 #[.pointer (some ⟨a, 0, none⟩), .int .u64 b] w (OnePost w a g L b) := by
  obtain ⟨v, hv, hblk, hown⟩ := h.blk
  obtain ⟨n, hn⟩ : ∃ n, n = L.length := ⟨_, rfl⟩
  rw [← hn] at hblk hl
  have c1 := hblk.cell 1
  have c2 := hblk.cell 2
  have f1 := hblk.frozen 1
  simp at c1 c2
  have HN := Lib.hid hn
  have HH := Lib.hid h
  have HO := Lib.hid hown
  have HV := Lib.hid hv
  have HB := Lib.hid hblk
  clear hn hown hv hblk h
  go_enter Try.func59, Try.ntmps59
  go_upto_if 9 with (fail)
  go_cut [] (fun wx => Roomy w a g L wx)
  case first =>
    by_cases h8 : n % 8 = 0
    · have e8 : (((n : Int) % 8) == 0) = true := by simp; omega
      go_wp2_with (at_builtin; refine wpList_append_sl (f := fun _ => .int .u8 0) (D := fun k => k = w.heap.size) (base := 0) (n := (pack L).length) (xs := (pack L).map byteV) byteElem rfl (.tmp 14) (.tmp 15) rfl rfl rfl ?hown ?hsl ?h1 ?h63 ?hby ?hbase ?_)
      case hown => exact HO.out.alloc _
      case hsl => exact sl_one _ _ _
      case h1 => intro j _; rfl
      case h63 => have := pack_length L; have := HN.out; simp only [maxLen]; omega
      case hby => have := pack_length L; have := HN.out; omega
      case hbase => simp
      intro v1 w1 hown1 hg1 hat1
      obtain ⟨A1, k1, hv1, -, -⟩ := own_form hown1
      rw [hv1]
      rw [hv1] at hown1 hat1
      clear hv1
      obtain ⟨hb1, hr1⟩ := roomy_new (L := L) HV.out (by rw [← HN.out]; exact HB.out) HO.out (by rw [← HN.out]; exact h8) hg1 hown1 hat1
      have HR := Lib.hid hr1
      have c11 := hb1.cell 1
      have f11 := hb1.frozen 1
      simp at c11
      clear hown1 hg1 hat1 hb1 hr1
      go_wp2_with fail
      go_meet
      exact HR.out
    · have e8 : (((n : Int) % 8) == 0) = false := by simp; omega
      go_wp2_with fail
      go_meet
      exact roomy_same HH.out (by rw [← HN.out]; exact h8)
  case rest =>
    clear c1 c2 f1
    obtain ⟨gb, c, hbx, hox, hkx, hgx⟩ := hcut
    rw [← HN.out] at hbx hox
    obtain ⟨q, hq⟩ : ∃ q, q = n / 8 := ⟨_, rfl⟩
    obtain ⟨t, ht⟩ : ∃ t, t = n % 8 := ⟨_, rfl⟩
    obtain ⟨s, hs⟩ : ∃ s, s = 7 - t := ⟨_, rfl⟩
    obtain ⟨x, hx⟩ : ∃ x, x = (oneMore L).getD q 0 := ⟨_, rfl⟩
    rw [← hq] at hbx hox
    have hxb : x < 256 := hx ▸ oneMore_lt HH.out.bit q
    have hcb : wc.cell? ⟨gb, q, none⟩ = some (.int .u8 x) := by
      rw [hox.cellAt q (by omega), List.getElem?_map, List.getElem?_eq_getElem (by rw [oneMore_length, ← HN.out]; omega), hx, List.getD_eq_getElem?_getD, List.getElem?_eq_getElem (by rw [oneMore_length, ← HN.out]; omega)]
      rfl
    have hfb := hox.frozenAt q
    have c1 := hbx.cell 1
    have c2 := hbx.cell 2
    have f2 := hbx.frozen 2
    simp at c1 c2
    have hga : gb ≠ a := fun e => own_ne hox hbx (by decide) (by rw [← e]; rfl)
    have e1 : IntKind.i64.wrap ((n : Int) / 8) = (q : Int) := by rw [IntWalk.i64_in _ (by omega)]; omega
    have e2 : IntKind.i64.wrap ((n : Int) % 8) = (t : Int) := by rw [IntWalk.i64_in _ (by omega)]; omega
    have e3 : (n : Int) % 8 = (t : Int) := by omega
    have e5 : (n : Int).tmod 8 = (t : Int) := by rw [Int.tmod_eq_emod_of_nonneg (by omega)]; exact e3
    have e4 : IntKind.i64.wrap (7 - (t : Int)) = (s : Int) := by rw [IntWalk.i64_in _ (by omega)]; omega
    have hqi : (q : Int) < (q : Int) + 1 := by omega
    have hs7 : s ≤ 7 := by omega
    have HP := Lib.hid (And.intro hq (And.intro ht (And.intro hs hx)))
    have HX := Lib.hid (And.intro hbx (And.intro hox (And.intro hkx hgx)))
    clear hq ht hs hx hbx hox hkx hgx
    go_wp2
    go_still_tail 22, (by kernel_rfl)
    change wpList _ _ _ _ _ wc.drew
    clear e1 e2 e3 e4 e5
    go_wp2
    go_end0
    obtain ⟨hq, ht, hs, hx⟩ := HP.out
    obtain ⟨hbx, hox, hkx, hgx⟩ := HX.out
    obtain rfl := HN.out
    subst hq ht hs
    have hx' : x = byteAt L (L.length / 8) := hx.trans (oneMore_getD L)
    rw [one_or x b _ hxb hb hs7, hx']
    exact ⟨rfl, one_post HH.out hb hl hbx hox hkx hgx⟩
end Go.Proofs.Ytopbbicjbjmdnaa
namespace Go.Proofs.Ytopbbicjbjmdnaa
set_option maxRecDepth 100000
open Go.RowKit
theorem func_nil_wr (w : World) (a : Nat) : (binOp .eql 99 (.func (.func 59) #[.pointer (some ⟨a, 0, none⟩)] #[]) .nilFunc).run Try.prog w = .ok (.bool false) w := by kernel_rfl
set_option maxHeartbeats 400000 in
theorem none_wr (w : World) (a : Nat) (g : Option Nat) (L : List Nat) (h : Wr w a g L) :
    Calls Try.prog 60 #[.pointer (some ⟨a, 0, none⟩)] w fun e w' => e = .returned (.bool false) ∧ w = w' := by
  obtain ⟨v, hv, hblk, hown⟩ := h.blk
  have c0 := hblk.cell 0
  simp [oneOf] at c0
  clear hv hblk hown h
  have hfn := fun w => func_nil_wr w a
  go_enter Try.func60, Try.ntmps60
  go_wp2
  go_ret
  exact ⟨rfl, rfl⟩

set_option maxHeartbeats 400000 in
theorem at_any (w : World) (p : Nat) (i : Nat) (v : Nat) (hv : v < 18446744073709551616) (h : Blk w p 42 #[.int .u64 v]) (hi : i < 64) :
    Calls Try.prog 61 #[.int .i64 i, .pointer (some ⟨p, 0, none⟩)] w fun e w' => e = .returned (.int .u64 (v / 2 ^ i % 2 : Nat)) ∧ w' = w := by
  have c0 := h.cell 0
  simp at c0
  clear h
  go_enter Try.func61, Try.ntmps61
  go_wp2
  go_ret
  exact ⟨ret_int (and_one_u64' v i hv), rfl⟩

theorem Wr.keeps {S : Nat → Prop} {w w' : World} {a : Nat} {g : Option Nat} {L : List Nat} (h : Wr w a g L) (hk : Keeps S w w') (ha : ¬ S a) (hg : ∀ k, g = some k → ¬ S k) : Wr w' a g L := by
  obtain ⟨h1, h2, v, hv, hb, ho⟩ := h
  exact ⟨h1, h2, v, hv, hb.keeps hk ha, own_keeps ho hk (fun k hk => hg k (by rw [← hv, hk]))⟩
theorem Wr.drewN {w : World} {a : Nat} {g : Option Nat} {L : List Nat} (h : Wr w a g L) (n : Nat) : Wr (w.drewN n) a g L := by
  obtain ⟨h1, h2, v, hv, hb, ho⟩ := h
  exact ⟨h1, h2, v, hv, hb, ho⟩
theorem Wr.ne {w : World} {a p : Nat} {g : Option Nat} {L : List Nat} {t : TypeId} {cs : Array Value} (h : Wr w a g L) (hp : Blk w p t cs) (h1 : 101 ≠ t) (h2 : 5 ≠ t) : p ≠ a ∧ some p ≠ g := by
  obtain ⟨_, _, v, hv, hb, ho⟩ := h
  exact ⟨fun e => hb.ne hp h1 e.symm, fun e => own_ne ho hp h2 (by rw [hv, e])⟩
theorem Wr.lt {w : World} {a : Nat} {g : Option Nat} {L : List Nat} (h : Wr w a g L) : a < w.heap.size := by
  obtain ⟨_, _, v, hv, hb, ho⟩ := h
  exact hb.lt
theorem Wr.glt {w : World} {a k : Nat} {L : List Nat} (h : Wr w a (some k) L) : k < w.heap.size := by
  obtain ⟨_, _, v, hv, hb, ho⟩ := h
  exact (ho.lt k hv).2
/-- The writer's bytes lie where they lay, or in new memory. -/
def Moved (w : World) (g g' : Option Nat) : Prop := g' = g ∨ ∃ k, g' = some k ∧ w.heap.size ≤ k
theorem Moved.refl (w : World) (g : Option Nat) : Moved w g g := .inl rfl
theorem Moved.trans {w w1 : World} {g g1 g2 : Option Nat} (h : Moved w g g1) (hs : w.heap.size ≤ w1.heap.size) (k : Moved w1 g1 g2) : Moved w g g2 := by
  rcases k with rfl | ⟨x, rfl, hx⟩
  · exact h
  · exact .inr ⟨x, rfl, by omega⟩
def PutPost (w : World) (a : Nat) (g : Option Nat) (L' : List Nat) (r : Int) (e : Ending) (w' : World) : Prop :=
  e = .returned (.int .i64 r) ∧ ∃ g', Wr w' a g' L' ∧ Keeps (fun k => k = a ∨ some k = g) w w' ∧ Moved w g g'

set_option maxHeartbeats 400000 in
theorem put_arg (w : World) (a : Nat) (g : Option Nat) (L : List Nat) (v n : Int) (h : Wr w a g L) (hn : n < 0 ∨ 64 < n) :
    Calls Try.prog 43 #[.pointer (some ⟨a, 0, none⟩), .int .u64 v, .int .i64 n] w (PutPost w a g L 2) := by
  have h1 : Wr (w.alloc (.cells #[.int .u64 v] 42)) a g L := h.keeps (S := fun _ => False) ((Keeps.refl _ _).alloc _) (fun h => h) (fun _ _ h => h)
  rcases hn with hn | hn
  · go_enter Try.func43, Try.ntmps43
    go_wp2_with fail
    refine (none_wr _ _ _ _ h1).mono ?_
    rintro e w' ⟨rfl, rfl⟩
    go_wp2_with fail
    go_ret
    exact ⟨rfl, g, h1, (Keeps.refl _ _).alloc _, Moved.refl _ _⟩
  · have hn' : ¬ n < 0 := by omega
    go_enter Try.func43, Try.ntmps43
    go_wp2_with fail
    refine (none_wr _ _ _ _ h1).mono ?_
    rintro e w' ⟨rfl, rfl⟩
    go_wp2_with fail
    go_ret
    exact ⟨rfl, g, h1, (Keeps.refl _ _).alloc _, Moved.refl _ _⟩

set_option maxHeartbeats 400000 in
theorem put_big (w : World) (a : Nat) (g : Option Nat) (L : List Nat) (v n : Int) (h : Wr w a g L) (h0 : 0 ≤ n) (h64 : n ≤ 64) (hn : 8388608 - (L.length : Int) < n) :
    Calls Try.prog 43 #[.pointer (some ⟨a, 0, none⟩), .int .u64 v, .int .i64 n] w (PutPost w a g L 3) := by
  have h1 : Wr (w.alloc (.cells #[.int .u64 v] 42)) a g L := h.keeps (S := fun _ => False) ((Keeps.refl _ _).alloc _) (fun h => h) (fun _ _ h => h)
  have hlen := h.len
  obtain ⟨_, _, vv, -, hb, -⟩ := h1
  have c2 := hb.cell 2
  simp only [List.getElem?_toArray, List.getElem?_cons_succ, List.getElem?_cons_zero] at c2
  clear hb
  have h1 : Wr (w.alloc (.cells #[.int .u64 v] 42)) a g L := h.keeps (S := fun _ => False) ((Keeps.refl _ _).alloc _) (fun h => h) (fun _ _ h => h)
  go_enter Try.func43, Try.ntmps43
  go_wp2_with fail
  refine (none_wr _ _ _ _ h1).mono ?_
  rintro e w' ⟨rfl, rfl⟩
  go_wp2_with fail
  go_ret
  exact ⟨rfl, g, h1, (Keeps.refl _ _).alloc _, Moved.refl _ _⟩

set_option maxHeartbeats 800000 in
theorem put_ok (w : World) (a : Nat) (g : Option Nat) (L : List Nat) (v n : Nat) (h : Wr w a g L) (hv : v < 18446744073709551616) (h64 : n ≤ 64) (hn : (n : Int) ≤ 8388608 - (L.length : Int)) :
    Calls Try.prog 43 #[.pointer (some ⟨a, 0, none⟩), .int .u64 v, .int .i64 n] w (PutPost w a g (L ++ bitsTo v n n) 0) := by
  have h1 : Wr (w.alloc (.cells #[.int .u64 v] 42)) a g L := h.keeps (S := fun _ => False) ((Keeps.refl _ _).alloc _) (fun h => h) (fun _ _ h => h)
  have hlen := h.len
  obtain ⟨_, _, vv, -, hb, -⟩ := h1
  have c2 := hb.cell 2
  simp only [List.getElem?_toArray, List.getElem?_cons_succ, List.getElem?_cons_zero] at c2
  clear hb
  have h1 : Wr (w.alloc (.cells #[.int .u64 v] 42)) a g L := h.keeps (S := fun _ => False) ((Keeps.refl _ _).alloc _) (fun h => h) (fun _ _ h => h)
  have d1 : decide ((n : Int) < 0) = false := by simp
  have d2 : decide ((64 : Int) < n) = false := by simp; omega
  have d3 : decide (8388608 - (L.length : Int) < n) = false := by simp; omega
  go_enter Try.func43, Try.ntmps43
  go_wp2_with fail
  refine (none_wr _ _ _ _ h1).mono ?_
  rintro e w' ⟨rfl, rfl⟩
  go_wp2_with fail
  clear d1 d2 d3 c2
  go_loopw [8] (fun i wr => ∃ (k : Nat) (g' : Option Nat), k ≤ n ∧ i = .int .i64 ((n : Int) - 1 - k) ∧ Wr wr a g' (L ++ bitsTo v n k) ∧ Blk wr w.heap.size 42 #[.int .u64 v] ∧ Keeps (fun x => x = a ∨ some x = g) w wr ∧ Moved w g g')
    (fun i _ => (intOf i + 1).toNat)
  case atStart => exact ⟨0, g, by omega, by simp, by simpa [bitsTo_zero] using h1, Blk.fresh _ _ _, (Keeps.refl _ _).alloc _, Moved.refl _ _⟩
  case round =>
    obtain ⟨k, g', hk, rfl, hw, hbox, hkp, hmv⟩ := hrel
    clear h1
    by_cases hlt : k < n
    · obtain ⟨m, hm⟩ : ∃ m : Nat, (n : Int) - 1 - k = (m : Int) := ⟨n - 1 - k, by omega⟩
      rw [hm]
      have hm64 : m < 64 := by omega
      have HM := Lib.hid hm
      clear hm
      have HW := Lib.hid hw
      obtain ⟨_, _, vv, -, hb, -⟩ := hw
      have c0 := hb.cell 0
      simp [oneOf] at c0
      clear hb
      go_wp2_with fail
      go_still_tail 7, (by kernel_rfl)
      still_call (at_any wr.drew w.heap.size m v hv hbox.drew (by have := HM.out; omega))
      refine wpStill_nil ?_
      change wpList _ _ _ _ _ wr.drew
      go_wp2_with fail
      refine (one_any wr.drew a g' _ _ (HW.out.drewN 1) (Nat.mod_lt _ (by omega)) (by have := HM.out; rw [List.length_append, bitsTo_length]; omega)).mono ?_
      rintro e w1 ⟨rfl, g2, hw1, hk1, hm1⟩
      have hbox1 : Blk w1 w.heap.size 42 #[.int .u64 v] := hbox.drew.keeps hk1 (fun e => by
        have := Wr.ne HW.out hbox (by decide) (by decide)
        rcases e with e | e
        · exact this.1 e
        · exact this.2 e)
      have hkw : Keeps (fun x => x = a ∨ some x = g) w w1 := (hkp.drew).trans hk1 (fun x hx e => by
        rcases e with e | e
        · exact .inl e
        · rcases hmv with h | ⟨y, h, hy⟩
          · exact .inr (e.trans h)
          · rw [h] at e; injection e with e; omega)
      have hmv1 : Moved w g g2 := hmv.trans (show w.heap.size ≤ wr.drew.heap.size from hkp.size) hm1
      rw [show L ++ bitsTo v n k ++ [v / 2 ^ m % 2] = L ++ bitsTo v n (k + 1) from by rw [bitsTo_succ, List.append_assoc, show n - 1 - k = m from by have := HM.out; omega]] at hw1
      clear hk1 hm1 hbox c0 hkp hmv
      go_wp2_with fail
      go_roundw
      case rel => exact ⟨k + 1, g2, by omega, by have := HM.out; go_num, hw1, hbox1, hkw, hmv1⟩
      case measure => simp [intOf]
    · obtain rfl : k = n := by omega
      have e1 : (k : Int) - 1 - k = -1 := by omega
      rw [e1]
      go_wp2_with fail
      go_ret
      exact ⟨rfl, g', hw, hkp, hmv⟩

theorem put_any (w : World) (a : Nat) (g : Option Nat) (L : List Nat) (v n : Int) (h : Wr w a g L) (h0 : 0 ≤ v) (hv : v < 18446744073709551616) :
    Calls Try.prog 43 #[.pointer (some ⟨a, 0, none⟩), .int .u64 v, .int .i64 n] w (PutPost w a g (putL L v.toNat n) (putE L.length n)) := by
  obtain ⟨v, rfl⟩ := Int.eq_ofNat_of_zero_le h0
  by_cases h1 : 0 ≤ n ∧ n ≤ 64
  · by_cases h2 : n ≤ 8388608 - (L.length : Int)
    · obtain ⟨m, rfl⟩ := Int.eq_ofNat_of_zero_le h1.1
      have e1 : putE L.length m = 0 := by unfold putE; rw [if_pos h1, if_pos h2]
      have e2 : putL L (Int.toNat v) m = L ++ bitsTo v m m := by unfold putL; rw [if_pos ⟨h1.1, h1.2, h2⟩]; simp
      rw [e1, e2]
      exact put_ok w a g L v m h (by omega) (by omega) h2
    · have e1 : putE L.length n = 3 := by unfold putE; rw [if_pos h1, if_neg h2]
      have e2 : putL L (Int.toNat v) n = L := by unfold putL; rw [if_neg (by omega)]
      rw [e1, e2]
      exact put_big w a g L v n h h1.1 h1.2 (by omega)
  · have e1 : putE L.length n = 2 := by unfold putE; rw [if_neg h1]
    have e2 : putL L (Int.toNat v) n = L := by unfold putL; rw [if_neg (by omega)]
    rw [e1, e2]
    exact put_arg w a g L v n h (by omega)

end Go.Proofs.Ytopbbicjbjmdnaa
namespace Go.Proofs.Ytopbbicjbjmdnaa
set_option maxRecDepth 100000
open Go.RowKit
theorem row_whole {w : World} {base : Nat} {e : TypeId} {g n : Nat} {xs : List Value} (h : w.ownsRow base e 1 (.slice (some ⟨g, 0, none⟩) n n) n xs) : w.heap[g]? = some (.cells xs.toArray e (0, 0)) := by
  rcases h.2 with ⟨h', _⟩ | ⟨g', cap, cur, h', _, hg, _, _, hs, ht⟩
  · simp at h'
  · simp only [Value.slice.injEq, Option.some.injEq, Addr.mk.injEq, and_true, true_and] at h'
    obtain ⟨rfl, rfl⟩ := h'
    rw [← ht, List.take_of_length_le (by simp; omega)]
    simpa using hg
theorem splice_all {α : Type} (l cs : List α) (h : l.length = cs.length) : splice l 0 cs = cs := by
  unfold splice
  rw [List.drop_of_length_le (by omega)]
  simp

def BytesPost (w : World) (bs : List Nat) (e : Ending) (w' : World) : Prop :=
  ∃ A c, e = .returned (.slice A bs.length c) ∧ w'.ownsRow w.heap.size 5 1 (.slice A bs.length c) bs.length (bs.map byteV) ∧ Keeps (fun _ => False) w w'

set_option maxHeartbeats 800000 in
theorem bytes_wr (w : World) (a : Nat) (g : Option Nat) (L : List Nat) (h : Wr w a g L) :
    Calls Try.prog 46 #[.pointer (some ⟨a, 0, none⟩)] w (BytesPost w (pack L)) := by
  have HH := Lib.hid h
  have hlen := h.len
  have hpl := pack_length L
  obtain ⟨n, hn⟩ : ∃ n, n = (pack L).length := ⟨_, rfl⟩
  have hn20 : n ≤ 1048577 := by omega
  obtain ⟨_, _, v, hv, hb, ho⟩ := h
  rw [← hn] at ho
  obtain ⟨A, c, rfl, hnc, hA⟩ := own_form ho
  have c1 := hb.cell 1
  simp only [List.getElem?_toArray, List.getElem?_cons_succ, List.getElem?_cons_zero] at c1
  have HB := Lib.hid hb
  have HO := Lib.hid ho
  have HN := Lib.hid hn
  have HA := Lib.hid hA
  clear hb ho hn hpl hv hA
  obtain ⟨ht, -, i, hi, hz, hs1, hby⟩ := byteElem
  have HI := Lib.hid (And.intro hs1 hby)
  go_enter Try.func46, Try.ntmps46
  go_wp2_with fail
  refine (none_wr _ _ _ _ HH.out).mono ?_
  rintro e w' ⟨rfl, rfl⟩
  go_wp2_with (at_make; refine wpList_make_full _ rfl (.tmp 10) (.tmp 10) 24 rfl w.heap.size 5 i (.int .u8 0) 1 ht hi hz HI.out.1 .i64 .i64 n n n rfl rfl rfl rfl ?hb1 ?hb2 ?hb3 ?_)
  case hb1 => rw [HI.out.2]; omega
  case hb2 => unfold maxLen; omega
  case hb3 => exact Nat.le_refl _
  intro w1 ho1 hg1
  have hk1 : Keeps (fun _ => False) w w1 := (Keeps.refl _ w).grown hg1 (fun _ h => by cases h)
  have hb1 := HB.out.keeps hk1 (fun h => h)
  have ho2 := own_keeps HO.out hk1 (fun _ _ h => h)
  have c11 := hb1.cell 1
  simp only [List.getElem?_toArray, List.getElem?_cons_succ, List.getElem?_cons_zero] at c11
  have hw1 := row_whole ho1
  obtain ⟨cs, hcs⟩ : ∃ cs, cs = (pack L).map byteV := ⟨_, rfl⟩
  have hcl : cs.length = n := by rw [hcs, List.length_map]; exact HN.out.symm
  obtain ⟨zs, hzs⟩ : ∃ zs, zs = (madeCells #[Value.int .u8 0] n).toList := ⟨_, rfl⟩
  have hzl : zs.length = n := by have := ho1.1; rw [hzs]; omega
  rw [← hzs] at hw1
  have HW := Lib.hid (And.intro hw1 (And.intro hcs (And.intro hcl hzl)))
  have H1 := Lib.hid (And.intro ho2 hk1)
  have c1c := c1
  clear hw1 hcs hcl hzl hzs ho1 hg1 hb1 ho2 hk1 c1
  go_wp2_with (with_reducible refine wpList_copy_splice rfl (.tmp 12) (.tmp 16) 24 24 rfl 5 ht ?hsz _ _ _ _ _ _ rfl rfl w.heap.size 0 zs 5 HW.out.1 cs ?hn ?hpos ?hfit ?hone w.heap.size w ?hbel ?hBg ?_)
  case hsz => kernel_rfl
  case hn => rw [HW.out.2.2.1]; exact (Nat.min_self n).symm
  case hpos =>
    intro hp
    obtain ⟨gg, hgg, -, -⟩ := HA.out (by rw [HW.out.2.2.1] at hp; exact hp)
    refine ⟨⟨gg, 0, none⟩, hgg, fun j u hu => ?_⟩
    have hh := H1.out.1.cells (g := gg) (by rw [hgg]; rfl) j u
    rw [← HW.out.2.1] at hh
    exact hh hu
  case hfit => have := HW.out.2.2; omega
  case hone =>
    intro u hu
    rw [HW.out.2.1, List.mem_map] at hu
    obtain ⟨x, -, rfl⟩ := hu
    rfl
  case hbel => exact H1.out.2.to_below
  case hBg => exact Nat.le_refl _
  intro w2 hw2 hbel2
  go_wp2_with fail
  go_ret
  obtain ⟨hw1, hcs, hcl, hzl⟩ := HW.out
  have hw2' := hw2.out
  rw [splice_all zs cs (by omega)] at hw2'
  refine ⟨some ⟨w.heap.size, 0, none⟩, n, by rw [HN.out]; rfl, ⟨by simp, .inr ⟨w.heap.size, n, cs.toArray, by rw [← HN.out], Nat.le_refl _, hw2', ?_, ?_, ?_, ?_⟩⟩, Keeps.of_below hbel2⟩
  · rw [← HN.out]; exact Nat.le_refl _
  · unfold maxLen; omega
  · simp; omega
  · show List.take ((pack L).length * 1) cs = (pack L).map byteV
    have := HN.out
    rw [← hcs, List.take_of_length_le (by omega)]
end Go.Proofs.Ytopbbicjbjmdnaa
namespace Go.Proofs.Ytopbbicjbjmdnaa
open Go.RowKit
end Go.Proofs.Ytopbbicjbjmdnaa
namespace Go.Proofs.Ytopbbicjbjmdnaa
theorem bit_of_byte (b0 b1 b2 b3 b4 b5 b6 b7 r : Nat) (h0 : b0 < 2) (h1 : b1 < 2) (h2 : b2 < 2) (h3 : b3 < 2) (h4 : b4 < 2) (h5 : b5 < 2) (h6 : b6 < 2) (h7 : b7 < 2) (hr : r < 8) :
    (128 * b0 + 64 * b1 + 32 * b2 + 16 * b3 + 8 * b4 + 4 * b5 + 2 * b6 + b7) / 2 ^ (7 - r) % 2 = [b0, b1, b2, b3, b4, b5, b6, b7].getD r 0 := by
  rcases (show r = 0 ∨ r = 1 ∨ r = 2 ∨ r = 3 ∨ r = 4 ∨ r = 5 ∨ r = 6 ∨ r = 7 by omega) with h | h | h | h | h | h | h | h <;> subst h <;> simp <;> omega
theorem bitOf_pack {L : List Nat} (h : ∀ j, L.getD j 0 < 2) (i : Nat) : bitOf (pack L) i = L.getD i 0 := by
  unfold bitOf
  rw [pack_getD]
  unfold byteAt
  have hr : i % 8 < 8 := Nat.mod_lt _ (by omega)
  rw [bit_of_byte _ _ _ _ _ _ _ _ _ (h _) (h _) (h _) (h _) (h _) (h _) (h _) (h _) hr]
  have hd := Nat.div_add_mod i 8
  rcases (show i % 8 = 0 ∨ i % 8 = 1 ∨ i % 8 = 2 ∨ i % 8 = 3 ∨ i % 8 = 4 ∨ i % 8 = 5 ∨ i % 8 = 6 ∨ i % 8 = 7 by omega) with e | e | e | e | e | e | e | e <;> rw [e] at hd ⊢ <;> simp only [List.getD_cons_succ, List.getD_cons_zero] <;> congr 1
theorem gets_congr {bs : List Nat} {p u n : Nat} (h : ∀ j, j < n → bitOf bs (p + j) = u / 2 ^ (n - 1 - j) % 2) : ∀ k, k ≤ n → gets bs p k = u / 2 ^ (n - k) % 2 ^ k := by
  intro k
  induction k with
  | zero => intro _; simp [gets, Nat.mod_one]
  | succ k ih =>
    intro hk
    rw [gets, ih (by omega), h k (by omega)]
    rw [show n - 1 - k = n - (k + 1) by omega, show n - k = (n - (k + 1)) + 1 by omega, Nat.pow_succ 2 (n - (k + 1)), ← Nat.div_div_eq_div_mul]
    generalize u / 2 ^ (n - (k + 1)) = y
    rw [Nat.pow_succ, Nat.mul_comm (2 ^ k) 2, Nat.mod_mul]
    omega
theorem bitsTo_getD (v n k j : Nat) (h : j < k) : (bitsTo v n k).getD j 0 = v / 2 ^ (n - 1 - j) % 2 := by
  unfold bitsTo
  rw [List.getD_eq_getElem?_getD, List.getElem?_map, List.getElem?_range h]; rfl
theorem getD_append_right (L M : List Nat) (j : Nat) : (L ++ M).getD (L.length + j) 0 = M.getD j 0 := by
  rw [List.getD_eq_getElem?_getD, List.getD_eq_getElem?_getD, List.getElem?_append_right (by omega)]
  congr 2
  omega
theorem getD_append_left (L M : List Nat) (j : Nat) (h : j < L.length) : (L ++ M).getD j 0 = L.getD j 0 := by
  rw [List.getD_eq_getElem?_getD, List.getD_eq_getElem?_getD, List.getElem?_append_left h]
/-- What was put is got. -/
theorem gets_pack {L M : List Nat} {v n : Nat} (hL : ∀ j, L.getD j 0 < 2) (hM : ∀ j, M.getD j 0 < 2) : gets (pack (L ++ bitsTo v n n ++ M)) L.length n = v % 2 ^ n := by
  have hb : ∀ j, (L ++ bitsTo v n n ++ M).getD j 0 < 2 := bits_append (bits_append hL (bitsTo_bit v n n)) hM
  have := gets_congr (bs := pack (L ++ bitsTo v n n ++ M)) (p := L.length) (u := v) (n := n) (fun j hj => by
    rw [bitOf_pack hb, getD_append_left _ _ _ (by rw [List.length_append, bitsTo_length]; omega), getD_append_right, bitsTo_getD _ _ _ _ hj]) n (Nat.le_refl _)
  rw [this]
  simp
/-- A number in two pieces is the same bits as in one. -/
theorem bitsTo_split (v a b : Nat) : bitsTo v (a + b) (a + b) = bitsTo (v / 2 ^ b) a a ++ bitsTo v b b := by
  apply List.ext_getElem?
  intro j
  rcases Nat.lt_or_ge j (a + b) with hj | hj
  · rcases Nat.lt_or_ge j a with ha | ha
    · rw [List.getElem?_append_left (by rw [bitsTo_length]; exact ha)]
      unfold bitsTo
      rw [List.getElem?_map, List.getElem?_map, List.getElem?_range hj, List.getElem?_range ha]
      simp only [Option.map_some]
      rw [Nat.div_div_eq_div_mul, ← Nat.pow_add, show b + (a - 1 - j) = a + b - 1 - j by omega]
    · rw [List.getElem?_append_right (by rw [bitsTo_length]; exact ha), bitsTo_length]
      unfold bitsTo
      rw [List.getElem?_map, List.getElem?_map, List.getElem?_range hj, List.getElem?_range (show j - a < b by omega)]
      simp only [Option.map_some]
      rw [show b - 1 - (j - a) = a + b - 1 - j by omega]
  · rw [List.getElem?_eq_none (by rw [bitsTo_length]; exact hj), List.getElem?_eq_none (by rw [List.length_append, bitsTo_length, bitsTo_length]; exact hj)]
theorem and_mask_u64 (x a : Nat) (hx : x < 18446744073709551616) (ha : a < 64) : bits .and .u64 (x : Int) (((2 ^ a - 1 : Nat) : Int)) = ((x % 2 ^ a : Nat) : Int) := by
  have hp : 2 ^ a ≤ 2 ^ 63 := Nat.pow_le_pow_right (by omega) (by omega)
  rw [u64_and_nat _ _ hx (by omega), Nat.and_two_pow_sub_one_eq_mod]
theorem ofInt_mod (x : Int) : (BitVec.ofInt 64 x).toNat = (x % 18446744073709551616).toNat := by
  rw [BitVec.toNat_ofInt]; rfl
theorem and_31 (x : Int) : bits .and .i64 x 31 = (((x % 32).toNat : Nat) : Int) := by
  show IntKind.i64.wrap (((BitVec.ofInt 64 x) &&& (BitVec.ofInt 64 31)).toNat : Int) = _
  rw [BitVec.toNat_and, ofInt_mod, ofInt_mod]
  rw [show ((31 : Int) % 18446744073709551616).toNat = 2 ^ 5 - 1 by decide, Nat.and_two_pow_sub_one_eq_mod, IntKind.wrap_i64]
  omega
theorem and_127 (x : Int) : bits .and .i64 x 127 = (((x % 128).toNat : Nat) : Int) := by
  show IntKind.i64.wrap (((BitVec.ofInt 64 x) &&& (BitVec.ofInt 64 127)).toNat : Int) = _
  rw [BitVec.toNat_and, ofInt_mod, ofInt_mod]
  rw [show ((127 : Int) % 18446744073709551616).toNat = 2 ^ 7 - 1 by decide, Nat.and_two_pow_sub_one_eq_mod, IntKind.wrap_i64]
  omega
theorem and_511 (x : Int) : bits .and .i64 x 511 = (((x % 512).toNat : Nat) : Int) := by
  show IntKind.i64.wrap (((BitVec.ofInt 64 x) &&& (BitVec.ofInt 64 511)).toNat : Int) = _
  rw [BitVec.toNat_and, ofInt_mod, ofInt_mod]
  rw [show ((511 : Int) % 18446744073709551616).toNat = 2 ^ 9 - 1 by decide, Nat.and_two_pow_sub_one_eq_mod, IntKind.wrap_i64]
  omega
end Go.Proofs.Ytopbbicjbjmdnaa
namespace Go.Proofs.Ytopbbicjbjmdnaa
set_option maxRecDepth 100000
open Go.RowKit
set_option linter.unusedSimpArgs false
set_option linter.unusedVariables false
theorem put_fit (w : World) (a : Nat) (g : Option Nat) (L : List Nat) (v n : Int) (h : Wr w a g L) (h0 : 0 ≤ v) (hv : v < 18446744073709551616) (n0 : 0 ≤ n) (n64 : n ≤ 64) (hl : (L.length : Int) + 64 ≤ 8388608) :
    Calls Try.prog 43 #[.pointer (some ⟨a, 0, none⟩), .int .u64 v, .int .i64 n] w (PutPost w a g (L ++ bitsTo v.toNat n.toNat n.toNat) 0) := by
  obtain ⟨v, rfl⟩ := Int.eq_ofNat_of_zero_le h0
  obtain ⟨n, rfl⟩ := Int.eq_ofNat_of_zero_le n0
  exact put_ok w a g L v n h (by omega) (by omega) (by omega)
theorem and_mask_walk (x a : Nat) (hx : x < 18446744073709551616) (ha : a < 64) : bits .and .u64 (x : Int) (IntKind.u64.wrap (IntKind.u64.wrap ((2 : Int) ^ a) - 1)) = (x : Int) % 2 ^ a := by
  have hp : 2 ^ a ≤ 2 ^ 63 := Nat.pow_le_pow_right (by omega) (by omega)
  have h0 : 0 < 2 ^ a := Nat.pow_pos (by omega)
  have e : IntKind.u64.wrap (IntKind.u64.wrap ((2 : Int) ^ a) - 1) = ((2 ^ a - 1 : Nat) : Int) := by
    rw [pow_cast, IntKind.wrap_u64, IntKind.wrap_u64]
    omega
  rw [e, and_mask_u64 x a hx ha, pow_cast]
  rfl
theorem wr_wr {w w' : World} {x y : Nat} {g g' : Option Nat} {L M : List Nat} (hx : Wr w x g L) (hy : Wr w y g' M) (hxy : x ≠ y) (hg : ∀ k, g = some k → g' ≠ some k) (hk : Keeps (fun k => k = y ∨ some k = g') w w') : Wr w' x g L := by
  obtain ⟨h1, h2, v, hv, hb, ho⟩ := hx
  obtain ⟨_, _, v', hv', hb', ho'⟩ := hy
  refine Wr.keeps ⟨h1, h2, v, hv, hb, ho⟩ hk ?_ ?_
  · rintro (e | e)
    · exact hxy e
    · exact own_ne ho' hb (by decide) (hv'.trans e.symm)
  · rintro k hk' (e | e)
    · exact own_ne ho hb' (by decide) (by rw [hv, hk', e])
    · exact hg k hk' e.symm
theorem keeps_new {w0 w w' : World} {x : Nat} {g : Option Nat} (h : Keeps (fun _ => False) w0 w) (hk : Keeps (fun k => k = x ∨ some k = g) w w') (hx : w0.heap.size ≤ x) (hg : ∀ q, g = some q → w0.heap.size ≤ q) : Keeps (fun _ => False) w0 w' :=
  h.trans hk (fun k hk' e => by
    rcases e with e | e
    · omega
    · have := hg k e.symm; omega)
theorem moved_new {w0 w : World} {g g' : Option Nat} (hm : Moved w g g') (hs : w0.heap.size ≤ w.heap.size) (hg : ∀ q, g = some q → w0.heap.size ≤ q) : ∀ q, g' = some q → w0.heap.size ≤ q := by
  intro q hq
  rcases hm with h | ⟨k, h, hk⟩
  · exact hg q (h ▸ hq)
  · rw [hq] at h; injection h with h; omega
theorem moved_ne {w : World} {x : Nat} {g g1 g2 : Option Nat} {L : List Nat} (hx : Wr w x g L) (hm : Moved w g1 g2) (hg : ∀ k, g = some k → g1 ≠ some k) : ∀ k, g = some k → g2 ≠ some k := by
  intro k hk e
  rcases hm with h | ⟨q, h, hq⟩
  · exact hg k hk (h ▸ e)
  · rw [e] at h; injection h with h
    subst hk
    have := hx.glt
    omega
theorem sl_of_bytes {w : World} {base c n : Nat} {A : Option Addr} {bs : List Nat} (ho : w.ownsRow base 5 1 (.slice A n c) n (bs.map byteV)) : Sl w (fun k => base ≤ k ∧ k < w.heap.size) A n (byteC bs) := by
  refine (Sl.of_own (f := byteC bs) ho ?_).mono (fun k hk => ho.lt k hk)
  intro j u hu
  rw [List.getElem?_map] at hu
  cases hb : bs[j]? with
  | none => rw [hb] at hu; cases hu
  | some b =>
    rw [hb] at hu
    simp at hu
    unfold byteC
    rw [List.getD_eq_getElem?_getD, hb, ← hu]
    rfl

end Go.Proofs.Ytopbbicjbjmdnaa
namespace Go.Proofs.Ytopbbicjbjmdnaa.D
set_option maxRecDepth 100000
open Go.RowKit
set_option linter.unusedVariables false
/-- The class of a step of a step. -/
def cls (z : Nat) : Nat := if z = 0 then 0 else if z < 128 then 1 else if z < 4096 then 2 else if z < 4294967296 then 3 else 4
def wd (k : Nat) : Nat := [0, 7, 12, 32, 64].getD k 0
def ah (k : Nat) : Nat := min (k + 1) 4
theorem cls_le (z : Nat) : cls z ≤ 4 := by unfold cls; split; omega; split; omega; split; omega; split <;> omega
def widthsV : Value := .agg #[.int .i64 0, .int .i64 7, .int .i64 12, .int .i64 32, .int .i64 64]
theorem widths_at (k : Nat) (hk : k < 5) (w : World) : (Instr.index 103 (.agg #[.int .i64 0, .int .i64 7, .int .i64 12, .int .i64 32, .int .i64 64]) (.int .i64 (k : Nat))).run Try.prog w = .ok (.int .i64 (wd k : Nat)) w := by
  rcases (show k = 0 ∨ k = 1 ∨ k = 2 ∨ k = 3 ∨ k = 4 by omega) with rfl | rfl | rfl | rfl | rfl <;> kernel_rfl
set_option maxHeartbeats 400000 in
theorem widths_any (w : World) : Calls Try.prog 64 #[] w fun e w' => e = .returned widthsV ∧ Below w.heap.size w w' := by
  go_enter Try.func64, Try.ntmps64
  go_wp2
  exact bodyPost_ret (v := widthsV) (by simp [results, Try.results64, go_sem, widthsV]) rfl ⟨rfl, (Below.refl _ _).alloc (Nat.le_refl _) _⟩
set_option maxHeartbeats 400000 in
theorem ahead_any (k : Nat) (hk : k ≤ 4) (w : World) : Calls Try.prog 63 #[.int .i64 (k : Nat)] w fun e w' => e = .returned (.int .i64 (ah k : Nat)) ∧ w = w' := by
  rcases (show k = 0 ∨ k = 1 ∨ k = 2 ∨ k = 3 ∨ k = 4 by omega) with rfl | rfl | rfl | rfl | rfl
  all_goals
    go_enter Try.func63, Try.ntmps63
    go_wp2
    go_ret
    exact ⟨rfl, rfl⟩
set_option maxRecDepth 100000 in
set_option maxHeartbeats 800000 in
theorem classOf_any (z : Nat) (hz : z < 18446744073709551616) (w : World) :
    Calls Try.prog 62 #[.int .u64 (z : Nat)] w fun e w' => e = .returned (.int .i64 (cls z : Nat)) ∧ Below w.heap.size w w' := by
  have HZ := Lib.hid hz
  clear hz
  go_enter Try.func62, Try.ntmps62
  go_wp2_with fail
  refine (widths_any _).mono ?_
  rintro e w1 ⟨rfl, hb1⟩
  have HB := Lib.hid hb1
  clear hb1
  unfold widthsV
  go_wp2_with fail
  go_loop [6] (fun i => ∃ k : Nat, k ≤ 4 ∧ i = .int .i64 k ∧ (1 ≤ k → 1 ≤ z) ∧ (2 ≤ k → 128 ≤ z) ∧ (3 ≤ k → 4096 ≤ z) ∧ (4 ≤ k → 4294967296 ≤ z)) (fun i => 5 - (intOf i).toNat)
  case atStart => exact ⟨0, by omega, rfl, by omega, by omega, by omega, by omega⟩
  case round =>
    obtain ⟨k, hk, rfl, h1, h2, h3, h4⟩ := hrel
    rcases (show k = 0 ∨ k = 1 ∨ k = 2 ∨ k = 3 ∨ k = 4 by omega) with rfl | rfl | rfl | rfl | rfl
    · have ix : ∀ w, (Instr.index 103 (.agg #[.int .i64 0, .int .i64 7, .int .i64 12, .int .i64 32, .int .i64 64]) (.int .i64 0)).run Try.prog w = .ok (.int .i64 0) w := fun _ => by kernel_rfl
      by_cases hb : z < 1
      · have d1 : ((z : Int) / 1 == 0) = true := by simp; omega
        have d2 : ((z : Int) == 0) = decide (z = 0) := by by_cases h : z = 0 <;> simp [h]
        have d3 : z = 0 := by omega
        have d4 : decide (z = 0) = true := by simp [d3]
        have HD := Lib.hid d3
        clear d3
        go_wp2_with fail
        go_ret
        refine ⟨ret_int ?_, HB.out⟩
        have : cls z = 0 := by unfold cls; have := HD.out; repeat (first | rw [if_pos (by omega)] | rw [if_neg (by omega)])
        rw [this]; rfl
      · have d1 : ((z : Int) / 1 == 0) = false := by simp; omega
        have d2 : ((z : Int) == 0) = false := by simp; omega
        go_wp2_with fail
        go_round
        case rel => exact ⟨1, by omega, rfl, by omega, by omega, by omega, by omega⟩
        case measure => simp [intOf]
    · have ix : ∀ w, (Instr.index 103 (.agg #[.int .i64 0, .int .i64 7, .int .i64 12, .int .i64 32, .int .i64 64]) (.int .i64 1)).run Try.prog w = .ok (.int .i64 7) w := fun _ => by kernel_rfl
      by_cases hb : z < 128
      · have d1 : ((z : Int) / 128 == 0) = true := by simp; omega
        have d2 : ((z : Int) == 0) = decide (z = 0) := by by_cases h : z = 0 <;> simp [h]
        clear d2
        go_wp2_with fail
        go_ret
        refine ⟨ret_int ?_, HB.out⟩
        have : cls z = 1 := by unfold cls; repeat (first | rw [if_pos (by omega)] | rw [if_neg (by omega)])
        rw [this]; rfl
      · have d1 : ((z : Int) / 128 == 0) = false := by simp; omega
        skip
        go_wp2_with fail
        go_round
        case rel => exact ⟨2, by omega, rfl, by omega, by omega, by omega, by omega⟩
        case measure => simp [intOf]
    · have ix : ∀ w, (Instr.index 103 (.agg #[.int .i64 0, .int .i64 7, .int .i64 12, .int .i64 32, .int .i64 64]) (.int .i64 2)).run Try.prog w = .ok (.int .i64 12) w := fun _ => by kernel_rfl
      by_cases hb : z < 4096
      · have d1 : ((z : Int) / 4096 == 0) = true := by simp; omega
        have d2 : ((z : Int) == 0) = decide (z = 0) := by by_cases h : z = 0 <;> simp [h]
        clear d2
        go_wp2_with fail
        go_ret
        refine ⟨ret_int ?_, HB.out⟩
        have : cls z = 2 := by unfold cls; repeat (first | rw [if_pos (by omega)] | rw [if_neg (by omega)])
        rw [this]; rfl
      · have d1 : ((z : Int) / 4096 == 0) = false := by simp; omega
        skip
        go_wp2_with fail
        go_round
        case rel => exact ⟨3, by omega, rfl, by omega, by omega, by omega, by omega⟩
        case measure => simp [intOf]
    · have ix : ∀ w, (Instr.index 103 (.agg #[.int .i64 0, .int .i64 7, .int .i64 12, .int .i64 32, .int .i64 64]) (.int .i64 3)).run Try.prog w = .ok (.int .i64 32) w := fun _ => by kernel_rfl
      by_cases hb : z < 4294967296
      · have d1 : ((z : Int) / 4294967296 == 0) = true := by simp; omega
        have d2 : ((z : Int) == 0) = decide (z = 0) := by by_cases h : z = 0 <;> simp [h]
        clear d2
        go_wp2_with fail
        go_ret
        refine ⟨ret_int ?_, HB.out⟩
        have : cls z = 3 := by unfold cls; repeat (first | rw [if_pos (by omega)] | rw [if_neg (by omega)])
        rw [this]; rfl
      · have d1 : ((z : Int) / 4294967296 == 0) = false := by simp; omega
        skip
        go_wp2_with fail
        go_round
        case rel => exact ⟨4, by omega, rfl, by omega, by omega, by omega, by omega⟩
        case measure => simp [intOf]
    · have ix : ∀ w, (Instr.index 103 (.agg #[.int .i64 0, .int .i64 7, .int .i64 12, .int .i64 32, .int .i64 64]) (.int .i64 4)).run Try.prog w = .ok (.int .i64 64) w := fun _ => by kernel_rfl
      go_wp2_with fail
      go_ret
      refine ⟨ret_int ?_, HB.out⟩
      have : cls z = 4 := by unfold cls; repeat (first | rw [if_pos (by omega)] | rw [if_neg (by omega)])
      rw [this]; rfl
end Go.Proofs.Ytopbbicjbjmdnaa.D
namespace Go.Proofs.Ytopbbicjbjmdnaa.D
set_option maxRecDepth 100000
open Go.RowKit
set_option linter.unusedVariables false
set_option linter.unusedSimpArgs false
/-- A difference modulo 2^64. -/
def sub64 (a b : Int) : Int := (a - b + 9223372036854775808) % 18446744073709551616 - 9223372036854775808
theorem sub64_range (a b : Int) : -9223372036854775808 ≤ sub64 a b ∧ sub64 a b ≤ 9223372036854775807 := by unfold sub64; omega
set_option maxRecDepth 100000 in
set_option maxHeartbeats 400000 in
theorem sub_any (a b : Int) (w : World) (a0 : -9223372036854775808 ≤ a) (a1 : a ≤ 9223372036854775807) (b0 : -9223372036854775808 ≤ b) (b1 : b ≤ 9223372036854775807) :
    Calls Try.prog 44 #[.int .i64 a, .int .i64 b] w fun e w' => e = .returned (.int .i64 (sub64 a b)) ∧ w = w' := by
  have H := Lib.hid (And.intro a0 (And.intro a1 (And.intro b0 b1)))
  clear a0 a1 b0 b1
  go_enter Try.func44, Try.ntmps44
  go_wp2
  go_ret
  refine ⟨ret_int ?_, rfl⟩
  obtain ⟨a0, a1, b0, b1⟩ := H.out
  unfold sub64
  unfold wrap64
  simp only [IntKind.wrap_u64]
  omega
/-- The bits of a step of a step. -/
def mk (k : Nat) : Nat := 2 ^ ah k - 1 - (if k < 4 then 1 else 0)
def dbits (z : Nat) : List Nat := bitsTo (mk (cls z)) (ah (cls z)) (ah (cls z)) ++ bitsTo z (wd (cls z)) (wd (cls z))
theorem wd_le {k : Nat} (hk : k ≤ 4) : wd k ≤ 64 := by
  rcases (show k = 0 ∨ k = 1 ∨ k = 2 ∨ k = 3 ∨ k = 4 by omega) with rfl | rfl | rfl | rfl | rfl <;> decide
theorem dbits_length (z : Nat) : (dbits z).length = ah (cls z) + wd (cls z) := by unfold dbits; rw [List.length_append, bitsTo_length, bitsTo_length]
theorem dbits_le (z : Nat) : (dbits z).length ≤ 68 := by
  rw [dbits_length]
  have := wd_le (cls_le z)
  unfold ah; omega
def DPutPost (w : World) (a : Nat) (g : Option Nat) (L' : List Nat) (e : Ending) (w' : World) : Prop :=
  e = .returned (.tuple #[]) ∧ ∃ g', Wr w' a g' L' ∧ Keeps (fun k => k = a ∨ some k = g) w w' ∧ Moved w g g'
theorem keeps_two {w w1 w2 : World} {a : Nat} {g g1 : Option Nat} (h : Keeps (fun k => k = a ∨ some k = g) w w1) (hm : Moved w g g1) (k : Keeps (fun k => k = a ∨ some k = g1) w1 w2) : Keeps (fun k => k = a ∨ some k = g) w w2 :=
  h.trans k (fun x hx e => by
    rcases e with e | e
    · exact .inl e
    · rcases hm with h | ⟨q, h, hq⟩
      · exact .inr (h ▸ e)
      · rw [h] at e; injection e with e; omega)
set_option maxRecDepth 100000 in
set_option maxHeartbeats 800000 in
theorem dput_any (w : World) (a : Nat) (g : Option Nat) (L : List Nat) (z : Nat) (h : Wr w a g L) (hz : z < 18446744073709551616) (hl : L.length ≤ 4000000) :
    Calls Try.prog 45 #[.pointer (some ⟨a, 0, none⟩), .int .u64 (z : Nat)] w (DPutPost w a g (L ++ dbits z)) := by
  have HZ := Lib.hid (And.intro h hz)
  clear h hz
  go_enter Try.func45, Try.ntmps45
  go_wp2_with fail
  refine (classOf_any _ HZ.out.2 _).mono ?_
  rintro e w1 ⟨rfl, hb1⟩
  have hk := cls_le z
  obtain ⟨k, hkk⟩ : ∃ k, k = cls z := ⟨_, rfl⟩
  rw [← hkk] at hk
  rw [← hkk]
  have hx1 := HZ.out.1.keeps (S := fun _ => False) (Keeps.of_below hb1) (fun h => h) (fun _ _ h => h)
  have H1 := Lib.hid (And.intro hx1 (And.intro hb1 hkk))
  clear hx1 hb1 hkk
  have l1 : 1 ≤ ah k ∧ ah k ≤ 4 := by unfold ah; omega
  obtain ⟨A, hA⟩ : ∃ A, A = ah k := ⟨_, rfl⟩
  rw [← hA] at l1
  have hpw : (2 : Int) ^ A = ((2 ^ A : Nat) : Int) := pow_cast A
  have hpl : 2 ^ A ≤ 2 ^ 4 := Nat.pow_le_pow_right (by omega) l1.2
  have hp1 : 2 ^ 1 ≤ 2 ^ A := Nat.pow_le_pow_right (by omega) l1.1
  obtain ⟨m, hm⟩ : ∃ m, m = mk k := ⟨_, rfl⟩
  have hmv : m = 2 ^ A - 1 - (if k < 4 then 1 else 0) := by rw [hm]; unfold mk; rw [hA]
  have hm16 : m < 16 := by rw [hmv]; omega
  have e1 : IntKind.u64.wrap (IntKind.u64.wrap ((2 : Int) ^ A) - 1) = ((2 ^ A - 1 : Nat) : Int) := by
    rw [hpw, IntKind.wrap_u64, IntKind.wrap_u64]; omega
  have e2 : k < 4 → IntKind.u64.wrap (((2 ^ A - 1 : Nat) : Int) - 1) = (m : Int) := fun h => by
    rw [IntKind.wrap_u64, hmv, if_pos h]; omega
  have e3 : ¬ k < 4 → ((2 ^ A - 1 : Nat) : Int) = (m : Int) := fun h => by rw [hmv, if_neg h]; rfl
  obtain ⟨q, hq⟩ : ∃ q, q = 2 ^ A - 1 := ⟨_, rfl⟩
  rw [← hq] at e1 e2 e3
  have HM := Lib.hid (And.intro hA (And.intro hm (And.intro e2 e3)))
  clear hpw hpl hp1 hm hmv e2 e3 hq
  go_wp2_with fail
  refine (ahead_any k hk _).mono ?_
  rintro e w2 ⟨rfl, rfl⟩
  rw [← hA]
  clear hA
  go_upto_if 13 with (fail)
  go_cut [5] (fun s5 wx => s5 = .int .u64 (m : Nat) ∧ w1 = wx)
  case first =>
    by_cases hk4 : k < 4
    · have e2 := HM.out.2.2.1 hk4
      go_wp2_with fail
      go_meet
      exact ⟨rfl, rfl⟩
    · go_wp2_with fail
      go_meet
      rw [HM.out.2.2.2 hk4]
      exact ⟨rfl, rfl⟩
  case rest =>
    obtain ⟨rfl, rfl⟩ := hcut
    clear e1
    go_wp2_with fail
    refine (ahead_any k hk _).mono ?_
    rintro e w2 ⟨rfl, rfl⟩
    rw [← HM.out.1]
    go_wp2_with fail
    refine (put_fit _ _ _ _ _ _ H1.out.1 (by omega) (by omega) (by omega) (by omega) (by omega)).mono ?_
    rintro e w2 ⟨rfl, g2, hx2, hk2, hm2⟩
    rw [show ((m : Int)).toNat = m from rfl, show ((A : Int)).toNat = A from rfl] at hx2
    have hkw : Keeps (fun k => k = a ∨ some k = g) w w2 := (Keeps.of_below H1.out.2.1).trans' hk2
    have hmw : Moved w g g2 := by
      rcases hm2 with h | ⟨q', h, hq'⟩
      · exact .inl h
      · exact .inr ⟨q', h, Nat.le_trans H1.out.2.1.size hq'⟩
    have H2 := Lib.hid (And.intro hx2 (And.intro hkw hmw))
    clear hx2 hkw hmw hk2 hm2
    go_wp2_with fail
    refine (widths_any _).mono ?_
    rintro e w3 ⟨rfl, hb3⟩
    have hx3 := H2.out.1.keeps (S := fun _ => False) (Keeps.of_below hb3) (fun h => h) (fun _ _ h => h)
    have H3 := Lib.hid (And.intro hx3 hb3)
    clear hx3 hb3
    unfold widthsV
    have ix := fun w => widths_at k (by omega) w
    have l2 := wd_le hk
    go_wp2_with fail
    clear ix
    refine (put_fit _ _ _ _ _ _ H3.out.1 (by omega) (by have := HZ.out.2; omega) (by omega) (by omega) (by rw [List.length_append, bitsTo_length]; omega)).mono ?_
    rintro e w4 ⟨rfl, g4, hx4, hk4, hm4⟩
    rw [show ((z : Int)).toNat = z from rfl, show ((wd k : Int)).toNat = wd k from rfl] at hx4
    have hk24 : Keeps (fun k => k = a ∨ some k = g2) w2 w4 := (Keeps.of_below H3.out.2).trans' hk4
    have hm24 : Moved w2 g2 g4 := by
      rcases hm4 with h | ⟨q', h, hq'⟩
      · exact .inl h
      · exact .inr ⟨q', h, Nat.le_trans H3.out.2.size hq'⟩
    have hkw4 := keeps_two H2.out.2.1 H2.out.2.2 hk24
    have hmw4 := H2.out.2.2.trans H2.out.2.1.size hm24
    have H4 := Lib.hid (And.intro hx4 (And.intro hkw4 hmw4))
    clear hx4 hk4 hm4 hk24 hm24 hkw4 hmw4
    go_wp2_with fail
    go_end0
    refine ⟨rfl, g4, ?_, H4.out.2.1, H4.out.2.2⟩
    have e : L ++ dbits z = L ++ bitsTo m A A ++ bitsTo z (wd k) (wd k) := by
      unfold dbits
      rw [← H1.out.2.2, ← HM.out.1, ← HM.out.2.1, List.append_assoc]
    rw [e]
    exact H4.out.1
end Go.Proofs.Ytopbbicjbjmdnaa.D
namespace Go.Proofs.Ytopbbicjbjmdnaa.D
set_option maxRecDepth 100000
open Go.RowKit
set_option linter.unusedVariables false
set_option linter.unusedSimpArgs false
/-- The step behind k times; the bits of the first k. -/
def st (f : Nat → Int) : Nat → Int
  | 0 => 0
  | 1 => 0
  | k + 2 => sub64 (f (k + 1)) (f k)
def u64 (n : Int) : Nat := (n % 18446744073709551616).toNat
theorem u64_lt (n : Int) : u64 n < 18446744073709551616 := by unfold u64; omega
def encTo (f : Nat → Int) : Nat → List Nat
  | 0 => []
  | 1 => bitsTo (u64 (f 0)) 64 64
  | k + 2 => encTo f (k + 1) ++ dbits (zig (sub64 (sub64 (f (k + 1)) (f k)) (st f (k + 1))))
theorem st_range (f : Nat → Int) (k : Nat) : -9223372036854775808 ≤ st f k ∧ st f k ≤ 9223372036854775807 := by
  match k with
  | 0 => exact ⟨by show _ ≤ (0 : Int); omega, by show (0 : Int) ≤ _; omega⟩
  | 1 => exact ⟨by show _ ≤ (0 : Int); omega, by show (0 : Int) ≤ _; omega⟩
  | k + 2 => exact sub64_range _ _
theorem encTo_len (f : Nat → Int) (k : Nat) : (encTo f k).length ≤ 64 + 68 * k := by
  induction k with
  | zero => simp [encTo]
  | succ k ih =>
    match k with
    | 0 => unfold encTo; rw [bitsTo_length]; omega
    | k + 1 => unfold encTo; rw [List.length_append]; have := dbits_le (zig (sub64 (sub64 (f (k + 1)) (f k)) (st f (k + 1)))); omega
theorem dbits_bit (z : Nat) : ∀ j, (dbits z).getD j 0 < 2 := by unfold dbits; exact bits_append (bitsTo_bit _ _ _) (bitsTo_bit _ _ _)
theorem encTo_bit (f : Nat → Int) (k : Nat) : ∀ j, (encTo f k).getD j 0 < 2 := by
  induction k with
  | zero => intro j; simp [encTo]
  | succ k ih =>
    match k with
    | 0 => unfold encTo; exact bitsTo_bit _ _ _
    | k + 1 => unfold encTo; exact bits_append ih (dbits_bit _)
def EncPost (w : World) (bs : List Nat) (e : Ending) (w' : World) : Prop :=
  ∃ A c, e = .returned (.tuple #[.slice A bs.length c, .int .i64 0]) ∧ w'.ownsRow w.heap.size 5 1 (.slice A bs.length c) bs.length (bs.map byteV) ∧ Keeps (fun _ => False) w w'
set_option maxRecDepth 100000 in
set_option maxHeartbeats 1600000 in
theorem encode_any (w : World) (A : Option Addr) (len c : Nat) (D : Nat → Prop) (f : Nat → Int) (hsl : Sl w D A len (fun j => .int .i64 (f j))) (hf : ∀ j, -9223372036854775808 ≤ f j ∧ f j ≤ 9223372036854775807) (hlen : len ≤ 4096) :
    Calls Try.prog 29 #[.slice A len c] w (EncPost w (pack (encTo f len))) := by
  have HS := Lib.hid (And.intro hsl hf)
  clear hsl hf
  have d0 : decide ((4096 : Int) < len) = false := by simp; omega
  go_enter Try.func29, Try.ntmps29
  go_wp2_with fail
  refine (newWriter_any _).mono ?_
  rintro e w1 ⟨rfl, hx1, hk1⟩
  obtain ⟨x, hx⟩ : ∃ x, x = w.heap.size := ⟨_, rfl⟩
  rw [← hx] at hx1
  rw [← hx]
  have H1 := Lib.hid (And.intro hx1 (And.intro hk1 hx))
  have hxB : w.heap.size ≤ x := by omega
  clear hx1 hk1 hx d0
  go_wp2_with fail
  go_loopw [5, 15] (fun s i wr => ∃ (k : Nat) (g : Option Nat), k ≤ len ∧ i = .int .i64 k ∧ s = .int .i64 (st f k) ∧ Wr wr x g (encTo f k) ∧ Keeps (fun _ => False) w wr ∧ (∀ q, g = some q → w.heap.size ≤ q))
    (fun _ i _ => len - (intOf i).toNat)
  case atStart => exact ⟨0, none, Nat.zero_le _, rfl, rfl, H1.out.1, H1.out.2.1, fun _ h => by cases h⟩
  case round =>
    obtain ⟨k, g, hk, rfl, rfl, hxr, hkr, hgr⟩ := hrel
    by_cases hlt : k < len
    · obtain ⟨b, off, hA, hD, hcell⟩ := (HS.out.1.keep (w' := wr) (fun q _ hq => hkr.block q hq (fun h => h))) (by omega)
      have ck : wr.cell? ⟨b, off + k, none⟩ = some (.int .i64 (f k)) := hcell k hlt
      have hcp : 1 ≤ k → wr.cell? ⟨b, off + (k - 1), none⟩ = some (.int .i64 (f (k - 1))) := fun h => hcell (k - 1) (by omega)
      subst hA
      have HR := Lib.hid (And.intro hxr (And.intro hkr (And.intro hgr hcell)))
      clear hxr hkr hgr hcell
      have hlk := encTo_len f k
      rcases Nat.eq_zero_or_pos k with hk0 | hk0
      · subst hk0
        clear hcp
        have e1 : IntKind.u64.wrap (f 0) = (u64 (f 0) : Int) := by rw [IntKind.wrap_u64]; unfold u64; omega
        have hu := u64_lt (f 0)
        obtain ⟨u, hu'⟩ : ∃ u, u = u64 (f 0) := ⟨_, rfl⟩
        rw [← hu'] at e1 hu
        have HU := Lib.hid (And.intro hu hu')
        clear hu hu' hlk
        rw [show ((0 : Nat) : Int) = 0 from rfl]
        rw [Nat.add_zero] at ck
        go_wp2_with fail
        refine (put_fit _ _ _ _ _ _ HR.out.1 (by omega) (by have := HU.out.1; omega) (by omega) (by omega) (by simp [encTo])).mono ?_
        rintro e w2 ⟨rfl, g2, hx2, hk2, hm2⟩
        have H2 := Lib.hid (And.intro hx2 (And.intro (keeps_new HR.out.2.1 hk2 hxB HR.out.2.2.1) (moved_new (w0 := w) hm2 HR.out.2.1.size HR.out.2.2.1)))
        clear hx2 hk2 hm2 e1 ck
        go_wp2_with fail
        go_roundw
        case rel =>
          refine ⟨1, g2, by omega, rfl, rfl, ?_, H2.out.2.1, H2.out.2.2⟩
          have := H2.out.1
          rw [show ((u : Int)).toNat = u from rfl, show (64 : Int).toNat = 64 from rfl, HU.out.2] at this
          exact this
        case measure => simp [intOf]; omega
      · obtain ⟨j, rfl⟩ : ∃ j, k = j + 1 := ⟨k - 1, by omega⟩
        have cp := hcp (by omega)
        rw [show j + 1 - 1 = j by omega] at cp
        obtain ⟨r1, r2⟩ := HS.out.2 (j + 1)
        obtain ⟨r3, r4⟩ := HS.out.2 j
        obtain ⟨a, ha⟩ : ∃ a, a = f (j + 1) := ⟨_, rfl⟩
        obtain ⟨p, hp⟩ : ∃ p, p = f j := ⟨_, rfl⟩
        obtain ⟨s, hs⟩ : ∃ s, s = st f (j + 1) := ⟨_, rfl⟩
        rw [← ha] at ck r1 r2
        rw [← hp] at cp r3 r4
        rw [← hs]
        have hsr := st_range f (j + 1)
        rw [← hs] at hsr
        have HV := Lib.hid (And.intro ha (And.intro hp (And.intro hs (And.intro r1 (And.intro r2 (And.intro r3 (And.intro r4 hsr)))))))
        clear ha hp hs r1 r2 r3 r4 hsr hcp hk0
        go_wp2_with fail
        refine (sub_any _ _ _ HV.out.2.2.2.1 HV.out.2.2.2.2.1 HV.out.2.2.2.2.2.1 HV.out.2.2.2.2.2.2.1).mono ?_
        rintro e w2 ⟨rfl, rfl⟩
        obtain ⟨t, ht⟩ : ∃ t, t = sub64 a p := ⟨_, rfl⟩
        have htr := sub64_range a p
        rw [← ht] at htr
        rw [← ht]
        have HT := Lib.hid (And.intro ht htr)
        clear ht htr
        go_wp2_with fail
        refine (sub_any _ _ _ HT.out.2.1 HT.out.2.2 HV.out.2.2.2.2.2.2.2.1 HV.out.2.2.2.2.2.2.2.2).mono ?_
        rintro e w2 ⟨rfl, rfl⟩
        go_wp2_with fail
        refine (zig_any _ _ (sub64_range _ _).1 (sub64_range _ _).2).mono ?_
        rintro e w2 ⟨rfl, rfl⟩
        go_wp2_with fail
        refine (dput_any _ _ _ _ _ HR.out.1 (zig_lt (sub64_range _ _).1 (sub64_range _ _).2) (by omega)).mono ?_
        rintro e w2 ⟨rfl, g2, hx2, hk2, hm2⟩
        have H2 := Lib.hid (And.intro hx2 (And.intro (keeps_new HR.out.2.1 hk2 hxB HR.out.2.2.1) (moved_new (w0 := w) hm2 HR.out.2.1.size HR.out.2.2.1)))
        clear hx2 hk2 hm2 ck cp hlk
        go_wp2_with fail
        go_roundw
        case rel =>
          obtain ⟨ha, hp, hs, -⟩ := HV.out
          have ht := HT.out.1
          refine ⟨j + 2, g2, by omega, by go_num, ?_, ?_, H2.out.2.1, H2.out.2.2⟩
          · rw [ht, ha, hp]; rfl
          · have := H2.out.1
            rw [ht, ha, hp, hs] at this
            exact this
        case measure => simp [intOf]; omega
    · obtain rfl : k = len := by omega
      have HR := Lib.hid (And.intro hxr hkr)
      clear hxr hkr hgr
      go_wp2_with fail
      refine (bytes_wr _ _ _ _ HR.out.1).mono ?_
      rintro e w2 ⟨A2, c2, rfl, ho2, hk2⟩
      have H2 := Lib.hid (And.intro (own_base ho2 HR.out.2.size) (HR.out.2.trans' hk2))
      clear ho2 hk2
      go_wp2_with fail
      go_ret2
      exact ⟨A2, c2, rfl, H2.out.1, H2.out.2⟩
set_option maxHeartbeats 400000 in
theorem encode_big (w : World) (A : Option Addr) (len c : Nat) (hlen : 4096 < len) (hl : len ≤ 9223372036854775807) :
    Calls Try.prog 29 #[.slice A len c] w fun e w' => e = .returned (.tuple #[.slice none 0 0, .int .i64 3]) ∧ w = w' := by
  go_enter Try.func29, Try.ntmps29
  go_wp2
  go_ret2
  exact ⟨rfl, rfl⟩
end Go.Proofs.Ytopbbicjbjmdnaa.D
