/-
  Contracts of tidemillref04's Sum, Little, four and Seal.
-/
import Derived.Test.YtboecnakndpgfaaFrmC
namespace Go.Proofs.Ytboecnakndpgfaa.F
open Go.RowKit
set_option linter.unusedVariables false
set_option linter.unusedSimpArgs false
theorem gN_succ' (n s : Nat) : gN (n + 1) s = gbit (gN n s) := gN_add n 1 s
set_option maxRecDepth 100000 in
set_option maxHeartbeats 800000 in
theorem rsum_any (w : World) (A : Option Addr) (len c : Nat) (D : Nat → Prop) (bs : List Nat) (hl : bs.length = len) (hsl : Sl w D A len (byteC bs)) (hb : ∀ j, bs.getD j 0 < 256) (hlen : len ≤ 2097152) :
    Calls Try.prog 38 #[.slice A len c] w fun e w' => e = .returned (.int .u32 (crcS bs : Nat)) ∧ w = w' := by
  have HS := Lib.hid (And.intro hl (And.intro hsl hb))
  clear hl hsl hb
  go_enter Try.func38, Try.ntmps38
  go_wp2_with fail
  go_loopw [3, 4] (fun s i wr => ∃ k : Nat, k ≤ len ∧ i = .int .i64 k ∧ s = .int .u32 (crcL (bs.take k) 4294967295 : Nat) ∧ w = wr) (fun _ i _ => len - (intOf i).toNat)
  case atStart => exact ⟨0, Nat.zero_le _, rfl, rfl, rfl⟩
  case round =>
    obtain ⟨k, hk, rfl, rfl, rfl⟩ := hrel
    have hsl := crcL_lt (s := 4294967295) (mem_take_byte HS.out.2.2 k) (by omega)
    obtain ⟨s, hs⟩ : ∃ s, s = crcL (bs.take k) 4294967295 := ⟨_, rfl⟩
    rw [← hs] at hsl
    rw [← hs]
    by_cases hlt : k < len
    · obtain ⟨b, off, hA, -, hc⟩ := HS.out.2.1 (by omega)
      have ck : w.cell? ⟨b, off + k, none⟩ = some (.int .u8 (bs.getD k 0 : Nat)) := hc k hlt
      subst hA
      have hx := HS.out.2.2 k
      obtain ⟨x, hxx⟩ : ∃ x, x = bs.getD k 0 := ⟨_, rfl⟩
      rw [← hxx] at hx ck
      have e0 : bits .xor .u32 (s : Int) (x : Int) = ((s ^^^ x : Nat) : Int) := u32_xor_nat _ _ hsl (by omega)
      have hsx : s ^^^ x < 4294967296 := Nat.xor_lt_two_pow (n := 32) hsl (by omega)
      obtain ⟨y, hy⟩ : ∃ y, y = s ^^^ x := ⟨_, rfl⟩
      rw [← hy] at e0 hsx
      have HY := Lib.hid (And.intro hy (And.intro hs (And.intro hxx hsx)))
      clear hc hs hxx hy
      go_wp2_with fail
      clear e0
      go_loopw [3, 5] (fun s i wr => ∃ j : Nat, j ≤ 8 ∧ i = .int .i64 j ∧ s = .int .u32 (gN j y : Nat) ∧ w = wr) (fun _ i _ => 8 - (intOf i).toNat)
      case atStart => exact ⟨0, Nat.zero_le _, rfl, rfl, rfl⟩
      case round =>
        obtain ⟨j, hj, rfl, rfl, rfl⟩ := hrel
        have hz := gN_lt j HY.out.2.2.2
        have hn := gN_succ' j y
        obtain ⟨z, hzz⟩ : ∃ z, z = gN j y := ⟨_, rfl⟩
        rw [← hzz] at hz hn
        rw [← hzz]
        by_cases hj8 : j < 8
        · have HZ := Lib.hid (And.intro hn hzz)
          clear hn hzz
          rcases (show z % 2 = 1 ∨ z % 2 = 0 by omega) with hp | hp
          · have d : ((z : Int) % 2 == 1) = true := by simp; omega
            have d2 : (z : Int) % 2 = 1 := by omega
            have e1 : bits .xor .u32 ((z : Int) / 2) 3988292384 = ((z / 2 ^^^ 3988292384 : Nat) : Int) := by
              rw [show (z : Int) / 2 = ((z / 2 : Nat) : Int) by omega, show (3988292384 : Int) = ((3988292384 : Nat) : Int) from rfl, u32_xor_nat _ _ (by omega) (by omega)]
            have hg : gbit z = z / 2 ^^^ 3988292384 := by unfold gbit; rw [if_pos hp]
            have HG := Lib.hid (And.intro hg e1)
            clear hg hp d2
            go_wp2_with fail
            go_roundw
            case rel =>
              refine ⟨j + 1, by omega, by go_num, ?_, by trivial⟩
              first | (rw [HZ.out.1, HG.out.1]; done) | (rw [HZ.out.1, HG.out.1, HG.out.2]; done)
            case measure => simp [intOf]; omega
          · have d : ((z : Int) % 2 == 1) = false := by simp; omega
            have hg : gbit z = z / 2 := by unfold gbit; rw [if_neg (by omega)]
            have HG := Lib.hid hg
            clear hg hp
            go_wp2_with fail
            go_roundw
            case rel =>
              refine ⟨j + 1, by omega, by go_num, ?_, by trivial⟩
              rw [HZ.out.1, HG.out]
              first | rfl | (congr 1 <;> omega)
            case measure => simp [intOf]; omega
        · obtain rfl : j = 8 := by omega
          have HZ := Lib.hid (And.intro hn hzz)
          clear hn hzz
          go_wp2_with fail
          go_roundw
          case rel =>
            refine ⟨k + 1, by omega, by go_num, ?_, by trivial⟩
            obtain ⟨hl, -, -⟩ := HS.out
            rw [crc_take bs k (by omega), ← HY.out.2.1, ← HY.out.2.2.1, ← HY.out.1, ← gN_add, HZ.out.2]
          case measure => simp [intOf]; omega
    · have e0 : bits .xor .u32 (s : Int) 4294967295 = ((crcS bs : Nat) : Int) := by
        rw [show (4294967295 : Int) = ((4294967295 : Nat) : Int) from rfl, u32_xor_nat _ _ hsl (by omega), hs]
        obtain ⟨hl, -, -⟩ := HS.out
        rw [List.take_of_length_le (by omega)]
        rfl
      clear hs
      go_wp2_with fail
      go_ret
      exact ⟨rfl, rfl⟩
theorem le_drop (bs : List Nat) (m i : Nat) (hi : i < m) (hil : i < bs.length) : le ((bs.take m).drop i) = bs.getD i 0 + 256 * le ((bs.take m).drop (i + 1)) := by
  rw [List.drop_eq_getElem_cons (by simp; omega), List.getElem_take, List.getD_eq_getElem?_getD, List.getElem?_eq_getElem (by omega)]
  rfl
theorem le_drop_nil (bs : List Nat) (m i : Nat) (hil : bs.length ≤ i) : le ((bs.take m).drop i) = 0 := by
  rw [List.drop_eq_nil_of_le (by simp; omega)]
  rfl
theorem le_drop_lt (bs : List Nat) (i : Nat) (hi : i ≤ 8) (hb : ∀ j, bs.getD j 0 < 256) : le ((bs.take 8).drop i) < 2 ^ (8 * (8 - i)) := by
  have h1 := le_lt (l := (bs.take 8).drop i) (fun b hbm => mem_take_byte hb 8 b (List.mem_of_mem_drop hbm))
  have h2 : ((bs.take 8).drop i).length ≤ 8 - i := by simp; omega
  have h3 : (2 : Nat) ^ (8 * ((bs.take 8).drop i).length) ≤ 2 ^ (8 * (8 - i)) := Nat.pow_le_pow_right (by omega) (by omega)
  omega
def RFourPost (w : World) (u : Nat) (e : Ending) (w' : World) : Prop :=
  e = .returned (.slice (some ⟨w.heap.size, 0, none⟩) 4 4) ∧ Sl w' (fun k => k = w.heap.size) (some ⟨w.heap.size, 0, none⟩) 4 (byteC (fourL u)) ∧ Below w.heap.size w w'
set_option maxRecDepth 100000 in
set_option maxHeartbeats 800000 in
theorem rfour_any (z : Int) (u : Nat) (w : World) (hz : z = (u : Nat)) (hu : u < 4294967296) : Calls Try.prog 37 #[.int .u32 z] w (RFourPost w u) := by
  subst hz
  go_enter Try.func37, Try.ntmps37
  go_wp2_with fail
  go_ret
  refine ⟨rfl, ?_, (Below.refl w.heap.size w).alloc (Nat.le_refl _) _⟩
  refine fun _ => ⟨_, _, rfl, rfl, fun j hj => ?_⟩
  rw [(Blk.fresh w _ _).cell (0 + j)]
  rcases (show j = 0 ∨ j = 1 ∨ j = 2 ∨ j = 3 by omega) with rfl | rfl | rfl | rfl
  · show some (Value.int .u8 _) = some (.int .u8 ((u % 256 : Nat) : Int)); congr 2 <;> omega
  · show some (Value.int .u8 _) = some (.int .u8 ((u / 256 % 256 : Nat) : Int)); congr 2 <;> omega
  · show some (Value.int .u8 _) = some (.int .u8 ((u / 65536 % 256 : Nat) : Int)); congr 2 <;> omega
  · show some (Value.int .u8 _) = some (.int .u8 ((u / 16777216 % 256 : Nat) : Int)); congr 2 <;> omega
theorem own_lit1 (w : World) (base : Nat) (e : TypeId) (u : Value) (hb : base ≤ w.heap.size) : (w.alloc (.cells #[u] e)).ownsRow base e 1 (.slice (some ⟨w.heap.size, 0, none⟩) 1 1) 1 [u] :=
  ⟨rfl, .inr ⟨w.heap.size, 1, #[u], rfl, hb, heap_alloc_new w _, Nat.le_refl _, by unfold maxLen; omega, rfl, rfl⟩⟩
set_option maxRecDepth 100000 in
set_option maxHeartbeats 1600000 in
theorem rseal_ok (w : World) (kind : Nat) (A : Option Addr) (len c : Nat) (D : Nat → Prop) (bs : List Nat) (hl : bs.length = len) (hsl : Sl w D A len (byteC bs)) (hb : ∀ j, bs.getD j 0 < 256) (hk : kind < 256) (hlen : len ≤ 1048576) :
    Calls Try.prog 17 #[.int .u8 (kind : Nat), .slice A len c] w (BytesPost w (sealL kind bs) 0) := by
  have HS := Lib.hid (And.intro hl (And.intro hsl (And.intro hb hk)))
  clear hl hsl hb hk
  have d0 : decide ((1048576 : Int) < (len : Int)) = false := by simp; omega
  go_enter Try.func17, Try.ntmps17
  go_wp2_with fail
  refine (rfour_any _ len _ (by first | rfl | omega | (rw [IntKind.wrap_u32']; omega)) (by omega)).mono ?_
  rintro e w1 ⟨rfl, hs1, hb1⟩
  clear d0
  have k1' : Keeps (fun _ => False) (w.alloc (.cells #[.int .u8 (kind : Nat)] 5)) w1 := Keeps.of_below hb1
  have o1 := own_keeps (own_lit1 w w.heap.size 5 (.int .u8 (kind : Nat)) (Nat.le_refl _)) k1' (fun _ _ h => h)
  have k1 : Keeps (fun _ => False) w w1 := ((Keeps.refl _ w).alloc _).trans' k1'
  have H1 := Lib.hid (And.intro o1 (And.intro k1 hs1))
  clear hb1 k1' o1 k1 hs1
  go_wp2_with (at_builtin; refine wpList_append_sl (f := byteC (fourL len)) (D := fun k => k = (w.alloc (.cells #[.int .u8 (kind : Nat)] 5)).heap.size) (base := w.heap.size) (n := 1) (xs := [byteV kind]) byteElem rfl (.tmp 11) (.tmp 15) rfl rfl rfl ?hown ?hsl ?h1 ?h63 ?hby ?hbase ?_)
  case hown => exact H1.out.1
  case hsl => have h := H1.out.2.2; simpa using h
  case h1 => intro j _; rfl
  case h63 => unfold maxLen; omega
  case hby => omega
  case hbase => exact H1.out.2.1.size
  intro v4 w4 ho4 hg4 hx
  clear hx
  have k4 := keeps_grown H1.out.2.1 H1.out.1 hg4
  have H4 := Lib.hid (And.intro ho4 k4)
  clear ho4 hg4 k4
  go_wp2_with (at_builtin; refine wpList_append_sl (f := byteC bs) (D := D) (base := w.heap.size) (n := 5) (xs := [byteV kind] ++ (List.range 4).map (byteC (fourL len))) byteElem rfl (.tmp 17) (.tmp 18) rfl rfl rfl ?hown ?hsl ?h1 ?h63 ?hby ?hbase ?_)
  case hown => exact H4.out.1
  case hsl => exact HS.out.2.1.keep (w' := w4) (fun q _ hq => H4.out.2.block q hq (fun h => h))
  case h1 => intro j _; rfl
  case h63 => unfold maxLen; omega
  case hby => omega
  case hbase => exact H4.out.2.size
  intro v5 w5 ho5 hg5 hx
  clear hx
  have k5 := keeps_grown H4.out.2 H4.out.1 hg5
  have e5 : byteV kind :: byteC (fourL len) 0 :: byteC (fourL len) 1 :: byteC (fourL len) 2 :: byteC (fourL len) 3 :: (List.range len).map (byteC bs) = (bodyL kind bs).map byteV := by
    rw [range_bytes HS.out.1, ← HS.out.1]
    rfl
  rw [e5] at ho5
  obtain ⟨A5, c5, hv5, -, -⟩ := own_form ho5
  subst hv5
  have hbl : (bodyL kind bs).length = 5 + len := by rw [bodyL_length, HS.out.1]; omega
  have H5 := Lib.hid (And.intro ho5 (And.intro k5 hbl))
  clear ho5 hg5 k5 e5 hbl
  go_wp2_with fail
  refine (rsum_any _ _ _ _ _ (bodyL kind bs) H5.out.2.2 (own_sl H5.out.2.2 H5.out.1) (getD_of_mem (bodyL_byte HS.out.2.2.2 HS.out.2.2.1)) (by omega)).mono ?_
  rintro e w6 ⟨rfl, rfl⟩
  have hcl := crcS_lt (bodyL_byte HS.out.2.2.2 HS.out.2.2.1)
  obtain ⟨u, hu⟩ : ∃ u, u = crcS (bodyL kind bs) := ⟨_, rfl⟩
  rw [← hu] at hcl
  rw [← hu]
  have HU := Lib.hid (And.intro hu hcl)
  clear hu hcl
  go_wp2_with fail
  refine (rfour_any _ u _ rfl HU.out.2).mono ?_
  rintro e w7 ⟨rfl, hs7, hb7⟩
  have k7' : Keeps (fun _ => False) w5 w7 := Keeps.of_below hb7
  have o7 := own_keeps H5.out.1 k7' (fun _ _ h => h)
  have k7 := H5.out.2.1.trans' k7'
  have H7 := Lib.hid (And.intro o7 (And.intro k7 hs7))
  clear hb7 k7' o7 k7 hs7
  go_wp2_with (at_builtin; refine wpList_append_sl (f := byteC (fourL u)) (D := fun k => k = w5.heap.size) (base := w.heap.size) (n := 5 + len) (xs := (bodyL kind bs).map byteV) byteElem rfl (.tmp 20) (.tmp 23) rfl rfl rfl ?hown ?hsl ?h1 ?h63 ?hby ?hbase ?_)
  case hown => exact H7.out.1
  case hsl => exact H7.out.2.2
  case h1 => intro j _; rfl
  case h63 => unfold maxLen; omega
  case hby => omega
  case hbase => exact H7.out.2.1.size
  intro v8 w8 ho8 hg8 hx
  clear hx
  have k8 := keeps_grown H7.out.2.1 H7.out.1 hg8
  have e8 : (bodyL kind bs).map byteV ++ [byteC (fourL u) 0, byteC (fourL u) 1, byteC (fourL u) 2, byteC (fourL u) 3] = (sealL kind bs).map byteV := by
    unfold sealL
    rw [HU.out.1, List.map_append]
    rfl
  rw [e8] at ho8
  have hsl : 5 + len + 4 = (sealL kind bs).length := by rw [sealL_length, HS.out.1]; omega
  rw [hsl] at ho8
  obtain ⟨A8, c8, hv8, -, -⟩ := own_form ho8
  subst hv8
  have H8 := Lib.hid (And.intro ho8 k8)
  clear ho8 hg8 k8 e8 hsl
  go_wp2_with fail
  go_ret2
  exact ⟨A8, c8, rfl, H8.out.1, H8.out.2⟩
end Go.Proofs.Ytboecnakndpgfaa.F
