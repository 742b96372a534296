/-
  The contract of tidemillref02.Writer's Bytes.
-/
import Derived.Test.YtboecnakndpgfaaBitsRw
namespace Go.Proofs.Ytboecnakndpgfaa
open Go.RowKit
theorem made_bytes (n : Nat) : (madeCells #[Value.int .u8 0] n).toList = (List.replicate n 0).map byteV := by
  rw [toList_madeCells_one, List.map_replicate]; rfl
set_option maxHeartbeats 800000 in
theorem bytes_rwr (w : World) (a : Nat) (g : Option Nat) (L : List Nat) (h : RWr w a g L) :
    Calls Try.prog 34 #[.pointer (some ⟨a, 0, none⟩)] w (BytesPost w (pack L)) := by
  have hlen := h.len
  have hbit := h.bit
  obtain ⟨m, hm⟩ : ∃ m, m = (L.length + 7) / 8 := ⟨_, rfl⟩
  obtain ⟨n, hn⟩ : ∃ n, n = L.length := ⟨_, rfl⟩
  have hm20 : m ≤ 1048577 := by omega
  have hmi : ((n : Int) + 7) / 8 = (m : Int) := by omega
  have HH := Lib.hid h
  obtain ⟨_, _, v, hv, hb, ho⟩ := h
  rw [← hn] at ho hlen
  obtain ⟨A, c, rfl, hnc, hA⟩ := own_form ho
  have c0 := hb.cell 0
  simp only [List.getElem?_toArray, List.getElem?_cons_zero] at c0
  have HB := Lib.hid hb
  have HO := Lib.hid ho
  have HN := Lib.hid hn
  have HM := Lib.hid hm
  have HA := Lib.hid hA
  have HBIT := Lib.hid hbit
  have hmn : 8 * m ≤ n + 7 := by omega
  have hmn2 : n ≤ 8 * m := by omega
  clear hb ho hn hv hA hm hbit
  obtain ⟨ht, -, i, hi, hz, hs1, hby⟩ := byteElem
  have HI := Lib.hid (And.intro hs1 hby)
  go_enter Try.func34, Try.ntmps34
  go_wp2_with (at_make; refine wpList_make_full _ rfl (.tmp 11) (.tmp 11) 23 rfl w.heap.size 5 i (.int .u8 0) 1 ht hi hz HI.out.1 .i64 .i64 _ _ m rfl rfl ?hl ?hc ?hb1 ?hb2 ?hb3 ?_)
  case hl => first | exact hmi | rfl
  case hc => first | exact hmi | rfl
  case hb1 => rw [HI.out.2]; omega
  case hb2 => unfold maxLen; omega
  case hb3 => exact Nat.le_refl _
  intro w1 ho1 hg1
  have hk1 : Keeps (fun _ => False) w w1 := (Keeps.refl _ w).grown hg1 (fun _ h => by cases h)
  clear hmi c0
  have ho1' : w1.ownsRow w.heap.size 5 1 (.slice (some ⟨w.heap.size, 0, none⟩) m m) m ((packTo L m 0).map byteV) := by
    rw [packTo_zero, ← made_bytes]; exact ho1
  clear ho1 hg1
  go_wp2_with fail
  go_loopw [4] (fun i wr => ∃ k : Nat, k ≤ n ∧ i = .int .i64 k ∧ wr.ownsRow w.heap.size 5 1 (.slice (some ⟨w.heap.size, 0, none⟩) m m) m ((packTo L m k).map byteV) ∧ Keeps (fun _ => False) w wr)
    (fun i _ => n - (intOf i).toNat)
  case atStart => exact ⟨0, by omega, rfl, ho1', hk1⟩
  case round =>
    obtain ⟨k, hk, rfl, hor, hkr⟩ := hrel
    clear ho1' hk1
    have hbr := HB.out.keeps hkr (fun h => h)
    have horr := own_keeps HO.out hkr (fun _ _ h => h)
    have c0 := hbr.cell 0
    simp only [List.getElem?_toArray, List.getElem?_cons_zero] at c0
    clear hbr
    by_cases hlt : k < n
    · obtain ⟨gb, hgb, -, -⟩ := HA.out (by omega)
      subst hgb
      have hck : wr.cell? ⟨gb, k, none⟩ = some (intV (L.getD k 0)) := by
        rw [horr.cellAt k (by omega), List.getElem?_map, List.getElem?_eq_getElem (by have := HN.out; omega), List.getD_eq_getElem?_getD, List.getElem?_eq_getElem (by have := HN.out; omega)]
        rfl
      obtain ⟨q, hq⟩ : ∃ q, q = k / 8 := ⟨_, rfl⟩
      obtain ⟨t, ht⟩ : ∃ t, t = k % 8 := ⟨_, rfl⟩
      obtain ⟨s, hs⟩ : ∃ s, s = 7 - t := ⟨_, rfl⟩
      obtain ⟨x, hx⟩ : ∃ x, x = byteAt (L.take k) q := ⟨_, rfl⟩
      have hcq : wr.cell? ⟨w.heap.size, q, none⟩ = some (.int .u8 x) := by
        rw [hor.cellAt q (by omega), List.getElem?_map, List.getElem?_eq_getElem (by rw [packTo_length]; omega)]
        have := packTo_getD L m k q (by omega)
        rw [List.getD_eq_getElem?_getD, List.getElem?_eq_getElem (by rw [packTo_length]; omega)] at this
        rw [hx, ← this]
        rfl
      have hfq := hor.frozenAt q
      have e1 : (k : Int) / 8 = (q : Int) := by omega
      have e3 : (k : Int) % 8 = (t : Int) := by omega
      have e4 : 7 - (t : Int) = (s : Int) := by omega
      have hqm : q < m := by omega
      have hs7 : s ≤ 7 := by omega
      have HP := Lib.hid (And.intro hq (And.intro ht (And.intro hs hx)))
      have HOR := Lib.hid hor
      clear hq ht hs hx horr hor
      have hbk := HBIT.out k
      rcases (show L.getD k 0 = 0 ∨ L.getD k 0 = 1 by omega) with hb0 | hb0
      · rw [hb0] at hck
        simp only [intV, Int.cast_ofNat_Int] at hck
        have HB0 := Lib.hid hb0
        clear hb0 hbk
        go_wp2_with fail
        go_roundw
        case rel => exact ⟨k + 1, by omega, by go_num, by rw [packTo_skip L m k (by have := HN.out; omega) HB0.out]; exact HOR.out, hkr⟩
        case measure => simp [intOf]; omega
      · rw [hb0] at hck
        simp only [intV, Int.natCast_one] at hck
        have HB0 := Lib.hid hb0
        clear hb0 hbk
        go_wp2_with fail
        go_roundw
        case rel =>
          obtain ⟨hq, ht, hs, hx⟩ := HP.out
          have hkL : k < L.length := by have := HN.out; omega
          have h1 := byteAt_take_succ L k q hkL
          rw [if_pos hq, HB0.out, Nat.one_mul, ← ht, ← hs, ← hx] at h1
          have h2 := byteAt_lt (take_bit HBIT.out (k + 1)) q
          have h3 := rby_step x s (by omega)
          rw [h3]
          refine ⟨k + 1, by omega, by go_num, ?_, hkr.setCell (fun hlt => absurd hlt (Nat.lt_irrefl _)) _⟩
          rw [← packTo_set L m k hkL HB0.out, List.map_set, ← hq, ← ht, ← hs, ← hx]
          exact (HOR.out.stored q _).1
        case measure => simp [intOf]; omega
    · obtain rfl : k = n := by omega
      go_wp2_with fail
      go_ret
      have e1 : packTo L m k = pack L := by rw [HN.out, HM.out]; exact packTo_all L
      have e2 : (pack L).length = m := by rw [pack_length]; exact HM.out.symm
      rw [e1] at hor
      exact ⟨some ⟨w.heap.size, 0, none⟩, m, by rw [e2]; rfl, by rw [e2]; exact hor, hkr⟩
end Go.Proofs.Ytboecnakndpgfaa
