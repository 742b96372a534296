/-
  The walk of the law VarintBack. (Printed by mk.py.)
-/
import Derived.Test.YtgceeihdmhghiaaDoorErE
namespace Go.Proofs.YtgceeihdmhghiaaDoor
open Go.RowKit
set_option linter.unusedVariables false
set_option linter.unusedSimpArgs false
theorem vtext_put (n : Nat) (t ms : List Nat) (ht : t.length = n) (hn : n < 18446744073709551616) : vtext (vput n ++ t ++ ms) n = (t, (vput n ++ t).length, 0) := by
  unfold vtext
  rw [List.append_assoc, vget_vput n (t ++ ms) hn]
  rw [if_neg (by simp), if_neg (by simp), if_neg (by simp [ht])]
  congr 1
  · show ((vput n ++ (t ++ ms)).drop (vput n).length).take n = t
    rw [List.drop_left, ← ht, List.take_left]
  · congr 1
    show (vput n).length + n = _
    rw [List.length_append, ht]
set_option maxRecDepth 100000 in
set_option maxHeartbeats 8000000 in
theorem varintBack_walk (a0 : Int) (a1 : ByteArray) (a2 : Option Addr) (len2 cap2 : Nat) (z2 : List Int) (w : World) (w0 : (Lit.int .i64 a0).wf = true) (w1 : a1.size ≤ maxLen) (w2 : IsRow .u8 w a2 len2 cap2 z2) (r1 : a1.size ≤ 140737488355328) (r2 : len2 * 1 ≤ 140737488355328) (hv : HErr w) :
    Calls Tryd.prog 4 #[.int .i64 a0, .string a1, .slice a2 len2 cap2] w fun e w' => e = .returned (.bool true) ∧ Below w.heap.size w w' := by
  obtain ⟨ms, hbl, hbb, hbs⟩ := w2.bytes len2 (Nat.le_refl _)
  have l2 := w2.le
  obtain ⟨n0, n1⟩ := wf_i64 w0
  clear w0 w1 w2
  by_cases hbig : 5000 < a1.size + len2
  · have d : decide ((5000 : Int) < (a1.size : Int) + (len2 : Int)) = true := by simp; omega
    clear hbl hbb hbs l2 hv
    go_enter Tryd.func4, Tryd.ntmps4
    go_wp2_with fail
    go_ret
    exact ⟨rfl, Below.refl _ _⟩
  · have d : decide ((5000 : Int) < (a1.size : Int) + (len2 : Int)) = false := by simp; omega
    have hc5 : len2 ≤ 5000 := by omega
    have hs5 : a1.size ≤ 5000 := by omega
    have HM := Lib.hid (And.intro hbl (And.intro hbb (And.intro hbs hv)))
    have HN := Lib.hid (And.intro n0 n1)
    clear hbl hbb hbs l2 hv hbig n0 n1 r1 r2
    have g1 := vget_vput (zig a0) ms (zig_lt HN.out.1 HN.out.2)
    have l1 := vput_len10 (zig_lt HN.out.1 HN.out.2)
    have b1 := getD_all_lt (vput_byte (zig a0))
    obtain ⟨S1, hS1⟩ : ∃ S, S = vput (zig a0) := ⟨_, rfl⟩
    rw [← hS1] at g1 l1 b1
    obtain ⟨m1, hm1⟩ : ∃ m, m = S1.length := ⟨_, rfl⟩
    rw [← hm1] at g1 l1
    have HP1 := Lib.hid (And.intro hS1 (And.intro hm1 (And.intro g1 b1)))
    clear hS1 hm1 g1 b1
    go_enter Tryd.func4, Tryd.ntmps4
    go_wp2_with fail
    refine (putInt_any _ none 0 0 [] a0 rfl (Sl.nil _ _ _ _) (by omega) (by omega) HN.out.1 HN.out.2).mono ?_
    rintro e w1 ⟨v, rfl, ho, hb⟩
    rw [List.nil_append, ← HP1.out.1, ← HP1.out.2.1] at ho
    obtain ⟨A1, c1, hv1, -, -⟩ := own_form ho
    subst hv1
    have HA1 := Lib.hid (And.intro hb (And.intro (ow_sl ho) HP1.out.2.1.symm))
    clear ho hb
    go_wp2_with (at_builtin; refine wpList_append_sl (f := byteC S1) (D := fun k => k < w1.heap.size) (base := w1.heap.size) (n := 0) (xs := []) byteElem rfl (.tmp 28) (.tmp 29) rfl rfl rfl ?hown ?hsl ?h1 ?h63 ?hby ?hbase ?_)
    case hown => exact lat_lit0 w1 w1.heap.size 5 (Nat.le_refl _)
    case hsl => exact HA1.out.2.1.keep (w' := w1.alloc (.cells #[] 5)) (fun q _ hq => Below.heap_alloc w1 _ q hq)
    case h1 => intro j _; rfl
    case h63 => unfold maxLen; omega
    case hby => omega
    case hbase => simp
    intro v5 w5 ho5 hg5 hx5
    clear hx5
    have k45 : Below w1.heap.size w1 w5 := lat_grown ((Below.refl _ w1).alloc (Nat.le_refl _) _) (lat_lit0 w1 w1.heap.size 5 (Nat.le_refl _)) hg5
    have ho5' : w5.ownsRow w1.heap.size 5 1 v5 m1 (S1.map byteV) := by
      have := ho5
      try simp only [List.nil_append, Nat.zero_add] at this
      rw [← range_bytes HA1.out.2.2] at this
      exact this
    have H5 := Lib.hid (And.intro ho5' k45)
    clear ho5 hg5 k45 ho5'
    go_wp2_with (at_builtin; refine wpList_append_sl (f := byteC ms) (D := fun x => x < w.heap.size) (base := w1.heap.size) (n := m1) (xs := S1.map byteV) byteElem rfl (.tmp 30) (.tmp 31) rfl rfl rfl ?hown ?hsl ?h1 ?h63 ?hby ?hbase ?_)
    case hown => exact H5.out.1
    case hsl => exact HM.out.2.2.1.keep (w' := w5) (fun q _ hq => (below_join HA1.out.1 H5.out.2).block q hq)
    case h1 => intro j _; rfl
    case h63 => unfold maxLen; omega
    case hby => omega
    case hbase => exact H5.out.2.size
    intro v6 w6 ho6 hg6 hx6
    clear hx6
    have k46 : Below w1.heap.size w1 w6 := lat_grown H5.out.2 H5.out.1 hg6
    rw [← range_bytes HM.out.1, ← List.map_append] at ho6
    have hl6 : (S1 ++ ms).length = m1 + len2 := by rw [List.length_append, HA1.out.2.2, HM.out.1]
    have hb6 : ∀ j, (S1 ++ ms).getD j 0 < 256 := getD_app_lt HP1.out.2.2.2 HM.out.2.1
    obtain ⟨A6, c6, hv6, hc6, -⟩ := own_form ho6
    subst hv6
    have k6 := below_join HA1.out.1 k46
    have H6 := Lib.hid (And.intro (ow_sl ho6) (And.intro k6 (And.intro hl6 (And.intro hb6 (And.intro k46 (HM.out.2.2.2.below k6))))))
    have hc6m : c6 ≤ 9223372036854775807 := by
      have := own_cap ho6
      omega
    clear ho6 hg6 k46 hl6 hb6 k6 H5
    go_wp2_with fail
    refine (vreadInt_any _ _ _ _ _ (S1 ++ ms) H6.out.2.2.1 H6.out.2.2.2.1 H6.out.1 (by omega) H6.out.2.2.2.2.2).mono ?_
    rintro e w7 ⟨rfl, hb7⟩
    rw [HP1.out.2.2.1]
    have H7 := Lib.hid (below_join H6.out.2.1 hb7)
    clear H6 hb7 hc6 hc6m
    obtain ⟨r, hr⟩ : ∃ r, r = zag (zig a0) := ⟨_, rfl⟩
    rw [← hr]
    have HR := Lib.hid (show r = a0 by rw [hr, zag_zig])
    clear hr
    have hu := wrap_u64_range a0
    obtain ⟨u, hu'⟩ : ∃ u, u = IntKind.u64.wrap a0 := ⟨_, rfl⟩
    have eu : IntKind.u64.wrap a0 = u := hu'.symm
    rw [eu] at hu
    obtain ⟨q, hq⟩ := Int.eq_ofNat_of_zero_le hu.1
    have hq64 : q < 18446744073709551616 := by omega
    rw [hq] at eu
    clear hu' hu hq
    have g2 := vget_vput q ms hq64
    have l2 := vput_len10 hq64
    have b2 := getD_all_lt (vput_byte q)
    obtain ⟨S2, hS2⟩ : ∃ S, S = vput q := ⟨_, rfl⟩
    rw [← hS2] at g2 l2 b2
    obtain ⟨m2, hm2⟩ : ∃ m, m = S2.length := ⟨_, rfl⟩
    rw [← hm2] at g2 l2
    have HP2 := Lib.hid (And.intro hS2 (And.intro hm2 (And.intro g2 b2)))
    clear hS2 hm2 g2 b2
    go_wp2_with fail
    refine (vput_any _ none 0 0 [] (q : Int) rfl (Sl.nil _ _ _ _) (by omega) (by omega) (by omega) (by omega)).mono ?_
    rintro e w8 ⟨v, rfl, ho, hb⟩
    rw [List.nil_append, Int.toNat_natCast, ← HP2.out.1, ← HP2.out.2.1] at ho
    obtain ⟨A2, c2, hv1, -, -⟩ := own_form ho
    subst hv1
    have HA2 := Lib.hid (And.intro (below_join H7.out hb) (And.intro (ow_sl ho) HP2.out.2.1.symm))
    clear ho hb H7 HA1
    go_wp2_with (at_builtin; refine wpList_append_sl (f := byteC S2) (D := fun k => k < w8.heap.size) (base := w8.heap.size) (n := 0) (xs := []) byteElem rfl (.tmp 41) (.tmp 42) rfl rfl rfl ?hown ?hsl ?h1 ?h63 ?hby ?hbase ?_)
    case hown => exact lat_lit0 w8 w8.heap.size 5 (Nat.le_refl _)
    case hsl => exact HA2.out.2.1.keep (w' := w8.alloc (.cells #[] 5)) (fun q _ hq => Below.heap_alloc w8 _ q hq)
    case h1 => intro j _; rfl
    case h63 => unfold maxLen; omega
    case hby => omega
    case hbase => simp
    intro v5 w5 ho5 hg5 hx5
    clear hx5
    have k45 : Below w8.heap.size w8 w5 := lat_grown ((Below.refl _ w8).alloc (Nat.le_refl _) _) (lat_lit0 w8 w8.heap.size 5 (Nat.le_refl _)) hg5
    have ho5' : w5.ownsRow w8.heap.size 5 1 v5 m2 (S2.map byteV) := by
      have := ho5
      try simp only [List.nil_append, Nat.zero_add] at this
      rw [← range_bytes HA2.out.2.2] at this
      exact this
    have H5 := Lib.hid (And.intro ho5' k45)
    clear ho5 hg5 k45 ho5'
    go_wp2_with (at_builtin; refine wpList_append_sl (f := byteC ms) (D := fun x => x < w.heap.size) (base := w8.heap.size) (n := m2) (xs := S2.map byteV) byteElem rfl (.tmp 43) (.tmp 44) rfl rfl rfl ?hown ?hsl ?h1 ?h63 ?hby ?hbase ?_)
    case hown => exact H5.out.1
    case hsl => exact HM.out.2.2.1.keep (w' := w5) (fun q _ hq => (below_join HA2.out.1 H5.out.2).block q hq)
    case h1 => intro j _; rfl
    case h63 => unfold maxLen; omega
    case hby => omega
    case hbase => exact H5.out.2.size
    intro v6 w6 ho6 hg6 hx6
    clear hx6
    have k46 : Below w8.heap.size w8 w6 := lat_grown H5.out.2 H5.out.1 hg6
    rw [← range_bytes HM.out.1, ← List.map_append] at ho6
    have hl6 : (S2 ++ ms).length = m2 + len2 := by rw [List.length_append, HA2.out.2.2, HM.out.1]
    have hb6 : ∀ j, (S2 ++ ms).getD j 0 < 256 := getD_app_lt HP2.out.2.2.2 HM.out.2.1
    obtain ⟨A6, c6, hv6, hc6, -⟩ := own_form ho6
    subst hv6
    have k6 := below_join HA2.out.1 k46
    have H6 := Lib.hid (And.intro (ow_sl ho6) (And.intro k6 (And.intro hl6 (And.intro hb6 (And.intro k46 (HM.out.2.2.2.below k6))))))
    have hc6m : c6 ≤ 9223372036854775807 := by
      have := own_cap ho6
      omega
    clear ho6 hg6 k46 hl6 hb6 k6 H5
    go_wp2_with fail
    refine (vread_any _ _ _ _ _ (S2 ++ ms) H6.out.2.2.1 H6.out.2.2.2.1 H6.out.1 (by omega) H6.out.2.2.2.2.2).mono ?_
    rintro e w9 ⟨rfl, hb9⟩
    rw [HP2.out.2.2.1]
    have H9 := Lib.hid (below_join H6.out.2.1 hb9)
    clear H6 hb9 hc6 hc6m HA2
    have hlt : (vput a1.size ++ txt a1).length ≤ 10 + a1.size := by
      have := vput_len10 (u := a1.size) (by omega)
      rw [List.length_append, txt_length]; omega
    have g3 := vtext_put a1.size (txt a1) ms (txt_length a1) (by omega)
    have b3 := getD_all_lt (l := vput a1.size ++ txt a1) (fun b hb => by
      rcases List.mem_append.1 hb with h | h
      · exact vput_byte _ b h
      · exact txt_byte _ b h)
    obtain ⟨S3, hS3⟩ : ∃ S, S = vput a1.size ++ txt a1 := ⟨_, rfl⟩
    rw [← hS3] at g3 hlt b3
    obtain ⟨m3, hm3⟩ : ∃ m, m = S3.length := ⟨_, rfl⟩
    rw [← hm3] at g3 hlt
    have HP3 := Lib.hid (And.intro hS3 (And.intro hm3 (And.intro g3 b3)))
    clear hS3 hm3 g3 b3
    go_wp2_with fail
    refine (putText_any _ none 0 0 [] a1 rfl (Sl.nil _ _ _ _) (by omega) (by omega) (by omega)).mono ?_
    rintro e w10 ⟨v, rfl, ho, hb⟩
    rw [List.nil_append, ← HP3.out.1, ← HP3.out.2.1] at ho
    obtain ⟨A3, c3, hv1, -, -⟩ := own_form ho
    subst hv1
    have HA3 := Lib.hid (And.intro (below_join H9.out hb) (And.intro (ow_sl ho) HP3.out.2.1.symm))
    clear ho hb H9
    go_wp2_with (at_builtin; refine wpList_append_sl (f := byteC S3) (D := fun k => k < w10.heap.size) (base := w10.heap.size) (n := 0) (xs := []) byteElem rfl (.tmp 53) (.tmp 54) rfl rfl rfl ?hown ?hsl ?h1 ?h63 ?hby ?hbase ?_)
    case hown => exact lat_lit0 w10 w10.heap.size 5 (Nat.le_refl _)
    case hsl => exact HA3.out.2.1.keep (w' := w10.alloc (.cells #[] 5)) (fun q _ hq => Below.heap_alloc w10 _ q hq)
    case h1 => intro j _; rfl
    case h63 => unfold maxLen; omega
    case hby => omega
    case hbase => simp
    intro v5 w5 ho5 hg5 hx5
    clear hx5
    have k45 : Below w10.heap.size w10 w5 := lat_grown ((Below.refl _ w10).alloc (Nat.le_refl _) _) (lat_lit0 w10 w10.heap.size 5 (Nat.le_refl _)) hg5
    have ho5' : w5.ownsRow w10.heap.size 5 1 v5 m3 (S3.map byteV) := by
      have := ho5
      try simp only [List.nil_append, Nat.zero_add] at this
      rw [← range_bytes HA3.out.2.2] at this
      exact this
    have H5 := Lib.hid (And.intro ho5' k45)
    clear ho5 hg5 k45 ho5'
    go_wp2_with (at_builtin; refine wpList_append_sl (f := byteC ms) (D := fun x => x < w.heap.size) (base := w10.heap.size) (n := m3) (xs := S3.map byteV) byteElem rfl (.tmp 55) (.tmp 56) rfl rfl rfl ?hown ?hsl ?h1 ?h63 ?hby ?hbase ?_)
    case hown => exact H5.out.1
    case hsl => exact HM.out.2.2.1.keep (w' := w5) (fun q _ hq => (below_join HA3.out.1 H5.out.2).block q hq)
    case h1 => intro j _; rfl
    case h63 => unfold maxLen; omega
    case hby => omega
    case hbase => exact H5.out.2.size
    intro v6 w6 ho6 hg6 hx6
    clear hx6
    have k46 : Below w10.heap.size w10 w6 := lat_grown H5.out.2 H5.out.1 hg6
    rw [← range_bytes HM.out.1, ← List.map_append] at ho6
    have hl6 : (S3 ++ ms).length = m3 + len2 := by rw [List.length_append, HA3.out.2.2, HM.out.1]
    have hb6 : ∀ j, (S3 ++ ms).getD j 0 < 256 := getD_app_lt HP3.out.2.2.2 HM.out.2.1
    obtain ⟨A6, c6, hv6, hc6, -⟩ := own_form ho6
    subst hv6
    have k6 := below_join HA3.out.1 k46
    have H6 := Lib.hid (And.intro (ow_sl ho6) (And.intro k6 (And.intro hl6 (And.intro hb6 (And.intro k46 (HM.out.2.2.2.below k6))))))
    have hc6m : c6 ≤ 9223372036854775807 := by
      have := own_cap ho6
      omega
    clear ho6 hg6 k46 hl6 hb6 k6 H5
    go_wp2_with fail
    refine (vreadText_any _ _ _ _ (S3 ++ ms) a1.size H6.out.2.2.1 H6.out.2.2.2.1 H6.out.1 hc6 hc6m H6.out.2.2.2.2.2 (by omega) (by omega)).mono ?_
    rintro e w11 ⟨rfl, hb11⟩
    rw [HP3.out.2.2.1, lat_text]
    have H11 := Lib.hid (below_join H6.out.2.1 hb11)
    clear H6 hb11 hc6 hc6m HA3
    obtain rfl := HR.out
    go_wp2_with fail
    go_ret
    exact ⟨rfl, H11.out⟩
end Go.Proofs.YtgceeihdmhghiaaDoor
