/-
  The walk of the law FrameBack.
-/
import Derived.Test.YtdgedhamacpghaaFrameSumsW
import Derived.Test.YtdgedhamacpghaaFrmP
namespace Go.Proofs.Ytdgedhamacpghaa
open Go.RowKit
set_option linter.unusedVariables false
set_option linter.unusedSimpArgs false
set_option maxRecDepth 100000 in
set_option maxHeartbeats 8000000 in
theorem frameBack_walk (a0 : Int) (a1 : Option Addr) (len1 cap1 : Nat) (z1 : List Int) (a2 : Option Addr) (len2 cap2 : Nat) (z2 : List Int) (w : World) (w0 : (Lit.int .u8 a0).wf = true) (w1 : IsRow .u8 w a1 len1 cap1 z1) (w2 : IsRow .u8 w a2 len2 cap2 z2) (s1 : len1 * 1 ≤ 140737488355328) (s2 : len2 * 1 ≤ 140737488355328) :
    Calls Try.prog 7 #[.int .u8 a0, .slice a1 len1 cap1, .slice a2 len2 cap2] w fun e w' => e = .returned (.bool true) ∧ Below w.heap.size w w' := by
  obtain ⟨kind, hkind, rfl⟩ := wf_u8' w0
  obtain ⟨bs, hxl, hxb, hxs⟩ := w1.bytes len1 (Nat.le_refl _)
  obtain ⟨ms, hyl, hyb, hys⟩ := w2.bytes len2 (Nat.le_refl _)
  clear w0 w1 w2
  by_cases hbig : 3000 < len1 + len2
  · clear hxl hxb hxs hyl hyb hys hkind
    go_enter Try.func7, Try.ntmps7
    have d : decide ((3000 : Int) < (len1 : Int) + (len2 : Int)) = true := by simp; omega
    go_wp2_with fail
    go_ret
    exact ⟨rfl, Below.refl _ _⟩
  · have HF := Lib.hid (And.intro hxl (And.intro hxs (And.intro hxb (And.intro hyl (And.intro hys (And.intro hyb hkind))))))
    have hn1 : len1 ≤ 3000 := by omega
    have hn2 : len2 ≤ 3000 := by omega
    have d : decide ((3000 : Int) < (len1 : Int) + (len2 : Int)) = false := by simp; omega
    obtain ⟨S, hS⟩ : ∃ S, S = sealL kind bs := ⟨_, rfl⟩
    obtain ⟨m, hm⟩ : ∃ m, m = len1 + 9 := ⟨_, rfl⟩
    have hSl : S.length = m := by rw [hS, sealL_length, hxl, hm]
    have hSb : ∀ j, S.getD j 0 < 256 := by rw [hS]; exact getD_of_mem (sealL_byte hkind hxb)
    have ho := open_seal hkind hxb (by omega)
    have hr := read_seal ms hkind hxb (by omega)
    have hsh := open_short kind bs (by omega)
    have hmo := open_more kind bs (by omega)
    rw [← hS] at ho hr hsh hmo
    rw [hSl] at hsh
    rw [hxl, ← hm] at hr
    have HP := Lib.hid (And.intro hS (And.intro hSl (And.intro hSb (And.intro ho (And.intro hr (And.intro hsh hmo))))))
    have hm9 : 9 ≤ m := by omega
    have hm3 : m ≤ 3009 := by omega
    clear hxl hxb hxs hyl hyb hys hkind hS hSl hSb ho hr hsh hmo hbig hm
    go_enter Try.func7, Try.ntmps7
    go_wp2_with fail
    clear d
    refine (seal_ok _ kind _ _ _ _ bs HF.out.1 HF.out.2.1 HF.out.2.2.1 HF.out.2.2.2.2.2.2 (by omega)).mono ?_
    rintro e w3 ⟨A3, c3, rfl, ho3, hk3⟩
    rw [← HP.out.1] at ho3
    rw [← HP.out.1]
    rw [HP.out.2.1] at ho3
    rw [HP.out.2.1]
    obtain ⟨A3', c3', hv3, hc3, -⟩ := own_form ho3
    injection hv3 with q1 q2 q3
    subst q3
    clear q1 q2 A3'
    have H3 := Lib.hid (And.intro ho3 hk3)
    clear ho3 hk3
    go_wp2_with fail
    refine (open_any _ _ _ _ _ S HP.out.2.1 (own_sl HP.out.2.1 H3.out.1) HP.out.2.2.1 (by omega) hc3).mono ?_
    rintro e w4 ⟨A4, c4, rfl, ho4, hk4⟩
    obtain ⟨p1, p2, p3⟩ := HP.out.2.2.2.1
    rw [p3, HF.out.1] at ho4
    rw [p1, p2, p3, HF.out.1]
    have o34 := own_keeps H3.out.1 hk4 (fun _ _ h => h)
    have k4 := H3.out.2.trans' hk4
    have H4 := Lib.hid (And.intro (own_base ho4 H3.out.2.size) (And.intro o34 k4))
    clear ho4 hk4 o34 k4 p1 p2 p3
    go_wp2_with (at_builtin; refine wpList_append_sl (f := byteC S) (D := fun k => (Value.slice A3 m c3).ownBlock = some k) (base := w4.heap.size) (n := 0) (xs := []) byteElem rfl (.tmp 38) (.tmp 39) rfl rfl rfl ?hown ?hsl ?h1 ?h63 ?hby ?hbase ?_)
    case hown => exact own_lit0 w4 w4.heap.size 5 (Nat.le_refl _)
    case hsl => exact (own_sl HP.out.2.1 H4.out.2.1).keep (w' := w4.alloc (.cells #[] 5)) (fun q _ hq => Below.heap_alloc w4 _ q hq)
    case h1 => intro j _; rfl
    case h63 => unfold maxLen; omega
    case hby => omega
    case hbase => simp
    intro v5 w5 ho5 hg5 hx5
    clear hx5
    have k45 : Keeps (fun _ => False) w4 w5 := keeps_grown ((Keeps.refl _ w4).alloc _) (own_lit0 w4 w4.heap.size 5 (Nat.le_refl _)) hg5
    have ho5' : w5.ownsRow w4.heap.size 5 1 v5 m (S.map byteV) := by
      have := ho5
      try simp only [List.nil_append, Nat.zero_add] at this
      rw [range_bytes HP.out.2.1] at this
      exact this
    have H5 := Lib.hid (And.intro ho5' k45)
    clear ho5 hg5 k45 ho5'
    go_wp2_with (at_builtin; refine wpList_append_sl (f := byteC ms) (D := fun x => x < w.heap.size) (base := w4.heap.size) (n := m) (xs := S.map byteV) byteElem rfl (.tmp 40) (.tmp 41) rfl rfl rfl ?hown ?hsl ?h1 ?h63 ?hby ?hbase ?_)
    case hown => exact H5.out.1
    case hsl => exact HF.out.2.2.2.2.1.keep (w' := w5) (fun q _ hq => (H4.out.2.2.trans' H5.out.2).block q hq (fun h => h))
    case h1 => intro j _; rfl
    case h63 => unfold maxLen; omega
    case hby => omega
    case hbase => exact H5.out.2.size
    intro v6 w6 ho6 hg6 hx6
    clear hx6
    have k46 : Keeps (fun _ => False) w4 w6 := keeps_grown H5.out.2 H5.out.1 hg6
    rw [range_bytes HF.out.2.2.2.1, ← List.map_append] at ho6
    have hl6 : (S ++ ms).length = m + len2 := by rw [List.length_append, HP.out.2.1, HF.out.2.2.2.1]
    have hb6 : ∀ j, (S ++ ms).getD j 0 < 256 := getD_of_mem (fun b hb => by
      rcases List.mem_append.1 hb with h | h
      · exact mem_byte HP.out.2.2.1 b h
      · exact mem_byte HF.out.2.2.2.2.2.1 b h)
    obtain ⟨A6, c6, hv6, hc6, -⟩ := own_form ho6
    subst hv6
    have H6 := Lib.hid (And.intro ho6 (And.intro k46 (And.intro hl6 hb6)))
    clear ho6 hg6 k46 hl6 hb6
    go_wp2_with fail
    refine (read_any _ _ _ _ _ (S ++ ms) H6.out.2.2.1 (own_sl H6.out.2.2.1 H6.out.1) H6.out.2.2.2 (by omega) hc6).mono ?_
    rintro e w7 ⟨A7, c7, rfl, ho7, hk7⟩
    obtain ⟨r1, r2, r3, r4⟩ := HP.out.2.2.2.2.1
    rw [r3, HF.out.1] at ho7
    rw [r1, r2, r3, r4, HF.out.1]
    have k47 := H6.out.2.1.trans' hk7
    have k7 := H4.out.2.2.trans' k47
    have oi7 := own_keeps H4.out.1 k47 (fun _ _ h => h)
    have os7 := own_keeps H4.out.2.1 k47 (fun _ _ h => h)
    have hsl7 := HF.out.2.1.keep (w' := w7) (fun q _ hq => k7.block q hq (fun h => h))
    have hc1 := conv_sl (P := Try.prog) (c := cap1) 22 5 9 Try.underlying22 Try.underlying5 Try.underlying9 HF.out.1 hsl7
    have hc4 := conv_sl (P := Try.prog) (c := c4) 22 5 9 Try.underlying22 Try.underlying5 Try.underlying9 HF.out.1 (own_sl HF.out.1 oi7)
    have hc7 := conv_sl (P := Try.prog) (c := c7) 22 5 9 Try.underlying22 Try.underlying5 Try.underlying9 HF.out.1 (own_sl HF.out.1 ho7)

    have H7 := Lib.hid (And.intro os7 k7)
    clear ho7 hk7 k47 k7 oi7 os7 hsl7 r1 r2 r3 r4
    have dk : ((kind : Int) != (kind : Int)) = false := by simp
    have dm : ((m : Int) != (m : Int)) = false := by simp
    have i1 : (0 : Int) ≤ (m : Int) - 1 := by omega
    have i2 : (m : Int) - 1 ≤ (c3 : Int) := by omega
    have i3 : ((m : Int) - 1).toNat = m - 1 := by omega
    go_wp2_with fail
    clear hc1 hc4 hc7 dk dm i1 i2 i3
    have hsT : Sl w7 (fun k => (Value.slice A3 m c3).ownBlock = some k) A3 (m - 1) (byteC (S.take (m - 1))) :=
      ((own_sl HP.out.2.1 H7.out.1).take (by omega)).congr (fun j hj => by
        unfold byteC
        rw [List.getD_eq_getElem?_getD, List.getD_eq_getElem?_getD, List.getElem?_take_of_lt hj])
    have hlT : (S.take (m - 1)).length = m - 1 := by rw [List.length_take, HP.out.2.1]; omega
    have HT := Lib.hid (And.intro hsT hlT)
    clear hsT hlT
    refine (open_any _ _ _ _ _ (S.take (m - 1)) HT.out.2 HT.out.1 (getD_of_mem (mem_take_byte HP.out.2.2.1 (m - 1))) (by omega) (by omega)).mono ?_
    rintro e w8 ⟨A8, c8, rfl, ho8, hk8⟩
    rw [HP.out.2.2.2.2.2.1]
    have os8 := own_keeps H7.out.1 hk8 (fun _ _ h => h)
    have k8 := H7.out.2.trans' hk8
    have H8 := Lib.hid (And.intro os8 k8)
    clear ho8 hk8 os8 k8
    obtain ⟨kz, hkz⟩ : ∃ k, k = openK (S.take (m - 1)) := ⟨_, rfl⟩
    obtain ⟨lz, hlz⟩ : ∃ k, k = (openI (S.take (m - 1))).length := ⟨_, rfl⟩
    rw [← hkz, ← hlz]
    clear hkz hlz
    go_wp2_with (at_builtin; refine wpList_append_sl (f := byteC S) (D := fun k => (Value.slice A3 m c3).ownBlock = some k) (base := w8.heap.size) (n := 0) (xs := []) byteElem rfl (.tmp 99) (.tmp 100) rfl rfl rfl ?hown ?hsl ?h1 ?h63 ?hby ?hbase ?_)
    case hown => exact own_lit0 w8 w8.heap.size 5 (Nat.le_refl _)
    case hsl => exact (own_sl HP.out.2.1 H8.out.1).keep (w' := w8.alloc (.cells #[] 5)) (fun q _ hq => Below.heap_alloc w8 _ q hq)
    case h1 => intro j _; rfl
    case h63 => unfold maxLen; omega
    case hby => omega
    case hbase => simp
    intro v9 w9 ho9 hg9 hx9
    clear hx9
    have k89 : Keeps (fun _ => False) w8 w9 := keeps_grown ((Keeps.refl _ w8).alloc _) (own_lit0 w8 w8.heap.size 5 (Nat.le_refl _)) hg9
    have ho9' : w9.ownsRow w8.heap.size 5 1 v9 m (S.map byteV) := by
      have := ho9
      try simp only [List.nil_append, Nat.zero_add] at this
      rw [range_bytes HP.out.2.1] at this
      exact this
    have H9 := Lib.hid (And.intro ho9' k89)
    clear ho9 hg9 k89 ho9'
    go_wp2_with (at_builtin; refine wpList_append_sl (f := fun _ => .int .u8 0) (D := fun k => k = w9.heap.size) (base := w8.heap.size) (n := m) (xs := S.map byteV) byteElem rfl (.tmp 101) (.tmp 102) rfl rfl rfl ?hown ?hsl ?h1 ?h63 ?hby ?hbase ?_)
    case hown => exact H9.out.1.alloc _
    case hsl => exact sl_one _ _ _
    case h1 => intro j _; rfl
    case h63 => unfold maxLen; omega
    case hby => omega
    case hbase => have := H9.out.2.size; simp; omega
    intro v10 w10 ho10 hg10 hx10
    clear hx10
    have k10 : Keeps (fun _ => False) w8 w10 := keeps_grown (H9.out.2.alloc _) (H9.out.1.alloc _) hg10
    have ho10' : w10.ownsRow w8.heap.size 5 1 v10 (m + 1) ((S ++ [0]).map byteV) := by
      rw [List.map_append]
      exact ho10
    have hl10 : (S ++ [0]).length = m + 1 := by rw [List.length_append, HP.out.2.1]; rfl
    have hb10 : ∀ j, (S ++ [0]).getD j 0 < 256 := getD_of_mem (fun b hb => by
      rcases List.mem_append.1 hb with h | h
      · exact mem_byte HP.out.2.2.1 b h
      · simp at h; omega)
    obtain ⟨A10, c10, hv10, hc10, -⟩ := own_form ho10'
    subst hv10
    have H10 := Lib.hid (And.intro ho10' (And.intro k10 (And.intro hl10 hb10)))
    clear ho10 ho10' hg10 k10 hl10 hb10
    go_wp2_with fail
    refine (open_any _ _ _ _ _ (S ++ [0]) H10.out.2.2.1 (own_sl H10.out.2.2.1 H10.out.1) H10.out.2.2.2 (by omega) hc10).mono ?_
    rintro e w11 ⟨A11, c11, rfl, ho11, hk11⟩
    rw [HP.out.2.2.2.2.2.2]
    have H11 := Lib.hid ((H8.out.2.trans' H10.out.2.1).trans' hk11)
    clear ho11 hk11
    obtain ⟨ky, hky⟩ : ∃ k, k = openK (S ++ [0]) := ⟨_, rfl⟩
    obtain ⟨ly, hly⟩ : ∃ k, k = (openI (S ++ [0])).length := ⟨_, rfl⟩
    rw [← hky, ← hly]
    clear hky hly
    go_wp2_with fail
    go_ret
    exact ⟨rfl, H11.out.to_below⟩
end Go.Proofs.Ytdgedhamacpghaa
