/-
  The walk of the law BitsJoins.
-/
import Derived.Test.YtgphdigcilbnlaaBitsPiecesW
import Derived.Deep.DeepCutAuto
import Derived.Deep.LoopGhost
namespace Go.Proofs.Ytgphdigcilbnlaa
open Go.RowKit
set_option linter.unusedSimpArgs false
set_option linter.unusedVariables false
/-- The first n bits of bytes. -/
def bitsTake (bs : List Nat) (n : Nat) : List Nat := (List.range n).map (bitOf bs)
theorem bitsTake_succ (bs : List Nat) (n : Nat) : bitsTake bs (n + 1) = bitsTake bs n ++ [bitOf bs n] := by unfold bitsTake; rw [List.range_succ, List.map_append]; rfl
theorem bitsTake_length (bs : List Nat) (n : Nat) : (bitsTake bs n).length = n := by simp [bitsTake]
theorem bitsTake_getD (bs : List Nat) (n j : Nat) (h : j < n) : (bitsTake bs n).getD j 0 = bitOf bs j := by
  unfold bitsTake; rw [List.getD_eq_getElem?_getD, List.getElem?_map, List.getElem?_range h]; rfl
theorem bitsTake_bit (bs : List Nat) (n : Nat) : ∀ j, (bitsTake bs n).getD j 0 < 2 := by
  intro j
  rcases Nat.lt_or_ge j n with h | h
  · rw [bitsTake_getD bs n j h]; exact bitOf_lt bs j
  · rw [getD_ge _ _ (by rw [bitsTake_length]; exact h)]; omega
theorem bitsTo_one (b : Nat) (h : b < 2) : bitsTo b 1 1 = [b] := by
  rcases (show b = 0 ∨ b = 1 by omega) with rfl | rfl <;> decide
theorem get_one (bs : List Nat) (p en : Nat) (h : p < en) : getV bs p en 1 = bitOf bs p ∧ getE p en 1 = 0 ∧ getN p en 1 = 1 := by
  refine ⟨?_, ?_, ?_⟩
  · unfold getV; rw [if_pos ⟨by omega, by omega, by omega⟩]; show gets bs p 1 = _; simp [gets]
  · unfold getE; rw [if_pos ⟨by omega, by omega⟩, if_pos (by omega)]
  · unfold getN; rw [if_pos ⟨by omega, by omega, by omega⟩]; rfl
def CopyPost (w : World) (x : Nat) (g : Option Nat) (L : List Nat) (e : Ending) (w' : World) : Prop :=
  e = .returned (.bool true) ∧ ∃ g', Wr w' x g' L ∧ Keeps (fun k => k = x ∨ some k = g) w w' ∧ Moved w g g'
set_option maxRecDepth 100000 in
set_option maxHeartbeats 2000000 in
theorem copyTo_any (w : World) (A : Option Addr) (len c cw x : Nat) (g : Option Nat) (L bs : List Nat) (n : Int) (D : Nat → Prop) (hl : bs.length = len) (hsl : Sl w D A len (byteC bs)) (hbyte : ∀ j, bs.getD j 0 < 256) (hsm : len ≤ 200) (n0 : 0 ≤ n) (hn : n ≤ 8 * (len : Int))
    (hx : Wr w x g L) (hcw : Blk w cw 41 #[.pointer (some ⟨x, 0, none⟩)]) (hL : L.length ≤ 2000) :
    Calls Try.prog 26 #[.slice A len c, .int .i64 n, .pointer (some ⟨cw, 0, none⟩)] w (CopyPost w x g (L ++ bitsTake bs n.toNat)) := by
  obtain ⟨n, rfl⟩ := Int.eq_ofNat_of_zero_le n0
  rw [Int.toNat_natCast]
  have HW := Lib.hid (And.intro hx hcw)
  have HS := Lib.hid (And.intro hl (And.intro hsl hbyte))
  clear hx hcw hl hsl hbyte
  go_enter Try.func26, Try.ntmps26
  go_wp2_with fail
  refine (newReader_fit _ _ _ _ _ bs _ HS.out.1 HS.out.2.1 HS.out.2.2 (by omega) n0 hn).mono ?_
  rintro e w1 ⟨r, rfl, hr, hrd, hk1⟩
  rw [Int.toNat_natCast] at hrd
  have hx1 := HW.out.1.keeps hk1 (fun h => h) (fun _ _ h => h)
  have hc1 := HW.out.2.keeps hk1 (fun h => h)
  have hxl := HW.out.1.lt
  have hcl := HW.out.2.lt
  have hgl : ∀ k, g = some k → k < w.heap.size := fun k hk => by subst hk; exact HW.out.1.glt
  have H1 := Lib.hid (And.intro hrd (And.intro hx1 (And.intro hc1 (And.intro (hk1.mono (T := fun k => k = x ∨ some k = g) (fun _ _ h => h.elim)) hgl))))
  clear hrd hx1 hc1 hk1 hgl
  go_wp2_with fail
  go_loopg [8, 9] n (fun gk _ _ wr => ∃ (p : Nat) (g' : Option Nat), p ≤ n ∧ gk = n - p ∧ Rd wr r (fun k => w.heap.size ≤ k ∧ k < r) bs p n ∧ Wr wr x g' (L ++ bitsTake bs p) ∧ Blk wr cw 41 #[.pointer (some ⟨x, 0, none⟩)] ∧ Keeps (fun k => k = x ∨ some k = g) w wr ∧ (g' = g ∨ ∃ k, g' = some k ∧ r < k))
  case atStart =>
    obtain ⟨hrd, hx1, hc1, hk1, hgl⟩ := H1.out
    exact ⟨0, g, Nat.zero_le _, rfl, hrd, by simpa [bitsTake] using hx1, hc1, hk1, .inl rfl⟩
  case round =>
    obtain ⟨p, g', hp, hgk, hrd, hxr, hcr, hkr, hgr⟩ := hrel
    have hgr' : ∀ k, g' = some k → g = some k ∨ r < k := fun k hk => by
      rcases hgr with h | ⟨q, h, hq⟩
      · exact .inl (h ▸ hk)
      · rw [hk] at h; injection h with h; exact .inr (by omega)
    have HG := Lib.hid (And.intro hgk (And.intro hgr' hgr))
    clear hgr'
    have HR := Lib.hid (And.intro hrd (And.intro hxr (And.intro hcr hkr)))
    clear hgk hgr hrd hxr hcr hkr
    go_wp2_with fail
    refine (left_any _ _ _ _ _ _ HR.out.1).mono ?_
    rintro e w2 ⟨rfl, nn, rfl⟩
    by_cases hlt : p < n
    · go_wp2_with fail
      refine (get_any _ _ _ _ _ _ _ (HR.out.1.drewN nn)).mono ?_
      rintro e w3 ⟨rfl, hrd3, hk3⟩
      obtain ⟨g1, g2, g3⟩ := get_one bs p n hlt
      rw [g3] at hrd3
      rw [g1, g2]
      obtain ⟨hrd, hxr, hcr, hkr⟩ := HR.out
      obtain ⟨Ar, cr, hbr, -⟩ := hrd.blk
      have hkd := Keeps.trans' ((Keeps.refl _ wr).drewN nn) hk3
      have hxne := Wr.ne hxr hbr (by decide) (by decide)
      have hx3 : Wr w3 x g' (L ++ bitsTake bs p) := hxr.keeps hkd hxne.1.symm (fun k hk e => hxne.2 (by rw [hk, e]))
      have hc3 : Blk w3 cw 41 #[.pointer (some ⟨x, 0, none⟩)] := hcr.keeps hkd (fun e => hcr.ne hbr (by decide) e)
      have hkk3 : Keeps (fun k => k = x ∨ some k = g) w w3 := hkr.trans hkd (fun k hk e => by omega)
      have hcc := hc3.cell 0
      simp only [List.getElem?_toArray, List.getElem?_cons_zero] at hcc
      have hb2 := bitOf_lt bs p
      obtain ⟨b, hb⟩ : ∃ b, b = bitOf bs p := ⟨_, rfl⟩
      rw [← hb] at hb2
      rw [← hb]
      have H3 := Lib.hid (And.intro hrd3 (And.intro hx3 (And.intro hc3 (And.intro hkk3 hb))))
      clear hrd3 hk3 hrd hxr hcr hkr hbr hkd hxne hx3 hc3 hkk3 hb g1 g2 g3
      go_wp2_with fail
      refine (put_fit _ _ _ _ _ _ H3.out.2.1 (by omega) (by omega) (by omega) (by omega) (by rw [List.length_append, bitsTake_length]; omega)).mono ?_
      rintro e w4 ⟨rfl, g4, hx4, hk4, hm4⟩
      rw [show ((b : Int)).toNat = b from rfl, show (1 : Int).toNat = 1 from rfl, bitsTo_one b hb2, H3.out.2.2.2.2, List.append_assoc, ← bitsTake_succ] at hx4
      obtain ⟨hrd3, hx3, hc3, hkk3, -⟩ := H3.out
      obtain ⟨Ar, cr, hbr, -⟩ := hrd3.blk
      have hrne := Wr.ne hx3 hbr (by decide) (by decide)
      have hcne := Wr.ne hx3 hc3 (by decide) (by decide)
      have hrd4 := hrd3.keeps hk4 (fun e => by rcases e with e | e; exact hrne.1 e; exact hrne.2 e) (fun k hk e => by
        rcases e with e | e
        · omega
        · rcases HG.out.2.1 k e.symm with h | h
          · have := H1.out.2.2.2.2 k h; omega
          · omega)
      have hc4 := hc3.keeps hk4 (fun e => by rcases e with e | e; exact hcne.1 e; exact hcne.2 e)
      have hrlt : r < w3.heap.size := hbr.lt
      have hkk4 : Keeps (fun k => k = x ∨ some k = g) w w4 := hkk3.trans hk4 (fun k hk e => by
        rcases e with e | e
        · exact .inl e
        · rcases HG.out.2.1 k e.symm with h | h
          · exact .inr h.symm
          · omega)
      have hg4 : g4 = g ∨ ∃ k, g4 = some k ∧ r < k := by
        rcases hm4 with h | ⟨q, h, hq⟩
        · rw [h]; exact HG.out.2.2
        · exact .inr ⟨q, h, by omega⟩
      have H4 := Lib.hid (And.intro hrd4 (And.intro hx4 (And.intro hc4 (And.intro hkk4 hg4))))
      clear hrd4 hx4 hc4 hkk4 hg4 hrd3 hx3 hc3 hkk3 hbr hrne hcne hk4 hm4 hcc hrlt
      go_wp2_with fail
      go_roundg (n - (p + 1))
      case rel =>
        obtain ⟨hrd4, hx4, hc4, hkk4, hg4⟩ := H4.out
        exact ⟨p + 1, g4, by omega, rfl, hrd4, hx4, hc4, hkk4, hg4⟩
      case measure => have := HG.out.1; omega
    · obtain rfl : p = n := by omega
      go_wp2_with fail
      go_ret
      obtain ⟨hrd, hxr, hcr, hkr⟩ := HR.out
      refine ⟨rfl, g', hxr.drewN nn, hkr.drewN nn, ?_⟩
      rcases HG.out.2.2 with h | ⟨k, h, hk⟩
      · exact .inl h
      · exact .inr ⟨k, h, by omega⟩

theorem joins_mod (n : Int) (la : Nat) : ∃ (r : Int) (N : Nat), n.tmod (8 * (la : Int) + 1) = r ∧ -(8 * (la : Int) + 1) < r ∧ r < 8 * (la : Int) + 1 ∧ (r + 8 * (la : Int) + 1) % (8 * (la : Int) + 1) = (N : Int) ∧ N ≤ 8 * la := by
  have h1 : n.tmod (8 * (la : Int) + 1) < 8 * (la : Int) + 1 := Int.tmod_lt_of_pos n (by omega)
  have h2 : -(8 * (la : Int) + 1) < n.tmod (8 * (la : Int) + 1) := by
    have := Int.lt_tmod_of_pos n (show 0 < 8 * (la : Int) + 1 by omega)
    omega
  have h3 : 0 ≤ (n.tmod (8 * (la : Int) + 1) + 8 * (la : Int) + 1) % (8 * (la : Int) + 1) := Int.emod_nonneg _ (by omega)
  have h4 : (n.tmod (8 * (la : Int) + 1) + 8 * (la : Int) + 1) % (8 * (la : Int) + 1) < 8 * (la : Int) + 1 := Int.emod_lt_of_pos _ (by omega)
  exact ⟨_, ((n.tmod (8 * (la : Int) + 1) + 8 * (la : Int) + 1) % (8 * (la : Int) + 1)).toNat, rfl, h2, h1, by omega, by omega⟩

set_option maxRecDepth 100000 in
set_option maxHeartbeats 4000000 in
theorem bitsJoins_walk (a0 : Option Addr) (len0 cap0 : Nat) (z0 : List Int) (a1 : Int) (a2 : Option Addr) (len2 cap2 : Nat) (z2 : List Int) (w : World) (w0 : IsRow .u8 w a0 len0 cap0 z0) (w1 : (Lit.int .i64 a1).wf = true) (w2 : IsRow .u8 w a2 len2 cap2 z2) :
    Calls Try.prog 8 #[.slice a0 len0 cap0, .int .i64 a1, .slice a2 len2 cap2] w fun e w' => e = .returned (.bool true) ∧ Below w.heap.size w w' := by
  obtain ⟨la, hla⟩ : ∃ la, la = min len0 200 := ⟨_, rfl⟩
  obtain ⟨lb, hlb⟩ : ∃ lb, lb = min len2 200 := ⟨_, rfl⟩
  obtain ⟨ab, hal, hab, has⟩ := w0.bytes la (by omega)
  obtain ⟨bs, hbl, hbb, hbs⟩ := w2.bytes lb (by omega)
  have l0 := w0.le
  have l2 := w2.le
  have b1 := wf_i64 w1
  clear w0 w1 w2
  obtain ⟨l0a, l0b, -⟩ := l0
  obtain ⟨l2a, l2b, -⟩ := l2
  obtain ⟨b1a, b1b⟩ := b1
  have HA := Lib.hid (And.intro hal (And.intro hab has))
  have HB := Lib.hid (And.intro hbl (And.intro hbb hbs))
  have HL := Lib.hid (And.intro hla hlb)
  have hla200 : la ≤ 200 := by omega
  have hlb200 : lb ≤ 200 := by omega
  clear hal hab has hbl hbb hbs hla hlb
  go_enter Try.func8, Try.ntmps8
  go_upto_if 19 with (fail)
  go_cut [0] (fun s0 wx => s0 = .slice a0 la cap0 ∧ w = wx)
  case first =>
    by_cases h : 200 < len0
    · obtain ⟨b, off, ha, -, -⟩ := HA.out.2.2 (by have := HL.out.1; omega)
      subst ha
      go_wp2_with fail
      go_meet
      have : la = 200 := by have := HL.out.1; omega
      subst this
      exact ⟨rfl, rfl⟩
    · go_wp2_with fail
      go_meet
      have : la = len0 := by have := HL.out.1; omega
      subst this
      exact ⟨rfl, rfl⟩
  case rest =>
    obtain ⟨rfl, rfl⟩ := hcut
    go_upto_if 24 with (fail)
    go_cut [2] (fun s2 wx => s2 = .slice a2 lb cap2 ∧ w = wx)
    case first =>
      by_cases h : 200 < len2
      · obtain ⟨b, off, ha, -, -⟩ := HB.out.2.2 (by have := HL.out.2; omega)
        subst ha
        go_wp2_with fail
        go_meet
        have : lb = 200 := by have := HL.out.2; omega
        subst this
        exact ⟨rfl, rfl⟩
      · go_wp2_with fail
        go_meet
        have : lb = len2 := by have := HL.out.2; omega
        subst this
        exact ⟨rfl, rfl⟩
    case rest =>
      obtain ⟨rfl, rfl⟩ := hcut
      obtain ⟨r1, N, e1, hr1, hr2, e2, hN⟩ := joins_mod a1 la
      have HN := Lib.hid e2
      go_wp2_with fail
      rw [e2]
      clear e1 e2 hr1 hr2
      refine (newWriter_any _).mono ?_
      rintro e w1 ⟨rfl, hx1, hk1⟩
      have hkA : Keeps (fun _ => False) w1 (w1.alloc (.cells #[.pointer (some ⟨w.heap.size, 0, none⟩)] 41)) := (Keeps.refl _ _).alloc _
      have hx2 := hx1.keeps hkA (fun h => h) (fun _ _ h => h)
      have hc2 : Blk (w1.alloc (.cells #[.pointer (some ⟨w.heap.size, 0, none⟩)] 41)) w1.heap.size 41 #[.pointer (some ⟨w.heap.size, 0, none⟩)] := Blk.fresh _ _ _
      obtain ⟨W2, hW2⟩ : ∃ W2, W2 = w1.alloc (.cells #[.pointer (some ⟨w.heap.size, 0, none⟩)] 41) := ⟨_, rfl⟩
      rw [← hW2] at hx2 hc2 hkA
      have H2 := Lib.hid (And.intro hx2 (And.intro hc2 (And.intro (hk1.trans' hkA) (And.intro hx1.lt hW2))))
      clear hx1 hk1 hkA hx2 hc2 hW2
      go_wp2_with fail
      rw [← H2.out.2.2.2.2]
      obtain ⟨x, hx⟩ : ∃ x, x = w.heap.size := ⟨_, rfl⟩
      obtain ⟨cw, hcw⟩ : ∃ cw, cw = w1.heap.size := ⟨_, rfl⟩
      rw [← hx, ← hcw]
      have H3 := Lib.hid (And.intro hx hcw)
      clear hx hcw
      have hsl2 := HA.out.2.2.keeps H2.out.2.2.1 (fun _ _ h => h)
      refine (copyTo_any _ _ _ _ cw x none [] ab _ _ HA.out.1 hsl2 HA.out.2.1 hla200 (by omega) (by omega) (by rw [H3.out.1]; exact H2.out.1) (by rw [H3.out.1, H3.out.2]; exact H2.out.2.1) (by simp)).mono ?_
      rintro e w3 ⟨rfl, g3, hx3, hk3, hm3⟩
      rw [List.nil_append, Int.toNat_natCast] at hx3
      have hxB : w.heap.size ≤ x := by have := H3.out.1; omega
      have hK3 := keeps_new H2.out.2.2.1 hk3 hxB (fun _ h => by cases h)
      have hg3 := moved_new (w0 := w) hm3 H2.out.2.2.1.size (fun _ h => by cases h)
      have hc3 : Blk w3 cw 41 #[.pointer (some ⟨x, 0, none⟩)] := by
        have h1 : Blk W2 cw 41 #[.pointer (some ⟨x, 0, none⟩)] := by rw [H3.out.1, H3.out.2]; exact H2.out.2.1
        refine h1.keeps hk3 (fun e => ?_)
        rcases e with e | e
        · have := H3.out; have := H2.out.2.2.2.1; omega
        · cases e
      have H4 := Lib.hid (And.intro hx3 (And.intro hc3 (And.intro hK3 hg3)))
      clear hx3 hc3 hK3 hg3 hk3 hm3 hsl2 H2
      go_wp2_with fail
      have hsl3 := HB.out.2.2.keeps H4.out.2.2.1 (fun _ _ h => h)
      refine (copyTo_any _ _ _ _ _ _ _ _ bs _ _ HB.out.1 hsl3 HB.out.2.1 hlb200 (by omega) (by omega) H4.out.1 H4.out.2.1 (by rw [bitsTake_length]; omega)).mono ?_
      rintro e w4 ⟨rfl, g4, hx4, hk4, hm4⟩
      rw [show (8 * (lb : Int)).toNat = 8 * lb from by omega] at hx4
      have hcne := Wr.ne H4.out.1 H4.out.2.1 (by decide) (by decide)
      have hc4 := H4.out.2.1.keeps hk4 (fun e => by rcases e with e | e; exact hcne.1 e; exact hcne.2 e)
      have hK4 := keeps_new H4.out.2.2.1 hk4 hxB H4.out.2.2.2
      obtain ⟨M, hM⟩ : ∃ M, M = bitsTake ab N ++ bitsTake bs (8 * lb) := ⟨_, rfl⟩
      rw [← hM] at hx4
      have hMi : ((M.length : Nat) : Int) = (N : Int) + 8 * (lb : Int) := by rw [hM, List.length_append, bitsTake_length, bitsTake_length]; omega
      have q0 := hc4.cell 0
      simp only [List.getElem?_toArray, List.getElem?_cons_zero] at q0
      have H5 := Lib.hid (And.intro hx4 (And.intro hc4 (And.intro hK4 hM)))
      clear hx4 hc4 hK4 hM hk4 hm4 hsl3 hcne H4
      go_wp2_with fail
      refine (len_wr _ _ _ _ H5.out.1).mono ?_
      rintro e w5 ⟨rfl, rfl⟩
      rw [hMi]
      go_wp2_with fail
      have hS : (fun w' : World => w'.cell? ⟨cw, 0, none⟩ = some (.pointer (some ⟨x, 0, none⟩))) (w4.drew) := q0
      refine reg_start (fun w' : World => w'.cell? ⟨cw, 0, none⟩ = some (.pointer (some ⟨x, 0, none⟩))) (by kernel_rfl) hS ?_
      refine reg_take (i := 0) (v := ?_) rfl (by kernel_rfl) (by kernel_rfl) (by kernel_rfl) (fun _ _ _ h => h) (Or.inl ⟨by kernel_rfl, ?_⟩) hS ?_
      rotate_left
      · (intro w' hSw; go_simp <;> with_reducible rfl)
      try simp only [Act.put, List.setIfInBounds_toArray, List.set_cons_zero, List.set_cons_succ]
      refine reg_take (i := 2) (v := ?_) rfl (by kernel_rfl) (by kernel_rfl) (by kernel_rfl) (fun _ _ _ h => h) (Or.inl ⟨by kernel_rfl, ?_⟩) hS ?_
      rotate_left
      · (intro w' hSw; go_simp <;> with_reducible rfl)
      try simp only [Act.put, List.setIfInBounds_toArray, List.set_cons_zero, List.set_cons_succ]
      refine reg_call (i := 1) rfl (by kernel_rfl) (fun K hK => ?_)
      have HK := Lib.hid hK
      clear hK
      go_simp
      refine (bytes_wr _ _ _ _ (H5.out.1.drewN 1)).mono ?_
      rintro e w6 ⟨A6, c6, rfl, ho6, hk6⟩
      have hkd := Keeps.trans' ((Keeps.refl (fun _ => False) w4).drew) hk6
      have hx6 := H5.out.1.keeps hkd (fun h => h) (fun _ _ h => h)
      have hq6 := (H5.out.2.1.keeps hkd (fun h => h)).cell 0
      simp only [List.getElem?_toArray, List.getElem?_cons_zero] at hq6
      have hsl6 := sl_of_bytes ho6
      have hpk := pack_length M
      have hbit : ∀ j, M.getD j 0 < 2 := by rw [H5.out.2.2.2]; exact bits_append (bitsTake_bit _ _) (bitsTake_bit _ _)
      have hby : ∀ j, (pack M).getD j 0 < 256 := fun j => by rw [pack_getD]; exact byteAt_lt hbit j
      have hpl : (pack M).length ≤ 1099511627776 := by omega
      have hpn : ((M.length : Nat) : Int) ≤ 8 * ((pack M).length : Int) := by omega
      have H6 := Lib.hid (And.intro hx6 (And.intro hsl6 (And.intro hby (And.intro hpl (And.intro hpn (And.intro (H5.out.2.2.1.trans' hkd) hbit))))))
      clear ho6 hk6 hkd hx6 hsl6 hpk hbit hby hpl hpn
      go_wp2_with fail
      refine HK.out.to (fun w' : World => w'.cell? ⟨cw, 0, none⟩ = some (.pointer (some ⟨x, 0, none⟩))) (fun _ h => h) (hq6) ?_
      clear HK hS
      have hS : (fun w' : World => w'.cell? ⟨cw, 0, none⟩ = some (.pointer (some ⟨x, 0, none⟩))) (w6) := hq6
      try simp only [Act.put, List.setIfInBounds_toArray, List.set_cons_zero, List.set_cons_succ]
      refine reg_call (i := 3) rfl (by kernel_rfl) (fun K hK => ?_)
      have HK := Lib.hid hK
      clear hK
      go_simp
      refine (len_wr _ _ _ _ H6.out.1).mono ?_
      rintro e w7 ⟨rfl, rfl⟩
      go_wp2_with fail
      refine HK.out.to (fun w' : World => w'.cell? ⟨cw, 0, none⟩ = some (.pointer (some ⟨x, 0, none⟩))) (fun _ h => h) (hq6) ?_
      clear HK hS
      have hS : (fun w' : World => w'.cell? ⟨cw, 0, none⟩ = some (.pointer (some ⟨x, 0, none⟩))) (w6) := hq6
      try simp only [Act.put, List.setIfInBounds_toArray, List.set_cons_zero, List.set_cons_succ]
      refine reg_call (i := 4) rfl (by kernel_rfl) (fun K hK => ?_)
      have HK := Lib.hid hK
      clear hK
      go_simp
      refine (newReader_fit _ _ _ _ _ (pack M) _ rfl H6.out.2.1 H6.out.2.2.1 H6.out.2.2.2.1 (by omega) (by have := H6.out.2.2.2.2.1; omega)).mono ?_
      rintro e w7 ⟨r, rfl, hr, hrd, hk7⟩
      rw [show ((N : Int) + 8 * (lb : Int)).toNat = M.length from by omega] at hrd
      have hq7 : w7.cell? ⟨cw, 0, none⟩ = some (.pointer (some ⟨x, 0, none⟩)) := (World.cell?_of_block (w := w6) (a := ⟨cw, 0, none⟩) (hk7.block cw (World.block_lt_of_cell? w6 _ hq6) (fun h => h))).trans hq6
      have H7 := Lib.hid (And.intro hrd (And.intro (show w.heap.size ≤ r by have := H6.out.2.2.2.2.2.1.size; omega) (And.intro (H6.out.2.2.2.2.2.1.trans' hk7) H6.out.2.2.2.2.2.2)))
      clear hrd hr hk7
      go_wp2_with fail
      refine HK.out.to (fun w' : World => w'.cell? ⟨cw, 0, none⟩ = some (.pointer (some ⟨x, 0, none⟩))) (fun _ h => h) (hq7) ?_
      clear HK hS
      have hS : (fun w' : World => w'.cell? ⟨cw, 0, none⟩ = some (.pointer (some ⟨x, 0, none⟩))) (w7) := hq7
      try simp only [Act.put, List.setIfInBounds_toArray, List.set_cons_zero, List.set_cons_succ]
      refine reg_take (i := 5) (v := ?_) rfl (by kernel_rfl) (by kernel_rfl) (by kernel_rfl) (fun _ _ _ h => h) (Or.inl ⟨by kernel_rfl, ?_⟩) hS ?_
      rotate_left
      · (intro w' hSw; go_simp <;> with_reducible rfl)
      try simp only [Act.put, List.setIfInBounds_toArray, List.set_cons_zero, List.set_cons_succ]
      refine reg_take (i := 6) (v := ?_) rfl (by kernel_rfl) (by kernel_rfl) (by kernel_rfl) (fun _ _ _ h => h) (Or.inl ⟨by kernel_rfl, ?_⟩) hS ?_
      rotate_left
      · (intro w' hSw; go_simp <;> with_reducible rfl)
      try simp only [Act.put, List.setIfInBounds_toArray, List.set_cons_zero, List.set_cons_succ]
      refine reg_take (i := 7) (v := ?_) rfl (by kernel_rfl) (by kernel_rfl) (by kernel_rfl) (fun _ _ _ h => h) (Or.inl ⟨by kernel_rfl, ?_⟩) hS ?_
      rotate_left
      · (intro w' hSw; go_simp <;> with_reducible rfl)
      try simp only [Act.put, List.setIfInBounds_toArray, List.set_cons_zero, List.set_cons_succ]
      refine reg_take (i := 8) (v := ?_) rfl (by kernel_rfl) (by kernel_rfl) (by kernel_rfl) (fun _ _ _ h => h) (Or.inl ⟨by kernel_rfl, ?_⟩) hS ?_
      rotate_left
      · (intro w' hSw; go_simp <;> with_reducible rfl)
      try simp only [Act.put, List.setIfInBounds_toArray, List.set_cons_zero, List.set_cons_succ]
      refine reg_take (i := 9) (v := ?_) rfl (by kernel_rfl) (by kernel_rfl) (by kernel_rfl) (fun _ _ _ h => h) (Or.inl ⟨by kernel_rfl, ?_⟩) hS ?_
      rotate_left
      · (intro w' hSw; go_simp <;> with_reducible rfl)
      try simp only [Act.put, List.setIfInBounds_toArray, List.set_cons_zero, List.set_cons_succ]
      refine wpAnyH_done (by kernel_rfl) ?_ _
      clear hS hq6 hq7 q0
      go_wp2_with fail
      go_loopw [11] (fun i wr => ∃ k : Nat, k ≤ N ∧ i = .int .i64 k ∧ Rd wr r (fun k => w6.heap.size ≤ k ∧ k < r) (pack M) k M.length ∧ Keeps (fun _ => False) w wr)
        (fun i _ => N - (intOf i).toNat)
      case atStart => exact ⟨0, Nat.zero_le _, rfl, H7.out.1, H7.out.2.2.1⟩
      case round =>
        obtain ⟨k, hk, rfl, hrd, hkr⟩ := hrel
        have HR := Lib.hid (And.intro hrd hkr)
        clear hrd hkr
        by_cases hlt : k < N
        · go_wp2_with fail
          refine (get_any _ _ _ _ _ _ _ HR.out.1).mono ?_
          rintro e w8 ⟨rfl, hrd, hk8⟩
          obtain ⟨g1, g2, g3⟩ := get_one (pack M) k M.length (by omega)
          rw [g3] at hrd
          rw [g1, g2]
          have hK8 : Keeps (fun _ => False) w w8 := HR.out.2.trans hk8 (fun q hq e => by have := H7.out.2.1; omega)
          obtain ⟨b, off, ha0, -, hcell⟩ := (HA.out.2.2.keeps hK8 (fun _ _ h => h)) (show 0 < la by omega)
          obtain ⟨q, hq⟩ : ∃ q, q = k / 8 := ⟨_, rfl⟩
          obtain ⟨t, ht⟩ : ∃ t, t = k % 8 := ⟨_, rfl⟩
          obtain ⟨s, hs⟩ : ∃ s, s = 7 - t := ⟨_, rfl⟩
          obtain ⟨y, hy⟩ : ∃ y, y = ab.getD q 0 := ⟨_, rfl⟩
          have hyb : y < 256 := hy ▸ HA.out.2.1 q
          have hcb := hcell q (by omega)
          unfold byteC at hcb
          rw [← hy] at hcb
          obtain ⟨bv, hbv⟩ : ∃ bv, bv = bitOf (pack M) k := ⟨_, rfl⟩
          rw [← hbv]
          have hbe : bv = y / 2 ^ s % 2 := by
            rw [hbv, bitOf_pack H7.out.2.2.2, H5.out.2.2.2, getD_append_left _ _ _ (by rw [bitsTake_length]; exact hlt), bitsTake_getD _ _ _ hlt]
            unfold bitOf
            rw [← hq, ← hy, ← ht, ← hs]
          have e9 : IntKind.u64.wrap (bv : Int) = (bv : Int) := by
            have : bv < 2 := by rw [hbe]; exact Nat.mod_lt _ (by omega)
            rw [IntKind.wrap_u64]
            omega
          have e9b : bits .and .u8 ((y : Int) / 2 ^ s) 1 = (bv : Int) := by rw [and_one_u8 y s hyb, ← hbe]
          have f1 : (k : Int) / 8 = (q : Int) := by omega
          have f3 : (k : Int) % 8 = (t : Int) := by omega
          have f4 : 7 - (t : Int) = (s : Int) := by omega
          have f5 : IntKind.u64.wrap (s : Int) = (s : Int) := by rw [IntKind.wrap_u64]; omega
          have hs7 : s ≤ 7 := by omega
          have hql : q < la := by omega
          subst ha0
          have H8 := Lib.hid (And.intro hrd hK8)
          clear hrd hK8 hk8 hcell hq ht hs hy hbv hbe g1 g2 g3
          go_wp2_with fail
          go_roundw
          case rel => exact ⟨k + 1, by omega, by go_num, H8.out.1, H8.out.2⟩
          case measure => simp [intOf]; omega
        · obtain rfl : k = N := by omega
          obtain ⟨wo, rfl⟩ : ∃ wo : World, wo = wr := ⟨_, rfl⟩
          go_wp2_with fail
          go_loopw [14] (fun i wr => ∃ j : Nat, j ≤ lb ∧ i = .int .i64 j ∧ Rd wr r (fun k => w6.heap.size ≤ k ∧ k < r) (pack M) (k + 8 * j) M.length ∧ Keeps (fun _ => False) w wr)
            (fun i _ => lb - (intOf i).toNat)
          case atStart => exact ⟨0, Nat.zero_le _, rfl, HR.out.1, HR.out.2⟩
          case round =>
            clear HR
            obtain ⟨j, hj, rfl, hrd, hkr⟩ := hrel
            have HR := Lib.hid (And.intro hrd hkr)
            clear hrd hkr
            by_cases hltj : j < lb
            · go_wp2_with fail
              refine (get_any _ _ _ _ _ _ _ HR.out.1).mono ?_
              rintro e w8 ⟨rfl, hrd, hk8⟩
              have hK8 : Keeps (fun _ => False) w w8 := HR.out.2.trans hk8 (fun q hq e => by have := H7.out.2.1; omega)
              obtain ⟨b, off, ha2, -, hcell⟩ := (HB.out.2.2.keeps hK8 (fun _ _ h => h)) (show 0 < lb by omega)
              obtain ⟨y, hy⟩ : ∃ y, y = bs.getD j 0 := ⟨_, rfl⟩
              have hyb : y < 256 := hy ▸ HB.out.2.1 j
              have hcb := hcell j hltj
              unfold byteC at hcb
              rw [← hy] at hcb
              have g1 : getV (pack M) (k + 8 * j) M.length 8 = y := by
                unfold getV
                rw [if_pos ⟨by omega, by omega, by omega⟩]
                have := gets_congr (bs := pack M) (p := k + 8 * j) (u := y) (n := 8) (fun i hi => by
                  rw [bitOf_pack H7.out.2.2.2, H5.out.2.2.2]
                  have e1 := getD_append_right (bitsTake ab k) (bitsTake bs (8 * lb)) (8 * j + i)
                  rw [bitsTake_length, ← Nat.add_assoc] at e1
                  rw [e1, bitsTake_getD _ _ _ (by omega)]
                  unfold bitOf
                  rw [show (8 * j + i) / 8 = j by omega, show (8 * j + i) % 8 = i by omega, ← hy, show 8 - 1 - i = 7 - i by omega]) 8 (Nat.le_refl _)
                show gets (pack M) (k + 8 * j) 8 = y
                rw [this]
                simp
                omega
              have g2 : getE (k + 8 * j) M.length 8 = 0 := by unfold getE; rw [if_pos ⟨by omega, by omega⟩, if_pos (by omega)]
              have g3 : k + 8 * j + getN (k + 8 * j) M.length 8 = k + 8 * (j + 1) := by unfold getN; rw [if_pos ⟨by omega, by omega, by omega⟩]; show k + 8 * j + 8 = _; omega
              rw [g3] at hrd
              rw [g1, g2]
              have e9 : IntKind.u64.wrap (y : Int) = (y : Int) := by rw [IntKind.wrap_u64]; omega
              subst ha2
              have H8 := Lib.hid (And.intro hrd hK8)
              clear hrd hK8 hk8 hcell hy g1 g2 g3
              go_wp2_with fail
              go_roundw
              case rel => exact ⟨j + 1, by omega, by go_num, H8.out.1, H8.out.2⟩
              case measure => simp [intOf]; omega
            · obtain rfl : j = lb := by omega
              go_wp2_with fail
              refine (left_any _ _ _ _ _ _ HR.out.1).mono ?_
              rintro e w8 ⟨rfl, nn, rfl⟩
              have e0 : ((M.length : Nat) : Int) - ((k + 8 * j : Nat) : Int) = 0 := by omega
              rw [e0]
              go_wp2_with fail
              go_ret
              exact ⟨rfl, (HR.out.2.drewN _).to_below⟩
end Go.Proofs.Ytgphdigcilbnlaa
