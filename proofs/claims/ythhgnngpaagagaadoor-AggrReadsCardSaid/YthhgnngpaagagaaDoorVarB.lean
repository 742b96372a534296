/-
  The contracts of tidemillref03.Put, and of both packages' PutInt and PutText.
-/
import Derived.Test.YthhgnngpaagagaaDoorVar
import Derived.Test.YthhgnngpaagagaaDoorZig
import Derived.Lib.AppendStr
namespace Go.Proofs.YthhgnngpaagagaaDoor
open Go.RowKit
theorem range_bytes {bs : List Nat} {len : Nat} (hl : bs.length = len) : bs.map byteV = (List.range len).map (byteC bs) := by
  apply List.ext_getElem?
  intro j
  rw [List.getElem?_map, List.getElem?_map]
  rcases Nat.lt_or_ge j len with hj | hj
  · rw [List.getElem?_range hj, List.getElem?_eq_getElem (by omega)]
    unfold byteC byteV
    simp only [Option.map_some]
    rw [List.getD_eq_getElem?_getD, List.getElem?_eq_getElem (by omega)]
    rfl
  · rw [List.getElem?_eq_none (by omega), List.getElem?_eq_none (by simpa using hj)]; rfl
set_option maxRecDepth 100000 in
set_option maxHeartbeats 800000 in
theorem rvput_any (w : World) (A : Option Addr) (len c : Nat) (bs : List Nat) (u : Int) (hl : bs.length = len) (hsl : Sl w (fun k => k < w.heap.size) A len (byteC bs)) (hsm : len ≤ 1099511627776) (h0 : 0 ≤ u) (hu : u < 18446744073709551616) :
    Calls Tryd.prog 31 #[.slice A len c, .int .u64 u] w (VPutPost w (bs ++ vput u.toNat)) := by
  obtain ⟨u, rfl⟩ := Int.eq_ofNat_of_zero_le h0
  have HL := Lib.hid hl
  have HS := Lib.hid hsl
  have HU := Lib.hid (show u < 18446744073709551616 by omega)
  clear hsl hl hu h0
  go_enter Tryd.func31, Tryd.ntmps31
  go_wp2_with (at_builtin; refine wpList_append_sl (D := fun k => k < w.heap.size) (f := byteC bs) (base := w.heap.size) (n := 0) (xs := []) byteElem rfl (.tmp 6) (.tmp 7) rfl rfl rfl ?hown ?hsl ?h1 ?h63 ?hby ?hbase ?_)
  case hown => exact World.ownsRow_made w _ 0 (Nat.le_refl _) (by decide) (by simp)
  case hsl => exact HS.out.keep fun k _ hlt => Below.heap_alloc w _ k hlt
  case h1 => intro j _; rfl
  case h63 => simp only [maxLen]; omega
  case hby => omega
  case hbase => simp
  intro v1 w1 hown1 hg1 hat1
  have hb1 : Below w.heap.size w w1 := ((Below.refl _ w).alloc (Nat.le_refl _) _).grown hg1 (by simp) (fun k hk => by simp [Value.ownBlock] at hk; omega)
  have hown2 : w1.ownsRow w.heap.size 5 1 v1 bs.length (bs.map byteV) := by
    have e := range_bytes HL.out
    rw [e, HL.out]
    exact hown1
  have HO := Lib.hid hown2
  have HB := Lib.hid hb1
  clear hown1 hown2 hg1 hat1 hb1
  go_wp2_with fail
  go_loopw [1, 5] (fun s1 s5 wr => ∃ (x : Nat) (p : List Nat), s1 = .int .u64 x ∧ x ≤ u ∧ p ++ vput x = bs ++ vput u ∧ wr.ownsRow w.heap.size 5 1 s5 p.length (p.map byteV) ∧ Below w.heap.size w wr)
    (fun s1 _ _ => (intOf s1).toNat)
  case atStart => exact ⟨u, bs, rfl, Nat.le_refl _, rfl, HO.out, HB.out⟩
  case round =>
    obtain ⟨x, p, rfl, hxu, hp, hor, hbel⟩ := hrel
    have hplen : p.length ≤ len + 10 := by
      have h1 := congrArg List.length hp
      rw [List.length_append, List.length_append] at h1
      have h2 := vput_len10 HU.out
      have h3 := HL.out
      omega
    have HP := Lib.hid hp
    have HR := Lib.hid hor
    clear hp hor
    by_cases hx : x < 128
    · go_wp2_with (at_builtin; refine wpList_append_tl (f := fun _ => byteV x) (base := w.heap.size) (n := p.length) (xs := p.map byteV) byteElem rfl (.tmp 20) (.tmp 23) rfl rfl rfl ?h ?hm ?hc ?k1 ?k63 ?kby ?kbase ?_)
      case h => exact .inl (HR.out.alloc _)
      case hm => omega
      case hc => exact cell_one _ _ _
      case k1 => intro j _; rfl
      case k63 => unfold maxLen; omega
      case kby => omega
      case kbase => have := hbel.size; simp; omega
      intro v1 w1 hown1 hb1
      have HO1 := Lib.hid hown1
      have HB1 := Lib.hid hb1
      clear hown1 hb1
      go_wp2_with fail
      go_ret
      refine ⟨v1, rfl, ?_, (hbel.alloc hbel.size _).trans HB1.out⟩
      have e : bs ++ vput u = p ++ [x] := by rw [← HP.out, vput_small hx]
      show w1.ownsRow _ _ _ _ (bs ++ vput u).length ((bs ++ vput u).map byteV)
      rw [e, List.length_append, List.map_append]
      exact HO1.out
    · have hx0 : 128 ≤ x := by omega
      have e1 : ((x : Int) % 128 + 128) % 256 = ((x % 128 + 128 : Nat) : Int) := by omega
      have e3 : IntKind.u64.wrap ((x : Int) / 128) = (x : Int) / 128 := by
        have := HU.out
        rw [IntKind.wrap_u64]; omega
      go_wp2_with (at_builtin; refine wpList_append_tl (f := fun _ => byteV (x % 128 + 128)) (base := w.heap.size) (n := p.length) (xs := p.map byteV) byteElem rfl (.tmp 11) (.tmp 16) rfl rfl rfl ?g ?gm ?gc ?g1 ?g63 ?gby ?gbase ?_)
      case g => exact .inl (HR.out.alloc _)
      case gm => omega
      case gc => exact cell_one _ _ _
      case g1 => intro j _; rfl
      case g63 => unfold maxLen; omega
      case gby => omega
      case gbase => have := hbel.size; simp; omega
      intro v1 w1 hown1 hb1
      have HO1 := Lib.hid hown1
      have HB1 := Lib.hid hb1
      clear hown1 hb1 e1
      go_wp2_with fail
      go_roundw
      case rel =>
        refine ⟨x / 128, p ++ [x % 128 + 128], rfl, by omega, ?_, ?_, (hbel.alloc hbel.size _).trans HB1.out⟩
        · rw [← HP.out, vput_big hx, List.append_assoc]; rfl
        · rw [List.length_append, List.map_append]
          exact HO1.out
      case measure => simp [intOf]; omega

set_option maxRecDepth 100000 in
set_option maxHeartbeats 400000 in
theorem putInt_any (w : World) (A : Option Addr) (len c : Nat) (bs : List Nat) (n : Int) (hl : bs.length = len) (hsl : Sl w (fun k => k < w.heap.size) A len (byteC bs)) (hlc : len ≤ c) (hsm : len ≤ 1099511627776) (h0 : -9223372036854775808 ≤ n) (h1 : n ≤ 9223372036854775807) :
    Calls Tryd.prog 30 #[.slice A len c, .int .i64 n] w (VPutPost w (bs ++ vput (zig n))) := by
  have HZ := Lib.hid (And.intro h0 h1)
  have HS := Lib.hid (And.intro hl hsl)
  clear h0 h1 hl hsl
  go_enter Tryd.func30, Tryd.ntmps30
  go_wp2_with fail
  refine (zig_any _ _ HZ.out.1 HZ.out.2).mono ?_
  rintro e w' ⟨rfl, rfl⟩
  go_wp2_with fail
  refine (vput_any _ _ _ _ bs _ HS.out.1 HS.out.2 hlc hsm (by omega) (by have := zig_lt HZ.out.1 HZ.out.2; omega)).mono ?_
  rintro e w1 ⟨v1, rfl, hown1, hb1⟩
  go_wp2_with fail
  go_ret
  exact ⟨v1, rfl, hown1, hb1⟩
set_option maxRecDepth 100000 in
set_option maxHeartbeats 400000 in
theorem rputInt_any (w : World) (A : Option Addr) (len c : Nat) (bs : List Nat) (n : Int) (hl : bs.length = len) (hsl : Sl w (fun k => k < w.heap.size) A len (byteC bs)) (hsm : len ≤ 1099511627776) (h0 : -9223372036854775808 ≤ n) (h1 : n ≤ 9223372036854775807) :
    Calls Tryd.prog 33 #[.slice A len c, .int .i64 n] w (VPutPost w (bs ++ vput (zig n))) := by
  have HZ := Lib.hid (And.intro h0 h1)
  have HS := Lib.hid (And.intro hl hsl)
  clear h0 h1 hl hsl
  go_enter Tryd.func33, Tryd.ntmps33
  go_wp2_with fail
  refine (rzig_any _ _ HZ.out.1 HZ.out.2).mono ?_
  rintro e w' ⟨rfl, rfl⟩
  go_wp2_with fail
  refine (rvput_any _ _ _ _ bs _ HS.out.1 HS.out.2 hsm (by omega) (by have := zig_lt HZ.out.1 HZ.out.2; omega)).mono ?_
  rintro e w1 ⟨v1, rfl, hown1, hb1⟩
  go_wp2_with fail
  go_ret
  exact ⟨v1, rfl, hown1, hb1⟩
/-- A text's bytes. -/
def txt (s : ByteArray) : List Nat := s.data.toList.map UInt8.toNat
theorem txt_cells (s : ByteArray) : (txt s).map byteV = Lib.strCells s := by
  unfold txt Lib.strCells
  rw [List.map_map]; rfl
theorem txt_length (s : ByteArray) : (txt s).length = s.size := by unfold txt; simp
theorem txt_byte (s : ByteArray) : ∀ b ∈ txt s, b < 256 := by
  unfold txt
  intro b hb
  rw [List.mem_map] at hb
  obtain ⟨x, _, rfl⟩ := hb
  exact x.toNat_lt
end Go.Proofs.YthhgnngpaagagaaDoor
