/-
  Texts of this proof, joined: VarB, Conv, Lat, SgO, Pt, ColA, ColB, CrcPl, FrmA.
-/
import Derived.Test.YtopbbicjbjmdnaaJ01
import Derived.Lib.AppendStr
import Derived.Laws.BytesArg
import Derived.Test.YtopbbicjbjmdnaaRows
import Derived.WalkKit
import Derived.WalkSpells
import Derived.WalkLawsBesides
import Derived.Outline
import Derived.Deep.Cut
import Derived.Deep.QuietTactic
import Derived.BigQuiet
import Derived.Great.BuildSlice
import Derived.Below
import Derived.Laws.BitsAllLaws
import Derived.Laws.BitsLemmas
import Derived.Lib.Hide
namespace Go.Proofs.Ytopbbicjbjmdnaa.V
open Go.RowKit
theorem range_bytes {bs : List Nat} {len : Nat} (hl : bs.length = len) : bs.map byteV = (List.range len).map (byteC bs) := by
  apply List.ext_getElem?
  intro j
  rw [List.getElem?_map, List.getElem?_map]
  rcases Nat.lt_or_ge j len with hj | hj
  · rw [List.getElem?_range hj, List.getElem?_eq_getElem (by omega)]
    unfold byteC byteV
    simp only [Option.map_some]
    rw [List.getD_eq_getElem?_getD, List.getElem?_eq_getElem (by omega)]
    rfl
  · rw [List.getElem?_eq_none (by omega), List.getElem?_eq_none (by simpa using hj)]; rfl
set_option maxRecDepth 100000 in
set_option maxHeartbeats 800000 in
theorem rvput_any (w : World) (A : Option Addr) (len c : Nat) (bs : List Nat) (u : Int) (hl : bs.length = len) (hsl : Sl w (fun k => k < w.heap.size) A len (byteC bs)) (hsm : len ≤ 1099511627776) (h0 : 0 ≤ u) (hu : u < 18446744073709551616) :
    Calls Try.prog 19 #[.slice A len c, .int .u64 u] w (VPutPost w (bs ++ vput u.toNat)) := by
  obtain ⟨u, rfl⟩ := Int.eq_ofNat_of_zero_le h0
  have HL := Lib.hid hl
  have HS := Lib.hid hsl
  have HU := Lib.hid (show u < 18446744073709551616 by omega)
  clear hsl hl hu h0
  go_enter Try.func19, Try.ntmps19
  go_wp2_with (at_builtin; refine wpList_append_sl (D := fun k => k < w.heap.size) (f := byteC bs) (base := w.heap.size) (n := 0) (xs := []) byteElem rfl (.tmp 6) (.tmp 7) rfl rfl rfl ?hown ?hsl ?h1 ?h63 ?hby ?hbase ?_)
  case hown => exact World.ownsRow_made w _ 0 (Nat.le_refl _) (by decide) (by simp)
  case hsl => exact HS.out.keep fun k _ hlt => Below.heap_alloc w _ k hlt
  case h1 => intro j _; rfl
  case h63 => simp only [maxLen]; omega
  case hby => omega
  case hbase => simp
  intro v1 w1 hown1 hg1 hat1
  have hb1 : Below w.heap.size w w1 := ((Below.refl _ w).alloc (Nat.le_refl _) _).grown hg1 (by simp) (fun k hk => by simp [Value.ownBlock] at hk; omega)
  have hown2 : w1.ownsRow w.heap.size 5 1 v1 bs.length (bs.map byteV) := by
    have e := range_bytes HL.out
    rw [e, HL.out]
    exact hown1
  have HO := Lib.hid hown2
  have HB := Lib.hid hb1
  clear hown1 hown2 hg1 hat1 hb1
  go_wp2_with fail
  go_loopw [1, 5] (fun s1 s5 wr => ∃ (x : Nat) (p : List Nat), s1 = .int .u64 x ∧ x ≤ u ∧ p ++ vput x = bs ++ vput u ∧ wr.ownsRow w.heap.size 5 1 s5 p.length (p.map byteV) ∧ Below w.heap.size w wr)
    (fun s1 _ _ => (intOf s1).toNat)
  case atStart => exact ⟨u, bs, rfl, Nat.le_refl _, rfl, HO.out, HB.out⟩
  case round =>
    obtain ⟨x, p, rfl, hxu, hp, hor, hbel⟩ := hrel
    have hplen : p.length ≤ len + 10 := by
      have h1 := congrArg List.length hp
      rw [List.length_append, List.length_append] at h1
      have h2 := vput_len10 HU.out
      have h3 := HL.out
      omega
    have HP := Lib.hid hp
    have HR := Lib.hid hor
    clear hp hor
    by_cases hx : x < 128
    · go_wp2_with (at_builtin; refine wpList_append_tl (f := fun _ => byteV x) (base := w.heap.size) (n := p.length) (xs := p.map byteV) byteElem rfl (.tmp 20) (.tmp 23) rfl rfl rfl ?h ?hm ?hc ?k1 ?k63 ?kby ?kbase ?_)
      case h => exact .inl (HR.out.alloc _)
      case hm => omega
      case hc => exact cell_one _ _ _
      case k1 => intro j _; rfl
      case k63 => unfold maxLen; omega
      case kby => omega
      case kbase => have := hbel.size; simp; omega
      intro v1 w1 hown1 hb1
      have HO1 := Lib.hid hown1
      have HB1 := Lib.hid hb1
      clear hown1 hb1
      go_wp2_with fail
      go_ret
      refine ⟨v1, rfl, ?_, (hbel.alloc hbel.size _).trans HB1.out⟩
      have e : bs ++ vput u = p ++ [x] := by rw [← HP.out, vput_small hx]
      show w1.ownsRow _ _ _ _ (bs ++ vput u).length ((bs ++ vput u).map byteV)
      rw [e, List.length_append, List.map_append]
      exact HO1.out
    · have hx0 : 128 ≤ x := by omega
      have e1 : ((x : Int) % 128 + 128) % 256 = ((x % 128 + 128 : Nat) : Int) := by omega
      have e3 : IntKind.u64.wrap ((x : Int) / 128) = (x : Int) / 128 := by
        have := HU.out
        rw [IntKind.wrap_u64]; omega
      go_wp2_with (at_builtin; refine wpList_append_tl (f := fun _ => byteV (x % 128 + 128)) (base := w.heap.size) (n := p.length) (xs := p.map byteV) byteElem rfl (.tmp 11) (.tmp 16) rfl rfl rfl ?g ?gm ?gc ?g1 ?g63 ?gby ?gbase ?_)
      case g => exact .inl (HR.out.alloc _)
      case gm => omega
      case gc => exact cell_one _ _ _
      case g1 => intro j _; rfl
      case g63 => unfold maxLen; omega
      case gby => omega
      case gbase => have := hbel.size; simp; omega
      intro v1 w1 hown1 hb1
      have HO1 := Lib.hid hown1
      have HB1 := Lib.hid hb1
      clear hown1 hb1 e1
      go_wp2_with fail
      go_roundw
      case rel =>
        refine ⟨x / 128, p ++ [x % 128 + 128], rfl, by omega, ?_, ?_, (hbel.alloc hbel.size _).trans HB1.out⟩
        · rw [← HP.out, vput_big hx, List.append_assoc]; rfl
        · rw [List.length_append, List.map_append]
          exact HO1.out
      case measure => simp [intOf]; omega

set_option maxRecDepth 100000 in
set_option maxHeartbeats 400000 in
theorem putInt_any (w : World) (A : Option Addr) (len c : Nat) (bs : List Nat) (n : Int) (hl : bs.length = len) (hsl : Sl w (fun k => k < w.heap.size) A len (byteC bs)) (hlc : len ≤ c) (hsm : len ≤ 1099511627776) (h0 : -9223372036854775808 ≤ n) (h1 : n ≤ 9223372036854775807) :
    Calls Try.prog 14 #[.slice A len c, .int .i64 n] w (VPutPost w (bs ++ vput (zig n))) := by
  have HZ := Lib.hid (And.intro h0 h1)
  have HS := Lib.hid (And.intro hl hsl)
  clear h0 h1 hl hsl
  go_enter Try.func14, Try.ntmps14
  go_wp2_with fail
  refine (zig_any _ _ HZ.out.1 HZ.out.2).mono ?_
  rintro e w' ⟨rfl, rfl⟩
  go_wp2_with fail
  refine (vput_any _ _ _ _ bs _ HS.out.1 HS.out.2 hlc hsm (by omega) (by have := zig_lt HZ.out.1 HZ.out.2; omega)).mono ?_
  rintro e w1 ⟨v1, rfl, hown1, hb1⟩
  go_wp2_with fail
  go_ret
  exact ⟨v1, rfl, hown1, hb1⟩
set_option maxRecDepth 100000 in
set_option maxHeartbeats 400000 in
theorem rputInt_any (w : World) (A : Option Addr) (len c : Nat) (bs : List Nat) (n : Int) (hl : bs.length = len) (hsl : Sl w (fun k => k < w.heap.size) A len (byteC bs)) (hsm : len ≤ 1099511627776) (h0 : -9223372036854775808 ≤ n) (h1 : n ≤ 9223372036854775807) :
    Calls Try.prog 21 #[.slice A len c, .int .i64 n] w (VPutPost w (bs ++ vput (zig n))) := by
  have HZ := Lib.hid (And.intro h0 h1)
  have HS := Lib.hid (And.intro hl hsl)
  clear h0 h1 hl hsl
  go_enter Try.func21, Try.ntmps21
  go_wp2_with fail
  refine (rzig_any _ _ HZ.out.1 HZ.out.2).mono ?_
  rintro e w' ⟨rfl, rfl⟩
  go_wp2_with fail
  refine (rvput_any _ _ _ _ bs _ HS.out.1 HS.out.2 hsm (by omega) (by have := zig_lt HZ.out.1 HZ.out.2; omega)).mono ?_
  rintro e w1 ⟨v1, rfl, hown1, hb1⟩
  go_wp2_with fail
  go_ret
  exact ⟨v1, rfl, hown1, hb1⟩
/-- A text's bytes. -/
def txt (s : ByteArray) : List Nat := s.data.toList.map UInt8.toNat
theorem txt_cells (s : ByteArray) : (txt s).map byteV = Lib.strCells s := by
  unfold txt Lib.strCells
  rw [List.map_map]; rfl
theorem txt_length (s : ByteArray) : (txt s).length = s.size := by unfold txt; simp
theorem txt_byte (s : ByteArray) : ∀ b ∈ txt s, b < 256 := by
  unfold txt
  intro b hb
  rw [List.mem_map] at hb
  obtain ⟨x, _, rfl⟩ := hb
  exact x.toNat_lt
set_option maxRecDepth 100000 in
set_option maxHeartbeats 400000 in
theorem putText_any (w : World) (A : Option Addr) (len c : Nat) (bs : List Nat) (s : ByteArray) (hl : bs.length = len) (hsl : Sl w (fun k => k < w.heap.size) A len (byteC bs)) (hlc : len ≤ c) (hsm : len ≤ 1099511627776) (hs : s.size ≤ 1099511627776) :
    Calls Try.prog 27 #[.slice A len c, .string s] w (VPutPost w (bs ++ vput s.size ++ txt s)) := by
  obtain ⟨ht, -, i, hi, hz, hs1, hby⟩ := byteElem
  have HI := Lib.hid (And.intro hs1 hby)
  have HS := Lib.hid (And.intro hl hsl)
  clear hl hsl hs1 hby
  go_enter Try.func27, Try.ntmps27
  go_wp2_with fail
  refine (vput_any _ _ _ _ bs _ HS.out.1 HS.out.2 hlc hsm (by omega) (by omega)).mono ?_
  rintro e w1 ⟨v1, rfl, hown1, hb1⟩
  have hn1 : (bs ++ vput s.size).length ≤ len + 10 := by
    rw [List.length_append]
    have := vput_len10 (u := s.size) (by omega)
    have := HS.out.1
    omega
  have HO := Lib.hid (And.intro hown1 hb1)
  clear hown1 hb1
  go_wp2_with (refine Lib.wpList_append_own_string w1 rfl (.tmp 9) (.tmp 10) 24 9 rfl w.heap.size 5 i ht Try.underlying9 hi hz HI.out.1 HI.out.2 v1 (bs ++ vput s.size).length ((bs ++ vput s.size).map byteV) rfl HO.out.1 s rfl ?h63 ?hby2 ?hbase ?_)
  case h63 => unfold maxLen; omega
  case hby2 => omega
  case hbase => exact HO.out.2.size
  intro v2 w2 hown2 hg2 _
  have HO2 := Lib.hid (And.intro hown2 (HO.out.2.grown hg2 HO.out.2.size (fun k hk => (HO.out.1.lt k hk).1)))
  clear hown2 hg2
  go_wp2_with fail
  go_ret
  refine ⟨v2, rfl, ?_, HO2.out.2⟩
  have e5 : (bs ++ vput s.size ++ txt s).length = (bs ++ vput s.size).length + s.size := by rw [List.length_append, txt_length]
  have e6 : (bs ++ vput s.size ++ txt s).map byteV = (bs ++ vput s.size).map byteV ++ Lib.strCells s := by rw [List.map_append, txt_cells]
  rw [e5, e6, List.length_append, List.map_append, List.append_assoc]
  exact HO2.out.1
set_option maxRecDepth 100000 in
set_option maxHeartbeats 400000 in
theorem rputText_any (w : World) (A : Option Addr) (len c : Nat) (bs : List Nat) (s : ByteArray) (hl : bs.length = len) (hsl : Sl w (fun k => k < w.heap.size) A len (byteC bs)) (hsm : len ≤ 1099511627776) (hs : s.size ≤ 1099511627776) :
    Calls Try.prog 35 #[.slice A len c, .string s] w (VPutPost w (bs ++ vput s.size ++ txt s)) := by
  obtain ⟨ht, -, i, hi, hz, hs1, hby⟩ := byteElem
  have HI := Lib.hid (And.intro hs1 hby)
  have HS := Lib.hid (And.intro hl hsl)
  clear hl hsl hs1 hby
  go_enter Try.func35, Try.ntmps35
  go_wp2_with fail
  refine (rvput_any _ _ _ _ bs _ HS.out.1 HS.out.2 hsm (by omega) (by omega)).mono ?_
  rintro e w1 ⟨v1, rfl, hown1, hb1⟩
  have hn1 : (bs ++ vput s.size).length ≤ len + 10 := by
    rw [List.length_append]
    have := vput_len10 (u := s.size) (by omega)
    have := HS.out.1
    omega
  have HO := Lib.hid (And.intro hown1 hb1)
  clear hown1 hb1
  go_wp2_with (refine Lib.wpList_append_own_string w1 rfl (.tmp 9) (.tmp 10) 24 9 rfl w.heap.size 5 i ht Try.underlying9 hi hz HI.out.1 HI.out.2 v1 (bs ++ vput s.size).length ((bs ++ vput s.size).map byteV) rfl HO.out.1 s rfl ?h63 ?hby2 ?hbase ?_)
  case h63 => unfold maxLen; omega
  case hby2 => omega
  case hbase => exact HO.out.2.size
  intro v2 w2 hown2 hg2 _
  have HO2 := Lib.hid (And.intro hown2 (HO.out.2.grown hg2 HO.out.2.size (fun k hk => (HO.out.1.lt k hk).1)))
  clear hown2 hg2
  go_wp2_with fail
  go_ret
  refine ⟨v2, rfl, ?_, HO2.out.2⟩
  have e5 : (bs ++ vput s.size ++ txt s).length = (bs ++ vput s.size).length + s.size := by rw [List.length_append, txt_length]
  have e6 : (bs ++ vput s.size ++ txt s).map byteV = (bs ++ vput s.size).map byteV ++ Lib.strCells s := by rw [List.map_append, txt_cells]
  rw [e5, e6, List.length_append, List.map_append, List.append_assoc]
  exact HO2.out.1
end Go.Proofs.Ytopbbicjbjmdnaa.V
namespace Go.Proofs.Ytopbbicjbjmdnaa
open Go.RowKit
/-- The string of bytes. -/
def strB (bs : List Nat) : ByteArray := ⟨(bs.map fun b => UInt8.ofNat b).toArray⟩
theorem conv_sl {P : Program} {w : World} {D : Nat → Prop} {A : Option Addr} {len c : Nat} {bs : List Nat} (src e dst : TypeId) (hs : P.underlying src = some (.slice e)) (he : P.underlying e = some (.int .u8)) (hd : P.underlying dst = some .string)
    (hl : bs.length = len) (h : Sl w D A len (byteC bs)) : (convert src dst (.slice A len c)).run P w = .ok (.string (strB bs)) w := by
  rcases Nat.eq_zero_or_pos len with h0 | h0
  · subst h0
    obtain rfl : bs = [] := List.eq_nil_of_length_eq_zero hl
    rw [run_convert_bytes_string w src dst e _ 0 c hs he hd]
    cases A with
    | none => simp [Conv.bytesToString]; rfl
    | some a =>
      have := run_bytesToString (P := P) w a 0 c [] (run_loadCells_list (P := P) w a [] (fun j v hj => by simp at hj))
      exact this
  · obtain ⟨b, off, rfl, -, hc⟩ := h h0
    have := run_convert_bytes_arg (P := P) w src e hs he b off len c (bs.map fun b : Nat => (b : Int)) (by simpa using hl) (fun i hi => by
      rw [hc i hi]
      unfold byteC
      rw [List.getD_eq_getElem?_getD, List.getD_eq_getElem?_getD, List.getElem?_map, List.getElem?_eq_getElem (by omega)]
      rfl) dst hd
    rw [this]
    unfold strB strOfNums
    simp
theorem strB_inj {a b : List Nat} (ha : ∀ j, a.getD j 0 < 256) (hb : ∀ j, b.getD j 0 < 256) (h : strB a = strB b) : a = b := by
  unfold strB at h
  injection h with h
  have h2 : a.map (fun b => UInt8.ofNat b) = b.map (fun b => UInt8.ofNat b) := by simpa using h
  have hl : a.length = b.length := by simpa using congrArg List.length h2
  apply List.ext_getElem hl
  intro i h1 h3
  have h4 : (a.map (fun b => UInt8.ofNat b))[i]? = (b.map (fun b => UInt8.ofNat b))[i]? := by rw [h2]
  rw [List.getElem?_map, List.getElem?_map, List.getElem?_eq_getElem h1, List.getElem?_eq_getElem h3] at h4
  simp at h4
  have a1 := ha i
  have b1 := hb i
  rw [List.getD_eq_getElem?_getD, List.getElem?_eq_getElem h1] at a1
  rw [List.getD_eq_getElem?_getD, List.getElem?_eq_getElem h3] at b1
  have := congrArg UInt8.toNat h4
  simp at this a1 b1
  omega
theorem conv_own {P : Program} {w : World} {base : Nat} {A : Option Addr} {len c : Nat} {bs : List Nat} (src e dst : TypeId) (hs : P.underlying src = some (.slice e)) (he : P.underlying e = some (.int .u8)) (hd : P.underlying dst = some .string)
    (hl : bs.length = len) (h : w.ownsRow base e 1 (.slice A len c) len (bs.map fun b : Nat => Value.int .u8 (b : Int))) : (convert src dst (.slice A len c)).run P w = .ok (.string (strB bs)) w := by
  refine conv_sl src e dst hs he hd hl (Sl.of_own h ?_)
  intro j u hu
  rw [List.getElem?_map] at hu
  cases hb : bs[j]? with
  | none => rw [hb] at hu; cases hu
  | some b =>
    rw [hb] at hu
    simp at hu
    unfold byteC
    rw [List.getD_eq_getElem?_getD, hb, ← hu]
    rfl
end Go.Proofs.Ytopbbicjbjmdnaa
namespace Go.Proofs.Ytopbbicjbjmdnaa.V
open Go.RowKit
theorem sl_later {w w' : World} {A : Option Addr} {n : Nat} {f : Nat → Value} (h : Sl w (fun k => k < w.heap.size) A n f) (hb : Below w.heap.size w w') : Sl w' (fun k => k < w'.heap.size) A n f :=
  (h.below hb (fun _ hk _ => hk)).mono (fun _ hk => Nat.lt_of_lt_of_le hk hb.size)
theorem own_later {w w' : World} {base : Nat} {e : TypeId} {v : Value} {n : Nat} {xs : List Value} (h : w.ownsRow base e 1 v n xs) (hb : Below w.heap.size w w') : w'.ownsRow base e 1 v n xs :=
  own_keeps (S := fun _ => False) h (Keeps.of_below hb) (fun _ _ h => h)
theorem below_join {w w1 w2 : World} (h : Below w.heap.size w w1) (k : Below w1.heap.size w1 w2) : Below w.heap.size w w2 := h.trans (k.mono h.size)
theorem wrap_u64_range (n : Int) : 0 ≤ IntKind.u64.wrap n ∧ IntKind.u64.wrap n < 18446744073709551616 := by rw [IntKind.wrap_u64]; omega
/-- A row of the call's own as a slice. -/
theorem ow_sl {w : World} {base : Nat} {A : Option Addr} {n c : Nat} {bs : List Nat} (h : w.ownsRow base 5 1 (.slice A n c) n (bs.map byteV)) : Sl w (fun k => k < w.heap.size) A n (byteC bs) := by
  have h1 : Sl w (fun k => (Value.slice A n c).ownBlock = some k) A n (byteC bs) := by
    refine Sl.of_own h ?_
    intro j u hu
    rw [List.getElem?_map] at hu
    cases hb : bs[j]? with
    | none => rw [hb] at hu; cases hu
    | some b =>
      rw [hb] at hu
      simp at hu
      unfold byteC
      rw [List.getD_eq_getElem?_getD, hb, ← hu]
      rfl
  refine h1.mono fun k hk => ?_
  exact (h.lt k hk).2
theorem own_cap {w : World} {base : Nat} {e : TypeId} {size n m c : Nat} {A : Option Addr} {xs : List Value} (h : w.ownsRow base e size (.slice A n c) m xs) : n ≤ c ∧ c ≤ 9223372036854775807 := by
  rcases h.2 with ⟨h1, _⟩ | ⟨g, cap, cur, h1, _, _, h2, h3, _⟩
  · injection h1 with _ h1 h2; omega
  · injection h1 with _ h4 h5; subst h4 h5; unfold maxLen at h3; omega
theorem own_len {w : World} {base : Nat} {e : TypeId} {v : Value} {n : Nat} {xs : List Value} {A : Option Addr} {m c : Nat} (h : w.ownsRow base e 1 v n xs) (hv : v = .slice A m c) : m = n := by
  obtain ⟨A', c', e', _⟩ := own_form h
  rw [hv] at e'
  injection e'
theorem lat_lit0 (w : World) (base : Nat) (e : TypeId) (hb : base ≤ w.heap.size) : (w.alloc (.cells #[] e)).ownsRow base e 1 (.slice (some ⟨w.heap.size, 0, none⟩) 0 0) 0 [] :=
  World.ownsRow_made w #[] 0 hb (by unfold maxLen; omega) rfl
theorem lat_grown {w0 w w' : World} {e : TypeId} {n : Nat} {v : Value} {xs : List Value} (hk : Below w0.heap.size w0 w) (ho : w.ownsRow w0.heap.size e 1 v n xs) (hg : w.grownBy w' v.ownBlock) : Below w0.heap.size w0 w' :=
  hk.grown hg hk.size (fun k hk' => (ho.lt k hk').1)
theorem lat_text (s : ByteArray) : strB (txt s) = s := by
  unfold strB txt
  rw [List.map_map]
  have : (s.data.toList.map ((fun b => UInt8.ofNat b) ∘ UInt8.toNat)) = s.data.toList := by
    conv => rhs; rw [← List.map_id s.data.toList]
    apply List.map_congr_left
    intro x _
    simp
  rw [this]
/-- A block of bytes as a slice. -/
theorem blk_sl {w : World} {g : Nat} {t : TypeId} {bs : List Nat} (h : Blk w g t (bs.map byteV).toArray) : Sl w (fun k => k < w.heap.size) (some ⟨g, 0, none⟩) bs.length (byteC bs) := fun _ => by
  refine ⟨g, 0, rfl, h.lt, fun j hj => ?_⟩
  rw [h.cell (0 + j), Nat.zero_add]
  simp only [List.getElem?_toArray, List.getElem?_map, List.getElem?_eq_getElem hj]
  unfold byteC byteV
  rw [List.getD_eq_getElem?_getD, List.getElem?_eq_getElem hj]
  rfl
theorem getD_take_lt {l : List Nat} (h : ∀ j, l.getD j 0 < 256) (m : Nat) : ∀ j, (l.take m).getD j 0 < 256 := fun j => by
  rw [List.getD_eq_getElem?_getD, List.getElem?_take]
  have := h j
  rw [List.getD_eq_getElem?_getD] at this
  split
  · exact this
  · simp
theorem getD_drop_lt {l : List Nat} (h : ∀ j, l.getD j 0 < 256) (m : Nat) : ∀ j, (l.drop m).getD j 0 < 256 := fun j => by
  rw [List.getD_eq_getElem?_getD, List.getElem?_drop]
  have := h (m + j)
  rw [List.getD_eq_getElem?_getD] at this
  exact this
theorem getD_app_lt {l m : List Nat} (h : ∀ j, l.getD j 0 < 256) (h' : ∀ j, m.getD j 0 < 256) : ∀ j, (l ++ m).getD j 0 < 256 := fun j => by
  rw [List.getD_eq_getElem?_getD, List.getElem?_append]
  have h1 := h j
  have h2 := h' (j - l.length)
  rw [List.getD_eq_getElem?_getD] at h1 h2
  split
  · exact h1
  · exact h2
theorem getD_all_lt {l : List Nat} (h : ∀ b ∈ l, b < 256) : ∀ j, l.getD j 0 < 256 := fun j => by
  rw [List.getD_eq_getElem?_getD]
  cases hj : l[j]? with
  | none => simp
  | some b => simpa using h b (List.mem_of_getElem? hj)
theorem sl_take_list {w : World} {D : Nat → Prop} {A : Option Addr} {n m : Nat} {bs : List Nat} (h : Sl w D A n (byteC bs)) (hm : m ≤ n) : Sl w D A m (byteC (bs.take m)) := by
  refine (h.take hm).congr fun j hj => ?_
  unfold byteC
  rw [List.getD_eq_getElem?_getD, List.getD_eq_getElem?_getD, List.getElem?_take_of_lt hj]
theorem sl_drop_list {w : World} {D : Nat → Prop} {b off n m : Nat} {bs : List Nat} (h : Sl w D (some ⟨b, off, none⟩) n (byteC bs)) (hm : m ≤ n) : Sl w D (some ⟨b, off + m, none⟩) (n - m) (byteC (bs.drop m)) := fun hn => by
  obtain ⟨b', off', e, hD, hc⟩ := h (by omega)
  simp only [Option.some.injEq, Addr.mk.injEq] at e
  obtain ⟨rfl, rfl, -⟩ := e
  refine ⟨b, _, rfl, hD, fun j hj => ?_⟩
  have := hc (m + j) (by omega)
  rw [show off + (m + j) = off + m + j by omega] at this
  rw [this]
  unfold byteC
  rw [List.getD_eq_getElem?_getD, List.getD_eq_getElem?_getD, List.getElem?_drop]
/-- 'b[n:]' of bytes, whatever room is behind. -/
theorem slice_from {P : Program} (t e : TypeId) (ht : P.underlying t = some (.slice e)) (hs : ∀ w : World, (sizeOf e).run P w = .ok 1 w) (A : Option Addr) (len c n : Nat) (hn : n ≤ len) (hlc : len ≤ c) :
    ∃ A', (∀ w : World, (Instr.slice t (.slice A len c) (some (.int .i64 (n : Nat))) none none).run P w = .ok (.slice A' (len - n) (c - n)) w) ∧
      (∀ (w : World) (D : Nat → Prop) (l : List Nat), Sl w D A len (byteC l) → Sl w D A' (len - n) (byteC (l.drop n))) := by
  have he : P.elem t = e := by simp [Program.elem, ht]
  have ht' : P.underlying t = some (.slice (P.elem t)) := by rw [he]; exact ht
  refine ⟨if c = n then A else A.map (·.add (n * 1)), fun w => ?_, fun w D l h => ?_⟩
  · rw [run_slice_l w t A len c ht' .i64 (n : Nat) (by omega) (by omega), he, hs]
    simp [Result.andThen, sliced]
  · intro hlt
    rw [if_neg (by omega)]
    obtain ⟨b, off, rfl, -, -⟩ := h (by omega)
    have := sl_drop_list h hn hlt
    rw [show (some (⟨b, off, none⟩ : Addr)).map (·.add (n * 1)) = some ⟨b, off + n, none⟩ by simp [Addr.add]]
    exact this
end Go.Proofs.Ytopbbicjbjmdnaa.V
namespace Go.Proofs.Ytopbbicjbjmdnaa
open Go.RowKit Go.Maps
set_option maxRecDepth 100000
set_option linter.unusedVariables false
set_option linter.unusedSimpArgs false
/-- k names as bytes. -/
def namesB (nm : Nat → ByteArray) (n : Nat) : Nat → List Nat
  | 0 => V.vput n
  | k + 1 => namesB nm n k ++ V.vput (nm k).size ++ V.txt (nm k)
theorem namesB_len (nm : Nat → ByteArray) (n : Nat) (hn : n < 18446744073709551616) : ∀ k, (∀ j, j < k → (nm j).size ≤ 1048576) → (namesB nm n k).length ≤ 10 + k * 1048586
  | 0, _ => by show (V.vput n).length ≤ _; have := V.vput_len10 hn; omega
  | k + 1, h => by
    have ih := namesB_len nm n hn k (fun j hj => h j (by omega))
    have h1 := h k (by omega)
    have h2 := V.vput_len10 (u := (nm k).size) (by omega)
    show (namesB nm n k ++ V.vput (nm k).size ++ V.txt (nm k)).length ≤ _
    rw [List.length_append, List.length_append, V.txt_length]
    omega
set_option maxHeartbeats 4000000 in
theorem dBytes_any (w0 w : World) (L : List (Nat × TypeId × Array Value)) (d m k : Nat) (nm : Nat → ByteArray) (h : DictS w0 L d m k nm w) (hk : k ≤ 1024) (hap : Apart nm k) (hn : ∀ j, j < k → (nm j).size ≤ 1048576) :
    Calls Try.prog 9 #[.pointer (some ⟨d, 0, none⟩)] w (V.VPutPost w (namesB nm k k)) := by
  have hz := Dn_size nm k hap
  have H0 := Lib.hid (And.intro h hap)
  have HN := Lib.hid hn
  clear h hap hn
  go_enter Try.func9, Try.ntmps9
  go_wp2_with fail
  refine (dnone_any _ d m (H0.out.1.own.cell 0 0 rfl rfl)).mono ?_
  rintro e w1 ⟨rfl, hb⟩
  have H1 := Lib.hid (And.intro (H0.out.1.call hb) hb)
  clear hb
  have hc := H1.out.1.own.cell 0 0 rfl rfl
  have hown : World.ownsMap w1 Try.prog 9 (plainElem (H := Unit) Try.prog 3) m k (Dn nm k) := H1.out.1.map
  have ku : IntKind.u64.wrap (k : Int) = (k : Int) := by rw [IntKind.wrap_u64]; omega
  go_wp2_with (at_len; refine wpList_len_own _ rfl _ 60 rfl 9 3 Try.underlying60 _ m k _ rfl hown ?_; rw [hz])
  refine (V.vput_any _ none 0 0 [] (k : Int) rfl (Sl.nil _ _ _ _) (by omega) (by omega) (by omega) (by omega)).mono ?_
  rintro e w2 ⟨v, rfl, ho, hb⟩
  rw [Int.toNat_natCast, List.nil_append] at ho
  have H2 := Lib.hid (And.intro (H1.out.1.call hb) (And.intro (own_base ho H1.out.2.size) (H1.out.2.trans (hb.mono H1.out.2.size))))
  clear ho hb hc hown ku
  go_wp2_with fail
  refine (dNames_any w0 _ L d m k nm H2.out.1 hk H0.out.2).mono ?_
  rintro e w3 ⟨o, cs, rfl, hwo, hblk, hsz, hcs, hb⟩
  have HP := Lib.hid (And.intro (V.own_later H2.out.2.1 hb) (H2.out.2.2.trans (hb.mono H2.out.2.2.size)))
  have HC := Lib.hid (And.intro hblk hcs)
  clear hb hblk hcs
  go_wp2_with fail
  go_loopw [3, 18] (fun s3 i wr => ∃ (j : Nat) (p : List Nat), j ≤ k ∧ i = .int .i64 (j : Nat) ∧ p = namesB nm k j ∧ wr.ownsRow w.heap.size 5 1 s3 p.length (p.map V.byteV) ∧ Below w3.heap.size w3 wr ∧ Below w.heap.size w wr) (fun _ i _ => k - (intOf i).toNat)
  case atStart => exact ⟨0, namesB nm k 0, by omega, rfl, rfl, HP.out.1, (Below.refl _ _), HP.out.2⟩
  case round =>
    obtain ⟨j, p, hj, rfl, hp, ho, hb, hbel⟩ := hrel
    by_cases hlt : j < k
    · have hlen := namesB_len nm k (by omega) j (fun i hi => HN.out i (by omega))
      rw [← hp] at hlen
      have hkk : j * 1048586 ≤ 1024 * 1048586 := Nat.mul_le_mul_right _ (by omega)
      obtain ⟨n4, hn4⟩ : ∃ n, n = p.length := ⟨_, rfl⟩
      rw [← hn4] at ho hlen
      obtain ⟨A4, c4, hv4, hc4, -⟩ := own_form ho
      subst hv4
      skip
      obtain ⟨s, hs⟩ : ∃ s, s = nm j := ⟨_, rfl⟩
      have zc : wr.cell? ⟨o, j, none⟩ = some (.string s) := by rw [hs]; exact ((HC.out.1.below hb HC.out.1.lt).cell j).trans (HC.out.2 j hlt)
      have hss : s.size ≤ 1048576 := by rw [hs]; exact HN.out j hlt
      have hjk : (j : Int) < (k : Int) := by omega
      have hn4b : n4 ≤ 1099511627776 := by omega
      have HX := Lib.hid (And.intro hp (And.intro hn4.symm (And.intro (V.ow_sl ho) (And.intro hb (And.intro hbel (And.intro hs ho))))))
      clear hp hn4 hb hbel hs ho hlen hkk
      go_wp2_with fail
      refine (V.putText_any _ A4 n4 c4 p s HX.out.2.1 HX.out.2.2.1 hc4 (by omega) (by omega)).mono ?_
      rintro e w5 ⟨v, rfl, ho, hb⟩
      have e4 : p ++ V.vput s.size ++ V.txt s = namesB nm k (j + 1) := by rw [HX.out.1, HX.out.2.2.2.2.2.1]; rfl
      have H5 := Lib.hid (And.intro (own_base ho HX.out.2.2.2.2.1.size) (And.intro (HX.out.2.2.2.1.trans (hb.mono HX.out.2.2.2.1.size)) (And.intro (HX.out.2.2.2.2.1.trans (hb.mono HX.out.2.2.2.2.1.size)) e4)))
      clear ho hb e4 zc hss hjk
      go_wp2_with fail
      go_roundw
      case rel => exact ⟨j + 1, _, by omega, by go_num, H5.out.2.2.2, H5.out.1, H5.out.2.1, H5.out.2.2.1⟩
      case measure => simp [intOf] <;> omega
    · obtain rfl : j = k := by omega
      have HF := Lib.hid (And.intro hp (And.intro ho hbel))
      clear hp ho hbel hb
      go_wp2_with fail
      go_ret
      refine ⟨_, rfl, ?_, HF.out.2.2⟩
      rw [← HF.out.1]
      exact HF.out.2.1
/-- k names stand in a row. -/
def StrAt (w : World) (A : Option Addr) (k : Nat) (nm : Nat → ByteArray) : Prop := 0 < k → ∃ b off, A = some ⟨b, off, none⟩ ∧ b < w.heap.size ∧ ∀ j, j < k → w.cell? ⟨b, off + j, none⟩ = some (.string (nm j))
theorem StrAt.below {w w' : World} {A : Option Addr} {k : Nat} {nm : Nat → ByteArray} (h : StrAt w A k nm) (hb : Below w.heap.size w w') : StrAt w' A k nm := fun hk => by
  obtain ⟨b, off, e, hlt, hc⟩ := h hk
  exact ⟨b, off, e, Nat.lt_of_lt_of_le hlt hb.size, fun j hj => (hb.cell (by exact hlt)).trans (hc j hj)⟩
set_option maxHeartbeats 4000000 in
theorem rBytes_any (w : World) (A : Option Addr) (k c : Nat) (nm : Nat → ByteArray) (h : StrAt w A k nm) (hk : k ≤ 1024) (hn : ∀ j, j < k → (nm j).size ≤ 1048576) :
    Calls Try.prog 18 #[.slice A k c] w (V.VPutPost w (namesB nm k k)) := by
  have HN := Lib.hid hn
  have HC := Lib.hid h
  clear h hn
  have ku : IntKind.u64.wrap (k : Int) = (k : Int) := by rw [IntKind.wrap_u64]; omega
  go_enter Try.func18, Try.ntmps18
  go_wp2_with fail
  refine (V.rvput_any _ none 0 0 [] (k : Int) rfl (Sl.nil _ _ _ _) (by omega) (by omega) (by omega)).mono ?_
  rintro e w3 ⟨v, rfl, ho, hb⟩
  rw [Int.toNat_natCast, List.nil_append] at ho
  have HP := Lib.hid (And.intro ho hb)
  clear ho hb ku
  go_wp2_with fail
  go_loopw [3, 4] (fun s3 i wr => ∃ (j : Nat) (p : List Nat), j ≤ k ∧ i = .int .i64 (j : Nat) ∧ p = namesB nm k j ∧ wr.ownsRow w.heap.size 5 1 s3 p.length (p.map V.byteV) ∧ Below w.heap.size w wr ∧ Below w.heap.size w wr) (fun _ i _ => k - (intOf i).toNat)
  case atStart => exact ⟨0, namesB nm k 0, by omega, rfl, rfl, HP.out.1, HP.out.2, HP.out.2⟩
  case round =>
    obtain ⟨j, p, hj, rfl, hp, ho, hb, hbel⟩ := hrel
    by_cases hlt : j < k
    · have hlen := namesB_len nm k (by omega) j (fun i hi => HN.out i (by omega))
      rw [← hp] at hlen
      have hkk : j * 1048586 ≤ 1024 * 1048586 := Nat.mul_le_mul_right _ (by omega)
      obtain ⟨n4, hn4⟩ : ∃ n, n = p.length := ⟨_, rfl⟩
      rw [← hn4] at ho hlen
      obtain ⟨A4, c4, hv4, hc4, -⟩ := own_form ho
      subst hv4
      obtain ⟨b, off, rfl, hbl, hcell⟩ := HC.out (by omega)
      obtain ⟨s, hs⟩ : ∃ s, s = nm j := ⟨_, rfl⟩
      have zc : wr.cell? ⟨b, off + j, none⟩ = some (.string s) := by rw [hs]; exact (hb.cell (by exact hbl)).trans (hcell j hlt)
      have hss : s.size ≤ 1048576 := by rw [hs]; exact HN.out j hlt
      have hjk : (j : Int) < (k : Int) := by omega
      have hn4b : n4 ≤ 1099511627776 := by omega
      have HX := Lib.hid (And.intro hp (And.intro hn4.symm (And.intro (V.ow_sl ho) (And.intro hb (And.intro hbel (And.intro hs ho))))))
      clear hp hn4 hb hbel hs ho hlen hkk
      go_wp2_with fail
      refine (V.rputText_any _ A4 n4 c4 p s HX.out.2.1 HX.out.2.2.1  (by omega) (by omega)).mono ?_
      rintro e w5 ⟨v, rfl, ho, hb⟩
      have e4 : p ++ V.vput s.size ++ V.txt s = namesB nm k (j + 1) := by rw [HX.out.1, HX.out.2.2.2.2.2.1]; rfl
      have H5 := Lib.hid (And.intro (own_base ho HX.out.2.2.2.2.1.size) (And.intro (HX.out.2.2.2.1.trans (hb.mono HX.out.2.2.2.1.size)) (And.intro (HX.out.2.2.2.2.1.trans (hb.mono HX.out.2.2.2.2.1.size)) e4)))
      clear ho hb e4 zc hss hjk
      go_wp2_with fail
      go_roundw
      case rel => exact ⟨j + 1, _, by omega, by go_num, H5.out.2.2.2, H5.out.1, H5.out.2.1, H5.out.2.2.1⟩
      case measure => simp [intOf] <;> omega
    · obtain rfl : j = k := by omega
      have HF := Lib.hid (And.intro hp (And.intro ho hbel))
      clear hp ho hbel hb
      go_wp2_with fail
      go_ret
      refine ⟨_, rfl, ?_, HF.out.2.2⟩
      rw [← HF.out.1]
      exact HF.out.2.1
end Go.Proofs.Ytopbbicjbjmdnaa
namespace Go.Proofs.Ytopbbicjbjmdnaa
open Go.RowKit
/-- A point. -/
structure Pt where
  t : Int
  v : Int
  s : Int
deriving DecidableEq
def I64 (x : Int) : Prop := -9223372036854775808 ≤ x ∧ x ≤ 9223372036854775807
structure PtOk (p : Pt) : Prop where
  t : I64 p.t
  v : I64 p.v
  s : I64 p.s
/-- A slice of n points that lie in a block of D: point j is f j. -/
def SlP (w : World) (D : Nat → Prop) (A : Option Addr) (n : Nat) (f : Nat → Pt) : Prop :=
  0 < n → ∃ b off, A = some ⟨b, off, none⟩ ∧ D b ∧ ∀ j, j < n → w.cell? ⟨b, off + j * 3, none⟩ = some (.int .i64 (f j).t) ∧ w.cell? ⟨b, off + j * 3 + 1, none⟩ = some (.int .i64 (f j).v) ∧ w.cell? ⟨b, off + j * 3 + 2, none⟩ = some (.int .i64 (f j).s)
namespace SlP
variable {w w' : World} {D E : Nat → Prop} {A : Option Addr} {n m : Nat} {f g : Nat → Pt}
theorem nil (w : World) (D : Nat → Prop) (A : Option Addr) (f : Nat → Pt) : SlP w D A 0 f := fun h => absurd h (by omega)
theorem keep (h : SlP w D A n f) (hk : ∀ k, D k → k < w.heap.size → w'.heap[k]? = w.heap[k]?) : SlP w' D A n f := fun hn => by
  obtain ⟨b, off, e, hd, hc⟩ := h hn
  have hlt : b < w.heap.size := World.block_lt_of_cell? w _ (hc 0 hn).1
  refine ⟨b, off, e, hd, fun j hj => ?_⟩
  obtain ⟨h1, h2, h3⟩ := hc j hj
  exact ⟨(World.cell?_of_block (w := w) (a := ⟨b, _, none⟩) (hk b hd hlt)).trans h1, (World.cell?_of_block (w := w) (a := ⟨b, _, none⟩) (hk b hd hlt)).trans h2, (World.cell?_of_block (w := w) (a := ⟨b, _, none⟩) (hk b hd hlt)).trans h3⟩
theorem below (h : SlP w D A n f) (hk : Below w.heap.size w w') : SlP w' D A n f := h.keep fun k _ hlt => hk.block k hlt
theorem keeps (h : SlP w D A n f) (hk : Keeps (fun _ => False) w w') : SlP w' D A n f := h.keep fun k _ hlt => hk.block k hlt (fun h => h)
theorem mono (h : SlP w D A n f) (hd : ∀ k, D k → E k) : SlP w E A n f := fun hn => by
  obtain ⟨b, off, e, hD, hc⟩ := h hn
  exact ⟨b, off, e, hd b hD, hc⟩
theorem take (h : SlP w D A n f) (hm : m ≤ n) : SlP w D A m f := fun hn => by
  obtain ⟨b, off, e, hD, hc⟩ := h (by omega)
  exact ⟨b, off, e, hD, fun j hj => hc j (by omega)⟩
theorem congr (h : SlP w D A n f) (hf : ∀ j, j < n → f j = g j) : SlP w D A n g := fun hn => by
  obtain ⟨b, off, e, hD, hc⟩ := h hn
  exact ⟨b, off, e, hD, fun j hj => by rw [← hf j hj]; exact hc j hj⟩
theorem drop {b off : Nat} (h : SlP w D (some ⟨b, off, none⟩) (m + n) f) : SlP w D (some ⟨b, off + m * 3, none⟩) n (fun j => f (m + j)) := fun hn => by
  obtain ⟨b', off', e, hD, hc⟩ := h (by omega)
  simp only [Option.some.injEq, Addr.mk.injEq] at e
  obtain ⟨rfl, rfl, -⟩ := e
  refine ⟨b, _, rfl, hD, fun j hj => ?_⟩
  have := hc (m + j) (by omega)
  rw [show off + (m + j) * 3 = off + m * 3 + j * 3 by omega] at this
  exact this
end SlP
end Go.Proofs.Ytopbbicjbjmdnaa
namespace Go.Proofs.Ytopbbicjbjmdnaa
open Go.RowKit
set_option linter.unusedVariables false
set_option linter.unusedSimpArgs false
/-- The last time ahead of point k. -/
def colT (f : Nat → Pt) : Nat → Int
  | 0 => -1152921504606846977
  | k + 1 => (f k).t
def colOk (f : Nat → Pt) (k : Nat) : Bool := decide (colT f k < (f k).t) && (decide ((f k).t ≤ 1152921504606846976) && (decide (0 ≤ (f k).s) && decide ((f k).s ≤ 1152921504606846976)))
def colAll (f : Nat → Pt) : Nat → Bool
  | 0 => true
  | k + 1 => colAll f k && colOk f k
def colV (f : Nat → Pt) (n : Nat) : Bool := colAll f n && (decide (0 < n) && decide (n ≤ 4096))
theorem colOk_iff (f : Nat → Pt) (k : Nat) : colOk f k = true ↔ colT f k < (f k).t ∧ (f k).t ≤ 1152921504606846976 ∧ 0 ≤ (f k).s ∧ (f k).s ≤ 1152921504606846976 := by
  unfold colOk; simp only [Bool.and_eq_true, decide_eq_true_eq]
theorem colAll_not {f : Nat → Pt} {k : Nat} (h : colOk f k = false) : ∀ n, k < n → colAll f n = false
  | 0, hk => by omega
  | n + 1, hk => by
    show (colAll f n && colOk f n) = false
    rcases Nat.lt_or_ge k n with h1 | h1
    · rw [colAll_not h n h1]; rfl
    · rw [show n = k by omega, h]; simp
theorem colAll_at {f : Nat → Pt} : ∀ n, colAll f n = true → ∀ k, k < n → colOk f k = true
  | 0, _, k, hk => by omega
  | n + 1, h, k, hk => by
    have h' : (colAll f n && colOk f n) = true := h
    rw [Bool.and_eq_true] at h'
    rcases Nat.lt_or_ge k n with h1 | h1
    · exact colAll_at n h'.1 k h1
    · rw [show k = n by omega]; exact h'.2
theorem colAll_congr {f g : Nat → Pt} : ∀ n, (∀ j, j < n → f j = g j) → colAll f n = colAll g n
  | 0, _ => rfl
  | n + 1, h => by
    show (colAll f n && colOk f n) = (colAll g n && colOk g n)
    rw [colAll_congr n (fun j hj => h j (by omega))]
    have e : colOk f n = colOk g n := by
      have e1 : colT f n = colT g n := by
        cases n with
        | zero => rfl
        | succ n => show (f n).t = (g n).t; rw [h n (by omega)]
      unfold colOk; rw [e1, h n (by omega)]
    rw [e]
theorem colV_congr {f g : Nat → Pt} (n : Nat) (h : ∀ j, j < n → f j = g j) : colV f n = colV g n := by unfold colV; rw [colAll_congr n h]
theorem colV_spec {f : Nat → Pt} {n : Nat} (h : colV f n = true) : colAll f n = true ∧ 0 < n ∧ n ≤ 4096 := by
  unfold colV at h
  simp only [Bool.and_eq_true, decide_eq_true_eq] at h
  exact ⟨h.1, h.2.1, h.2.2⟩
def BoolPost (b : Bool) (w : World) (e : Ending) (w' : World) : Prop := e = .returned (.bool b) ∧ Below w.heap.size w w'
set_option maxRecDepth 100000 in
set_option maxHeartbeats 4000000 in
theorem cvalid_any (A : Option Addr) (n c : Nat) (f : Nat → Pt) (D : Nat → Prop) (w : World) (hsl : SlP w D A n f) (hn : n ≤ 9223372036854775807) :
    Calls Try.prog 28 #[.slice A n c] w (BoolPost (colV f n) w) := by
  have HO := Lib.hid hsl
  clear hsl
  go_enter Try.func28, Try.ntmps28
  go_wp2_with fail
  go_loopw [3, 8] (fun s3 i wr => ∃ k : Nat, k ≤ n ∧ i = .int .i64 k ∧ s3 = .int .i64 (colT f k) ∧ colAll f k = true ∧ Own w [] wr) (fun _ i _ => n - (intOf i).toNat)
  case atStart => exact ⟨0, Nat.zero_le _, rfl, rfl, rfl, Own.start w⟩
  case round =>
    obtain ⟨k, hk, rfl, rfl, hall, hS⟩ := hrel
    have HA := Lib.hid hall
    clear hall
    by_cases hlt : k < n
    · obtain ⟨b, off, rfl, -, hc⟩ := (HO.out.below hS.bel) (by omega)
      obtain ⟨k0, k1, k2⟩ := hc k hlt
      clear hc
      have HK := Lib.hid (colOk_iff f k)
      have HN := Lib.hid (fun h => colAll_not (f := f) (k := k) h n hlt)
      have HC : Hid (colT f (k + 1) = (f k).t) := Lib.hid rfl
      have HQ : Hid (colAll f (k + 1) = (colAll f k && colOk f k)) := Lib.hid rfl
      generalize hp : f k = p at k0 k1 k2 HK HC
      generalize hl : colT f k = last at HK ⊢
      have HP := Lib.hid (And.intro hp hl)
      clear hp hl
      obtain ⟨y, hy⟩ : ∃ y, y = wr.heap.size := ⟨_, rfl⟩
      have HY := Lib.hid (And.intro hy (hS.alloc hy 33 #[.int .i64 p.t, .int .i64 p.v, .int .i64 p.s]))
      clear hy hS
      go_upto_region 5 with (fail)
      rw [← HY.out.1]
      have hS := HY.out.2
      clear k0 k1 k2 HY
      refine wp_gen (Own w [(y, 33, #[.int .i64 p.t, .int .i64 p.v, .int .i64 p.s])]) hS ?_
      clear hS
      intro w1 hS
      have z0_0 := hS.cell 0 0 rfl rfl; have z0_1 := hS.cell 0 1 rfl rfl; have z0_2 := hS.cell 0 2 rfl rfl
      have HS := Lib.hid hS
      clear hS
      by_cases h1 : last < p.t
      · have d1 : decide (p.t ≤ last) = false := by simp; omega
        by_cases h2 : p.t ≤ 1152921504606846976
        · have d2 : decide (1152921504606846976 < p.t) = false := by simp; omega
          by_cases h3 : 0 ≤ p.s
          · have d3 : decide (p.s < 0) = false := by simp; omega
            by_cases h4 : p.s ≤ 1152921504606846976
            · have d4 : decide (1152921504606846976 < p.s) = false := by simp; omega
              have HT := Lib.hid (show colAll f (k + 1) = true by rw [HQ.out, HA.out, HK.out.2 ⟨h1, h2, h3, h4⟩]; rfl)
              clear h1 h2 h3 h4
              go_wp2_with fail
              go_roundw
              case rel => exact ⟨k + 1, by omega, by go_num, by rw [HC.out], HT.out, HS.out.take 0⟩
              case measure => simp [intOf]; omega
            · have d4 : decide (1152921504606846976 < p.s) = true := by simp; omega
              have HF := Lib.hid (show colV f n = false by
                unfold colV
                rw [HN.out (by
                  cases h : colOk f k with
                  | false => rfl
                  | true => have := HK.out.1 h; omega)]
                rfl)
              go_wp2_with fail
              go_ret
              exact ⟨by rw [HF.out]; rfl, HS.out.bel⟩
          · have d3 : decide (p.s < 0) = true := by simp; omega
            have HF := Lib.hid (show colV f n = false by
              unfold colV
              rw [HN.out (by
                cases h : colOk f k with
                | false => rfl
                | true => have := HK.out.1 h; omega)]
              rfl)
            go_wp2_with fail
            go_ret
            exact ⟨by rw [HF.out]; rfl, HS.out.bel⟩
        · have d2 : decide (1152921504606846976 < p.t) = true := by simp; omega
          have HF := Lib.hid (show colV f n = false by
            unfold colV
            rw [HN.out (by
              cases h : colOk f k with
              | false => rfl
              | true => have := HK.out.1 h; omega)]
            rfl)
          go_wp2_with fail
          go_ret
          exact ⟨by rw [HF.out]; rfl, HS.out.bel⟩
      · have d1 : decide (p.t ≤ last) = true := by simp; omega
        have HF := Lib.hid (show colV f n = false by
          unfold colV
          rw [HN.out (by
            cases h : colOk f k with
            | false => rfl
            | true => have := HK.out.1 h; omega)]
          rfl)
        go_wp2_with fail
        go_ret
        exact ⟨by rw [HF.out]; rfl, HS.out.bel⟩
    · obtain rfl : k = n := by omega
      have HF := Lib.hid (show colV f k = (decide (0 < k) && decide (k ≤ 4096)) by unfold colV; rw [HA.out]; rfl)
      have HB := Lib.hid hS.bel
      clear hS
      by_cases h0 : 0 < k
      · by_cases h1 : k ≤ 4096
        · have HR := Lib.hid (show colV f k = true by rw [HF.out]; simp [h0, h1])
          have d : decide ((k : Int) ≤ 4096) = true := by simp; omega
          go_wp2_with fail
          go_ret
          exact ⟨by rw [HR.out]; first | rfl | (simp only [Array.getD_eq_getD_getElem?]; simp; omega), HB.out⟩
        · have HR := Lib.hid (show colV f k = false by rw [HF.out]; simp [h1])
          have d : decide ((k : Int) ≤ 4096) = false := by simp; omega
          go_wp2_with fail
          go_ret
          exact ⟨by rw [HR.out]; first | rfl | (simp only [Array.getD_eq_getD_getElem?]; simp; omega), HB.out⟩
      · obtain rfl : k = 0 := by omega
        go_wp2_with fail
        go_ret
        exact ⟨rfl, HB.out⟩
set_option maxRecDepth 100000 in
set_option maxHeartbeats 8000000 in
theorem rcvalid_any (A : Option Addr) (n c : Nat) (f : Nat → Pt) (D : Nat → Prop) (w : World) (hsl : SlP w D A n f) (hn : n ≤ 9223372036854775807) :
    Calls Try.prog 34 #[.slice A n c] w (BoolPost (colV f n) w) := by
  have HO := Lib.hid hsl
  clear hsl
  go_enter Try.func34, Try.ntmps34
  go_wp2_with fail
  go_loopw [3] (fun i wr => ∃ k : Nat, k ≤ n ∧ i = .int .i64 k ∧ colAll f k = true ∧ Own w [] wr) (fun i _ => n - (intOf i).toNat)
  case atStart => exact ⟨0, Nat.zero_le _, rfl, rfl, Own.start w⟩
  case round =>
    obtain ⟨k, hk, rfl, hall, hS⟩ := hrel
    have HA := Lib.hid hall
    clear hall
    by_cases hlt : k < n
    · obtain ⟨b, off, rfl, -, hc⟩ := (HO.out.below hS.bel) (by omega)
      obtain ⟨k0, k1, k2⟩ := hc k hlt
      have HK := Lib.hid (colOk_iff f k)
      have HN := Lib.hid (fun h => colAll_not (f := f) (k := k) h n hlt)
      have HQ : Hid (colAll f (k + 1) = (colAll f k && colOk f k)) := Lib.hid rfl
      have hcp := fun hk0 : 0 < k => (hc (k - 1) (by omega)).1
      have hlo : 0 < k → colT f k = (f (k - 1)).t ∧ -1152921504606846976 ≤ (f (k - 1)).t := fun hk0 => by
        obtain ⟨q, rfl⟩ : ∃ q, k = q + 1 := ⟨k - 1, by omega⟩
        refine ⟨rfl, ?_⟩
        show -1152921504606846976 ≤ (f q).t
        have h1 := (colOk_iff f q).1 (colAll_at _ HA.out q (by omega))
        have : -1152921504606846977 ≤ colT f q := by
          cases q with
          | zero => exact Int.le_refl _
          | succ q =>
            have h2 := (colOk_iff f q).1 (colAll_at _ HA.out q (by omega))
            show -1152921504606846977 ≤ (f q).t
            have h3 : ∀ m, m < q + 2 → -1152921504606846977 ≤ colT f m := by
              intro m
              induction m with
              | zero => intro _; exact Int.le_refl _
              | succ m ih =>
                intro hm
                have h4 := (colOk_iff f m).1 (colAll_at _ HA.out m (by omega))
                have h5 := ih (by omega)
                show -1152921504606846977 ≤ (f m).t
                omega
            have := h3 q (by omega)
            omega
        omega
      have hz : k = 0 → colT f k = -1152921504606846977 := fun h => by rw [h]; rfl
      generalize hp : f k = p at k0 k1 k2 HK
      generalize hq : f (k - 1) = pq at hcp hlo
      generalize hl : colT f k = last at HK hlo hz
      clear hp hl hq hc
      have HB := Lib.hid hS
      clear hS
      have eidx : 0 < k → ((k : Int) - 1) = ((k - 1 : Nat) : Int) := fun h => by omega
      by_cases h1 : p.t < -1152921504606846976
      · have d1 : decide (p.t < -1152921504606846976) = true := by simp; omega
        have h1x : ¬ last < p.t := by
          rcases Nat.eq_zero_or_pos k with h0 | h0
          · have := hz h0; omega
          · have := hlo h0; omega
        have HF := Lib.hid (show colV f n = false by
          unfold colV
          rw [HN.out (by
            cases h : colOk f k with
            | false => rfl
            | true => have := HK.out.1 h; omega)]
          rfl)
        clear hlo hz hcp eidx
        go_wp2_with fail
        go_quiet (fail)
        go_wp2_with fail
        go_ret
        exact ⟨by rw [HF.out]; rfl, (HB.out.drewN _).bel⟩
      · have d1 : decide (p.t < -1152921504606846976) = false := by simp; omega
        by_cases h2 : p.t ≤ 1152921504606846976
        · have d2 : decide (1152921504606846976 < p.t) = false := by simp; omega
          by_cases h3 : 0 ≤ p.s
          · have d3 : decide (p.s < 0) = false := by simp; omega
            by_cases h4 : p.s ≤ 1152921504606846976
            · have d4 : decide (1152921504606846976 < p.s) = false := by simp; omega
              rcases Nat.eq_zero_or_pos k with h0 | h0
              · have HT := Lib.hid (show colAll f (k + 1) = true by rw [HQ.out, HA.out, HK.out.2 ⟨by have := hz h0; omega, h2, h3, h4⟩]; rfl)
                have d0 : decide (0 < (k : Int)) = false := by simp; omega
                have d0' : ¬ 0 < k := by omega
                clear h0 h1 h2 h3 h4 hz hlo hcp eidx
                go_wp2_with fail
                go_quiet (fail)
                go_wp2_with fail
                go_roundw
                case rel => exact ⟨k + 1, by omega, by go_num, HT.out, HB.out.drewN _⟩
                case measure => simp [intOf]; omega
              · have cp := hcp h0
                have e1 := eidx h0
                have hl2 := (hlo h0).1
                obtain ⟨q, hqq⟩ : ∃ q, q = k - 1 := ⟨_, rfl⟩
                rw [← hqq] at cp e1
                have hqn : q < n := by omega
                have hq0 : (0 : Int) ≤ (q : Int) := by omega
                have hkw : IntKind.i64.wrap ((k : Int) - 1) = (q : Int) := by rw [IntKind.wrap_i64]; omega
                clear hqq hz hlo hcp eidx
                by_cases h5 : p.t ≤ pq.t
                · have d5 : decide (p.t ≤ pq.t) = true := by simp; omega
                  have HF := Lib.hid (show colV f n = false by
                    unfold colV
                    rw [HN.out (by
                      cases h : colOk f k with
                      | false => rfl
                      | true => have := HK.out.1 h; omega)]
                    rfl)
                  clear h1 h2 h3 h4 h5 hl2
                  go_wp2_with fail
                  go_quiet (fail)
                  go_wp2_with fail
                  go_ret
                  exact ⟨by rw [HF.out]; rfl, (HB.out.drewN _).bel⟩
                · have d5 : decide (p.t ≤ pq.t) = false := by simp; omega
                  have HT := Lib.hid (show colAll f (k + 1) = true by rw [HQ.out, HA.out, HK.out.2 ⟨by omega, h2, h3, h4⟩]; rfl)
                  clear h1 h2 h3 h4 h5 hl2
                  go_wp2_with fail
                  go_quiet (fail)
                  go_wp2_with fail
                  go_roundw
                  case rel => exact ⟨k + 1, by omega, by go_num, HT.out, HB.out.drewN _⟩
                  case measure => simp [intOf]; omega
            · have d4 : decide (1152921504606846976 < p.s) = true := by simp; omega
              have HF := Lib.hid (show colV f n = false by
                unfold colV
                rw [HN.out (by
                  cases h : colOk f k with
                  | false => rfl
                  | true => have := HK.out.1 h; omega)]
                rfl)
              clear hlo hz hcp eidx
              go_wp2_with fail
              go_quiet (fail)
              go_wp2_with fail
              go_ret
              exact ⟨by rw [HF.out]; rfl, (HB.out.drewN _).bel⟩
          · have d3 : decide (p.s < 0) = true := by simp; omega
            have HF := Lib.hid (show colV f n = false by
              unfold colV
              rw [HN.out (by
                cases h : colOk f k with
                | false => rfl
                | true => have := HK.out.1 h; omega)]
              rfl)
            clear hlo hz hcp eidx
            go_wp2_with fail
            go_quiet (fail)
            go_wp2_with fail
            go_ret
            exact ⟨by rw [HF.out]; rfl, (HB.out.drewN _).bel⟩
        · have d2 : decide (1152921504606846976 < p.t) = true := by simp; omega
          have HF := Lib.hid (show colV f n = false by
            unfold colV
            rw [HN.out (by
              cases h : colOk f k with
              | false => rfl
              | true => have := HK.out.1 h; omega)]
            rfl)
          clear hlo hz hcp eidx
          go_wp2_with fail
          go_quiet (fail)
          go_wp2_with fail
          go_ret
          exact ⟨by rw [HF.out]; rfl, (HB.out.drewN _).bel⟩
    · obtain rfl : k = n := by omega
      have HF := Lib.hid (show colV f k = (decide (0 < k) && decide (k ≤ 4096)) by unfold colV; rw [HA.out]; rfl)
      have HB := Lib.hid hS.bel
      clear hS
      by_cases h0 : 0 < k
      · by_cases h1 : k ≤ 4096
        · have HR := Lib.hid (show colV f k = true by rw [HF.out]; simp [h0, h1])
          have d : decide ((k : Int) ≤ 4096) = true := by simp; omega
          have d0 : decide ((1 : Int) ≤ (k : Int)) = true := by simp; omega
          have d0' : 1 ≤ k := h0
          go_wp2_with fail
          go_ret
          exact ⟨by rw [HR.out]; first | rfl | (simp only [Array.getD_eq_getD_getElem?]; simp; omega), HB.out⟩
        · have HR := Lib.hid (show colV f k = false by rw [HF.out]; simp [h1])
          have d : decide ((k : Int) ≤ 4096) = false := by simp; omega
          have d0' : 1 ≤ k := h0
          go_wp2_with fail
          go_ret
          exact ⟨by rw [HR.out]; first | rfl | (simp only [Array.getD_eq_getD_getElem?]; simp; omega), HB.out⟩
      · obtain rfl : k = 0 := by omega
        go_wp2_with fail
        go_ret
        exact ⟨rfl, HB.out⟩
end Go.Proofs.Ytopbbicjbjmdnaa
namespace Go.Proofs.Ytopbbicjbjmdnaa
open Go.RowKit
set_option linter.unusedVariables false
set_option linter.unusedSimpArgs false
def upd {α : Type} (f : Fin 3 → α) (c : Fin 3) (u : α) : Fin 3 → α := fun d => if d = c then u else f d
theorem upd_same {α : Type} (f : Fin 3 → α) (c : Fin 3) (u : α) : upd f c u c = u := by unfold upd; rw [if_pos rfl]
theorem upd_ne {α : Type} (f : Fin 3 → α) {c d : Fin 3} (u : α) (h : d ≠ c) : upd f c u d = f d := by unfold upd; rw [if_neg h]
/-- Three rows of the call's own, in three blocks. -/
structure R3 (e : Fin 3 → TypeId) (w0 w : World) (x : Nat) (v : Fin 3 → Value) (l : Fin 3 → List Value) : Prop where
  own : ∀ c, w.ownsRow x (e c) 1 (v c) (l c).length (l c)
  dis : ∀ c d, c ≠ d → ∀ g, (v c).ownBlock = some g → (v d).ownBlock ≠ some g
  keep : Keeps (fun _ => False) w0 w
  base : w0.heap.size ≤ x
  size : x ≤ w.heap.size
variable {e : Fin 3 → TypeId} {w0 w w' : World} {x : Nat} {v z : Fin 3 → Value} {l : Fin 3 → List Value}
theorem grown_keeps {v : Value} (hg : w.grownBy w' v.ownBlock) : Keeps (fun k => v.ownBlock = some k) w w' := (Keeps.refl _ w).grown hg (fun k hk _ => hk)
theorem R3.alloc (h : R3 e w0 w x v l) (o : Obj) : R3 e w0 (w.alloc o) x v l :=
  ⟨fun c => (h.own c).alloc o, h.dis, h.keep.alloc o, h.base, by simp; have := h.size; omega⟩
theorem R3.drew (h : R3 e w0 w x v l) : R3 e w0 w.drew x v l := ⟨fun c => own_keeps (h.own c) ((Keeps.refl (fun _ => False) w).drew) (fun _ _ h => h), h.dis, h.keep.drew, h.base, h.size⟩
theorem R3.keeps (h : R3 e w0 w x v l) (hk : Keeps (fun _ => False) w w') : R3 e w0 w' x v l :=
  ⟨fun c => own_keeps (h.own c) hk (fun _ _ h => h), h.dis, h.keep.trans' hk, h.base, Nat.le_trans h.size hk.size⟩
theorem R3.lt (h : R3 e w0 w x v l) (c : Fin 3) {g : Nat} (hg : (v c).ownBlock = some g) : x ≤ g ∧ g < w.heap.size := (h.own c).lt g hg
theorem R3.start (e : Fin 3 → TypeId) (hk : Keeps (fun _ => False) w0 w) : R3 e w0 w w.heap.size (fun _ => .slice none 0 0) (fun _ => []) :=
  ⟨fun c => ⟨rfl, .inl ⟨rfl, rfl⟩⟩, fun _ _ _ g hg => by simp [Value.ownBlock] at hg, hk, hk.size, Nat.le_refl _⟩
theorem R3.grow (h : R3 e w0 w x v l) (c : Fin 3) {v' u : Value} (hown : w'.ownsRow x (e c) 1 v' ((l c).length + 1) (l c ++ [u])) (hg : w.grownBy w' (v c).ownBlock) (hb : v'.ownBlock = (v c).ownBlock ∨ v'.ownBlock = some w.heap.size) :
    R3 e w0 w' x (upd v c v') (upd l c (l c ++ [u])) := by
  have hk := grown_keeps hg
  refine ⟨fun d => ?_, fun c1 d1 hne g hg1 hg2 => ?_, h.keep.trans hk (fun k hk e => by have := (h.lt c e).1; have := h.base; omega), h.base, Nat.le_trans h.size hk.size⟩
  · by_cases hd : d = c
    · subst hd
      rw [upd_same, upd_same, List.length_append]
      exact hown
    · rw [upd_ne _ _ hd, upd_ne _ _ hd]
      exact own_keeps (h.own d) hk (fun g hg e => h.dis d c hd g hg e)
  · by_cases h1 : c1 = c
    · subst h1
      rw [upd_same] at hg1
      rw [upd_ne _ _ (Ne.symm hne)] at hg2
      rcases hb with hb | hb
      · exact h.dis c1 d1 hne g (by rw [← hb]; exact hg1) hg2
      · rw [hb] at hg1; injection hg1 with hg1; have := (h.lt d1 hg2).2; omega
    · rw [upd_ne _ _ h1] at hg1
      by_cases h2 : d1 = c
      · subst h2
        rw [upd_same] at hg2
        rcases hb with hb | hb
        · exact h.dis c1 d1 hne g hg1 (by rw [← hb]; exact hg2)
        · rw [hb] at hg2; injection hg2 with hg2; have := (h.lt c1 hg1).2; omega
      · rw [upd_ne _ _ h2] at hg2
        exact h.dis c1 d1 hne g hg1 hg2
/-- How far an append has come: not begun; its one cell built; appended. -/
inductive Sg
  | z
  | b (q : Nat)
  | r (q : Nat) (v : Value)
def Sg.row (v : Value) : Sg → Value
  | .r _ v' => v'
  | _ => v
def Sg.lst (l : List Value) (z : Value) : Sg → List Value
  | .r _ _ => l ++ [z]
  | _ => l
def oneAt (q : Nat) : Value := .slice (some ⟨q, 0, none⟩) 1 1
structure W3 (e : Fin 3 → TypeId) (w0 : World) (x : Nat) (v z : Fin 3 → Value) (l : Fin 3 → List Value) (y : Nat) (Y : Option Obj) (s : Fin 3 → Sg) (w : World) : Prop where
  r : R3 e w0 w x (fun c => (s c).row (v c)) (fun c => (s c).lst (l c) (z c))
  cel : ∀ c q, s c = .b q → w.cell? ⟨q, 0 + 0, none⟩ = some (z c) ∧ ∀ d g, ((s d).row (v d)).ownBlock = some g → g ≠ q
  yk : w.heap[y]? = Y
  yn : ∀ d g, ((s d).row (v d)).ownBlock = some g → g ≠ y
  yl : y < w.heap.size
variable {y : Nat} {Y : Option Obj} {s : Fin 3 → Sg}
theorem row_b {v : Fin 3 → Value} {s : Fin 3 → Sg} {c : Fin 3} (hs : s c = .z) (q : Nat) : (fun d => (upd s c (.b q) d).row (v d)) = fun d => (s d).row (v d) := by
  funext d
  by_cases h : d = c
  · subst h; rw [upd_same, hs]; rfl
  · rw [upd_ne _ _ h]
theorem lst_b {l : Fin 3 → List Value} {z : Fin 3 → Value} {s : Fin 3 → Sg} {c : Fin 3} (hs : s c = .z) (q : Nat) : (fun d => (upd s c (.b q) d).lst (l d) (z d)) = fun d => (s d).lst (l d) (z d) := by
  funext d
  by_cases h : d = c
  · subst h; rw [upd_same, hs]; rfl
  · rw [upd_ne _ _ h]
theorem row_r {v : Fin 3 → Value} (s : Fin 3 → Sg) (c : Fin 3) (q : Nat) (v' : Value) : (fun d => (upd s c (.r q v') d).row (v d)) = upd (fun d => (s d).row (v d)) c v' := by
  funext d
  by_cases h : d = c
  · subst h; rw [upd_same, upd_same]; rfl
  · rw [upd_ne _ _ h, upd_ne _ _ h]
theorem lst_r {l : Fin 3 → List Value} {z : Fin 3 → Value} {s : Fin 3 → Sg} {c : Fin 3} {q : Nat} (hs : s c = .b q) (v' : Value) : (fun d => (upd s c (.r q v') d).lst (l d) (z d)) = upd (fun d => (s d).lst (l d) (z d)) c ((s c).lst (l c) (z c) ++ [z c]) := by
  funext d
  by_cases h : d = c
  · subst h; rw [upd_same, upd_same, hs]; rfl
  · rw [upd_ne _ _ h, upd_ne _ _ h]
theorem W3.bld (h : W3 e w0 x v z l y Y s w) {c : Fin 3} (hs : s c = .z) (t : TypeId) : W3 e w0 x v z l y Y (upd s c (.b w.heap.size)) (w.alloc (.cells #[z c] t)) := by
  have er := row_b (v := v) hs w.heap.size
  have er' : ∀ d, (upd s c (.b w.heap.size) d).row (v d) = (s d).row (v d) := fun d => congrFun er d
  refine ⟨?_, fun d q hq => ?_, ?_, fun d g hg => ?_, by simp; have := h.yl; omega⟩
  · rw [er, lst_b hs]
    exact h.r.alloc _
  · have hg : ∀ d' g, ((upd s c (.b w.heap.size) d').row (v d')).ownBlock = some g → x ≤ g ∧ g < w.heap.size := fun d' g hg => by rw [er' d'] at hg; exact h.r.lt d' hg
    by_cases hd : d = c
    · subst hd
      rw [upd_same] at hq
      injection hq with hq
      subst hq
      exact ⟨cell_one w t (z d) 0 (by omega), fun d' g hg' => by have := (hg d' g hg').2; omega⟩
    · rw [upd_ne _ _ hd] at hq
      obtain ⟨h1, h2⟩ := h.cel d q hq
      exact ⟨(World.cell?_alloc_lt w _ _ (World.block_lt_of_cell? w _ h1)).trans h1, fun d' g hg' => h2 d' g (by rw [er' d'] at hg'; exact hg')⟩
  · rw [← h.yk]; exact Below.heap_alloc _ _ _ h.yl
  · rw [er' d] at hg; exact h.yn d g hg
theorem W3.app (h : W3 e w0 x v z l y Y s w) {c : Fin 3} {q : Nat} (hs : s c = .b q) {v' : Value} (hown : w'.ownsRow x (e c) 1 v' (((s c).lst (l c) (z c)).length + 1) ((s c).lst (l c) (z c) ++ [z c])) (hg : w.grownBy w' ((s c).row (v c)).ownBlock)
    (hb : v'.ownBlock = ((s c).row (v c)).ownBlock ∨ v'.ownBlock = some w.heap.size) : W3 e w0 x v z l y Y (upd s c (.r q v')) w' := by
  have hk := grown_keeps hg
  have er := row_r (v := v) s c q v'
  have er' : ∀ d, (upd s c (.r q v') d).row (v d) = upd (fun d => (s d).row (v d)) c v' d := fun d => congrFun er d
  have hrow : ∀ d g, ((upd s c (.r q v') d).row (v d)).ownBlock = some g → (∃ d', ((s d').row (v d')).ownBlock = some g) ∨ g = w.heap.size := fun d g hg' => by
    rw [er' d] at hg'
    by_cases hd : d = c
    · subst hd
      rw [upd_same] at hg'
      rcases hb with hb | hb
      · exact .inl ⟨d, by rw [← hb]; exact hg'⟩
      · rw [hb] at hg'; injection hg' with hg'; exact .inr hg'.symm
    · rw [upd_ne _ _ hd] at hg'; exact .inl ⟨d, hg'⟩
  refine ⟨?_, fun d q2 hq => ?_, ?_, fun d g hg' => ?_, Nat.lt_of_lt_of_le h.yl hk.size⟩
  · rw [er, lst_r hs]
    exact h.r.grow c hown hg hb
  · by_cases hd : d = c
    · subst hd; rw [upd_same] at hq; cases hq
    · rw [upd_ne _ _ hd] at hq
      obtain ⟨h1, h2⟩ := h.cel d q2 hq
      have hlt := World.block_lt_of_cell? w _ h1
      refine ⟨(World.cell?_of_block (w := w) (a := ⟨q2, 0 + 0, none⟩) (hk.block q2 hlt (fun e => h2 c q2 e rfl))).trans h1, fun d' g hg' => ?_⟩
      rcases hrow d' g hg' with ⟨d2, h3⟩ | h3
      · exact h2 d2 g h3
      · have : q2 < w.heap.size := hlt
        omega
  · rw [← h.yk]; exact hk.block y h.yl (fun e => h.yn c y e rfl)
  · rcases hrow d g hg' with ⟨d2, h3⟩ | h3
    · exact h.yn d2 g h3
    · have := h.yl; omega
theorem put_comm {a : Act} {i j : Nat} (h : i ≠ j) (u u' : Value) : (a.put (some i) u).put (some j) u' = (a.put (some j) u').put (some i) u := by
  unfold Act.put
  simp only
  rw [Array.setIfInBounds_comm _ _ h]
theorem put_eval_ne {a : Act} {i j : Nat} (h : i ≠ j) (u : Value) : (a.put (some j) u).eval (.tmp i) = a.eval (.tmp i) := by
  simp [Act.put, Act.eval, Array.getElem?_setIfInBounds, Array.getD_eq_getD_getElem?, Ne.symm h]
theorem put_eval_same {a : Act} {i : Nat} (h : i < a.tmps.size) (u : Value) : (a.put (some i) u).eval (.tmp i) = u := by
  simp [Act.put, Act.eval, Array.getElem?_setIfInBounds, Array.getD_eq_getD_getElem?, h]
theorem put_size (a : Act) (i : Nat) (u : Value) : (a.put (some i) u).tmps.size = a.tmps.size := by simp [Act.put]
def Sg.puts (tb tr : Nat) : Sg → Act → Act
  | .z, a => a
  | .b q, a => a.put (some tb) (oneAt q)
  | .r q v, a => (a.put (some tb) (oneAt q)).put (some tr) v
theorem puts_z (tb tr : Nat) (a : Act) : Sg.puts tb tr .z a = a := rfl
theorem puts_b (tb tr q : Nat) (a : Act) : Sg.puts tb tr (.b q) a = a.put (some tb) (oneAt q) := rfl
theorem puts_r (tb tr q : Nat) (v : Value) (a : Act) : Sg.puts tb tr (.r q v) a = (a.put (some tb) (oneAt q)).put (some tr) v := rfl
theorem puts_put (s : Sg) {tb tr i : Nat} (h1 : i ≠ tb) (h2 : i ≠ tr) (a : Act) (u : Value) : s.puts tb tr (a.put (some i) u) = (s.puts tb tr a).put (some i) u := by
  cases s with
  | z => rfl
  | b q => rw [puts_b, puts_b, put_comm h1]
  | r q v => rw [puts_r, puts_r, put_comm h1, put_comm h2]
theorem puts_size (s : Sg) (tb tr : Nat) (a : Act) : (s.puts tb tr a).tmps.size = a.tmps.size := by cases s <;> simp [Sg.puts, put_size]
theorem puts_eval (s : Sg) {tb tr i : Nat} (h1 : i ≠ tb) (h2 : i ≠ tr) (a : Act) : (s.puts tb tr a).eval (.tmp i) = a.eval (.tmp i) := by
  cases s <;> simp [Sg.puts, put_eval_ne h1, put_eval_ne h2]
def act3 (tb tr : Fin 3 → Nat) (s : Fin 3 → Sg) (a : Act) : Act := (s 2).puts (tb 2) (tr 2) ((s 1).puts (tb 1) (tr 1) ((s 0).puts (tb 0) (tr 0) a))
/-- The slots of the three appends are six. -/
def Six (tb tr : Fin 3 → Nat) : Prop := ∀ c d, (c ≠ d → tb c ≠ tb d ∧ tr c ≠ tr d) ∧ tb c ≠ tr d
theorem act3_bld {tb tr : Fin 3 → Nat} (h6 : Six tb tr) {s : Fin 3 → Sg} {c : Fin 3} (hs : s c = .z) (q : Nat) (a : Act) : (act3 tb tr s a).put (some (tb c)) (oneAt q) = act3 tb tr (upd s c (.b q)) a := by
  have hb := fun c d h => ((h6 c d).1 h).1
  have hr := fun c d => (h6 c d).2
  unfold act3
  match c, hs with
  | 0, hs => rw [upd_same, upd_ne _ _ (by decide), upd_ne _ _ (by decide), hs, puts_b, puts_put _ (hb 0 1 (by decide)) (hr 0 1), puts_put _ (hb 0 2 (by decide)) (hr 0 2), puts_z]
  | 1, hs => rw [upd_same, upd_ne _ _ (by decide), upd_ne _ _ (by decide), hs, puts_b, puts_put _ (hb 1 2 (by decide)) (hr 1 2), puts_z]
  | 2, hs => rw [upd_same, upd_ne _ _ (by decide), upd_ne _ _ (by decide), hs]; rfl
theorem act3_app {tb tr : Fin 3 → Nat} (h6 : Six tb tr) {s : Fin 3 → Sg} {c : Fin 3} {q : Nat} (hs : s c = .b q) (v' : Value) (a : Act) : (act3 tb tr s a).put (some (tr c)) v' = act3 tb tr (upd s c (.r q v')) a := by
  have hb := fun c d h => ((h6 c d).1 h).2
  have hr := fun c d => ((h6 c d).2).symm
  unfold act3
  match c, hs with
  | 0, hs => rw [upd_same, upd_ne _ _ (by decide), upd_ne _ _ (by decide), hs, puts_r, puts_put _ (hr 1 0) (hb 0 1 (by decide)), puts_put _ (hr 2 0) (hb 0 2 (by decide)), puts_b]
  | 1, hs => rw [upd_same, upd_ne _ _ (by decide), upd_ne _ _ (by decide), hs, puts_r, puts_put _ (hr 2 1) (hb 1 2 (by decide)), puts_b]
  | 2, hs => rw [upd_same, upd_ne _ _ (by decide), upd_ne _ _ (by decide), hs]; rfl
theorem act3_eval {tb tr : Fin 3 → Nat} (s : Fin 3 → Sg) {i : Nat} (h : ∀ c, i ≠ tb c ∧ i ≠ tr c) (a : Act) : (act3 tb tr s a).eval (.tmp i) = a.eval (.tmp i) := by
  unfold act3
  rw [puts_eval _ (h 2).1 (h 2).2, puts_eval _ (h 1).1 (h 1).2, puts_eval _ (h 0).1 (h 0).2]
theorem act3_size (tb tr : Fin 3 → Nat) (s : Fin 3 → Sg) (a : Act) : (act3 tb tr s a).tmps.size = a.tmps.size := by unfold act3; rw [puts_size, puts_size, puts_size]
theorem act3_blt {tb tr : Fin 3 → Nat} (h6 : Six tb tr) {s : Fin 3 → Sg} {c : Fin 3} {q : Nat} (hs : s c = .b q) (a : Act) (hsz : tb c < a.tmps.size) : (act3 tb tr s a).eval (.tmp (tb c)) = oneAt q := by
  have e : s = upd (upd s c .z) c (.b q) := by
    funext d
    by_cases h : d = c
    · subst h; rw [upd_same, hs]
    · rw [upd_ne _ _ h, upd_ne _ _ h]
  rw [e, ← act3_bld h6 (upd_same _ _ _), put_eval_same (by rw [act3_size]; exact hsz)]
def Sg.b1 : Sg → Bool
  | .z => false
  | _ => true
def Sg.b2 : Sg → Bool
  | .r _ _ => true
  | _ => false
def Sg.nx (i j : Nat) : Sg → List Nat
  | .z => [i]
  | .b _ => [j]
  | .r _ _ => []
/-- The same where an append waits for the one ahead of it (bb: that one is done). -/
def Sg.nxc (bb : Bool) (i j : Nat) : Sg → List Nat
  | .z => [i]
  | .b _ => if bb = true then [j] else []
  | .r _ _ => []
def cnx (jb ja : Fin 3 → Nat) (s : Fin 3 → Sg) : List Nat := (s 0).nxc true (jb 0) (ja 0) ++ ((s 1).nxc (s 0).b2 (jb 1) (ja 1) ++ (s 2).nxc (s 1).b2 (jb 2) (ja 2))
def okc (s : Fin 3 → Sg) : Prop := ((s 1).b2 = true → (s 0).b2 = true) ∧ ((s 2).b2 = true → (s 1).b2 = true)
theorem okc_bld {s : Fin 3 → Sg} (h : okc s) {c : Fin 3} (hs : s c = .z) (q : Nat) : okc (upd s c (.b q)) := by
  have e : ∀ d, (upd s c (.b q) d).b2 = (s d).b2 := fun d => by
    by_cases hd : d = c
    · subst hd; rw [upd_same, hs]; rfl
    · rw [upd_ne _ _ hd]
  unfold okc
  rw [e, e, e]
  exact h
theorem okc_app {s : Fin 3 → Sg} (h : okc s) {c : Fin 3} {q : Nat} (hs : s c = .b q) (hp : c = 0 ∨ c = 1 ∧ (s 0).b2 = true ∨ c = 2 ∧ (s 1).b2 = true) (v' : Value) : okc (upd s c (.r q v')) := by
  have hf : (s c).b2 = false := by rw [hs]; rfl
  rcases hp with rfl | ⟨rfl, hb⟩ | ⟨rfl, hb⟩
  · exact ⟨fun _ => by rw [upd_same]; rfl, fun h2 => by rw [upd_ne _ _ (by decide)] at h2 ⊢; exact h.2 h2⟩
  · exact ⟨fun _ => by rw [upd_ne _ _ (by decide)]; exact hb, fun _ => by rw [upd_same]; rfl⟩
  · exact ⟨fun h2 => by rw [upd_ne _ _ (by decide)] at h2 ⊢; exact h.1 h2, fun _ => by rw [upd_ne _ _ (by decide)]; exact hb⟩
def Sg.left : Sg → Nat
  | .z => 2
  | .b _ => 1
  | .r _ _ => 0
def left3 (s : Fin 3 → Sg) : Nat := (s 0).left + (s 1).left + (s 2).left
theorem left3_upd (s : Fin 3 → Sg) (c : Fin 3) (g : Sg) (h : g.left + 1 = (s c).left) : left3 (upd s c g) + 1 = left3 s := by
  unfold left3
  match c, h with
  | 0, h => rw [upd_same, upd_ne _ _ (by decide), upd_ne _ _ (by decide)]; omega
  | 1, h => rw [upd_same, upd_ne _ _ (by decide), upd_ne _ _ (by decide)]; omega
  | 2, h => rw [upd_same, upd_ne _ _ (by decide), upd_ne _ _ (by decide)]; omega
section
variable {P : Program} {ops : Array Oper} {Q : Exit → Act → World → Prop} {S : World → Prop}
theorem step_build {o : Oper} {a : Act} {w : World} {K : Act → World → Prop} {E : Prop} (t e : TypeId) (hgd : o.guard = none) (x : Operand) {u zz : Value} (ho : o.op = .buildSlice t 1 #[(0, x)]) (hx : a.eval x = u) (hu1 : u.oneCell' = true) {bytes : Nat}
    (he : Elem1 P t e zz bytes) (h : K (a.put o.dst (oneAt w.heap.size)) (w.alloc (.cells #[u] e))) :
    if Region.wanted o (yielded ops a.tmps) = true then Oper.wp P o a w K Q else E := by
  have hw : Region.wanted o (yielded ops a.tmps) = true := by simp [Region.wanted, hgd]
  rw [if_pos hw]
  obtain ⟨ht, hz1, i, hi, hz, hs, hb⟩ := he
  refine wp_buildSlice t e 1 #[(0, x)] ho #[u] i zz ht hi hz (by rw [hs]; decide) (by rw [hs]; decide) ?_ h
  have hone : u.cells = #[u] := by cases u <;> first | rfl | simp [Value.oneCell'] at hu1
  have h1 : ∀ A : Array Value, A.size = 1 → A.setIfInBounds 0 u = #[u] := fun A hA => by
    apply Array.ext
    · simp [hA]
    · intro j h1 h2
      have : j = 0 := by simp at h2; omega
      subst this
      simp
  simp [Instr.fill, hx, hs, hone]
  exact h1 _ (by simp)
end
/-- What the law of the three appends asks of the region. -/
structure Reg3 (P : Program) (ops : Array Oper) (tb tr : Fin 3 → Nat) (jb ja : Fin 3 → Nat) (tm tv : Fin 3 → Nat) (t e : Fin 3 → TypeId) (zz : Fin 3 → Value) (by_ : Fin 3 → Nat) (lst : (Fin 3 → Sg) → Array Bool) : Prop where
  six : Six tb tr
  elem : ∀ c, Elem1 P (t c) (e c) (zz c) (by_ c)
  bop : ∀ c, ∃ o, ops[jb c]? = some o ∧ o.guard = none ∧ o.op = .buildSlice (t c) 1 #[(0, .tmp (tv c))] ∧ o.dst = some (tb c)
  aop : ∀ c, ∃ o, ops[ja c]? = some o ∧ o.guard = none ∧ o.op = .call { callee := .builtin .append, args := #[.tmp (tm c), .tmp (tb c)], argTypes := #[t c, t c] } ∧ o.dst = some (tr c)
  off : ∀ c d, (tm c ≠ tb d ∧ tm c ≠ tr d) ∧ (tv c ≠ tb d ∧ tv c ≠ tr d)
  lb : ∀ s c q, s c = .z → (lst s).setIfInBounds (jb c) true = lst (upd s c (.b q))
  lr : ∀ s c q v', s c = .b q → (lst s).setIfInBounds (ja c) true = lst (upd s c (.r q v'))
  ready : ∀ s, okc s → 0 < left3 s → Region.ready .any ops (lst s) = cnx jb ja s
theorem run3 {P : Program} {ops : Array Oper} {Q : Exit → Act → World → Prop} {S : World → Prop} {tb tr jb ja tm tv : Fin 3 → Nat} {t : Fin 3 → TypeId} {zz : Fin 3 → Value} {by_ : Fin 3 → Nat} {lst : (Fin 3 → Sg) → Array Bool}
    (hR : Reg3 P ops tb tr jb ja tm tv t e zz by_ lst) (a : Act) (hsz : ∀ c, tb c < a.tmps.size) (hm : ∀ c, a.eval (.tmp (tm c)) = v c) (hv : ∀ c, a.eval (.tmp (tv c)) = z c) (h1 : ∀ c, (z c).oneCell' = true) (hl : ∀ c, (l c).length + 1 ≤ maxLen ∧ ((l c).length + 1) * by_ c ≤ 140737488355328)
    (hS : ∀ s w, W3 e w0 x v z l y Y s w → S w) (fuel : Nat)
    (hend : ∀ s w, left3 s = 0 → W3 e w0 x v z l y Y s w → wpAnyH P .any ops Q S fuel (lst s) (act3 tb tr s a) w) :
    ∀ m s w, left3 s = m → okc s → W3 e w0 x v z l y Y s w → wpAnyH P .any ops Q S (fuel + m) (lst s) (act3 tb tr s a) w
  | 0, s, w, hm0, _, hW => hend s w hm0 hW
  | m + 1, s, w, hm0, hok, hW => by
    have ih := run3 hR a hsz hm hv h1 hl hS fuel hend m
    have go1 : ∀ c, s c = .z → AllReadyH P .any ops Q S (fuel + m) (lst s) (act3 tb tr s a) w [jb c] := by
      intro c hs
      obtain ⟨o, ho, hgd, hop, hdst⟩ := hR.bop c
      refine AllReadyH.cons ho (fun K hK => ?_) AllReadyH.nil
      refine step_build (t c) (e c) hgd _ hop ((act3_eval s (fun d => (hR.off c d).2) a).trans (hv c)) (h1 c) (hR.elem c) ?_
      rw [hdst, act3_bld hR.six hs]
      have hW' := hW.bld hs (e c)
      refine hK.out _ _ (hS _ _ hW') (fun _ => ?_)
      rw [hR.lb s c w.heap.size hs]
      exact ih _ _ (by have := left3_upd s c (.b w.heap.size) (by rw [hs]; rfl); omega) (okc_bld hok hs _) hW'
    have go2 : ∀ c q, s c = .b q → (c = 0 ∨ c = 1 ∧ (s 0).b2 = true ∨ c = 2 ∧ (s 1).b2 = true) → AllReadyH P .any ops Q S (fuel + m) (lst s) (act3 tb tr s a) w [ja c] := by
      intro c q hs hp
      obtain ⟨o, ho, hgd, hop, hdst⟩ := hR.aop c
      refine AllReadyH.cons ho (fun K hK => ?_) AllReadyH.nil
      obtain ⟨hc, -⟩ := hW.cel c q hs
      have hown := hW.r.own c
      simp only [hs] at hown
      refine step_append_sl (A := some ⟨q, 0, none⟩) (c := 1) (D := fun _ => True) (m := 1) (f := fun _ => z c) (hR.elem c) hgd _ _ hop ((act3_eval s (fun d => (hR.off c d).1) a).trans (hm c)) (act3_blt hR.six hs a (hsz c)) hown
        (fun _ => ⟨q, 0, rfl, trivial, fun j hj => by obtain rfl : j = 0 := by omega
                                                      exact hc⟩) (fun _ _ => h1 c) (hl c).1 (hl c).2 hW.r.size ?_
      intro v' w' h2 h3 h4
      rw [hdst, act3_app hR.six hs]
      have hW' := hW.app (w' := w') (v' := v') hs (by rw [hs]; exact h2) (by rw [hs]; exact h3) (by rw [hs]; exact h4)
      refine hK.out _ _ (hS _ _ hW') (fun _ => ?_)
      rw [hR.lr s c q v' hs]
      exact ih _ _ (by have := left3_upd s c (.r q v') (by rw [hs]; rfl); omega) (okc_app hok hs hp v') hW'
    have go : ∀ c bb, (bb = true → c = 0 ∨ c = 1 ∧ (s 0).b2 = true ∨ c = 2 ∧ (s 1).b2 = true) → AllReadyH P .any ops Q S (fuel + m) (lst s) (act3 tb tr s a) w ((s c).nxc bb (jb c) (ja c)) := by
      intro c bb hbb
      cases hs : s c with
      | z => exact go1 c hs
      | b q =>
        show AllReadyH P .any ops Q S (fuel + m) (lst s) (act3 tb tr s a) w (if bb = true then [ja c] else [])
        cases bb with
        | false => exact AllReadyH.nil
        | true => exact go2 c q hs (hbb rfl)
      | r q v' => exact AllReadyH.nil
    refine wpAnyH_ready (hR.ready s hok (by omega)) ?_ ?_
    · intro h0
      unfold cnx at h0
      simp only [List.append_eq_nil_iff] at h0
      obtain ⟨g0, g1, g2⟩ := h0
      have hz : ∀ g : Sg, ∀ i j, g.nxc true i j = [] → g.left = 0 ∧ g.b2 = true := fun g i j h => by cases g <;> first | exact ⟨rfl, rfl⟩ | cases h
      have k0 := hz _ _ _ g0
      rw [k0.2] at g1
      have k1 := hz _ _ _ g1
      rw [k1.2] at g2
      have k2 := hz _ _ _ g2
      have := k0.1
      have := k1.1
      have := k2.1
      unfold left3 at hm0
      omega
    · intro i hi
      rcases List.mem_append.1 hi with h | h
      · exact go 0 true (fun _ => .inl rfl) i h
      · rcases List.mem_append.1 h with h | h
        · exact go 1 _ (fun hb => .inr (.inl ⟨rfl, hb⟩)) i h
        · exact go 2 _ (fun hb => .inr (.inr ⟨rfl, hb⟩)) i h
end Go.Proofs.Ytopbbicjbjmdnaa
namespace Go.Proofs.Ytopbbicjbjmdnaa.F
def gbit (s : Nat) : Nat := if s % 2 = 1 then s / 2 ^^^ 3988292384 else s / 2
def gN : Nat → Nat → Nat
  | 0, s => s
  | n + 1, s => gN n (gbit s)
theorem gN_add (a b s : Nat) : gN (a + b) s = gN b (gN a s) := by
  induction a generalizing s with
  | zero => rw [Nat.zero_add]; rfl
  | succ a ih => rw [Nat.succ_add]; exact ih (gbit s)
theorem gbit_lt {s : Nat} (h : s < 4294967296) : gbit s < 4294967296 := by
  unfold gbit
  split
  · exact Nat.xor_lt_two_pow (n := 32) (by omega) (by omega)
  · omega
theorem gN_lt (n : Nat) {s : Nat} (h : s < 4294967296) : gN n s < 4294967296 := by
  induction n generalizing s with
  | zero => exact h
  | succ n ih => exact ih (gbit_lt h)
theorem xor4 (a b p : Nat) : a ^^^ b = (a ^^^ p) ^^^ (b ^^^ p) := by
  apply Nat.eq_of_testBit_eq
  intro i
  simp only [Nat.testBit_xor]
  cases a.testBit i <;> cases b.testBit i <;> cases p.testBit i <;> rfl
theorem xor3a (a b p : Nat) : a ^^^ b ^^^ p = (a ^^^ p) ^^^ b := by
  apply Nat.eq_of_testBit_eq
  intro i
  simp only [Nat.testBit_xor]
  cases a.testBit i <;> cases b.testBit i <;> cases p.testBit i <;> rfl
theorem xor_mod2 (a b : Nat) : (a ^^^ b) % 2 = (a % 2 + b % 2) % 2 := by
  have h : (a ^^^ b) % 2 ^ 1 = a % 2 ^ 1 ^^^ b % 2 ^ 1 := Nat.xor_mod_two_pow
  simp only [Nat.pow_one] at h
  rw [h]
  rcases (show a % 2 = 0 ∨ a % 2 = 1 by omega) with e | e <;> rcases (show b % 2 = 0 ∨ b % 2 = 1 by omega) with k | k <;> rw [e, k] <;> rfl
theorem gbit_xor (a b : Nat) : gbit (a ^^^ b) = gbit a ^^^ gbit b := by
  have hm := xor_mod2 a b
  unfold gbit
  rw [Nat.xor_div_two]
  by_cases ha : a % 2 = 1
  · by_cases hb : b % 2 = 1
    · rw [if_neg (by omega), if_pos ha, if_pos hb]; exact xor4 _ _ _
    · rw [if_pos (by omega), if_pos ha, if_neg hb]; exact xor3a _ _ _
  · by_cases hb : b % 2 = 1
    · rw [if_pos (by omega), if_neg ha, if_pos hb]; exact Nat.xor_assoc _ _ _
    · rw [if_neg (by omega), if_neg ha, if_neg hb]
theorem gN_xor (n a b : Nat) : gN n (a ^^^ b) = gN n a ^^^ gN n b := by
  induction n generalizing a b with
  | zero => rfl
  | succ n ih => show gN n (gbit (a ^^^ b)) = _; rw [gbit_xor]; exact ih _ _
theorem gbit_two (x : Nat) : gbit (2 * x) = x := by unfold gbit; rw [if_neg (by omega)]; omega
theorem gN_pow (n x : Nat) : gN n (2 ^ n * x) = x := by
  induction n with
  | zero => show 2 ^ 0 * x = x; omega
  | succ n ih =>
    show gN n (gbit (2 ^ (n + 1) * x)) = x
    rw [Nat.pow_succ, Nat.mul_comm (2 ^ n) 2, Nat.mul_assoc, gbit_two]
    exact ih
theorem join_xor (n t k : Nat) (h : k < 2 ^ n) : 2 ^ n * t ^^^ k = 2 ^ n * t + k := by
  have h1 : (2 ^ n * t ^^^ k) / 2 ^ n = t := by
    rw [Nat.xor_div_two_pow, Nat.mul_div_cancel_left _ (Nat.two_pow_pos n), Nat.div_eq_of_lt h, Nat.xor_zero]
  have h2 : (2 ^ n * t ^^^ k) % 2 ^ n = k := by
    rw [Nat.xor_mod_two_pow, Nat.mul_mod_right, Nat.mod_eq_of_lt h, Nat.zero_xor]
  have h3 := Nat.div_add_mod (2 ^ n * t ^^^ k) (2 ^ n)
  rw [h1, h2] at h3
  exact h3.symm
theorem split_xor (n s : Nat) : s = 2 ^ n * (s / 2 ^ n) ^^^ s % 2 ^ n := by
  rw [join_xor n _ _ (Nat.mod_lt _ (Nat.two_pow_pos n))]
  exact (Nat.div_add_mod s (2 ^ n)).symm
theorem gN_split (n s : Nat) : gN n s = s / 2 ^ n ^^^ gN n (s % 2 ^ n) := by
  have h := split_xor n s
  have h2 : gN n s = gN n (2 ^ n * (s / 2 ^ n) ^^^ s % 2 ^ n) := by rw [← h]
  rw [h2, gN_xor, gN_pow]
/-- What a sum does with four bits. -/
def quart : List Nat := [0, 498536548, 997073096, 651767980, 1994146192, 1802195444, 1303535960, 1342533948, 3988292384, 4027552580, 3604390888, 3412177804, 2607071920, 2262029012, 2685067896, 3183342108]
theorem quart_eq (k : Nat) (h : k < 16) : gN 4 k = quart.getD k 0 := by
  rcases (show k = 0 ∨ k = 1 ∨ k = 2 ∨ k = 3 ∨ k = 4 ∨ k = 5 ∨ k = 6 ∨ k = 7 ∨ k = 8 ∨ k = 9 ∨ k = 10 ∨ k = 11 ∨ k = 12 ∨ k = 13 ∨ k = 14 ∨ k = 15 by omega) with
    rfl | rfl | rfl | rfl | rfl | rfl | rfl | rfl | rfl | rfl | rfl | rfl | rfl | rfl | rfl | rfl <;> decide
theorem gN_four (s : Nat) : s / 16 ^^^ quart.getD (s % 16) 0 = gN 4 s := by
  rw [← quart_eq _ (Nat.mod_lt _ (by omega))]
  exact (gN_split 4 s).symm
/-- The sum's state behind bytes. -/
def crcL : List Nat → Nat → Nat
  | [], s => s
  | b :: l, s => crcL l (gN 8 (s ^^^ b))
def crcS (l : List Nat) : Nat := crcL l 4294967295 ^^^ 4294967295
theorem crcL_append (l m : List Nat) (s : Nat) : crcL (l ++ m) s = crcL m (crcL l s) := by
  induction l generalizing s with
  | nil => rfl
  | cons b l ih => exact ih _
theorem crcL_lt {l : List Nat} {s : Nat} (hl : ∀ b ∈ l, b < 256) (hs : s < 4294967296) : crcL l s < 4294967296 := by
  induction l generalizing s with
  | nil => exact hs
  | cons b l ih =>
    refine ih (fun x hx => hl x (by simp [hx])) (gN_lt 8 ?_)
    have := hl b (by simp)
    exact Nat.xor_lt_two_pow (n := 32) hs (by omega)
theorem crcS_lt {l : List Nat} (hl : ∀ b ∈ l, b < 256) : crcS l < 4294967296 :=
  Nat.xor_lt_two_pow (n := 32) (crcL_lt hl (by omega)) (by omega)
/-- Bytes as a number, the lowest first. -/
def le : List Nat → Nat
  | [] => 0
  | b :: l => b + 256 * le l
theorem le_append (l m : List Nat) : le (l ++ m) = le l + 2 ^ (8 * l.length) * le m := by
  induction l with
  | nil => simp [le]
  | cons b l ih =>
    show b + 256 * le (l ++ m) = b + 256 * le l + _
    rw [ih, List.length_cons, show 8 * (l.length + 1) = 8 * l.length + 8 by omega, Nat.pow_add, show (2 : Nat) ^ 8 = 256 by decide, Nat.mul_add, ← Nat.mul_assoc, Nat.mul_comm 256 (2 ^ (8 * l.length)), Nat.add_assoc]
theorem le_lt {l : List Nat} (hl : ∀ b ∈ l, b < 256) : le l < 2 ^ (8 * l.length) := by
  induction l with
  | nil => simp [le]
  | cons b l ih =>
    have h1 := ih (fun x hx => hl x (by simp [hx]))
    have h2 := hl b (by simp)
    rw [List.length_cons, Nat.mul_add, Nat.pow_add, show (2 : Nat) ^ (8 * 1) = 256 by decide]
    show b + 256 * le l < _
    omega
theorem crcL_le {l : List Nat} (hl : ∀ b ∈ l, b < 256) (s : Nat) : crcL l s = gN (8 * l.length) (s ^^^ le l) := by
  induction l generalizing s with
  | nil => simp [crcL, le, gN]
  | cons b l ih =>
    have h2 := hl b (by simp)
    show crcL l (gN 8 (s ^^^ b)) = gN (8 * (l.length + 1)) (s ^^^ (b + 256 * le l))
    rw [ih (fun x hx => hl x (by simp [hx])), show 8 * (l.length + 1) = 8 + 8 * l.length by omega, gN_add]
    have e : b + 256 * le l = 2 ^ 8 * le l ^^^ b := by rw [join_xor 8 _ _ (by omega)]; omega
    have e2 : gN 8 (2 ^ 8 * le l ^^^ (s ^^^ b)) = gN 8 (s ^^^ b) ^^^ le l := by rw [gN_xor, gN_pow, Nat.xor_comm]
    rw [e, ← Nat.xor_assoc, Nat.xor_comm s (2 ^ 8 * le l), Nat.xor_assoc, e2]
theorem gbit_zero {s : Nat} (hs : s < 4294967296) (h : gbit s = 0) : s = 0 := by
  unfold gbit at h
  split at h
  · next e =>
    have h1 : s / 2 = 3988292384 := by
      have h2 : (s / 2 ^^^ 3988292384) ^^^ 3988292384 = 0 ^^^ 3988292384 := by rw [h]
      rw [Nat.xor_assoc, Nat.xor_self, Nat.xor_zero, Nat.zero_xor] at h2
      exact h2
    omega
  · omega
theorem gN_zero (n : Nat) {s : Nat} (hs : s < 4294967296) (h : gN n s = 0) : s = 0 := by
  induction n generalizing s with
  | zero => exact h
  | succ n ih => exact gbit_zero hs (ih (gbit_lt hs) h)
/-- A burst of at most 32 bits leaves no sum as it was. -/
theorem burst (m at_ by_ : Nat) (hb : by_ < 4294967296) (h : gN m (by_ * 2 ^ at_) = 0) : by_ = 0 := by
  rcases Nat.lt_or_ge m at_ with hm | hm
  · rw [show at_ = m + (at_ - m) by omega, Nat.pow_add, Nat.mul_comm, Nat.mul_assoc, gN_pow] at h
    have := Nat.two_pow_pos (at_ - m)
    rcases Nat.mul_eq_zero.1 h with h | h <;> omega
  · rw [show m = at_ + (m - at_) by omega, gN_add, Nat.mul_comm, gN_pow] at h
    exact gN_zero _ hb h
/-- Two frames of one length that differ by d have both their sums only if gN of d is 0. -/
theorem crc_diff {l l' c c' d : Nat} {m : Nat} (h : 2 ^ m * c ^^^ l = (2 ^ m * c' ^^^ l') ^^^ d)
    (s : gN m (4294967295 ^^^ l) ^^^ 4294967295 = c) (s' : gN m (4294967295 ^^^ l') ^^^ 4294967295 = c') : gN m d = 0 := by
  have e : d = (2 ^ m * c ^^^ l) ^^^ (2 ^ m * c' ^^^ l') := by
    rw [h, Nat.xor_comm, ← Nat.xor_assoc, Nat.xor_self, Nat.zero_xor]
  rw [e, gN_xor, gN_xor, gN_xor, gN_pow, gN_pow, ← s, ← s', gN_xor, gN_xor]
  generalize gN m 4294967295 = a
  generalize gN m l = b
  generalize gN m l' = b'
  apply Nat.eq_of_testBit_eq
  intro i
  simp only [Nat.testBit_xor, Nat.zero_testBit]
  cases a.testBit i <;> cases b.testBit i <;> cases b'.testBit i <;> cases (4294967295 : Nat).testBit i <;> rfl
end Go.Proofs.Ytopbbicjbjmdnaa.F
namespace Go.Proofs.Ytopbbicjbjmdnaa.F
open Go.RowKit
set_option linter.unusedVariables false
set_option linter.unusedSimpArgs false
theorem ret_int {k : IntKind} {a b : Int} (h : a = b) : Ending.returned (.int k a) = .returned (.int k b) := by rw [h]
def qv (k : Nat) : Nat := quart.getD k 0
theorem qv_lt (k : Nat) : qv k < 4294967296 := by
  unfold qv
  rcases Nat.lt_or_ge k 16 with h | h
  · rw [← quart_eq k h]; exact gN_lt 4 (by omega)
  · rw [List.getD_eq_getElem?_getD, List.getElem?_eq_none (by simpa [quart] using h)]; decide
theorem four_step (y : Nat) (hy : y < 4294967296) : bits .xor .u32 ((y : Int) / 16) (qv (y % 16) : Nat) = ((gN 4 y : Nat) : Int) := by
  rw [show (y : Int) / 16 = ((y / 16 : Nat) : Int) by omega, u32_xor_nat _ _ (by omega) (qv_lt _)]
  unfold qv
  rw [gN_four]
theorem quart_at (k : Nat) (hk : k < 16) (w : World) : (Instr.index 105 (.agg #[.int .u32 0, .int .u32 498536548, .int .u32 997073096, .int .u32 651767980, .int .u32 1994146192, .int .u32 1802195444, .int .u32 1303535960, .int .u32 1342533948, .int .u32 3988292384, .int .u32 4027552580, .int .u32 3604390888, .int .u32 3412177804, .int .u32 2607071920, .int .u32 2262029012, .int .u32 2685067896, .int .u32 3183342108]) (.int .u32 (k : Nat))).run Try.prog w = .ok (.int .u32 (qv k : Nat)) w := by
  rcases (show k = 0 ∨ k = 1 ∨ k = 2 ∨ k = 3 ∨ k = 4 ∨ k = 5 ∨ k = 6 ∨ k = 7 ∨ k = 8 ∨ k = 9 ∨ k = 10 ∨ k = 11 ∨ k = 12 ∨ k = 13 ∨ k = 14 ∨ k = 15 by omega) with
    rfl | rfl | rfl | rfl | rfl | rfl | rfl | rfl | rfl | rfl | rfl | rfl | rfl | rfl | rfl | rfl <;> kernel_rfl
set_option maxRecDepth 100000 in
set_option maxHeartbeats 400000 in
theorem quarter_any (s : Nat) (w : World) (hs : s < 4294967296) : Calls Try.prog 51 #[.int .u32 (s : Nat)] w fun e w' => e = .returned (.int .u32 (qv (s % 16) : Nat)) ∧ w = w' := by
  have e1 : bits .and .u32 (s : Int) 15 = ((s % 16 : Nat) : Int) := by rw [show (15 : Int) = ((15 : Nat) : Int) from rfl, u32_and_nat _ _ hs (by omega), nat_mask4]
  obtain ⟨k, hk⟩ : ∃ k, k = s % 16 := ⟨_, rfl⟩
  have hk16 : k < 16 := by omega
  rw [← hk] at e1
  rw [← hk]
  clear hk hs
  have ix := quart_at k hk16
  go_enter Try.func51, Try.ntmps51
  go_wp2_with fail
  go_ret
  exact ⟨rfl, rfl⟩
theorem crc_take (bs : List Nat) (k : Nat) (h : k < bs.length) : crcL (bs.take (k + 1)) 4294967295 = gN 4 (gN 4 (crcL (bs.take k) 4294967295 ^^^ bs.getD k 0)) := by
  rw [List.take_succ_eq_append_getElem h, crcL_append, List.getD_eq_getElem?_getD, List.getElem?_eq_getElem h]
  show gN 8 (_ ^^^ bs[k]) = gN 4 (gN 4 (_ ^^^ bs[k]))
  rw [← gN_add]
theorem mem_take_byte {bs : List Nat} (hb : ∀ j, bs.getD j 0 < 256) (k : Nat) : ∀ b ∈ bs.take k, b < 256 := by
  intro b hm
  obtain ⟨i, hi, rfl⟩ := List.getElem_of_mem (List.mem_of_mem_take hm)
  have := hb i
  rw [List.getD_eq_getElem?_getD, List.getElem?_eq_getElem hi] at this
  exact this
theorem mem_byte {bs : List Nat} (hb : ∀ j, bs.getD j 0 < 256) : ∀ b ∈ bs, b < 256 := by
  have := mem_take_byte hb bs.length
  rwa [List.take_length] at this
set_option maxRecDepth 100000 in
set_option maxHeartbeats 800000 in
theorem sum_any (w : World) (A : Option Addr) (len c : Nat) (D : Nat → Prop) (bs : List Nat) (hl : bs.length = len) (hsl : Sl w D A len (byteC bs)) (hb : ∀ j, bs.getD j 0 < 256) (hlen : len ≤ 2097152) :
    Calls Try.prog 33 #[.slice A len c] w fun e w' => e = .returned (.int .u32 (crcS bs : Nat)) ∧ w = w' := by
  have HS := Lib.hid (And.intro hl (And.intro hsl hb))
  clear hl hsl hb
  go_enter Try.func33, Try.ntmps33
  go_wp2_with fail
  go_loopw [3, 8] (fun s i wr => ∃ k : Nat, k ≤ len ∧ i = .int .i64 k ∧ s = .int .u32 (crcL (bs.take k) 4294967295 : Nat) ∧ w = wr) (fun _ i _ => len - (intOf i).toNat)
  case atStart => exact ⟨0, Nat.zero_le _, rfl, rfl, rfl⟩
  case round =>
    obtain ⟨k, hk, rfl, rfl, rfl⟩ := hrel
    have hsl := crcL_lt (s := 4294967295) (mem_take_byte HS.out.2.2 k) (by omega)
    obtain ⟨s, hs⟩ : ∃ s, s = crcL (bs.take k) 4294967295 := ⟨_, rfl⟩
    rw [← hs] at hsl
    rw [← hs]
    by_cases hlt : k < len
    · obtain ⟨b, off, hA, -, hc⟩ := HS.out.2.1 (by omega)
      have ck : w.cell? ⟨b, off + k, none⟩ = some (.int .u8 (bs.getD k 0 : Nat)) := hc k hlt
      subst hA
      have hx := HS.out.2.2 k
      obtain ⟨x, hxx⟩ : ∃ x, x = bs.getD k 0 := ⟨_, rfl⟩
      rw [← hxx] at hx ck
      have e0 : bits .xor .u32 (s : Int) (x : Int) = ((s ^^^ x : Nat) : Int) := u32_xor_nat _ _ hsl (by omega)
      have hsx : s ^^^ x < 4294967296 := Nat.xor_lt_two_pow (n := 32) hsl (by omega)
      obtain ⟨y, hy⟩ : ∃ y, y = s ^^^ x := ⟨_, rfl⟩
      rw [← hy] at e0 hsx
      have HY := Lib.hid (And.intro hy (And.intro hs (And.intro hxx hsx)))
      clear hc hs hxx hy
      go_wp2_with fail
      refine (quarter_any y _ HY.out.2.2.2).mono ?_
      rintro e w2 ⟨rfl, rfl⟩
      have e1 := four_step y HY.out.2.2.2
      have hg1 := gN_lt 4 HY.out.2.2.2
      have e2 := four_step (gN 4 y) hg1
      obtain ⟨z, hz⟩ : ∃ z, z = gN 4 y := ⟨_, rfl⟩
      rw [← hz] at e1 e2 hg1
      have HZ := Lib.hid (And.intro hz (And.intro e2 hg1))
      clear hz e2 e0
      go_wp2_with fail
      refine (quarter_any z _ HZ.out.2.2).mono ?_
      rintro e w2 ⟨rfl, rfl⟩
      have e2 := HZ.out.2.1
      obtain ⟨u, hu⟩ : ∃ u, u = gN 4 z := ⟨_, rfl⟩
      rw [← hu] at e2
      have HU := Lib.hid hu
      clear hu e1
      go_wp2_with fail
      go_roundw
      case rel =>
        refine ⟨k + 1, by omega, by go_num, ?_, by trivial⟩
        obtain ⟨hl, -, -⟩ := HS.out
        rw [crc_take bs k (by omega), ← HY.out.2.1, ← HY.out.2.2.1, ← HY.out.1, ← HZ.out.1, ← HU.out]
      case measure => simp [intOf]; omega
    · have e0 : bits .xor .u32 (s : Int) 4294967295 = ((crcS bs : Nat) : Int) := by
        rw [show (4294967295 : Int) = ((4294967295 : Nat) : Int) from rfl, u32_xor_nat _ _ hsl (by omega), hs]
        obtain ⟨hl, -, -⟩ := HS.out
        rw [List.take_of_length_le (by omega)]
        rfl
      clear hs
      go_wp2_with fail
      go_ret
      exact ⟨rfl, rfl⟩
/-- The four bytes of a number, the lowest first. -/
def fourL (u : Nat) : List Nat := [u % 256, u / 256 % 256, u / 65536 % 256, u / 16777216 % 256]
def FourPost (w : World) (u : Nat) (e : Ending) (w' : World) : Prop :=
  e = .returned (.agg #[.int .u8 ((u : Int) % 256), .int .u8 ((u : Int) / 256 % 256), .int .u8 ((u : Int) / 65536 % 256), .int .u8 ((u : Int) / 16777216 % 256)]) ∧ Below w.heap.size w w'
set_option maxRecDepth 100000 in
set_option maxHeartbeats 800000 in
theorem four_any (u : Nat) (w : World) (hu : u < 4294967296) : Calls Try.prog 32 #[.int .u32 (u : Nat)] w (FourPost w u) := by
  go_enter Try.func32, Try.ntmps32
  go_wp2_with fail
  have hb := Blk.fresh w 71 #[.int .u8 ((u : Int) % 256), .int .u8 ((u : Int) / 256 % 256), .int .u8 ((u : Int) / 65536 % 256), .int .u8 ((u : Int) / 16777216)]
  have bel := (Below.refl w.heap.size w).alloc (Nat.le_refl _) (.cells #[.int .u8 ((u : Int) % 256), .int .u8 ((u : Int) / 256 % 256), .int .u8 ((u : Int) / 65536 % 256), .int .u8 ((u : Int) / 16777216)] 71)
  generalize w.alloc (.cells #[.int .u8 ((u : Int) % 256), .int .u8 ((u : Int) / 256 % 256), .int .u8 ((u : Int) / 65536 % 256), .int .u8 ((u : Int) / 16777216)] 71) = w2 at hb bel ⊢
  have r0 := hb.cell 0
  have r1 := hb.cell 1
  have r2 := hb.cell 2
  have r3 := hb.cell 3
  simp at r0 r1 r2 r3
  refine bodyPost_ret (v := .agg #[.int .u8 ((u : Int) % 256), .int .u8 ((u : Int) / 256 % 256), .int .u8 ((u : Int) / 65536 % 256), .int .u8 ((u : Int) / 16777216)]) (by simp [results, Try.results32, go_sem, r0, r1, r2, r3]) rfl ⟨?_, bel⟩
  rw [show (u : Int) / 16777216 % 256 = (u : Int) / 16777216 by omega]
theorem sl_four (w : World) (g u : Nat) (h : Blk w g 71 #[.int .u8 ((u : Int) % 256), .int .u8 ((u : Int) / 256 % 256), .int .u8 ((u : Int) / 65536 % 256), .int .u8 ((u : Int) / 16777216 % 256)]) : Sl w (fun k => k = g) (some ⟨g, 0, none⟩) 4 (byteC (fourL u)) := fun _ =>
  ⟨_, _, rfl, rfl, fun j hj => by
    rw [h.cell (0 + j)]
    rcases (show j = 0 ∨ j = 1 ∨ j = 2 ∨ j = 3 by omega) with rfl | rfl | rfl | rfl
    · show some (Value.int .u8 ((u : Int) % 256)) = some (.int .u8 ((u % 256 : Nat) : Int)); rw [show ((u % 256 : Nat) : Int) = (u : Int) % 256 by omega]
    · show some (Value.int .u8 ((u : Int) / 256 % 256)) = some (.int .u8 ((u / 256 % 256 : Nat) : Int)); rw [show ((u / 256 % 256 : Nat) : Int) = (u : Int) / 256 % 256 by omega]
    · show some (Value.int .u8 ((u : Int) / 65536 % 256)) = some (.int .u8 ((u / 65536 % 256 : Nat) : Int)); rw [show ((u / 65536 % 256 : Nat) : Int) = (u : Int) / 65536 % 256 by omega]
    · show some (Value.int .u8 ((u : Int) / 16777216 % 256)) = some (.int .u8 ((u / 16777216 % 256 : Nat) : Int)); rw [show ((u / 16777216 % 256 : Nat) : Int) = (u : Int) / 16777216 % 256 by omega]⟩
theorem fourL_byte (u : Nat) : ∀ b ∈ fourL u, b < 256 := by
  intro b hb
  simp only [fourL, List.mem_cons, List.not_mem_nil, or_false] at hb
  omega
theorem le_four (u : Nat) (hu : u < 4294967296) : le (fourL u) = u := by
  show u % 256 + 256 * (u / 256 % 256 + 256 * (u / 65536 % 256 + 256 * (u / 16777216 % 256 + 256 * 0))) = u
  omega
end Go.Proofs.Ytopbbicjbjmdnaa.F
