/-
  Texts of this proof, joined: Var, VarB, Lat, CrcPl, FrmA, FrmB, FrmL, FrmC.
-/
import Derived.Test.YtboecnakndpgfaaDoorRows
import Derived.Test.YtboecnakndpgfaaDoorJ01
import Derived.Test.YtboecnakndpgfaaDoorJ02
import Derived.WalkKit
import Derived.WalkSpells
import Derived.WalkLawsBesides
import Derived.Outline
import Derived.Lib.Hide
import Derived.Lib.AppendStr
import Derived.Below
import Derived.Laws.BitsAllLaws
import Derived.Laws.BitsLemmas
import Derived.Deep.QuietTactic
import Derived.BigQuiet
import Derived.StillTailTactics
namespace Go.Proofs.YtboecnakndpgfaaDoor.V
open Go.RowKit
def byteV (b : Nat) : Value := .int .u8 (b : Int)
theorem byteElem : Elem1 Tryd.prog 22 5 (.int .u8 0) 1 := Elem1.mk' Tryd.underlying22 rfl (by kernel_rfl)
def VPutPost (w : World) (bs : List Nat) (e : Ending) (w' : World) : Prop :=
  ∃ v, e = .returned v ∧ w'.ownsRow w.heap.size 5 1 v bs.length (bs.map byteV) ∧ Below w.heap.size w w'
theorem tl_of_sl {w : World} {A : Option Addr} {bs : List Nat} {len : Nat} (hl : bs.length = len) (h : Sl w (fun k => k < w.heap.size) A len (byteC bs)) : Tl w 5 w.heap.size (.slice A len len) len (bs.map byteV) := by
  refine .inr ⟨A, rfl, by simpa using hl, fun hn => ?_⟩
  obtain ⟨b, off, rfl, hb, hc⟩ := h hn
  refine ⟨b, off, rfl, hb, fun j u hu => ?_⟩
  rw [List.getElem?_map] at hu
  cases hj : bs[j]? with
  | none => rw [hj] at hu; cases hu
  | some x =>
    rw [hj] at hu
    simp at hu
    have hjl : j < bs.length := (List.getElem?_eq_some_iff.1 hj).1
    rw [hc j (by omega), ← hu]
    unfold byteC byteV
    rw [List.getD_eq_getElem?_getD, hj]
    rfl
set_option maxRecDepth 100000 in
set_option maxHeartbeats 800000 in
theorem vput_any (w : World) (A : Option Addr) (len c : Nat) (bs : List Nat) (u : Int) (hl : bs.length = len) (hsl : Sl w (fun k => k < w.heap.size) A len (byteC bs)) (hlc : len ≤ c) (hsm : len ≤ 1099511627776) (h0 : 0 ≤ u) (hu : u < 18446744073709551616) :
    Calls Tryd.prog 27 #[.slice A len c, .int .u64 u] w (VPutPost w (bs ++ vput u.toNat)) := by
  obtain ⟨u, rfl⟩ := Int.eq_ofNat_of_zero_le h0
  have HT := Lib.hid (tl_of_sl hl hsl)
  have HL := Lib.hid hl
  have HU := Lib.hid (show u < 18446744073709551616 by omega)
  clear hsl hl hu h0
  go_enter Tryd.func27, Tryd.ntmps27
  go_wp2_with fail
  go_loopw [1, 5] (fun s1 s5 wr => ∃ (x : Nat) (p : List Nat), s1 = .int .u64 x ∧ x ≤ u ∧ p ++ vput x = bs ++ vput u ∧ Tl wr 5 w.heap.size s5 p.length (p.map byteV) ∧ Below w.heap.size w wr)
    (fun s1 _ _ => (intOf s1).toNat)
  case atStart => exact ⟨u, bs, rfl, Nat.le_refl _, rfl, by rw [HL.out]; exact HT.out, Below.refl _ _⟩
  case round =>
    obtain ⟨x, p, rfl, hxu, hp, htl, hbel⟩ := hrel
    have hplen : p.length ≤ len + 10 := by
      have h1 := congrArg List.length hp
      rw [List.length_append, List.length_append] at h1
      have h2 := vput_len10 HU.out
      have h3 := HL.out
      omega
    have HP := Lib.hid hp
    clear hp
    by_cases hx : x < 128
    · go_wp2_with (at_builtin; refine wpList_append_tl (f := fun _ => byteV x) (base := w.heap.size) (n := p.length) (xs := p.map byteV) byteElem rfl (.tmp 22) (.tmp 25) rfl rfl rfl ?h ?hm ?hc ?h1 ?h63 ?hby ?hbase ?_)
      case h => exact htl.alloc hbel.size _
      case hm => omega
      case hc => exact cell_one _ _ _
      case h1 => intro j _; rfl
      case h63 => unfold maxLen; omega
      case hby => omega
      case hbase => have := hbel.size; simp; omega
      intro v1 w1 hown1 hb1
      have HO := Lib.hid hown1
      have HB := Lib.hid hb1
      clear hown1 hb1
      go_wp2_with fail
      go_ret
      refine ⟨v1, rfl, ?_, (hbel.alloc hbel.size _).trans HB.out⟩
      have e : bs ++ vput u = p ++ [x] := by rw [← HP.out, vput_small hx]
      show w1.ownsRow _ _ _ _ (bs ++ vput u).length ((bs ++ vput u).map byteV)
      rw [e, List.length_append, List.map_append]
      exact HO.out
    · have e1 := vor_step x
      have e2 := vor_step2 x
      have hx0 : 128 ≤ x := by omega
      go_wp2_with (at_builtin; refine wpList_append_tl (f := fun _ => byteV (x % 128 + 128)) (base := w.heap.size) (n := p.length) (xs := p.map byteV) byteElem rfl (.tmp 16) (.tmp 20) rfl rfl rfl ?g ?gm ?gc ?g1 ?g63 ?gby ?gbase ?_)
      case g => exact htl.alloc hbel.size _
      case gm => omega
      case gc => exact cell_one _ _ _
      case g1 => intro j _; rfl
      case g63 => unfold maxLen; omega
      case gby => omega
      case gbase => have := hbel.size; simp; omega
      intro v1 w1 hown1 hb1
      have HO := Lib.hid hown1
      have HB := Lib.hid hb1
      clear hown1 hb1 e1 e2
      go_wp2_with fail
      go_roundw
      case rel =>
        refine ⟨x / 128, p ++ [x % 128 + 128], rfl, by omega, ?_, ?_, (hbel.alloc hbel.size _).trans HB.out⟩
        · rw [← HP.out, vput_big hx, List.append_assoc]; rfl
        · rw [List.length_append, List.map_append]
          exact .inl HO.out
      case measure => simp [intOf]; omega
end Go.Proofs.YtboecnakndpgfaaDoor.V
namespace Go.Proofs.YtboecnakndpgfaaDoor.V
open Go.RowKit
theorem range_bytes {bs : List Nat} {len : Nat} (hl : bs.length = len) : bs.map byteV = (List.range len).map (byteC bs) := by
  apply List.ext_getElem?
  intro j
  rw [List.getElem?_map, List.getElem?_map]
  rcases Nat.lt_or_ge j len with hj | hj
  · rw [List.getElem?_range hj, List.getElem?_eq_getElem (by omega)]
    unfold byteC byteV
    simp only [Option.map_some]
    rw [List.getD_eq_getElem?_getD, List.getElem?_eq_getElem (by omega)]
    rfl
  · rw [List.getElem?_eq_none (by omega), List.getElem?_eq_none (by simpa using hj)]; rfl
/-- A text's bytes. -/
def txt (s : ByteArray) : List Nat := s.data.toList.map UInt8.toNat
theorem txt_cells (s : ByteArray) : (txt s).map byteV = Lib.strCells s := by
  unfold txt Lib.strCells
  rw [List.map_map]; rfl
theorem txt_length (s : ByteArray) : (txt s).length = s.size := by unfold txt; simp
theorem txt_byte (s : ByteArray) : ∀ b ∈ txt s, b < 256 := by
  unfold txt
  intro b hb
  rw [List.mem_map] at hb
  obtain ⟨x, _, rfl⟩ := hb
  exact x.toNat_lt
set_option maxRecDepth 100000 in
set_option maxHeartbeats 400000 in
theorem putText_any (w : World) (A : Option Addr) (len c : Nat) (bs : List Nat) (s : ByteArray) (hl : bs.length = len) (hsl : Sl w (fun k => k < w.heap.size) A len (byteC bs)) (hlc : len ≤ c) (hsm : len ≤ 1099511627776) (hs : s.size ≤ 1099511627776) :
    Calls Tryd.prog 28 #[.slice A len c, .string s] w (VPutPost w (bs ++ vput s.size ++ txt s)) := by
  obtain ⟨ht, -, i, hi, hz, hs1, hby⟩ := byteElem
  have HI := Lib.hid (And.intro hs1 hby)
  have HS := Lib.hid (And.intro hl hsl)
  clear hl hsl hs1 hby
  go_enter Tryd.func28, Tryd.ntmps28
  go_wp2_with fail
  refine (vput_any _ _ _ _ bs _ HS.out.1 HS.out.2 hlc hsm (by omega) (by omega)).mono ?_
  rintro e w1 ⟨v1, rfl, hown1, hb1⟩
  have hn1 : (bs ++ vput s.size).length ≤ len + 10 := by
    rw [List.length_append]
    have := vput_len10 (u := s.size) (by omega)
    have := HS.out.1
    omega
  have HO := Lib.hid (And.intro hown1 hb1)
  clear hown1 hb1
  go_wp2_with (refine Lib.wpList_append_own_string w1 rfl (.tmp 9) (.tmp 10) 22 9 rfl w.heap.size 5 i ht Tryd.underlying9 hi hz HI.out.1 HI.out.2 v1 (bs ++ vput s.size).length ((bs ++ vput s.size).map byteV) rfl HO.out.1 s rfl ?h63 ?hby2 ?hbase ?_)
  case h63 => unfold maxLen; omega
  case hby2 => omega
  case hbase => exact HO.out.2.size
  intro v2 w2 hown2 hg2 _
  have HO2 := Lib.hid (And.intro hown2 (HO.out.2.grown hg2 HO.out.2.size (fun k hk => (HO.out.1.lt k hk).1)))
  clear hown2 hg2
  go_wp2_with fail
  go_ret
  refine ⟨v2, rfl, ?_, HO2.out.2⟩
  have e5 : (bs ++ vput s.size ++ txt s).length = (bs ++ vput s.size).length + s.size := by rw [List.length_append, txt_length]
  have e6 : (bs ++ vput s.size ++ txt s).map byteV = (bs ++ vput s.size).map byteV ++ Lib.strCells s := by rw [List.map_append, txt_cells]
  rw [e5, e6, List.length_append, List.map_append, List.append_assoc]
  exact HO2.out.1
end Go.Proofs.YtboecnakndpgfaaDoor.V
namespace Go.Proofs.YtboecnakndpgfaaDoor.V
open Go.RowKit
theorem sl_later {w w' : World} {A : Option Addr} {n : Nat} {f : Nat → Value} (h : Sl w (fun k => k < w.heap.size) A n f) (hb : Below w.heap.size w w') : Sl w' (fun k => k < w'.heap.size) A n f :=
  (h.below hb (fun _ hk _ => hk)).mono (fun _ hk => Nat.lt_of_lt_of_le hk hb.size)
theorem own_later {w w' : World} {base : Nat} {e : TypeId} {v : Value} {n : Nat} {xs : List Value} (h : w.ownsRow base e 1 v n xs) (hb : Below w.heap.size w w') : w'.ownsRow base e 1 v n xs :=
  own_keeps (S := fun _ => False) h (Keeps.of_below hb) (fun _ _ h => h)
theorem below_join {w w1 w2 : World} (h : Below w.heap.size w w1) (k : Below w1.heap.size w1 w2) : Below w.heap.size w w2 := h.trans (k.mono h.size)
theorem wrap_u64_range (n : Int) : 0 ≤ IntKind.u64.wrap n ∧ IntKind.u64.wrap n < 18446744073709551616 := by rw [IntKind.wrap_u64]; omega
/-- A row of the call's own as a slice. -/
theorem ow_sl {w : World} {base : Nat} {A : Option Addr} {n c : Nat} {bs : List Nat} (h : w.ownsRow base 5 1 (.slice A n c) n (bs.map byteV)) : Sl w (fun k => k < w.heap.size) A n (byteC bs) := by
  have h1 : Sl w (fun k => (Value.slice A n c).ownBlock = some k) A n (byteC bs) := by
    refine Sl.of_own h ?_
    intro j u hu
    rw [List.getElem?_map] at hu
    cases hb : bs[j]? with
    | none => rw [hb] at hu; cases hu
    | some b =>
      rw [hb] at hu
      simp at hu
      unfold byteC
      rw [List.getD_eq_getElem?_getD, hb, ← hu]
      rfl
  refine h1.mono fun k hk => ?_
  exact (h.lt k hk).2
theorem own_cap {w : World} {base : Nat} {e : TypeId} {size n m c : Nat} {A : Option Addr} {xs : List Value} (h : w.ownsRow base e size (.slice A n c) m xs) : n ≤ c ∧ c ≤ 9223372036854775807 := by
  rcases h.2 with ⟨h1, _⟩ | ⟨g, cap, cur, h1, _, _, h2, h3, _⟩
  · injection h1 with _ h1 h2; omega
  · injection h1 with _ h4 h5; subst h4 h5; unfold maxLen at h3; omega
theorem own_len {w : World} {base : Nat} {e : TypeId} {v : Value} {n : Nat} {xs : List Value} {A : Option Addr} {m c : Nat} (h : w.ownsRow base e 1 v n xs) (hv : v = .slice A m c) : m = n := by
  obtain ⟨A', c', e', _⟩ := own_form h
  rw [hv] at e'
  injection e'
theorem lat_lit0 (w : World) (base : Nat) (e : TypeId) (hb : base ≤ w.heap.size) : (w.alloc (.cells #[] e)).ownsRow base e 1 (.slice (some ⟨w.heap.size, 0, none⟩) 0 0) 0 [] :=
  World.ownsRow_made w #[] 0 hb (by unfold maxLen; omega) rfl
theorem lat_grown {w0 w w' : World} {e : TypeId} {n : Nat} {v : Value} {xs : List Value} (hk : Below w0.heap.size w0 w) (ho : w.ownsRow w0.heap.size e 1 v n xs) (hg : w.grownBy w' v.ownBlock) : Below w0.heap.size w0 w' :=
  hk.grown hg hk.size (fun k hk' => (ho.lt k hk').1)
theorem lat_text (s : ByteArray) : strB (txt s) = s := by
  unfold strB txt
  rw [List.map_map]
  have : (s.data.toList.map ((fun b => UInt8.ofNat b) ∘ UInt8.toNat)) = s.data.toList := by
    conv => rhs; rw [← List.map_id s.data.toList]
    apply List.map_congr_left
    intro x _
    simp
  rw [this]
/-- A block of bytes as a slice. -/
theorem blk_sl {w : World} {g : Nat} {t : TypeId} {bs : List Nat} (h : Blk w g t (bs.map byteV).toArray) : Sl w (fun k => k < w.heap.size) (some ⟨g, 0, none⟩) bs.length (byteC bs) := fun _ => by
  refine ⟨g, 0, rfl, h.lt, fun j hj => ?_⟩
  rw [h.cell (0 + j), Nat.zero_add]
  simp only [List.getElem?_toArray, List.getElem?_map, List.getElem?_eq_getElem hj]
  unfold byteC byteV
  rw [List.getD_eq_getElem?_getD, List.getElem?_eq_getElem hj]
  rfl
theorem getD_take_lt {l : List Nat} (h : ∀ j, l.getD j 0 < 256) (m : Nat) : ∀ j, (l.take m).getD j 0 < 256 := fun j => by
  rw [List.getD_eq_getElem?_getD, List.getElem?_take]
  have := h j
  rw [List.getD_eq_getElem?_getD] at this
  split
  · exact this
  · simp
theorem getD_drop_lt {l : List Nat} (h : ∀ j, l.getD j 0 < 256) (m : Nat) : ∀ j, (l.drop m).getD j 0 < 256 := fun j => by
  rw [List.getD_eq_getElem?_getD, List.getElem?_drop]
  have := h (m + j)
  rw [List.getD_eq_getElem?_getD] at this
  exact this
theorem getD_app_lt {l m : List Nat} (h : ∀ j, l.getD j 0 < 256) (h' : ∀ j, m.getD j 0 < 256) : ∀ j, (l ++ m).getD j 0 < 256 := fun j => by
  rw [List.getD_eq_getElem?_getD, List.getElem?_append]
  have h1 := h j
  have h2 := h' (j - l.length)
  rw [List.getD_eq_getElem?_getD] at h1 h2
  split
  · exact h1
  · exact h2
theorem getD_all_lt {l : List Nat} (h : ∀ b ∈ l, b < 256) : ∀ j, l.getD j 0 < 256 := fun j => by
  rw [List.getD_eq_getElem?_getD]
  cases hj : l[j]? with
  | none => simp
  | some b => simpa using h b (List.mem_of_getElem? hj)
theorem sl_take_list {w : World} {D : Nat → Prop} {A : Option Addr} {n m : Nat} {bs : List Nat} (h : Sl w D A n (byteC bs)) (hm : m ≤ n) : Sl w D A m (byteC (bs.take m)) := by
  refine (h.take hm).congr fun j hj => ?_
  unfold byteC
  rw [List.getD_eq_getElem?_getD, List.getD_eq_getElem?_getD, List.getElem?_take_of_lt hj]
theorem sl_drop_list {w : World} {D : Nat → Prop} {b off n m : Nat} {bs : List Nat} (h : Sl w D (some ⟨b, off, none⟩) n (byteC bs)) (hm : m ≤ n) : Sl w D (some ⟨b, off + m, none⟩) (n - m) (byteC (bs.drop m)) := fun hn => by
  obtain ⟨b', off', e, hD, hc⟩ := h (by omega)
  simp only [Option.some.injEq, Addr.mk.injEq] at e
  obtain ⟨rfl, rfl, -⟩ := e
  refine ⟨b, _, rfl, hD, fun j hj => ?_⟩
  have := hc (m + j) (by omega)
  rw [show off + (m + j) = off + m + j by omega] at this
  rw [this]
  unfold byteC
  rw [List.getD_eq_getElem?_getD, List.getD_eq_getElem?_getD, List.getElem?_drop]
/-- 'b[n:]' of bytes, whatever room is behind. -/
theorem slice_from {P : Program} (t e : TypeId) (ht : P.underlying t = some (.slice e)) (hs : ∀ w : World, (sizeOf e).run P w = .ok 1 w) (A : Option Addr) (len c n : Nat) (hn : n ≤ len) (hlc : len ≤ c) :
    ∃ A', (∀ w : World, (Instr.slice t (.slice A len c) (some (.int .i64 (n : Nat))) none none).run P w = .ok (.slice A' (len - n) (c - n)) w) ∧
      (∀ (w : World) (D : Nat → Prop) (l : List Nat), Sl w D A len (byteC l) → Sl w D A' (len - n) (byteC (l.drop n))) := by
  have he : P.elem t = e := by simp [Program.elem, ht]
  have ht' : P.underlying t = some (.slice (P.elem t)) := by rw [he]; exact ht
  refine ⟨if c = n then A else A.map (·.add (n * 1)), fun w => ?_, fun w D l h => ?_⟩
  · rw [run_slice_l w t A len c ht' .i64 (n : Nat) (by omega) (by omega), he, hs]
    simp [Result.andThen, sliced]
  · intro hlt
    rw [if_neg (by omega)]
    obtain ⟨b, off, rfl, -, -⟩ := h (by omega)
    have := sl_drop_list h hn hlt
    rw [show (some (⟨b, off, none⟩ : Addr)).map (·.add (n * 1)) = some ⟨b, off + n, none⟩ by simp [Addr.add]]
    exact this
end Go.Proofs.YtboecnakndpgfaaDoor.V
namespace Go.Proofs.YtboecnakndpgfaaDoor.F
def gbit (s : Nat) : Nat := if s % 2 = 1 then s / 2 ^^^ 3988292384 else s / 2
def gN : Nat → Nat → Nat
  | 0, s => s
  | n + 1, s => gN n (gbit s)
theorem gN_add (a b s : Nat) : gN (a + b) s = gN b (gN a s) := by
  induction a generalizing s with
  | zero => rw [Nat.zero_add]; rfl
  | succ a ih => rw [Nat.succ_add]; exact ih (gbit s)
theorem gbit_lt {s : Nat} (h : s < 4294967296) : gbit s < 4294967296 := by
  unfold gbit
  split
  · exact Nat.xor_lt_two_pow (n := 32) (by omega) (by omega)
  · omega
theorem gN_lt (n : Nat) {s : Nat} (h : s < 4294967296) : gN n s < 4294967296 := by
  induction n generalizing s with
  | zero => exact h
  | succ n ih => exact ih (gbit_lt h)
theorem xor4 (a b p : Nat) : a ^^^ b = (a ^^^ p) ^^^ (b ^^^ p) := by
  apply Nat.eq_of_testBit_eq
  intro i
  simp only [Nat.testBit_xor]
  cases a.testBit i <;> cases b.testBit i <;> cases p.testBit i <;> rfl
theorem xor3a (a b p : Nat) : a ^^^ b ^^^ p = (a ^^^ p) ^^^ b := by
  apply Nat.eq_of_testBit_eq
  intro i
  simp only [Nat.testBit_xor]
  cases a.testBit i <;> cases b.testBit i <;> cases p.testBit i <;> rfl
theorem xor_mod2 (a b : Nat) : (a ^^^ b) % 2 = (a % 2 + b % 2) % 2 := by
  have h : (a ^^^ b) % 2 ^ 1 = a % 2 ^ 1 ^^^ b % 2 ^ 1 := Nat.xor_mod_two_pow
  simp only [Nat.pow_one] at h
  rw [h]
  rcases (show a % 2 = 0 ∨ a % 2 = 1 by omega) with e | e <;> rcases (show b % 2 = 0 ∨ b % 2 = 1 by omega) with k | k <;> rw [e, k] <;> rfl
theorem gbit_xor (a b : Nat) : gbit (a ^^^ b) = gbit a ^^^ gbit b := by
  have hm := xor_mod2 a b
  unfold gbit
  rw [Nat.xor_div_two]
  by_cases ha : a % 2 = 1
  · by_cases hb : b % 2 = 1
    · rw [if_neg (by omega), if_pos ha, if_pos hb]; exact xor4 _ _ _
    · rw [if_pos (by omega), if_pos ha, if_neg hb]; exact xor3a _ _ _
  · by_cases hb : b % 2 = 1
    · rw [if_pos (by omega), if_neg ha, if_pos hb]; exact Nat.xor_assoc _ _ _
    · rw [if_neg (by omega), if_neg ha, if_neg hb]
theorem gN_xor (n a b : Nat) : gN n (a ^^^ b) = gN n a ^^^ gN n b := by
  induction n generalizing a b with
  | zero => rfl
  | succ n ih => show gN n (gbit (a ^^^ b)) = _; rw [gbit_xor]; exact ih _ _
theorem gbit_two (x : Nat) : gbit (2 * x) = x := by unfold gbit; rw [if_neg (by omega)]; omega
theorem gN_pow (n x : Nat) : gN n (2 ^ n * x) = x := by
  induction n with
  | zero => show 2 ^ 0 * x = x; omega
  | succ n ih =>
    show gN n (gbit (2 ^ (n + 1) * x)) = x
    rw [Nat.pow_succ, Nat.mul_comm (2 ^ n) 2, Nat.mul_assoc, gbit_two]
    exact ih
theorem join_xor (n t k : Nat) (h : k < 2 ^ n) : 2 ^ n * t ^^^ k = 2 ^ n * t + k := by
  have h1 : (2 ^ n * t ^^^ k) / 2 ^ n = t := by
    rw [Nat.xor_div_two_pow, Nat.mul_div_cancel_left _ (Nat.two_pow_pos n), Nat.div_eq_of_lt h, Nat.xor_zero]
  have h2 : (2 ^ n * t ^^^ k) % 2 ^ n = k := by
    rw [Nat.xor_mod_two_pow, Nat.mul_mod_right, Nat.mod_eq_of_lt h, Nat.zero_xor]
  have h3 := Nat.div_add_mod (2 ^ n * t ^^^ k) (2 ^ n)
  rw [h1, h2] at h3
  exact h3.symm
theorem split_xor (n s : Nat) : s = 2 ^ n * (s / 2 ^ n) ^^^ s % 2 ^ n := by
  rw [join_xor n _ _ (Nat.mod_lt _ (Nat.two_pow_pos n))]
  exact (Nat.div_add_mod s (2 ^ n)).symm
theorem gN_split (n s : Nat) : gN n s = s / 2 ^ n ^^^ gN n (s % 2 ^ n) := by
  have h := split_xor n s
  have h2 : gN n s = gN n (2 ^ n * (s / 2 ^ n) ^^^ s % 2 ^ n) := by rw [← h]
  rw [h2, gN_xor, gN_pow]
/-- What a sum does with four bits. -/
def quart : List Nat := [0, 498536548, 997073096, 651767980, 1994146192, 1802195444, 1303535960, 1342533948, 3988292384, 4027552580, 3604390888, 3412177804, 2607071920, 2262029012, 2685067896, 3183342108]
theorem quart_eq (k : Nat) (h : k < 16) : gN 4 k = quart.getD k 0 := by
  rcases (show k = 0 ∨ k = 1 ∨ k = 2 ∨ k = 3 ∨ k = 4 ∨ k = 5 ∨ k = 6 ∨ k = 7 ∨ k = 8 ∨ k = 9 ∨ k = 10 ∨ k = 11 ∨ k = 12 ∨ k = 13 ∨ k = 14 ∨ k = 15 by omega) with
    rfl | rfl | rfl | rfl | rfl | rfl | rfl | rfl | rfl | rfl | rfl | rfl | rfl | rfl | rfl | rfl <;> decide
theorem gN_four (s : Nat) : s / 16 ^^^ quart.getD (s % 16) 0 = gN 4 s := by
  rw [← quart_eq _ (Nat.mod_lt _ (by omega))]
  exact (gN_split 4 s).symm
/-- The sum's state behind bytes. -/
def crcL : List Nat → Nat → Nat
  | [], s => s
  | b :: l, s => crcL l (gN 8 (s ^^^ b))
def crcS (l : List Nat) : Nat := crcL l 4294967295 ^^^ 4294967295
theorem crcL_append (l m : List Nat) (s : Nat) : crcL (l ++ m) s = crcL m (crcL l s) := by
  induction l generalizing s with
  | nil => rfl
  | cons b l ih => exact ih _
theorem crcL_lt {l : List Nat} {s : Nat} (hl : ∀ b ∈ l, b < 256) (hs : s < 4294967296) : crcL l s < 4294967296 := by
  induction l generalizing s with
  | nil => exact hs
  | cons b l ih =>
    refine ih (fun x hx => hl x (by simp [hx])) (gN_lt 8 ?_)
    have := hl b (by simp)
    exact Nat.xor_lt_two_pow (n := 32) hs (by omega)
theorem crcS_lt {l : List Nat} (hl : ∀ b ∈ l, b < 256) : crcS l < 4294967296 :=
  Nat.xor_lt_two_pow (n := 32) (crcL_lt hl (by omega)) (by omega)
/-- Bytes as a number, the lowest first. -/
def le : List Nat → Nat
  | [] => 0
  | b :: l => b + 256 * le l
theorem le_append (l m : List Nat) : le (l ++ m) = le l + 2 ^ (8 * l.length) * le m := by
  induction l with
  | nil => simp [le]
  | cons b l ih =>
    show b + 256 * le (l ++ m) = b + 256 * le l + _
    rw [ih, List.length_cons, show 8 * (l.length + 1) = 8 * l.length + 8 by omega, Nat.pow_add, show (2 : Nat) ^ 8 = 256 by decide, Nat.mul_add, ← Nat.mul_assoc, Nat.mul_comm 256 (2 ^ (8 * l.length)), Nat.add_assoc]
theorem le_lt {l : List Nat} (hl : ∀ b ∈ l, b < 256) : le l < 2 ^ (8 * l.length) := by
  induction l with
  | nil => simp [le]
  | cons b l ih =>
    have h1 := ih (fun x hx => hl x (by simp [hx]))
    have h2 := hl b (by simp)
    rw [List.length_cons, Nat.mul_add, Nat.pow_add, show (2 : Nat) ^ (8 * 1) = 256 by decide]
    show b + 256 * le l < _
    omega
theorem crcL_le {l : List Nat} (hl : ∀ b ∈ l, b < 256) (s : Nat) : crcL l s = gN (8 * l.length) (s ^^^ le l) := by
  induction l generalizing s with
  | nil => simp [crcL, le, gN]
  | cons b l ih =>
    have h2 := hl b (by simp)
    show crcL l (gN 8 (s ^^^ b)) = gN (8 * (l.length + 1)) (s ^^^ (b + 256 * le l))
    rw [ih (fun x hx => hl x (by simp [hx])), show 8 * (l.length + 1) = 8 + 8 * l.length by omega, gN_add]
    have e : b + 256 * le l = 2 ^ 8 * le l ^^^ b := by rw [join_xor 8 _ _ (by omega)]; omega
    have e2 : gN 8 (2 ^ 8 * le l ^^^ (s ^^^ b)) = gN 8 (s ^^^ b) ^^^ le l := by rw [gN_xor, gN_pow, Nat.xor_comm]
    rw [e, ← Nat.xor_assoc, Nat.xor_comm s (2 ^ 8 * le l), Nat.xor_assoc, e2]
theorem gbit_zero {s : Nat} (hs : s < 4294967296) (h : gbit s = 0) : s = 0 := by
  unfold gbit at h
  split at h
  · next e =>
    have h1 : s / 2 = 3988292384 := by
      have h2 : (s / 2 ^^^ 3988292384) ^^^ 3988292384 = 0 ^^^ 3988292384 := by rw [h]
      rw [Nat.xor_assoc, Nat.xor_self, Nat.xor_zero, Nat.zero_xor] at h2
      exact h2
    omega
  · omega
theorem gN_zero (n : Nat) {s : Nat} (hs : s < 4294967296) (h : gN n s = 0) : s = 0 := by
  induction n generalizing s with
  | zero => exact h
  | succ n ih => exact gbit_zero hs (ih (gbit_lt hs) h)
/-- A burst of at most 32 bits leaves no sum as it was. -/
theorem burst (m at_ by_ : Nat) (hb : by_ < 4294967296) (h : gN m (by_ * 2 ^ at_) = 0) : by_ = 0 := by
  rcases Nat.lt_or_ge m at_ with hm | hm
  · rw [show at_ = m + (at_ - m) by omega, Nat.pow_add, Nat.mul_comm, Nat.mul_assoc, gN_pow] at h
    have := Nat.two_pow_pos (at_ - m)
    rcases Nat.mul_eq_zero.1 h with h | h <;> omega
  · rw [show m = at_ + (m - at_) by omega, gN_add, Nat.mul_comm, gN_pow] at h
    exact gN_zero _ hb h
/-- Two frames of one length that differ by d have both their sums only if gN of d is 0. -/
theorem crc_diff {l l' c c' d : Nat} {m : Nat} (h : 2 ^ m * c ^^^ l = (2 ^ m * c' ^^^ l') ^^^ d)
    (s : gN m (4294967295 ^^^ l) ^^^ 4294967295 = c) (s' : gN m (4294967295 ^^^ l') ^^^ 4294967295 = c') : gN m d = 0 := by
  have e : d = (2 ^ m * c ^^^ l) ^^^ (2 ^ m * c' ^^^ l') := by
    rw [h, Nat.xor_comm, ← Nat.xor_assoc, Nat.xor_self, Nat.zero_xor]
  rw [e, gN_xor, gN_xor, gN_xor, gN_pow, gN_pow, ← s, ← s', gN_xor, gN_xor]
  generalize gN m 4294967295 = a
  generalize gN m l = b
  generalize gN m l' = b'
  apply Nat.eq_of_testBit_eq
  intro i
  simp only [Nat.testBit_xor, Nat.zero_testBit]
  cases a.testBit i <;> cases b.testBit i <;> cases b'.testBit i <;> cases (4294967295 : Nat).testBit i <;> rfl
end Go.Proofs.YtboecnakndpgfaaDoor.F
namespace Go.Proofs.YtboecnakndpgfaaDoor.F
open Go.RowKit
set_option linter.unusedVariables false
set_option linter.unusedSimpArgs false
theorem ret_int {k : IntKind} {a b : Int} (h : a = b) : Ending.returned (.int k a) = .returned (.int k b) := by rw [h]
def qv (k : Nat) : Nat := quart.getD k 0
theorem qv_lt (k : Nat) : qv k < 4294967296 := by
  unfold qv
  rcases Nat.lt_or_ge k 16 with h | h
  · rw [← quart_eq k h]; exact gN_lt 4 (by omega)
  · rw [List.getD_eq_getElem?_getD, List.getElem?_eq_none (by simpa [quart] using h)]; decide
theorem four_step (y : Nat) (hy : y < 4294967296) : bits .xor .u32 ((y : Int) / 16) (qv (y % 16) : Nat) = ((gN 4 y : Nat) : Int) := by
  rw [show (y : Int) / 16 = ((y / 16 : Nat) : Int) by omega, u32_xor_nat _ _ (by omega) (qv_lt _)]
  unfold qv
  rw [gN_four]
theorem quart_at (k : Nat) (hk : k < 16) (w : World) : (Instr.index 147 (.agg #[.int .u32 0, .int .u32 498536548, .int .u32 997073096, .int .u32 651767980, .int .u32 1994146192, .int .u32 1802195444, .int .u32 1303535960, .int .u32 1342533948, .int .u32 3988292384, .int .u32 4027552580, .int .u32 3604390888, .int .u32 3412177804, .int .u32 2607071920, .int .u32 2262029012, .int .u32 2685067896, .int .u32 3183342108]) (.int .u32 (k : Nat))).run Tryd.prog w = .ok (.int .u32 (qv k : Nat)) w := by
  rcases (show k = 0 ∨ k = 1 ∨ k = 2 ∨ k = 3 ∨ k = 4 ∨ k = 5 ∨ k = 6 ∨ k = 7 ∨ k = 8 ∨ k = 9 ∨ k = 10 ∨ k = 11 ∨ k = 12 ∨ k = 13 ∨ k = 14 ∨ k = 15 by omega) with
    rfl | rfl | rfl | rfl | rfl | rfl | rfl | rfl | rfl | rfl | rfl | rfl | rfl | rfl | rfl | rfl <;> kernel_rfl
set_option maxRecDepth 100000 in
set_option maxHeartbeats 400000 in
theorem quarter_any (s : Nat) (w : World) (hs : s < 4294967296) : Calls Tryd.prog 78 #[.int .u32 (s : Nat)] w fun e w' => e = .returned (.int .u32 (qv (s % 16) : Nat)) ∧ w = w' := by
  have e1 : bits .and .u32 (s : Int) 15 = ((s % 16 : Nat) : Int) := by rw [show (15 : Int) = ((15 : Nat) : Int) from rfl, u32_and_nat _ _ hs (by omega), nat_mask4]
  obtain ⟨k, hk⟩ : ∃ k, k = s % 16 := ⟨_, rfl⟩
  have hk16 : k < 16 := by omega
  rw [← hk] at e1
  rw [← hk]
  clear hk hs
  have ix := quart_at k hk16
  go_enter Tryd.func78, Tryd.ntmps78
  go_wp2_with fail
  go_ret
  exact ⟨rfl, rfl⟩
theorem crc_take (bs : List Nat) (k : Nat) (h : k < bs.length) : crcL (bs.take (k + 1)) 4294967295 = gN 4 (gN 4 (crcL (bs.take k) 4294967295 ^^^ bs.getD k 0)) := by
  rw [List.take_succ_eq_append_getElem h, crcL_append, List.getD_eq_getElem?_getD, List.getElem?_eq_getElem h]
  show gN 8 (_ ^^^ bs[k]) = gN 4 (gN 4 (_ ^^^ bs[k]))
  rw [← gN_add]
theorem mem_take_byte {bs : List Nat} (hb : ∀ j, bs.getD j 0 < 256) (k : Nat) : ∀ b ∈ bs.take k, b < 256 := by
  intro b hm
  obtain ⟨i, hi, rfl⟩ := List.getElem_of_mem (List.mem_of_mem_take hm)
  have := hb i
  rw [List.getD_eq_getElem?_getD, List.getElem?_eq_getElem hi] at this
  exact this
theorem mem_byte {bs : List Nat} (hb : ∀ j, bs.getD j 0 < 256) : ∀ b ∈ bs, b < 256 := by
  have := mem_take_byte hb bs.length
  rwa [List.take_length] at this
set_option maxRecDepth 100000 in
set_option maxHeartbeats 800000 in
theorem sum_any (w : World) (A : Option Addr) (len c : Nat) (D : Nat → Prop) (bs : List Nat) (hl : bs.length = len) (hsl : Sl w D A len (byteC bs)) (hb : ∀ j, bs.getD j 0 < 256) (hlen : len ≤ 2097152) :
    Calls Tryd.prog 61 #[.slice A len c] w fun e w' => e = .returned (.int .u32 (crcS bs : Nat)) ∧ w = w' := by
  have HS := Lib.hid (And.intro hl (And.intro hsl hb))
  clear hl hsl hb
  go_enter Tryd.func61, Tryd.ntmps61
  go_wp2_with fail
  go_loopw [3, 8] (fun s i wr => ∃ k : Nat, k ≤ len ∧ i = .int .i64 k ∧ s = .int .u32 (crcL (bs.take k) 4294967295 : Nat) ∧ w = wr) (fun _ i _ => len - (intOf i).toNat)
  case atStart => exact ⟨0, Nat.zero_le _, rfl, rfl, rfl⟩
  case round =>
    obtain ⟨k, hk, rfl, rfl, rfl⟩ := hrel
    have hsl := crcL_lt (s := 4294967295) (mem_take_byte HS.out.2.2 k) (by omega)
    obtain ⟨s, hs⟩ : ∃ s, s = crcL (bs.take k) 4294967295 := ⟨_, rfl⟩
    rw [← hs] at hsl
    rw [← hs]
    by_cases hlt : k < len
    · obtain ⟨b, off, hA, -, hc⟩ := HS.out.2.1 (by omega)
      have ck : w.cell? ⟨b, off + k, none⟩ = some (.int .u8 (bs.getD k 0 : Nat)) := hc k hlt
      subst hA
      have hx := HS.out.2.2 k
      obtain ⟨x, hxx⟩ : ∃ x, x = bs.getD k 0 := ⟨_, rfl⟩
      rw [← hxx] at hx ck
      have e0 : bits .xor .u32 (s : Int) (x : Int) = ((s ^^^ x : Nat) : Int) := u32_xor_nat _ _ hsl (by omega)
      have hsx : s ^^^ x < 4294967296 := Nat.xor_lt_two_pow (n := 32) hsl (by omega)
      obtain ⟨y, hy⟩ : ∃ y, y = s ^^^ x := ⟨_, rfl⟩
      rw [← hy] at e0 hsx
      have HY := Lib.hid (And.intro hy (And.intro hs (And.intro hxx hsx)))
      clear hc hs hxx hy
      go_wp2_with fail
      refine (quarter_any y _ HY.out.2.2.2).mono ?_
      rintro e w2 ⟨rfl, rfl⟩
      have e1 := four_step y HY.out.2.2.2
      have hg1 := gN_lt 4 HY.out.2.2.2
      have e2 := four_step (gN 4 y) hg1
      obtain ⟨z, hz⟩ : ∃ z, z = gN 4 y := ⟨_, rfl⟩
      rw [← hz] at e1 e2 hg1
      have HZ := Lib.hid (And.intro hz (And.intro e2 hg1))
      clear hz e2 e0
      go_wp2_with fail
      refine (quarter_any z _ HZ.out.2.2).mono ?_
      rintro e w2 ⟨rfl, rfl⟩
      have e2 := HZ.out.2.1
      obtain ⟨u, hu⟩ : ∃ u, u = gN 4 z := ⟨_, rfl⟩
      rw [← hu] at e2
      have HU := Lib.hid hu
      clear hu e1
      go_wp2_with fail
      go_roundw
      case rel =>
        refine ⟨k + 1, by omega, by go_num, ?_, by trivial⟩
        obtain ⟨hl, -, -⟩ := HS.out
        rw [crc_take bs k (by omega), ← HY.out.2.1, ← HY.out.2.2.1, ← HY.out.1, ← HZ.out.1, ← HU.out]
      case measure => simp [intOf]; omega
    · have e0 : bits .xor .u32 (s : Int) 4294967295 = ((crcS bs : Nat) : Int) := by
        rw [show (4294967295 : Int) = ((4294967295 : Nat) : Int) from rfl, u32_xor_nat _ _ hsl (by omega), hs]
        obtain ⟨hl, -, -⟩ := HS.out
        rw [List.take_of_length_le (by omega)]
        rfl
      clear hs
      go_wp2_with fail
      go_ret
      exact ⟨rfl, rfl⟩
/-- The four bytes of a number, the lowest first. -/
def fourL (u : Nat) : List Nat := [u % 256, u / 256 % 256, u / 65536 % 256, u / 16777216 % 256]
def FourPost (w : World) (u : Nat) (e : Ending) (w' : World) : Prop :=
  e = .returned (.agg #[.int .u8 ((u : Int) % 256), .int .u8 ((u : Int) / 256 % 256), .int .u8 ((u : Int) / 65536 % 256), .int .u8 ((u : Int) / 16777216 % 256)]) ∧ Below w.heap.size w w'
set_option maxRecDepth 100000 in
set_option maxHeartbeats 800000 in
theorem four_any (u : Nat) (w : World) (hu : u < 4294967296) : Calls Tryd.prog 60 #[.int .u32 (u : Nat)] w (FourPost w u) := by
  go_enter Tryd.func60, Tryd.ntmps60
  go_wp2_with fail
  have hb := Blk.fresh w 120 #[.int .u8 ((u : Int) % 256), .int .u8 ((u : Int) / 256 % 256), .int .u8 ((u : Int) / 65536 % 256), .int .u8 ((u : Int) / 16777216)]
  have bel := (Below.refl w.heap.size w).alloc (Nat.le_refl _) (.cells #[.int .u8 ((u : Int) % 256), .int .u8 ((u : Int) / 256 % 256), .int .u8 ((u : Int) / 65536 % 256), .int .u8 ((u : Int) / 16777216)] 120)
  generalize w.alloc (.cells #[.int .u8 ((u : Int) % 256), .int .u8 ((u : Int) / 256 % 256), .int .u8 ((u : Int) / 65536 % 256), .int .u8 ((u : Int) / 16777216)] 120) = w2 at hb bel ⊢
  have r0 := hb.cell 0
  have r1 := hb.cell 1
  have r2 := hb.cell 2
  have r3 := hb.cell 3
  simp at r0 r1 r2 r3
  refine bodyPost_ret (v := .agg #[.int .u8 ((u : Int) % 256), .int .u8 ((u : Int) / 256 % 256), .int .u8 ((u : Int) / 65536 % 256), .int .u8 ((u : Int) / 16777216)]) (by simp [results, Tryd.results60, go_sem, r0, r1, r2, r3]) rfl ⟨?_, bel⟩
  rw [show (u : Int) / 16777216 % 256 = (u : Int) / 16777216 by omega]
theorem sl_four (w : World) (g u : Nat) (h : Blk w g 120 #[.int .u8 ((u : Int) % 256), .int .u8 ((u : Int) / 256 % 256), .int .u8 ((u : Int) / 65536 % 256), .int .u8 ((u : Int) / 16777216 % 256)]) : Sl w (fun k => k = g) (some ⟨g, 0, none⟩) 4 (byteC (fourL u)) := fun _ =>
  ⟨_, _, rfl, rfl, fun j hj => by
    rw [h.cell (0 + j)]
    rcases (show j = 0 ∨ j = 1 ∨ j = 2 ∨ j = 3 by omega) with rfl | rfl | rfl | rfl
    · show some (Value.int .u8 ((u : Int) % 256)) = some (.int .u8 ((u % 256 : Nat) : Int)); rw [show ((u % 256 : Nat) : Int) = (u : Int) % 256 by omega]
    · show some (Value.int .u8 ((u : Int) / 256 % 256)) = some (.int .u8 ((u / 256 % 256 : Nat) : Int)); rw [show ((u / 256 % 256 : Nat) : Int) = (u : Int) / 256 % 256 by omega]
    · show some (Value.int .u8 ((u : Int) / 65536 % 256)) = some (.int .u8 ((u / 65536 % 256 : Nat) : Int)); rw [show ((u / 65536 % 256 : Nat) : Int) = (u : Int) / 65536 % 256 by omega]
    · show some (Value.int .u8 ((u : Int) / 16777216 % 256)) = some (.int .u8 ((u / 16777216 % 256 : Nat) : Int)); rw [show ((u / 16777216 % 256 : Nat) : Int) = (u : Int) / 16777216 % 256 by omega]⟩
theorem fourL_byte (u : Nat) : ∀ b ∈ fourL u, b < 256 := by
  intro b hb
  simp only [fourL, List.mem_cons, List.not_mem_nil, or_false] at hb
  omega
theorem le_four (u : Nat) (hu : u < 4294967296) : le (fourL u) = u := by
  show u % 256 + 256 * (u / 256 % 256 + 256 * (u / 65536 % 256 + 256 * (u / 16777216 % 256 + 256 * 0))) = u
  omega
end Go.Proofs.YtboecnakndpgfaaDoor.F
namespace Go.Proofs.YtboecnakndpgfaaDoor.F
open Go.RowKit
set_option linter.unusedVariables false
set_option linter.unusedSimpArgs false
def leFrom (bs : List Nat) (i m : Nat) : Nat := 2 ^ (8 * i) * le ((bs.take m).drop i)
theorem leFrom_step (bs : List Nat) (i m : Nat) (hi : i < m) (hm : m ≤ bs.length) (hb : ∀ j, bs.getD j 0 < 256) : leFrom bs (i + 1) m ||| bs.getD i 0 * 2 ^ (8 * i) = leFrom bs i m := by
  have hd : (bs.take m).drop i = bs.getD i 0 :: (bs.take m).drop (i + 1) := by
    rw [List.drop_eq_getElem_cons (by simp; omega), List.getElem_take, List.getD_eq_getElem?_getD, List.getElem?_eq_getElem (by omega)]
    rfl
  have hx := hb i
  have h1 : leFrom bs (i + 1) m % 2 ^ (8 * i + 8) = 0 := by
    unfold leFrom
    rw [show 8 * (i + 1) = 8 * i + 8 by omega]
    exact Nat.mul_mod_right _ _
  have h2 : bs.getD i 0 * 2 ^ (8 * i) < 2 ^ (8 * i + 8) := by
    rw [Nat.pow_add, Nat.mul_comm (2 ^ (8 * i))]
    exact Nat.mul_lt_mul_of_pos_right (by omega) (Nat.two_pow_pos _)
  rw [nat_join _ _ _ h1 h2]
  unfold leFrom
  rw [hd]
  show _ = 2 ^ (8 * i) * (bs.getD i 0 + 256 * le ((bs.take m).drop (i + 1)))
  rw [show 8 * (i + 1) = 8 * i + 8 by omega, Nat.pow_add, Nat.mul_add, show (2 : Nat) ^ 8 = 256 by decide, Nat.mul_assoc, Nat.mul_comm (bs.getD i 0), Nat.add_comm]
theorem leFrom_lt (bs : List Nat) (i m : Nat) (hm : m ≤ 8) (hb : ∀ j, bs.getD j 0 < 256) : leFrom bs i m < 18446744073709551616 := by
  have h1 := le_lt (l := (bs.take m).drop i) (fun b hbm => mem_take_byte hb m b (List.mem_of_mem_drop hbm))
  have h2 : ((bs.take m).drop i).length ≤ 8 - i := by simp; omega
  unfold leFrom
  rcases Nat.lt_or_ge i 9 with hi | hi
  · have h3 : (2 : Nat) ^ (8 * ((bs.take m).drop i).length) ≤ 2 ^ (8 * (8 - i)) := Nat.pow_le_pow_right (by omega) (by omega)
    have h4 : 2 ^ (8 * i) * le ((bs.take m).drop i) < 2 ^ (8 * i) * 2 ^ (8 * (8 - i)) := Nat.mul_lt_mul_of_pos_left (by omega) (Nat.two_pow_pos _)
    rw [← Nat.pow_add, show 8 * i + 8 * (8 - i) = 64 by omega] at h4
    exact h4
  · have : (bs.take m).drop i = [] := List.drop_eq_nil_of_le (by simp; omega)
    rw [this]
    show _ * 0 < _
    omega
def LitS (w : World) (gu gb : Nat) (A : Option Addr) (len c : Nat) (u : Nat) (w' : World) : Prop :=
  Blk w' gu 51 #[.int .u64 (u : Nat)] ∧ Blk w' gb 22 #[.slice A len c] ∧ Keeps (fun k => k = gu) w w'
set_option maxRecDepth 100000 in
set_option maxHeartbeats 800000 in
theorem lput_any (w : World) (gu gb : Nat) (A : Option Addr) (len c : Nat) (D : Nat → Prop) (bs : List Nat) (i m : Nat) (hl : bs.length = len) (hsl : Sl w D A len (byteC bs)) (hb : ∀ j, bs.getD j 0 < 256) (hi : i < m) (hm : m ≤ len) (hm8 : m ≤ 8)
    (hu : Blk w gu 51 #[.int .u64 (leFrom bs (i + 1) m : Nat)]) (hbb : Blk w gb 22 #[.slice A len c]) :
    Calls Tryd.prog 83 #[.int .i64 (i : Nat), .pointer (some ⟨gu, 0, none⟩), .pointer (some ⟨gb, 0, none⟩)] w fun e w' => e = .returned (.tuple #[]) ∧ LitS w gu gb A len c (leFrom bs i m) w' := by
  obtain ⟨b, off, hA, -, hc⟩ := hsl (by omega)
  have ck : w.cell? ⟨b, off + i, none⟩ = some (.int .u8 (bs.getD i 0 : Nat)) := hc i (by omega)
  subst hA
  have hx := hb i
  have hst := leFrom_step bs i m hi (by omega) hb
  have hlt := leFrom_lt bs (i + 1) m hm8 hb
  obtain ⟨x, hxx⟩ : ∃ x, x = bs.getD i 0 := ⟨_, rfl⟩
  rw [← hxx] at ck hx hst
  obtain ⟨u, huu⟩ : ∃ u, u = leFrom bs (i + 1) m := ⟨_, rfl⟩
  rw [← huu] at hu hst hlt
  have c0 := hu.cell 0
  have c1 := hbb.cell 0
  have f0 := hu.frozen 0
  simp at c0 c1 f0
  have hne : gb ≠ gu := fun e => (hu.ne hbb (by decide)) e.symm
  have HH := Lib.hid (And.intro hu (And.intro hbb (And.intro hst (And.intro hlt (And.intro hx hne)))))
  clear hu hbb hst hlt hx hne hc hsl hxx huu hb
  have hil : (i : Int) < (len : Int) := by omega
  have hi0 : (0 : Int) ≤ (i : Int) := by omega
  have hin : ((i : Int)).toNat = i := by omega
  have hi8 : IntKind.i64.wrap (8 * (i : Int)) = 8 * (i : Int) := IntWalk.i64_in _ (by omega)
  have hi9 : (0 : Int) ≤ 8 * (i : Int) := by omega
  have hi10 : (8 * (i : Int)).toNat = 8 * i := by omega
  have hi11 : 8 * (i : Int) < 64 := by omega
  go_enter Tryd.func83, Tryd.ntmps83
  go_wp2_with fail
  go_still_tail 10, (by kernel_rfl)
  change wpList _ _ _ _ _ w.drew
  clear hin hi8 hi10
  go_wp2_with fail
  obtain ⟨hu, hbb, hst, hlt, hx, hne⟩ := HH.out
  have hp : (2 : Nat) ^ (8 * i) ≤ 2 ^ 56 := Nat.pow_le_pow_right (by omega) (by omega)
  have hxp : x * 2 ^ (8 * i) < 18446744073709551616 := by
    have : x * 2 ^ (8 * i) ≤ 255 * 2 ^ 56 := Nat.mul_le_mul (by omega) hp
    omega
  have e1 : bits .or .u64 (u : Int) (IntKind.u64.wrap (IntKind.u64.wrap (x : Int) * 2 ^ (8 * i))) = ((leFrom bs i m : Nat) : Int) := by
    rw [IntKind.wrap_u64 (x : Int), show (x : Int) % 18446744073709551616 = (x : Int) by omega, show (x : Int) * 2 ^ (8 * i) = ((x * 2 ^ (8 * i) : Nat) : Int) by rw [Int.natCast_mul, Int.natCast_pow]; rfl, IntKind.wrap_u64,
      show ((x * 2 ^ (8 * i) : Nat) : Int) % 18446744073709551616 = ((x * 2 ^ (8 * i) : Nat) : Int) by omega, u64_or_nat _ _ hlt hxp, hst]
  rw [e1]
  refine bodyPost_end (v := .tuple #[]) (by simp [results, Tryd.results83, go_sem]) rfl ?_
  exact ⟨rfl, by simpa using (hu.set 0 (.int .u64 (leFrom bs i m : Nat))).drew, (hbb.far (by exact hne) _).drew, ((Keeps.refl (fun k => k = gu) w).setCell (p := ⟨gu, 0, none⟩) (fun _ => rfl) _).drew⟩
end Go.Proofs.YtboecnakndpgfaaDoor.F
namespace Go.Proofs.YtboecnakndpgfaaDoor.F
open Go.RowKit
set_option linter.unusedVariables false
set_option linter.unusedSimpArgs false
theorem lput_at (w : World) (gu gb : Nat) (A : Option Addr) (len c : Nat) (D : Nat → Prop) (bs : List Nat) (i m : Nat) (z : Int) (hz : z = (i : Nat)) (hl : bs.length = len) (hsl : Sl w D A len (byteC bs)) (hb : ∀ j, bs.getD j 0 < 256) (hi : i < m) (hm : m ≤ len) (hm8 : m ≤ 8)
    (hu : Blk w gu 51 #[.int .u64 (leFrom bs (i + 1) m : Nat)]) (hbb : Blk w gb 22 #[.slice A len c]) :
    Calls Tryd.prog 83 #[.int .i64 z, .pointer (some ⟨gu, 0, none⟩), .pointer (some ⟨gb, 0, none⟩)] w fun e w' => e = .returned (.tuple #[]) ∧ LitS w gu gb A len c (leFrom bs i m) w' := by
  subst hz
  exact lput_any w gu gb A len c D bs i m hl hsl hb hi hm hm8 hu hbb
def LitPost (w : World) (u : Nat) (e : Ending) (w' : World) : Prop := e = .returned (.int .u64 (u : Nat)) ∧ Keeps (fun _ => False) w w'
theorem leFrom_end (bs : List Nat) (m : Nat) : leFrom bs m m = 0 := by
  unfold leFrom
  rw [List.drop_eq_nil_of_le (by simp; omega)]
  show _ * 0 = 0
  omega
set_option maxRecDepth 100000 in
set_option maxHeartbeats 1600000 in
theorem little_0 (w : World) (A : Option Addr) (c : Nat) (D : Nat → Prop) (bs : List Nat) (hl : bs.length = 0) (hsl : Sl w D A 0 (byteC bs)) (hb : ∀ j, bs.getD j 0 < 256) :
    Calls Tryd.prog 79 #[.slice A 0 c] w (LitPost w (leFrom bs 0 0)) := by
  have HS := Lib.hid (And.intro hl (And.intro hsl hb))
  clear hl hsl hb
  go_enter Tryd.func79, Tryd.ntmps79
  go_wp2_with fail
  go_ret
  have k0 : Keeps (fun _ => False) w ((w.alloc (.cells #[.slice A 0 c] 22)).alloc (.cells #[.int .u64 0] 51)) := ((Keeps.refl _ w).alloc _).alloc _
  exact ⟨rfl, k0⟩
set_option maxRecDepth 100000 in
set_option maxHeartbeats 1600000 in
theorem little_1 (w : World) (A : Option Addr) (c : Nat) (D : Nat → Prop) (bs : List Nat) (hl : bs.length = 1) (hsl : Sl w D A 1 (byteC bs)) (hb : ∀ j, bs.getD j 0 < 256) :
    Calls Tryd.prog 79 #[.slice A 1 c] w (LitPost w (leFrom bs 0 1)) := by
  have HS := Lib.hid (And.intro hl (And.intro hsl hb))
  clear hl hsl hb
  go_enter Tryd.func79, Tryd.ntmps79
  go_wp2_with fail
  obtain ⟨x, hx⟩ : ∃ x, x = w.heap.size := ⟨_, rfl⟩
  have k0 : Keeps (fun _ => False) w ((w.alloc (.cells #[.slice A 1 c] 22)).alloc (.cells #[.int .u64 0] 51)) := ((Keeps.refl _ w).alloc _).alloc _
  have bb0 : Blk ((w.alloc (.cells #[.slice A 1 c] 22)).alloc (.cells #[.int .u64 0] 51)) x 22 #[.slice A 1 c] := by rw [hx]; exact (Blk.fresh w _ _).alloc _
  have bu0 : Blk ((w.alloc (.cells #[.slice A 1 c] 22)).alloc (.cells #[.int .u64 0] 51)) (x + 1) 51 #[.int .u64 (leFrom bs 1 1 : Nat)] := by
    rw [hx, leFrom_end]
    have h := Blk.fresh (w.alloc (.cells #[.slice A 1 c] 22)) 51 #[.int .u64 0]
    simpa using h
  have s0 := HS.out.2.1.keep (w' := ((w.alloc (.cells #[.slice A 1 c] 22)).alloc (.cells #[.int .u64 0] 51))) (fun q _ hq => k0.block q hq (fun h => h))
  generalize ((w.alloc (.cells #[.slice A 1 c] 22)).alloc (.cells #[.int .u64 0] 51)) = w0 at k0 bb0 bu0 s0 ⊢
  rw [← hx]
  have hxw : w.heap.size ≤ x := by omega
  have H0 := Lib.hid (And.intro k0 (And.intro bb0 (And.intro bu0 s0)))
  clear k0 bb0 bu0 s0 hx
  refine (lput_at w0 (x + 1) x A 1 c _ bs 0 1 0 rfl HS.out.1 H0.out.2.2.2 HS.out.2.2 (by omega) (by omega) (by omega) H0.out.2.2.1 H0.out.2.1).mono ?_
  rintro e w1 ⟨rfl, hu, hbb, hk⟩
  have H1 := Lib.hid (And.intro (H0.out.1.trans hk (fun y hy e => by omega)) (And.intro hbb (And.intro hu (HS.out.2.1.keep (w' := w1) (fun q _ hq => (H0.out.1.trans hk (T := fun k => k = x + 1) (S := fun _ => False) (fun y hy e => by omega)).block q hq (fun h => h))))))
  clear hu hbb hk
  have c0 := H1.out.2.2.1.cell 0
  simp at c0
  go_wp2_with fail
  go_ret
  exact ⟨rfl, H1.out.1⟩
set_option maxRecDepth 100000 in
set_option maxHeartbeats 1600000 in
theorem little_2 (w : World) (A : Option Addr) (c : Nat) (D : Nat → Prop) (bs : List Nat) (hl : bs.length = 2) (hsl : Sl w D A 2 (byteC bs)) (hb : ∀ j, bs.getD j 0 < 256) :
    Calls Tryd.prog 79 #[.slice A 2 c] w (LitPost w (leFrom bs 0 2)) := by
  have HS := Lib.hid (And.intro hl (And.intro hsl hb))
  clear hl hsl hb
  go_enter Tryd.func79, Tryd.ntmps79
  go_wp2_with fail
  obtain ⟨x, hx⟩ : ∃ x, x = w.heap.size := ⟨_, rfl⟩
  have k0 : Keeps (fun _ => False) w ((w.alloc (.cells #[.slice A 2 c] 22)).alloc (.cells #[.int .u64 0] 51)) := ((Keeps.refl _ w).alloc _).alloc _
  have bb0 : Blk ((w.alloc (.cells #[.slice A 2 c] 22)).alloc (.cells #[.int .u64 0] 51)) x 22 #[.slice A 2 c] := by rw [hx]; exact (Blk.fresh w _ _).alloc _
  have bu0 : Blk ((w.alloc (.cells #[.slice A 2 c] 22)).alloc (.cells #[.int .u64 0] 51)) (x + 1) 51 #[.int .u64 (leFrom bs 2 2 : Nat)] := by
    rw [hx, leFrom_end]
    have h := Blk.fresh (w.alloc (.cells #[.slice A 2 c] 22)) 51 #[.int .u64 0]
    simpa using h
  have s0 := HS.out.2.1.keep (w' := ((w.alloc (.cells #[.slice A 2 c] 22)).alloc (.cells #[.int .u64 0] 51))) (fun q _ hq => k0.block q hq (fun h => h))
  generalize ((w.alloc (.cells #[.slice A 2 c] 22)).alloc (.cells #[.int .u64 0] 51)) = w0 at k0 bb0 bu0 s0 ⊢
  rw [← hx]
  have hxw : w.heap.size ≤ x := by omega
  have H0 := Lib.hid (And.intro k0 (And.intro bb0 (And.intro bu0 s0)))
  clear k0 bb0 bu0 s0 hx
  refine (lput_at w0 (x + 1) x A 2 c _ bs 1 2 1 rfl HS.out.1 H0.out.2.2.2 HS.out.2.2 (by omega) (by omega) (by omega) H0.out.2.2.1 H0.out.2.1).mono ?_
  rintro e w1 ⟨rfl, hu, hbb, hk⟩
  have H1 := Lib.hid (And.intro (H0.out.1.trans hk (fun y hy e => by omega)) (And.intro hbb (And.intro hu (HS.out.2.1.keep (w' := w1) (fun q _ hq => (H0.out.1.trans hk (T := fun k => k = x + 1) (S := fun _ => False) (fun y hy e => by omega)).block q hq (fun h => h))))))
  clear hu hbb hk
  go_wp2_with fail
  refine (lput_at w1 (x + 1) x A 2 c _ bs 0 2 0 rfl HS.out.1 H1.out.2.2.2 HS.out.2.2 (by omega) (by omega) (by omega) H1.out.2.2.1 H1.out.2.1).mono ?_
  rintro e w2 ⟨rfl, hu, hbb, hk⟩
  have H2 := Lib.hid (And.intro (H1.out.1.trans hk (fun y hy e => by omega)) (And.intro hbb (And.intro hu (HS.out.2.1.keep (w' := w2) (fun q _ hq => (H1.out.1.trans hk (T := fun k => k = x + 1) (S := fun _ => False) (fun y hy e => by omega)).block q hq (fun h => h))))))
  clear hu hbb hk
  have c0 := H2.out.2.2.1.cell 0
  simp at c0
  go_wp2_with fail
  go_ret
  exact ⟨rfl, H2.out.1⟩
set_option maxRecDepth 100000 in
set_option maxHeartbeats 1600000 in
theorem little_3 (w : World) (A : Option Addr) (c : Nat) (D : Nat → Prop) (bs : List Nat) (hl : bs.length = 3) (hsl : Sl w D A 3 (byteC bs)) (hb : ∀ j, bs.getD j 0 < 256) :
    Calls Tryd.prog 79 #[.slice A 3 c] w (LitPost w (leFrom bs 0 3)) := by
  have HS := Lib.hid (And.intro hl (And.intro hsl hb))
  clear hl hsl hb
  go_enter Tryd.func79, Tryd.ntmps79
  go_wp2_with fail
  obtain ⟨x, hx⟩ : ∃ x, x = w.heap.size := ⟨_, rfl⟩
  have k0 : Keeps (fun _ => False) w ((w.alloc (.cells #[.slice A 3 c] 22)).alloc (.cells #[.int .u64 0] 51)) := ((Keeps.refl _ w).alloc _).alloc _
  have bb0 : Blk ((w.alloc (.cells #[.slice A 3 c] 22)).alloc (.cells #[.int .u64 0] 51)) x 22 #[.slice A 3 c] := by rw [hx]; exact (Blk.fresh w _ _).alloc _
  have bu0 : Blk ((w.alloc (.cells #[.slice A 3 c] 22)).alloc (.cells #[.int .u64 0] 51)) (x + 1) 51 #[.int .u64 (leFrom bs 3 3 : Nat)] := by
    rw [hx, leFrom_end]
    have h := Blk.fresh (w.alloc (.cells #[.slice A 3 c] 22)) 51 #[.int .u64 0]
    simpa using h
  have s0 := HS.out.2.1.keep (w' := ((w.alloc (.cells #[.slice A 3 c] 22)).alloc (.cells #[.int .u64 0] 51))) (fun q _ hq => k0.block q hq (fun h => h))
  generalize ((w.alloc (.cells #[.slice A 3 c] 22)).alloc (.cells #[.int .u64 0] 51)) = w0 at k0 bb0 bu0 s0 ⊢
  rw [← hx]
  have hxw : w.heap.size ≤ x := by omega
  have H0 := Lib.hid (And.intro k0 (And.intro bb0 (And.intro bu0 s0)))
  clear k0 bb0 bu0 s0 hx
  refine (lput_at w0 (x + 1) x A 3 c _ bs 2 3 2 rfl HS.out.1 H0.out.2.2.2 HS.out.2.2 (by omega) (by omega) (by omega) H0.out.2.2.1 H0.out.2.1).mono ?_
  rintro e w1 ⟨rfl, hu, hbb, hk⟩
  have H1 := Lib.hid (And.intro (H0.out.1.trans hk (fun y hy e => by omega)) (And.intro hbb (And.intro hu (HS.out.2.1.keep (w' := w1) (fun q _ hq => (H0.out.1.trans hk (T := fun k => k = x + 1) (S := fun _ => False) (fun y hy e => by omega)).block q hq (fun h => h))))))
  clear hu hbb hk
  go_wp2_with fail
  refine (lput_at w1 (x + 1) x A 3 c _ bs 1 3 1 rfl HS.out.1 H1.out.2.2.2 HS.out.2.2 (by omega) (by omega) (by omega) H1.out.2.2.1 H1.out.2.1).mono ?_
  rintro e w2 ⟨rfl, hu, hbb, hk⟩
  have H2 := Lib.hid (And.intro (H1.out.1.trans hk (fun y hy e => by omega)) (And.intro hbb (And.intro hu (HS.out.2.1.keep (w' := w2) (fun q _ hq => (H1.out.1.trans hk (T := fun k => k = x + 1) (S := fun _ => False) (fun y hy e => by omega)).block q hq (fun h => h))))))
  clear hu hbb hk
  go_wp2_with fail
  refine (lput_at w2 (x + 1) x A 3 c _ bs 0 3 0 rfl HS.out.1 H2.out.2.2.2 HS.out.2.2 (by omega) (by omega) (by omega) H2.out.2.2.1 H2.out.2.1).mono ?_
  rintro e w3 ⟨rfl, hu, hbb, hk⟩
  have H3 := Lib.hid (And.intro (H2.out.1.trans hk (fun y hy e => by omega)) (And.intro hbb (And.intro hu (HS.out.2.1.keep (w' := w3) (fun q _ hq => (H2.out.1.trans hk (T := fun k => k = x + 1) (S := fun _ => False) (fun y hy e => by omega)).block q hq (fun h => h))))))
  clear hu hbb hk
  have c0 := H3.out.2.2.1.cell 0
  simp at c0
  go_wp2_with fail
  go_ret
  exact ⟨rfl, H3.out.1⟩
set_option maxRecDepth 100000 in
set_option maxHeartbeats 1600000 in
theorem little_4 (w : World) (A : Option Addr) (c : Nat) (D : Nat → Prop) (bs : List Nat) (hl : bs.length = 4) (hsl : Sl w D A 4 (byteC bs)) (hb : ∀ j, bs.getD j 0 < 256) :
    Calls Tryd.prog 79 #[.slice A 4 c] w (LitPost w (leFrom bs 0 4)) := by
  have HS := Lib.hid (And.intro hl (And.intro hsl hb))
  clear hl hsl hb
  go_enter Tryd.func79, Tryd.ntmps79
  go_wp2_with fail
  obtain ⟨x, hx⟩ : ∃ x, x = w.heap.size := ⟨_, rfl⟩
  have k0 : Keeps (fun _ => False) w ((w.alloc (.cells #[.slice A 4 c] 22)).alloc (.cells #[.int .u64 0] 51)) := ((Keeps.refl _ w).alloc _).alloc _
  have bb0 : Blk ((w.alloc (.cells #[.slice A 4 c] 22)).alloc (.cells #[.int .u64 0] 51)) x 22 #[.slice A 4 c] := by rw [hx]; exact (Blk.fresh w _ _).alloc _
  have bu0 : Blk ((w.alloc (.cells #[.slice A 4 c] 22)).alloc (.cells #[.int .u64 0] 51)) (x + 1) 51 #[.int .u64 (leFrom bs 4 4 : Nat)] := by
    rw [hx, leFrom_end]
    have h := Blk.fresh (w.alloc (.cells #[.slice A 4 c] 22)) 51 #[.int .u64 0]
    simpa using h
  have s0 := HS.out.2.1.keep (w' := ((w.alloc (.cells #[.slice A 4 c] 22)).alloc (.cells #[.int .u64 0] 51))) (fun q _ hq => k0.block q hq (fun h => h))
  generalize ((w.alloc (.cells #[.slice A 4 c] 22)).alloc (.cells #[.int .u64 0] 51)) = w0 at k0 bb0 bu0 s0 ⊢
  rw [← hx]
  have hxw : w.heap.size ≤ x := by omega
  have H0 := Lib.hid (And.intro k0 (And.intro bb0 (And.intro bu0 s0)))
  clear k0 bb0 bu0 s0 hx
  refine (lput_at w0 (x + 1) x A 4 c _ bs 3 4 3 rfl HS.out.1 H0.out.2.2.2 HS.out.2.2 (by omega) (by omega) (by omega) H0.out.2.2.1 H0.out.2.1).mono ?_
  rintro e w1 ⟨rfl, hu, hbb, hk⟩
  have H1 := Lib.hid (And.intro (H0.out.1.trans hk (fun y hy e => by omega)) (And.intro hbb (And.intro hu (HS.out.2.1.keep (w' := w1) (fun q _ hq => (H0.out.1.trans hk (T := fun k => k = x + 1) (S := fun _ => False) (fun y hy e => by omega)).block q hq (fun h => h))))))
  clear hu hbb hk
  go_wp2_with fail
  refine (lput_at w1 (x + 1) x A 4 c _ bs 2 4 2 rfl HS.out.1 H1.out.2.2.2 HS.out.2.2 (by omega) (by omega) (by omega) H1.out.2.2.1 H1.out.2.1).mono ?_
  rintro e w2 ⟨rfl, hu, hbb, hk⟩
  have H2 := Lib.hid (And.intro (H1.out.1.trans hk (fun y hy e => by omega)) (And.intro hbb (And.intro hu (HS.out.2.1.keep (w' := w2) (fun q _ hq => (H1.out.1.trans hk (T := fun k => k = x + 1) (S := fun _ => False) (fun y hy e => by omega)).block q hq (fun h => h))))))
  clear hu hbb hk
  go_wp2_with fail
  refine (lput_at w2 (x + 1) x A 4 c _ bs 1 4 1 rfl HS.out.1 H2.out.2.2.2 HS.out.2.2 (by omega) (by omega) (by omega) H2.out.2.2.1 H2.out.2.1).mono ?_
  rintro e w3 ⟨rfl, hu, hbb, hk⟩
  have H3 := Lib.hid (And.intro (H2.out.1.trans hk (fun y hy e => by omega)) (And.intro hbb (And.intro hu (HS.out.2.1.keep (w' := w3) (fun q _ hq => (H2.out.1.trans hk (T := fun k => k = x + 1) (S := fun _ => False) (fun y hy e => by omega)).block q hq (fun h => h))))))
  clear hu hbb hk
  go_wp2_with fail
  refine (lput_at w3 (x + 1) x A 4 c _ bs 0 4 0 rfl HS.out.1 H3.out.2.2.2 HS.out.2.2 (by omega) (by omega) (by omega) H3.out.2.2.1 H3.out.2.1).mono ?_
  rintro e w4 ⟨rfl, hu, hbb, hk⟩
  have H4 := Lib.hid (And.intro (H3.out.1.trans hk (fun y hy e => by omega)) (And.intro hbb (And.intro hu (HS.out.2.1.keep (w' := w4) (fun q _ hq => (H3.out.1.trans hk (T := fun k => k = x + 1) (S := fun _ => False) (fun y hy e => by omega)).block q hq (fun h => h))))))
  clear hu hbb hk
  have c0 := H4.out.2.2.1.cell 0
  simp at c0
  go_wp2_with fail
  go_ret
  exact ⟨rfl, H4.out.1⟩
set_option maxRecDepth 100000 in
set_option maxHeartbeats 1600000 in
theorem little_5 (w : World) (A : Option Addr) (c : Nat) (D : Nat → Prop) (bs : List Nat) (hl : bs.length = 5) (hsl : Sl w D A 5 (byteC bs)) (hb : ∀ j, bs.getD j 0 < 256) :
    Calls Tryd.prog 79 #[.slice A 5 c] w (LitPost w (leFrom bs 0 5)) := by
  have HS := Lib.hid (And.intro hl (And.intro hsl hb))
  clear hl hsl hb
  go_enter Tryd.func79, Tryd.ntmps79
  go_wp2_with fail
  obtain ⟨x, hx⟩ : ∃ x, x = w.heap.size := ⟨_, rfl⟩
  have k0 : Keeps (fun _ => False) w ((w.alloc (.cells #[.slice A 5 c] 22)).alloc (.cells #[.int .u64 0] 51)) := ((Keeps.refl _ w).alloc _).alloc _
  have bb0 : Blk ((w.alloc (.cells #[.slice A 5 c] 22)).alloc (.cells #[.int .u64 0] 51)) x 22 #[.slice A 5 c] := by rw [hx]; exact (Blk.fresh w _ _).alloc _
  have bu0 : Blk ((w.alloc (.cells #[.slice A 5 c] 22)).alloc (.cells #[.int .u64 0] 51)) (x + 1) 51 #[.int .u64 (leFrom bs 5 5 : Nat)] := by
    rw [hx, leFrom_end]
    have h := Blk.fresh (w.alloc (.cells #[.slice A 5 c] 22)) 51 #[.int .u64 0]
    simpa using h
  have s0 := HS.out.2.1.keep (w' := ((w.alloc (.cells #[.slice A 5 c] 22)).alloc (.cells #[.int .u64 0] 51))) (fun q _ hq => k0.block q hq (fun h => h))
  generalize ((w.alloc (.cells #[.slice A 5 c] 22)).alloc (.cells #[.int .u64 0] 51)) = w0 at k0 bb0 bu0 s0 ⊢
  rw [← hx]
  have hxw : w.heap.size ≤ x := by omega
  have H0 := Lib.hid (And.intro k0 (And.intro bb0 (And.intro bu0 s0)))
  clear k0 bb0 bu0 s0 hx
  refine (lput_at w0 (x + 1) x A 5 c _ bs 4 5 4 rfl HS.out.1 H0.out.2.2.2 HS.out.2.2 (by omega) (by omega) (by omega) H0.out.2.2.1 H0.out.2.1).mono ?_
  rintro e w1 ⟨rfl, hu, hbb, hk⟩
  have H1 := Lib.hid (And.intro (H0.out.1.trans hk (fun y hy e => by omega)) (And.intro hbb (And.intro hu (HS.out.2.1.keep (w' := w1) (fun q _ hq => (H0.out.1.trans hk (T := fun k => k = x + 1) (S := fun _ => False) (fun y hy e => by omega)).block q hq (fun h => h))))))
  clear hu hbb hk
  go_wp2_with fail
  refine (lput_at w1 (x + 1) x A 5 c _ bs 3 5 3 rfl HS.out.1 H1.out.2.2.2 HS.out.2.2 (by omega) (by omega) (by omega) H1.out.2.2.1 H1.out.2.1).mono ?_
  rintro e w2 ⟨rfl, hu, hbb, hk⟩
  have H2 := Lib.hid (And.intro (H1.out.1.trans hk (fun y hy e => by omega)) (And.intro hbb (And.intro hu (HS.out.2.1.keep (w' := w2) (fun q _ hq => (H1.out.1.trans hk (T := fun k => k = x + 1) (S := fun _ => False) (fun y hy e => by omega)).block q hq (fun h => h))))))
  clear hu hbb hk
  go_wp2_with fail
  refine (lput_at w2 (x + 1) x A 5 c _ bs 2 5 2 rfl HS.out.1 H2.out.2.2.2 HS.out.2.2 (by omega) (by omega) (by omega) H2.out.2.2.1 H2.out.2.1).mono ?_
  rintro e w3 ⟨rfl, hu, hbb, hk⟩
  have H3 := Lib.hid (And.intro (H2.out.1.trans hk (fun y hy e => by omega)) (And.intro hbb (And.intro hu (HS.out.2.1.keep (w' := w3) (fun q _ hq => (H2.out.1.trans hk (T := fun k => k = x + 1) (S := fun _ => False) (fun y hy e => by omega)).block q hq (fun h => h))))))
  clear hu hbb hk
  go_wp2_with fail
  refine (lput_at w3 (x + 1) x A 5 c _ bs 1 5 1 rfl HS.out.1 H3.out.2.2.2 HS.out.2.2 (by omega) (by omega) (by omega) H3.out.2.2.1 H3.out.2.1).mono ?_
  rintro e w4 ⟨rfl, hu, hbb, hk⟩
  have H4 := Lib.hid (And.intro (H3.out.1.trans hk (fun y hy e => by omega)) (And.intro hbb (And.intro hu (HS.out.2.1.keep (w' := w4) (fun q _ hq => (H3.out.1.trans hk (T := fun k => k = x + 1) (S := fun _ => False) (fun y hy e => by omega)).block q hq (fun h => h))))))
  clear hu hbb hk
  go_wp2_with fail
  refine (lput_at w4 (x + 1) x A 5 c _ bs 0 5 0 rfl HS.out.1 H4.out.2.2.2 HS.out.2.2 (by omega) (by omega) (by omega) H4.out.2.2.1 H4.out.2.1).mono ?_
  rintro e w5 ⟨rfl, hu, hbb, hk⟩
  have H5 := Lib.hid (And.intro (H4.out.1.trans hk (fun y hy e => by omega)) (And.intro hbb (And.intro hu (HS.out.2.1.keep (w' := w5) (fun q _ hq => (H4.out.1.trans hk (T := fun k => k = x + 1) (S := fun _ => False) (fun y hy e => by omega)).block q hq (fun h => h))))))
  clear hu hbb hk
  have c0 := H5.out.2.2.1.cell 0
  simp at c0
  go_wp2_with fail
  go_ret
  exact ⟨rfl, H5.out.1⟩
set_option maxRecDepth 100000 in
set_option maxHeartbeats 1600000 in
theorem little_6 (w : World) (A : Option Addr) (c : Nat) (D : Nat → Prop) (bs : List Nat) (hl : bs.length = 6) (hsl : Sl w D A 6 (byteC bs)) (hb : ∀ j, bs.getD j 0 < 256) :
    Calls Tryd.prog 79 #[.slice A 6 c] w (LitPost w (leFrom bs 0 6)) := by
  have HS := Lib.hid (And.intro hl (And.intro hsl hb))
  clear hl hsl hb
  go_enter Tryd.func79, Tryd.ntmps79
  go_wp2_with fail
  obtain ⟨x, hx⟩ : ∃ x, x = w.heap.size := ⟨_, rfl⟩
  have k0 : Keeps (fun _ => False) w ((w.alloc (.cells #[.slice A 6 c] 22)).alloc (.cells #[.int .u64 0] 51)) := ((Keeps.refl _ w).alloc _).alloc _
  have bb0 : Blk ((w.alloc (.cells #[.slice A 6 c] 22)).alloc (.cells #[.int .u64 0] 51)) x 22 #[.slice A 6 c] := by rw [hx]; exact (Blk.fresh w _ _).alloc _
  have bu0 : Blk ((w.alloc (.cells #[.slice A 6 c] 22)).alloc (.cells #[.int .u64 0] 51)) (x + 1) 51 #[.int .u64 (leFrom bs 6 6 : Nat)] := by
    rw [hx, leFrom_end]
    have h := Blk.fresh (w.alloc (.cells #[.slice A 6 c] 22)) 51 #[.int .u64 0]
    simpa using h
  have s0 := HS.out.2.1.keep (w' := ((w.alloc (.cells #[.slice A 6 c] 22)).alloc (.cells #[.int .u64 0] 51))) (fun q _ hq => k0.block q hq (fun h => h))
  generalize ((w.alloc (.cells #[.slice A 6 c] 22)).alloc (.cells #[.int .u64 0] 51)) = w0 at k0 bb0 bu0 s0 ⊢
  rw [← hx]
  have hxw : w.heap.size ≤ x := by omega
  have H0 := Lib.hid (And.intro k0 (And.intro bb0 (And.intro bu0 s0)))
  clear k0 bb0 bu0 s0 hx
  refine (lput_at w0 (x + 1) x A 6 c _ bs 5 6 5 rfl HS.out.1 H0.out.2.2.2 HS.out.2.2 (by omega) (by omega) (by omega) H0.out.2.2.1 H0.out.2.1).mono ?_
  rintro e w1 ⟨rfl, hu, hbb, hk⟩
  have H1 := Lib.hid (And.intro (H0.out.1.trans hk (fun y hy e => by omega)) (And.intro hbb (And.intro hu (HS.out.2.1.keep (w' := w1) (fun q _ hq => (H0.out.1.trans hk (T := fun k => k = x + 1) (S := fun _ => False) (fun y hy e => by omega)).block q hq (fun h => h))))))
  clear hu hbb hk
  go_wp2_with fail
  refine (lput_at w1 (x + 1) x A 6 c _ bs 4 6 4 rfl HS.out.1 H1.out.2.2.2 HS.out.2.2 (by omega) (by omega) (by omega) H1.out.2.2.1 H1.out.2.1).mono ?_
  rintro e w2 ⟨rfl, hu, hbb, hk⟩
  have H2 := Lib.hid (And.intro (H1.out.1.trans hk (fun y hy e => by omega)) (And.intro hbb (And.intro hu (HS.out.2.1.keep (w' := w2) (fun q _ hq => (H1.out.1.trans hk (T := fun k => k = x + 1) (S := fun _ => False) (fun y hy e => by omega)).block q hq (fun h => h))))))
  clear hu hbb hk
  go_wp2_with fail
  refine (lput_at w2 (x + 1) x A 6 c _ bs 3 6 3 rfl HS.out.1 H2.out.2.2.2 HS.out.2.2 (by omega) (by omega) (by omega) H2.out.2.2.1 H2.out.2.1).mono ?_
  rintro e w3 ⟨rfl, hu, hbb, hk⟩
  have H3 := Lib.hid (And.intro (H2.out.1.trans hk (fun y hy e => by omega)) (And.intro hbb (And.intro hu (HS.out.2.1.keep (w' := w3) (fun q _ hq => (H2.out.1.trans hk (T := fun k => k = x + 1) (S := fun _ => False) (fun y hy e => by omega)).block q hq (fun h => h))))))
  clear hu hbb hk
  go_wp2_with fail
  refine (lput_at w3 (x + 1) x A 6 c _ bs 2 6 2 rfl HS.out.1 H3.out.2.2.2 HS.out.2.2 (by omega) (by omega) (by omega) H3.out.2.2.1 H3.out.2.1).mono ?_
  rintro e w4 ⟨rfl, hu, hbb, hk⟩
  have H4 := Lib.hid (And.intro (H3.out.1.trans hk (fun y hy e => by omega)) (And.intro hbb (And.intro hu (HS.out.2.1.keep (w' := w4) (fun q _ hq => (H3.out.1.trans hk (T := fun k => k = x + 1) (S := fun _ => False) (fun y hy e => by omega)).block q hq (fun h => h))))))
  clear hu hbb hk
  go_wp2_with fail
  refine (lput_at w4 (x + 1) x A 6 c _ bs 1 6 1 rfl HS.out.1 H4.out.2.2.2 HS.out.2.2 (by omega) (by omega) (by omega) H4.out.2.2.1 H4.out.2.1).mono ?_
  rintro e w5 ⟨rfl, hu, hbb, hk⟩
  have H5 := Lib.hid (And.intro (H4.out.1.trans hk (fun y hy e => by omega)) (And.intro hbb (And.intro hu (HS.out.2.1.keep (w' := w5) (fun q _ hq => (H4.out.1.trans hk (T := fun k => k = x + 1) (S := fun _ => False) (fun y hy e => by omega)).block q hq (fun h => h))))))
  clear hu hbb hk
  go_wp2_with fail
  refine (lput_at w5 (x + 1) x A 6 c _ bs 0 6 0 rfl HS.out.1 H5.out.2.2.2 HS.out.2.2 (by omega) (by omega) (by omega) H5.out.2.2.1 H5.out.2.1).mono ?_
  rintro e w6 ⟨rfl, hu, hbb, hk⟩
  have H6 := Lib.hid (And.intro (H5.out.1.trans hk (fun y hy e => by omega)) (And.intro hbb (And.intro hu (HS.out.2.1.keep (w' := w6) (fun q _ hq => (H5.out.1.trans hk (T := fun k => k = x + 1) (S := fun _ => False) (fun y hy e => by omega)).block q hq (fun h => h))))))
  clear hu hbb hk
  have c0 := H6.out.2.2.1.cell 0
  simp at c0
  go_wp2_with fail
  go_ret
  exact ⟨rfl, H6.out.1⟩
set_option maxRecDepth 100000 in
set_option maxHeartbeats 1600000 in
theorem little_7 (w : World) (A : Option Addr) (c : Nat) (D : Nat → Prop) (bs : List Nat) (hl : bs.length = 7) (hsl : Sl w D A 7 (byteC bs)) (hb : ∀ j, bs.getD j 0 < 256) :
    Calls Tryd.prog 79 #[.slice A 7 c] w (LitPost w (leFrom bs 0 7)) := by
  have HS := Lib.hid (And.intro hl (And.intro hsl hb))
  clear hl hsl hb
  go_enter Tryd.func79, Tryd.ntmps79
  go_wp2_with fail
  obtain ⟨x, hx⟩ : ∃ x, x = w.heap.size := ⟨_, rfl⟩
  have k0 : Keeps (fun _ => False) w ((w.alloc (.cells #[.slice A 7 c] 22)).alloc (.cells #[.int .u64 0] 51)) := ((Keeps.refl _ w).alloc _).alloc _
  have bb0 : Blk ((w.alloc (.cells #[.slice A 7 c] 22)).alloc (.cells #[.int .u64 0] 51)) x 22 #[.slice A 7 c] := by rw [hx]; exact (Blk.fresh w _ _).alloc _
  have bu0 : Blk ((w.alloc (.cells #[.slice A 7 c] 22)).alloc (.cells #[.int .u64 0] 51)) (x + 1) 51 #[.int .u64 (leFrom bs 7 7 : Nat)] := by
    rw [hx, leFrom_end]
    have h := Blk.fresh (w.alloc (.cells #[.slice A 7 c] 22)) 51 #[.int .u64 0]
    simpa using h
  have s0 := HS.out.2.1.keep (w' := ((w.alloc (.cells #[.slice A 7 c] 22)).alloc (.cells #[.int .u64 0] 51))) (fun q _ hq => k0.block q hq (fun h => h))
  generalize ((w.alloc (.cells #[.slice A 7 c] 22)).alloc (.cells #[.int .u64 0] 51)) = w0 at k0 bb0 bu0 s0 ⊢
  rw [← hx]
  have hxw : w.heap.size ≤ x := by omega
  have H0 := Lib.hid (And.intro k0 (And.intro bb0 (And.intro bu0 s0)))
  clear k0 bb0 bu0 s0 hx
  refine (lput_at w0 (x + 1) x A 7 c _ bs 6 7 6 rfl HS.out.1 H0.out.2.2.2 HS.out.2.2 (by omega) (by omega) (by omega) H0.out.2.2.1 H0.out.2.1).mono ?_
  rintro e w1 ⟨rfl, hu, hbb, hk⟩
  have H1 := Lib.hid (And.intro (H0.out.1.trans hk (fun y hy e => by omega)) (And.intro hbb (And.intro hu (HS.out.2.1.keep (w' := w1) (fun q _ hq => (H0.out.1.trans hk (T := fun k => k = x + 1) (S := fun _ => False) (fun y hy e => by omega)).block q hq (fun h => h))))))
  clear hu hbb hk
  go_wp2_with fail
  refine (lput_at w1 (x + 1) x A 7 c _ bs 5 7 5 rfl HS.out.1 H1.out.2.2.2 HS.out.2.2 (by omega) (by omega) (by omega) H1.out.2.2.1 H1.out.2.1).mono ?_
  rintro e w2 ⟨rfl, hu, hbb, hk⟩
  have H2 := Lib.hid (And.intro (H1.out.1.trans hk (fun y hy e => by omega)) (And.intro hbb (And.intro hu (HS.out.2.1.keep (w' := w2) (fun q _ hq => (H1.out.1.trans hk (T := fun k => k = x + 1) (S := fun _ => False) (fun y hy e => by omega)).block q hq (fun h => h))))))
  clear hu hbb hk
  go_wp2_with fail
  refine (lput_at w2 (x + 1) x A 7 c _ bs 4 7 4 rfl HS.out.1 H2.out.2.2.2 HS.out.2.2 (by omega) (by omega) (by omega) H2.out.2.2.1 H2.out.2.1).mono ?_
  rintro e w3 ⟨rfl, hu, hbb, hk⟩
  have H3 := Lib.hid (And.intro (H2.out.1.trans hk (fun y hy e => by omega)) (And.intro hbb (And.intro hu (HS.out.2.1.keep (w' := w3) (fun q _ hq => (H2.out.1.trans hk (T := fun k => k = x + 1) (S := fun _ => False) (fun y hy e => by omega)).block q hq (fun h => h))))))
  clear hu hbb hk
  go_wp2_with fail
  refine (lput_at w3 (x + 1) x A 7 c _ bs 3 7 3 rfl HS.out.1 H3.out.2.2.2 HS.out.2.2 (by omega) (by omega) (by omega) H3.out.2.2.1 H3.out.2.1).mono ?_
  rintro e w4 ⟨rfl, hu, hbb, hk⟩
  have H4 := Lib.hid (And.intro (H3.out.1.trans hk (fun y hy e => by omega)) (And.intro hbb (And.intro hu (HS.out.2.1.keep (w' := w4) (fun q _ hq => (H3.out.1.trans hk (T := fun k => k = x + 1) (S := fun _ => False) (fun y hy e => by omega)).block q hq (fun h => h))))))
  clear hu hbb hk
  go_wp2_with fail
  refine (lput_at w4 (x + 1) x A 7 c _ bs 2 7 2 rfl HS.out.1 H4.out.2.2.2 HS.out.2.2 (by omega) (by omega) (by omega) H4.out.2.2.1 H4.out.2.1).mono ?_
  rintro e w5 ⟨rfl, hu, hbb, hk⟩
  have H5 := Lib.hid (And.intro (H4.out.1.trans hk (fun y hy e => by omega)) (And.intro hbb (And.intro hu (HS.out.2.1.keep (w' := w5) (fun q _ hq => (H4.out.1.trans hk (T := fun k => k = x + 1) (S := fun _ => False) (fun y hy e => by omega)).block q hq (fun h => h))))))
  clear hu hbb hk
  go_wp2_with fail
  refine (lput_at w5 (x + 1) x A 7 c _ bs 1 7 1 rfl HS.out.1 H5.out.2.2.2 HS.out.2.2 (by omega) (by omega) (by omega) H5.out.2.2.1 H5.out.2.1).mono ?_
  rintro e w6 ⟨rfl, hu, hbb, hk⟩
  have H6 := Lib.hid (And.intro (H5.out.1.trans hk (fun y hy e => by omega)) (And.intro hbb (And.intro hu (HS.out.2.1.keep (w' := w6) (fun q _ hq => (H5.out.1.trans hk (T := fun k => k = x + 1) (S := fun _ => False) (fun y hy e => by omega)).block q hq (fun h => h))))))
  clear hu hbb hk
  go_wp2_with fail
  refine (lput_at w6 (x + 1) x A 7 c _ bs 0 7 0 rfl HS.out.1 H6.out.2.2.2 HS.out.2.2 (by omega) (by omega) (by omega) H6.out.2.2.1 H6.out.2.1).mono ?_
  rintro e w7 ⟨rfl, hu, hbb, hk⟩
  have H7 := Lib.hid (And.intro (H6.out.1.trans hk (fun y hy e => by omega)) (And.intro hbb (And.intro hu (HS.out.2.1.keep (w' := w7) (fun q _ hq => (H6.out.1.trans hk (T := fun k => k = x + 1) (S := fun _ => False) (fun y hy e => by omega)).block q hq (fun h => h))))))
  clear hu hbb hk
  have c0 := H7.out.2.2.1.cell 0
  simp at c0
  go_wp2_with fail
  go_ret
  exact ⟨rfl, H7.out.1⟩
set_option maxRecDepth 100000 in
set_option maxHeartbeats 1600000 in
theorem little_8 (w : World) (A : Option Addr) (c : Nat) (D : Nat → Prop) (bs : List Nat) (len : Nat) (hl : bs.length = len) (hlen : 8 ≤ len) (hlen2 : len ≤ 1099511627776) (hsl : Sl w D A len (byteC bs)) (hb : ∀ j, bs.getD j 0 < 256) :
    Calls Tryd.prog 79 #[.slice A len c] w (LitPost w (leFrom bs 0 8)) := by
  have HS := Lib.hid (And.intro hl (And.intro hsl hb))
  clear hl hsl hb
  have hmi : min (len : Int) 8 = 8 := by omega
  have hd : decide ((8 : Int) < (len : Int)) = true ∨ len = 8 := by rcases (show 8 < len ∨ len = 8 by omega) with h | h; exact .inl (by simp; omega); exact .inr h
  clear hd
  go_enter Tryd.func79, Tryd.ntmps79
  go_wp2_with fail
  all_goals
    obtain ⟨x, hx⟩ : ∃ x, x = w.heap.size := ⟨_, rfl⟩
    have k0 : Keeps (fun _ => False) w ((w.alloc (.cells #[.slice A len c] 22)).alloc (.cells #[.int .u64 0] 51)) := ((Keeps.refl _ w).alloc _).alloc _
    have bb0 : Blk ((w.alloc (.cells #[.slice A len c] 22)).alloc (.cells #[.int .u64 0] 51)) x 22 #[.slice A len c] := by rw [hx]; exact (Blk.fresh w _ _).alloc _
    have bu0 : Blk ((w.alloc (.cells #[.slice A len c] 22)).alloc (.cells #[.int .u64 0] 51)) (x + 1) 51 #[.int .u64 (leFrom bs 8 8 : Nat)] := by
      rw [hx, leFrom_end]
      have h := Blk.fresh (w.alloc (.cells #[.slice A len c] 22)) 51 #[.int .u64 0]
      simpa using h
    have s0 := HS.out.2.1.keep (w' := ((w.alloc (.cells #[.slice A len c] 22)).alloc (.cells #[.int .u64 0] 51))) (fun q _ hq => k0.block q hq (fun h => h))
    generalize ((w.alloc (.cells #[.slice A len c] 22)).alloc (.cells #[.int .u64 0] 51)) = w0 at k0 bb0 bu0 s0 ⊢
    rw [← hx]
    have hxw : w.heap.size ≤ x := by omega
    have H0 := Lib.hid (And.intro k0 (And.intro bb0 (And.intro bu0 s0)))
    clear k0 bb0 bu0 s0 hx
    refine (lput_at w0 (x + 1) x A len c _ bs 7 8 7 rfl HS.out.1 H0.out.2.2.2 HS.out.2.2 (by omega) (by omega) (by omega) H0.out.2.2.1 H0.out.2.1).mono ?_
    rintro e w1 ⟨rfl, hu, hbb, hk⟩
    have H1 := Lib.hid (And.intro (H0.out.1.trans hk (fun y hy e => by omega)) (And.intro hbb (And.intro hu (HS.out.2.1.keep (w' := w1) (fun q _ hq => (H0.out.1.trans hk (T := fun k => k = x + 1) (S := fun _ => False) (fun y hy e => by omega)).block q hq (fun h => h))))))
    clear hu hbb hk
    go_wp2_with fail
    refine (lput_at w1 (x + 1) x A len c _ bs 6 8 6 rfl HS.out.1 H1.out.2.2.2 HS.out.2.2 (by omega) (by omega) (by omega) H1.out.2.2.1 H1.out.2.1).mono ?_
    rintro e w2 ⟨rfl, hu, hbb, hk⟩
    have H2 := Lib.hid (And.intro (H1.out.1.trans hk (fun y hy e => by omega)) (And.intro hbb (And.intro hu (HS.out.2.1.keep (w' := w2) (fun q _ hq => (H1.out.1.trans hk (T := fun k => k = x + 1) (S := fun _ => False) (fun y hy e => by omega)).block q hq (fun h => h))))))
    clear hu hbb hk
    go_wp2_with fail
    refine (lput_at w2 (x + 1) x A len c _ bs 5 8 5 rfl HS.out.1 H2.out.2.2.2 HS.out.2.2 (by omega) (by omega) (by omega) H2.out.2.2.1 H2.out.2.1).mono ?_
    rintro e w3 ⟨rfl, hu, hbb, hk⟩
    have H3 := Lib.hid (And.intro (H2.out.1.trans hk (fun y hy e => by omega)) (And.intro hbb (And.intro hu (HS.out.2.1.keep (w' := w3) (fun q _ hq => (H2.out.1.trans hk (T := fun k => k = x + 1) (S := fun _ => False) (fun y hy e => by omega)).block q hq (fun h => h))))))
    clear hu hbb hk
    go_wp2_with fail
    refine (lput_at w3 (x + 1) x A len c _ bs 4 8 4 rfl HS.out.1 H3.out.2.2.2 HS.out.2.2 (by omega) (by omega) (by omega) H3.out.2.2.1 H3.out.2.1).mono ?_
    rintro e w4 ⟨rfl, hu, hbb, hk⟩
    have H4 := Lib.hid (And.intro (H3.out.1.trans hk (fun y hy e => by omega)) (And.intro hbb (And.intro hu (HS.out.2.1.keep (w' := w4) (fun q _ hq => (H3.out.1.trans hk (T := fun k => k = x + 1) (S := fun _ => False) (fun y hy e => by omega)).block q hq (fun h => h))))))
    clear hu hbb hk
    go_wp2_with fail
    refine (lput_at w4 (x + 1) x A len c _ bs 3 8 3 rfl HS.out.1 H4.out.2.2.2 HS.out.2.2 (by omega) (by omega) (by omega) H4.out.2.2.1 H4.out.2.1).mono ?_
    rintro e w5 ⟨rfl, hu, hbb, hk⟩
    have H5 := Lib.hid (And.intro (H4.out.1.trans hk (fun y hy e => by omega)) (And.intro hbb (And.intro hu (HS.out.2.1.keep (w' := w5) (fun q _ hq => (H4.out.1.trans hk (T := fun k => k = x + 1) (S := fun _ => False) (fun y hy e => by omega)).block q hq (fun h => h))))))
    clear hu hbb hk
    go_wp2_with fail
    refine (lput_at w5 (x + 1) x A len c _ bs 2 8 2 rfl HS.out.1 H5.out.2.2.2 HS.out.2.2 (by omega) (by omega) (by omega) H5.out.2.2.1 H5.out.2.1).mono ?_
    rintro e w6 ⟨rfl, hu, hbb, hk⟩
    have H6 := Lib.hid (And.intro (H5.out.1.trans hk (fun y hy e => by omega)) (And.intro hbb (And.intro hu (HS.out.2.1.keep (w' := w6) (fun q _ hq => (H5.out.1.trans hk (T := fun k => k = x + 1) (S := fun _ => False) (fun y hy e => by omega)).block q hq (fun h => h))))))
    clear hu hbb hk
    go_wp2_with fail
    refine (lput_at w6 (x + 1) x A len c _ bs 1 8 1 rfl HS.out.1 H6.out.2.2.2 HS.out.2.2 (by omega) (by omega) (by omega) H6.out.2.2.1 H6.out.2.1).mono ?_
    rintro e w7 ⟨rfl, hu, hbb, hk⟩
    have H7 := Lib.hid (And.intro (H6.out.1.trans hk (fun y hy e => by omega)) (And.intro hbb (And.intro hu (HS.out.2.1.keep (w' := w7) (fun q _ hq => (H6.out.1.trans hk (T := fun k => k = x + 1) (S := fun _ => False) (fun y hy e => by omega)).block q hq (fun h => h))))))
    clear hu hbb hk
    go_wp2_with fail
    refine (lput_at w7 (x + 1) x A len c _ bs 0 8 0 rfl HS.out.1 H7.out.2.2.2 HS.out.2.2 (by omega) (by omega) (by omega) H7.out.2.2.1 H7.out.2.1).mono ?_
    rintro e w8 ⟨rfl, hu, hbb, hk⟩
    have H8 := Lib.hid (And.intro (H7.out.1.trans hk (fun y hy e => by omega)) (And.intro hbb (And.intro hu (HS.out.2.1.keep (w' := w8) (fun q _ hq => (H7.out.1.trans hk (T := fun k => k = x + 1) (S := fun _ => False) (fun y hy e => by omega)).block q hq (fun h => h))))))
    clear hu hbb hk
    have c0 := H8.out.2.2.1.cell 0
    simp at c0
    go_wp2_with fail
    go_ret
    exact ⟨rfl, H8.out.1⟩
theorem little_any (w : World) (A : Option Addr) (len c : Nat) (D : Nat → Prop) (bs : List Nat) (hl : bs.length = len) (hsl : Sl w D A len (byteC bs)) (hb : ∀ j, bs.getD j 0 < 256) (hlen : len ≤ 1099511627776) :
    Calls Tryd.prog 79 #[.slice A len c] w (LitPost w (le (bs.take 8))) := by
  have e : ∀ m, leFrom bs 0 m = le (bs.take m) := fun m => by unfold leFrom; rw [List.drop_zero]; omega
  rcases Nat.lt_or_ge len 8 with h | h
  · have e2 : bs.take 8 = bs.take len := by rw [List.take_of_length_le (by omega), List.take_of_length_le (by omega)]
    rw [e2, ← e]
    rcases (show len = 0 ∨ len = 1 ∨ len = 2 ∨ len = 3 ∨ len = 4 ∨ len = 5 ∨ len = 6 ∨ len = 7 by omega) with rfl | rfl | rfl | rfl | rfl | rfl | rfl | rfl
    · exact little_0 w A c D bs hl hsl hb
    · exact little_1 w A c D bs hl hsl hb
    · exact little_2 w A c D bs hl hsl hb
    · exact little_3 w A c D bs hl hsl hb
    · exact little_4 w A c D bs hl hsl hb
    · exact little_5 w A c D bs hl hsl hb
    · exact little_6 w A c D bs hl hsl hb
    · exact little_7 w A c D bs hl hsl hb
  · rw [← e]
    exact little_8 w A c D bs len hl h hlen hsl hb
end Go.Proofs.YtboecnakndpgfaaDoor.F
namespace Go.Proofs.YtboecnakndpgfaaDoor.F
open Go.RowKit
set_option linter.unusedVariables false
set_option linter.unusedSimpArgs false
def byteV (b : Nat) : Value := .int .u8 (b : Int)
theorem byteElem : Elem1 Tryd.prog 22 5 (.int .u8 0) 1 := Elem1.mk' Tryd.underlying22 rfl (by kernel_rfl)
theorem range_bytes {bs : List Nat} {len : Nat} (hl : bs.length = len) : (List.range len).map (byteC bs) = bs.map byteV := by
  subst hl
  apply List.ext_getElem (by simp)
  intro j h1 h2
  simp at h1
  simp [byteC, byteV, List.getD_eq_getElem?_getD, List.getElem?_eq_getElem h1]
def bodyL (kind : Nat) (bs : List Nat) : List Nat := kind :: (fourL bs.length ++ bs)
def sealL (kind : Nat) (bs : List Nat) : List Nat := bodyL kind bs ++ fourL (crcS (bodyL kind bs))
theorem bodyL_byte {kind : Nat} {bs : List Nat} (hk : kind < 256) (hb : ∀ j, bs.getD j 0 < 256) : ∀ b ∈ bodyL kind bs, b < 256 := by
  intro b hm
  unfold bodyL at hm
  simp only [List.mem_cons, List.mem_append] at hm
  rcases hm with rfl | hm | hm
  · exact hk
  · exact fourL_byte _ b hm
  · exact mem_byte hb b hm
theorem bodyL_length (kind : Nat) (bs : List Nat) : (bodyL kind bs).length = bs.length + 5 := by simp [bodyL, fourL]
theorem sealL_length (kind : Nat) (bs : List Nat) : (sealL kind bs).length = bs.length + 9 := by unfold sealL; rw [List.length_append, bodyL_length]; simp [fourL]
theorem getD_of_mem {bs : List Nat} (h : ∀ b ∈ bs, b < 256) (j : Nat) : bs.getD j 0 < 256 := by
  rw [List.getD_eq_getElem?_getD]
  rcases Nat.lt_or_ge j bs.length with hj | hj
  · rw [List.getElem?_eq_getElem hj]; exact h _ (List.getElem_mem _)
  · rw [List.getElem?_eq_none hj]; decide
theorem sealL_byte {kind : Nat} {bs : List Nat} (hk : kind < 256) (hb : ∀ j, bs.getD j 0 < 256) : ∀ b ∈ sealL kind bs, b < 256 := by
  intro b hm
  unfold sealL at hm
  rcases List.mem_append.1 hm with hm | hm
  · exact bodyL_byte hk hb b hm
  · exact fourL_byte _ b hm
theorem four_fit (z : Int) (u : Nat) (w : World) (hz : z = (u : Nat)) (hu : u < 4294967296) : Calls Tryd.prog 60 #[.int .u32 z] w (FourPost w u) := by
  subst hz
  exact four_any u w hu
theorem own_sl {w : World} {base : Nat} {A : Option Addr} {n c : Nat} {bs : List Nat} (hn : bs.length = n) (h : w.ownsRow base 5 1 (.slice A n c) n (bs.map byteV)) : Sl w (fun k => (Value.slice A n c).ownBlock = some k) A n (byteC bs) := by
  refine Sl.of_own h ?_
  intro j u hu
  rw [List.getElem?_map] at hu
  cases hj : bs[j]? with
  | none => rw [hj] at hu; cases hu
  | some x => rw [hj] at hu; injection hu with hu; unfold byteC; rw [List.getD_eq_getElem?_getD, hj]; exact hu.symm
theorem blk_grown {w w' : World} {g : Nat} {t e : TypeId} {cs : Array Value} {base n : Nat} {v : Value} {xs : List Value} (h : Blk w g t cs) (ho : w.ownsRow base e 1 v n xs) (hne : e ≠ t) (hg : w.grownBy w' v.ownBlock) : Blk w' g t cs :=
  (hg.block g h.lt (fun e' => own_ne ho h hne e'.symm)).trans h
theorem keeps_grown {w0 w w' : World} {e : TypeId} {n : Nat} {v : Value} {xs : List Value} (hk : Keeps (fun _ => False) w0 w) (ho : w.ownsRow w0.heap.size e 1 v n xs) (hg : w.grownBy w' v.ownBlock) : Keeps (fun _ => False) w0 w' :=
  hk.grown hg (fun k hk' hlt => by have := (ho.lt k hk').1; omega)
def BytesPost (w : World) (bs : List Nat) (er : Int) (e : Ending) (w' : World) : Prop :=
  ∃ A c, e = .returned (.tuple #[.slice A bs.length c, .int .i64 er]) ∧ w'.ownsRow w.heap.size 5 1 (.slice A bs.length c) bs.length (bs.map byteV) ∧ Keeps (fun _ => False) w w'
set_option maxRecDepth 100000 in
set_option maxHeartbeats 1600000 in
theorem seal_ok (w : World) (kind : Nat) (A : Option Addr) (len c : Nat) (D : Nat → Prop) (bs : List Nat) (hl : bs.length = len) (hsl : Sl w D A len (byteC bs)) (hb : ∀ j, bs.getD j 0 < 256) (hk : kind < 256) (hlen : len ≤ 1048576) :
    Calls Tryd.prog 29 #[.int .u8 (kind : Nat), .slice A len c] w (BytesPost w (sealL kind bs) 0) := by
  have HS := Lib.hid (And.intro hl (And.intro hsl (And.intro hb hk)))
  clear hl hsl hb hk
  obtain ⟨ht, -, i, hi, hz, hs1, hby⟩ := byteElem
  have HI := Lib.hid (And.intro ht (And.intro hi (And.intro hz (And.intro hs1 hby))))
  clear ht hi hz hs1 hby
  have d0 : decide ((1048576 : Int) < (len : Int)) = false := by simp; omega
  go_enter Tryd.func29, Tryd.ntmps29
  go_wp2_with fail
  refine (four_fit _ len _ (by first | rfl | omega | (rw [IntKind.wrap_u32']; omega)) (by omega)).mono ?_
  rintro e w1 ⟨rfl, hb1⟩
  clear d0
  have H1 := Lib.hid hb1
  clear hb1
  go_wp2_with (at_make; refine wpList_make_own _ rfl _ _ 22 rfl w.heap.size 5 i (.int .u8 0) 1 HI.out.1 HI.out.2.1 HI.out.2.2.1 HI.out.2.2.2.1 .i64 .i64 ((len : Int) + 9) (len + 9) rfl rfl (by omega) ?hb2 ?hb3 ?hb4 ?_)
  case hb2 => rw [HI.out.2.2.2.2]; omega
  case hb3 => unfold maxLen; omega
  case hb4 => have := H1.out.size; simp; omega
  intro w2 ho2 hg2
  obtain ⟨p, hp⟩ : ∃ p, p = w1.heap.size := ⟨_, rfl⟩
  have k1 : Keeps (fun _ => False) w w1 := Keeps.of_below H1.out
  have k2 : Keeps (fun _ => False) w w2 := (k1.alloc _).grown hg2 (fun k hk => by cases hk)
  have bp2 : Blk w2 p 120 #[.int .u8 ((len : Int) % 256), .int .u8 ((len : Int) / 256 % 256), .int .u8 ((len : Int) / 65536 % 256), .int .u8 ((len : Int) / 16777216 % 256)] := by
    rw [hp]
    exact (hg2.block w1.heap.size (Blk.fresh w1 _ _).lt (by simp)).trans (Blk.fresh w1 _ _)
  have H2 := Lib.hid (And.intro ho2 (And.intro k2 bp2))
  clear ho2 hg2 k1 k2 bp2
  go_wp2_with (at_builtin; refine wpList_append_sl (f := fun _ => .int .u8 (kind : Nat)) (D := fun k => k = w2.heap.size) (base := w.heap.size) (n := 0) (xs := []) byteElem rfl (.tmp 19) (.tmp 21) rfl rfl rfl ?hown ?hsl ?h1 ?h63 ?hby ?hbase ?_)
  case hown => exact H2.out.1.alloc _
  case hsl => exact sl_one _ _ _
  case h1 => intro j _; rfl
  case h63 => unfold maxLen; omega
  case hby => omega
  case hbase => have := H2.out.2.1.size; simp; omega
  intro v3 w3 ho3 hg3 hx
  clear hx
  have k3 := keeps_grown (H2.out.2.1.alloc _) (H2.out.1.alloc _) hg3
  have bp3 := blk_grown (H2.out.2.2.alloc _) (H2.out.1.alloc _) (by decide) hg3
  rw [← hp]
  have H3 := Lib.hid (And.intro ho3 (And.intro k3 bp3))
  clear ho3 hg3 k3 bp3 hp
  go_wp2_with (at_builtin; refine wpList_append_sl (f := byteC (fourL len)) (D := fun k => k = p) (base := w.heap.size) (n := 1) (xs := [byteV kind]) byteElem rfl (.tmp 23) (.tmp 24) rfl rfl rfl ?hown ?hsl ?h1 ?h63 ?hby ?hbase ?_)
  case hown => exact H3.out.1
  case hsl => exact sl_four _ _ _ H3.out.2.2
  case h1 => intro j _; rfl
  case h63 => unfold maxLen; omega
  case hby => omega
  case hbase => exact H3.out.2.1.size
  intro v4 w4 ho4 hg4 hx
  clear hx
  have k4 := keeps_grown H3.out.2.1 H3.out.1 hg4
  have H4 := Lib.hid (And.intro ho4 k4)
  clear ho4 hg4 k4
  go_wp2_with (at_builtin; refine wpList_append_sl (f := byteC bs) (D := D) (base := w.heap.size) (n := 5) (xs := [byteV kind] ++ (List.range 4).map (byteC (fourL len))) byteElem rfl (.tmp 25) (.tmp 26) rfl rfl rfl ?hown ?hsl ?h1 ?h63 ?hby ?hbase ?_)
  case hown => exact H4.out.1
  case hsl => exact HS.out.2.1.keep (w' := w4) (fun q _ hq => H4.out.2.block q hq (fun h => h))
  case h1 => intro j _; rfl
  case h63 => unfold maxLen; omega
  case hby => omega
  case hbase => exact H4.out.2.size
  intro v5 w5 ho5 hg5 hx
  clear hx
  have k5 := keeps_grown H4.out.2 H4.out.1 hg5
  have e5 : byteV kind :: byteC (fourL len) 0 :: byteC (fourL len) 1 :: byteC (fourL len) 2 :: byteC (fourL len) 3 :: (List.range len).map (byteC bs) = (bodyL kind bs).map byteV := by
    rw [range_bytes HS.out.1, ← HS.out.1]
    rfl
  rw [e5] at ho5
  obtain ⟨A5, c5, hv5, -, -⟩ := own_form ho5
  subst hv5
  have hbl : (bodyL kind bs).length = 5 + len := by rw [bodyL_length, HS.out.1]; omega
  have H5 := Lib.hid (And.intro ho5 (And.intro k5 hbl))
  clear ho5 hg5 k5 e5 hbl
  go_wp2_with fail
  refine (sum_any _ _ _ _ _ (bodyL kind bs) H5.out.2.2 (own_sl H5.out.2.2 H5.out.1) (getD_of_mem (bodyL_byte HS.out.2.2.2 HS.out.2.2.1)) (by omega)).mono ?_
  rintro e w6 ⟨rfl, rfl⟩
  have hcl := crcS_lt (bodyL_byte HS.out.2.2.2 HS.out.2.2.1)
  obtain ⟨u, hu⟩ : ∃ u, u = crcS (bodyL kind bs) := ⟨_, rfl⟩
  rw [← hu] at hcl
  rw [← hu]
  have HU := Lib.hid (And.intro hu hcl)
  clear hu hcl
  go_wp2_with fail
  refine (four_any u _ HU.out.2).mono ?_
  rintro e w7 ⟨rfl, hb7⟩
  have k7' : Keeps (fun _ => False) w5 w7 := Keeps.of_below hb7
  have o7 := own_keeps H5.out.1 k7' (fun _ _ h => h)
  have k7 := H5.out.2.1.trans' k7'
  have H7 := Lib.hid (And.intro o7 k7)
  clear hb7 k7' o7 k7
  go_wp2_with (at_builtin; refine wpList_append_sl (f := byteC (fourL u)) (D := fun k => k = w7.heap.size) (base := w.heap.size) (n := 5 + len) (xs := (bodyL kind bs).map byteV) byteElem rfl (.tmp 31) (.tmp 32) rfl rfl rfl ?hown ?hsl ?h1 ?h63 ?hby ?hbase ?_)
  case hown => exact H7.out.1.alloc _
  case hsl => exact sl_four _ _ _ (Blk.fresh w7 _ _)
  case h1 => intro j _; rfl
  case h63 => unfold maxLen; omega
  case hby => omega
  case hbase => have := H7.out.2.size; simp; omega
  intro v8 w8 ho8 hg8 hx
  clear hx
  have k8 := keeps_grown (H7.out.2.alloc _) (H7.out.1.alloc _) hg8
  have e8 : (bodyL kind bs).map byteV ++ [byteC (fourL u) 0, byteC (fourL u) 1, byteC (fourL u) 2, byteC (fourL u) 3] = (sealL kind bs).map byteV := by
    unfold sealL
    rw [HU.out.1, List.map_append]
    rfl
  rw [e8] at ho8
  have hsl : 5 + len + 4 = (sealL kind bs).length := by rw [sealL_length, HS.out.1]; omega
  rw [hsl] at ho8
  obtain ⟨A8, c8, hv8, -, -⟩ := own_form ho8
  subst hv8
  have H8 := Lib.hid (And.intro ho8 k8)
  clear ho8 hg8 k8 e8 hsl
  go_wp2_with fail
  go_ret2
  exact ⟨A8, c8, rfl, H8.out.1, H8.out.2⟩
end Go.Proofs.YtboecnakndpgfaaDoor.F
