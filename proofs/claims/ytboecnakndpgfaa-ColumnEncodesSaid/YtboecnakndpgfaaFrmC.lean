/-
  The contract of frame.Seal.
-/
import Derived.Test.YtboecnakndpgfaaFrmA
namespace Go.Proofs.Ytboecnakndpgfaa.F
open Go.RowKit
set_option linter.unusedVariables false
set_option linter.unusedSimpArgs false
def byteV (b : Nat) : Value := .int .u8 (b : Int)
theorem byteElem : Elem1 Try.prog 23 5 (.int .u8 0) 1 := Elem1.mk' Try.underlying23 rfl (by kernel_rfl)
theorem range_bytes {bs : List Nat} {len : Nat} (hl : bs.length = len) : (List.range len).map (byteC bs) = bs.map byteV := by
  subst hl
  apply List.ext_getElem (by simp)
  intro j h1 h2
  simp at h1
  simp [byteC, byteV, List.getD_eq_getElem?_getD, List.getElem?_eq_getElem h1]
def bodyL (kind : Nat) (bs : List Nat) : List Nat := kind :: (fourL bs.length ++ bs)
def sealL (kind : Nat) (bs : List Nat) : List Nat := bodyL kind bs ++ fourL (crcS (bodyL kind bs))
theorem bodyL_byte {kind : Nat} {bs : List Nat} (hk : kind < 256) (hb : ∀ j, bs.getD j 0 < 256) : ∀ b ∈ bodyL kind bs, b < 256 := by
  intro b hm
  unfold bodyL at hm
  simp only [List.mem_cons, List.mem_append] at hm
  rcases hm with rfl | hm | hm
  · exact hk
  · exact fourL_byte _ b hm
  · exact mem_byte hb b hm
theorem bodyL_length (kind : Nat) (bs : List Nat) : (bodyL kind bs).length = bs.length + 5 := by simp [bodyL, fourL]
theorem sealL_length (kind : Nat) (bs : List Nat) : (sealL kind bs).length = bs.length + 9 := by unfold sealL; rw [List.length_append, bodyL_length]; simp [fourL]
theorem getD_of_mem {bs : List Nat} (h : ∀ b ∈ bs, b < 256) (j : Nat) : bs.getD j 0 < 256 := by
  rw [List.getD_eq_getElem?_getD]
  rcases Nat.lt_or_ge j bs.length with hj | hj
  · rw [List.getElem?_eq_getElem hj]; exact h _ (List.getElem_mem _)
  · rw [List.getElem?_eq_none hj]; decide
theorem sealL_byte {kind : Nat} {bs : List Nat} (hk : kind < 256) (hb : ∀ j, bs.getD j 0 < 256) : ∀ b ∈ sealL kind bs, b < 256 := by
  intro b hm
  unfold sealL at hm
  rcases List.mem_append.1 hm with hm | hm
  · exact bodyL_byte hk hb b hm
  · exact fourL_byte _ b hm
theorem four_fit (z : Int) (u : Nat) (w : World) (hz : z = (u : Nat)) (hu : u < 4294967296) : Calls Try.prog 28 #[.int .u32 z] w (FourPost w u) := by
  subst hz
  exact four_any u w hu
theorem own_sl {w : World} {base : Nat} {A : Option Addr} {n c : Nat} {bs : List Nat} (hn : bs.length = n) (h : w.ownsRow base 5 1 (.slice A n c) n (bs.map byteV)) : Sl w (fun k => (Value.slice A n c).ownBlock = some k) A n (byteC bs) := by
  refine Sl.of_own h ?_
  intro j u hu
  rw [List.getElem?_map] at hu
  cases hj : bs[j]? with
  | none => rw [hj] at hu; cases hu
  | some x => rw [hj] at hu; injection hu with hu; unfold byteC; rw [List.getD_eq_getElem?_getD, hj]; exact hu.symm
theorem blk_grown {w w' : World} {g : Nat} {t e : TypeId} {cs : Array Value} {base n : Nat} {v : Value} {xs : List Value} (h : Blk w g t cs) (ho : w.ownsRow base e 1 v n xs) (hne : e ≠ t) (hg : w.grownBy w' v.ownBlock) : Blk w' g t cs :=
  (hg.block g h.lt (fun e' => own_ne ho h hne e'.symm)).trans h
theorem keeps_grown {w0 w w' : World} {e : TypeId} {n : Nat} {v : Value} {xs : List Value} (hk : Keeps (fun _ => False) w0 w) (ho : w.ownsRow w0.heap.size e 1 v n xs) (hg : w.grownBy w' v.ownBlock) : Keeps (fun _ => False) w0 w' :=
  hk.grown hg (fun k hk' hlt => by have := (ho.lt k hk').1; omega)
def BytesPost (w : World) (bs : List Nat) (er : Int) (e : Ending) (w' : World) : Prop :=
  ∃ A c, e = .returned (.tuple #[.slice A bs.length c, .int .i64 er]) ∧ w'.ownsRow w.heap.size 5 1 (.slice A bs.length c) bs.length (bs.map byteV) ∧ Keeps (fun _ => False) w w'
set_option maxRecDepth 100000 in
set_option maxHeartbeats 1600000 in
theorem seal_ok (w : World) (kind : Nat) (A : Option Addr) (len c : Nat) (D : Nat → Prop) (bs : List Nat) (hl : bs.length = len) (hsl : Sl w D A len (byteC bs)) (hb : ∀ j, bs.getD j 0 < 256) (hk : kind < 256) (hlen : len ≤ 1048576) :
    Calls Try.prog 12 #[.int .u8 (kind : Nat), .slice A len c] w (BytesPost w (sealL kind bs) 0) := by
  have HS := Lib.hid (And.intro hl (And.intro hsl (And.intro hb hk)))
  clear hl hsl hb hk
  obtain ⟨ht, -, i, hi, hz, hs1, hby⟩ := byteElem
  have HI := Lib.hid (And.intro ht (And.intro hi (And.intro hz (And.intro hs1 hby))))
  clear ht hi hz hs1 hby
  have d0 : decide ((1048576 : Int) < (len : Int)) = false := by simp; omega
  go_enter Try.func12, Try.ntmps12
  go_wp2_with fail
  refine (four_fit _ len _ (by first | rfl | omega | (rw [IntKind.wrap_u32']; omega)) (by omega)).mono ?_
  rintro e w1 ⟨rfl, hb1⟩
  clear d0
  have H1 := Lib.hid hb1
  clear hb1
  go_wp2_with (at_make; refine wpList_make_own _ rfl _ _ 23 rfl w.heap.size 5 i (.int .u8 0) 1 HI.out.1 HI.out.2.1 HI.out.2.2.1 HI.out.2.2.2.1 .i64 .i64 ((len : Int) + 9) (len + 9) rfl rfl (by omega) ?hb2 ?hb3 ?hb4 ?_)
  case hb2 => rw [HI.out.2.2.2.2]; omega
  case hb3 => unfold maxLen; omega
  case hb4 => have := H1.out.size; simp; omega
  intro w2 ho2 hg2
  obtain ⟨p, hp⟩ : ∃ p, p = w1.heap.size := ⟨_, rfl⟩
  have k1 : Keeps (fun _ => False) w w1 := Keeps.of_below H1.out
  have k2 : Keeps (fun _ => False) w w2 := (k1.alloc _).grown hg2 (fun k hk => by cases hk)
  have bp2 : Blk w2 p 58 #[.int .u8 ((len : Int) % 256), .int .u8 ((len : Int) / 256 % 256), .int .u8 ((len : Int) / 65536 % 256), .int .u8 ((len : Int) / 16777216 % 256)] := by
    rw [hp]
    exact (hg2.block w1.heap.size (Blk.fresh w1 _ _).lt (by simp)).trans (Blk.fresh w1 _ _)
  have H2 := Lib.hid (And.intro ho2 (And.intro k2 bp2))
  clear ho2 hg2 k1 k2 bp2
  go_wp2_with (at_builtin; refine wpList_append_sl (f := fun _ => .int .u8 (kind : Nat)) (D := fun k => k = w2.heap.size) (base := w.heap.size) (n := 0) (xs := []) byteElem rfl (.tmp 19) (.tmp 21) rfl rfl rfl ?hown ?hsl ?h1 ?h63 ?hby ?hbase ?_)
  case hown => exact H2.out.1.alloc _
  case hsl => exact sl_one _ _ _
  case h1 => intro j _; rfl
  case h63 => unfold maxLen; omega
  case hby => omega
  case hbase => have := H2.out.2.1.size; simp; omega
  intro v3 w3 ho3 hg3 hx
  clear hx
  have k3 := keeps_grown (H2.out.2.1.alloc _) (H2.out.1.alloc _) hg3
  have bp3 := blk_grown (H2.out.2.2.alloc _) (H2.out.1.alloc _) (by decide) hg3
  rw [← hp]
  have H3 := Lib.hid (And.intro ho3 (And.intro k3 bp3))
  clear ho3 hg3 k3 bp3 hp
  go_wp2_with (at_builtin; refine wpList_append_sl (f := byteC (fourL len)) (D := fun k => k = p) (base := w.heap.size) (n := 1) (xs := [byteV kind]) byteElem rfl (.tmp 23) (.tmp 24) rfl rfl rfl ?hown ?hsl ?h1 ?h63 ?hby ?hbase ?_)
  case hown => exact H3.out.1
  case hsl => exact sl_four _ _ _ H3.out.2.2
  case h1 => intro j _; rfl
  case h63 => unfold maxLen; omega
  case hby => omega
  case hbase => exact H3.out.2.1.size
  intro v4 w4 ho4 hg4 hx
  clear hx
  have k4 := keeps_grown H3.out.2.1 H3.out.1 hg4
  have H4 := Lib.hid (And.intro ho4 k4)
  clear ho4 hg4 k4
  go_wp2_with (at_builtin; refine wpList_append_sl (f := byteC bs) (D := D) (base := w.heap.size) (n := 5) (xs := [byteV kind] ++ (List.range 4).map (byteC (fourL len))) byteElem rfl (.tmp 25) (.tmp 26) rfl rfl rfl ?hown ?hsl ?h1 ?h63 ?hby ?hbase ?_)
  case hown => exact H4.out.1
  case hsl => exact HS.out.2.1.keep (w' := w4) (fun q _ hq => H4.out.2.block q hq (fun h => h))
  case h1 => intro j _; rfl
  case h63 => unfold maxLen; omega
  case hby => omega
  case hbase => exact H4.out.2.size
  intro v5 w5 ho5 hg5 hx
  clear hx
  have k5 := keeps_grown H4.out.2 H4.out.1 hg5
  have e5 : byteV kind :: byteC (fourL len) 0 :: byteC (fourL len) 1 :: byteC (fourL len) 2 :: byteC (fourL len) 3 :: (List.range len).map (byteC bs) = (bodyL kind bs).map byteV := by
    rw [range_bytes HS.out.1, ← HS.out.1]
    rfl
  rw [e5] at ho5
  obtain ⟨A5, c5, hv5, -, -⟩ := own_form ho5
  subst hv5
  have hbl : (bodyL kind bs).length = 5 + len := by rw [bodyL_length, HS.out.1]; omega
  have H5 := Lib.hid (And.intro ho5 (And.intro k5 hbl))
  clear ho5 hg5 k5 e5 hbl
  go_wp2_with fail
  refine (sum_any _ _ _ _ _ (bodyL kind bs) H5.out.2.2 (own_sl H5.out.2.2 H5.out.1) (getD_of_mem (bodyL_byte HS.out.2.2.2 HS.out.2.2.1)) (by omega)).mono ?_
  rintro e w6 ⟨rfl, rfl⟩
  have hcl := crcS_lt (bodyL_byte HS.out.2.2.2 HS.out.2.2.1)
  obtain ⟨u, hu⟩ : ∃ u, u = crcS (bodyL kind bs) := ⟨_, rfl⟩
  rw [← hu] at hcl
  rw [← hu]
  have HU := Lib.hid (And.intro hu hcl)
  clear hu hcl
  go_wp2_with fail
  refine (four_any u _ HU.out.2).mono ?_
  rintro e w7 ⟨rfl, hb7⟩
  have k7' : Keeps (fun _ => False) w5 w7 := Keeps.of_below hb7
  have o7 := own_keeps H5.out.1 k7' (fun _ _ h => h)
  have k7 := H5.out.2.1.trans' k7'
  have H7 := Lib.hid (And.intro o7 k7)
  clear hb7 k7' o7 k7
  go_wp2_with (at_builtin; refine wpList_append_sl (f := byteC (fourL u)) (D := fun k => k = w7.heap.size) (base := w.heap.size) (n := 5 + len) (xs := (bodyL kind bs).map byteV) byteElem rfl (.tmp 31) (.tmp 32) rfl rfl rfl ?hown ?hsl ?h1 ?h63 ?hby ?hbase ?_)
  case hown => exact H7.out.1.alloc _
  case hsl => exact sl_four _ _ _ (Blk.fresh w7 _ _)
  case h1 => intro j _; rfl
  case h63 => unfold maxLen; omega
  case hby => omega
  case hbase => have := H7.out.2.size; simp; omega
  intro v8 w8 ho8 hg8 hx
  clear hx
  have k8 := keeps_grown (H7.out.2.alloc _) (H7.out.1.alloc _) hg8
  have e8 : (bodyL kind bs).map byteV ++ [byteC (fourL u) 0, byteC (fourL u) 1, byteC (fourL u) 2, byteC (fourL u) 3] = (sealL kind bs).map byteV := by
    unfold sealL
    rw [HU.out.1, List.map_append]
    rfl
  rw [e8] at ho8
  have hsl : 5 + len + 4 = (sealL kind bs).length := by rw [sealL_length, HS.out.1]; omega
  rw [hsl] at ho8
  obtain ⟨A8, c8, hv8, -, -⟩ := own_form ho8
  subst hv8
  have H8 := Lib.hid (And.intro ho8 k8)
  clear ho8 hg8 k8 e8 hsl
  go_wp2_with fail
  go_ret2
  exact ⟨A8, c8, rfl, H8.out.1, H8.out.2⟩
end Go.Proofs.Ytboecnakndpgfaa.F
