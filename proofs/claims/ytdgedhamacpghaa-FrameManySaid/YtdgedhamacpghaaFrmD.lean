/-
  Contracts of frame.long, within, Read and Open. (Printed by mk.py.)
-/
import Derived.Test.YtdgedhamacpghaaFrmC
import Derived.Test.YtdgedhamacpghaaFrmL
import Derived.Test.YtdgedhamacpghaaReg
namespace Go.Proofs.Ytdgedhamacpghaa
open Go.RowKit
set_option linter.unusedVariables false
set_option linter.unusedSimpArgs false
theorem getD_sub (bs : List Nat) (lo hi j : Nat) (h : lo + j < hi) : ((bs.take hi).drop lo).getD j 0 = bs.getD (lo + j) 0 := by
  rw [List.getD_eq_getElem?_getD, List.getD_eq_getElem?_getD, List.getElem?_drop, List.getElem?_take_of_lt h]
theorem sl_sub {w : World} {D : Nat → Prop} {b off len : Nat} {bs : List Nat} (h : Sl w D (some ⟨b, off, none⟩) len (byteC bs)) (lo hi : Nat) (hhi : hi ≤ len) : Sl w D (some ⟨b, off + lo, none⟩) (hi - lo) (byteC ((bs.take hi).drop lo)) := by
  intro h0
  obtain ⟨b', off', e, hD, hc⟩ := h (by omega)
  injection e with e
  injection e with e1 e2
  subst e1
  subst e2
  refine ⟨_, _, rfl, hD, fun j hj => ?_⟩
  have := hc (lo + j) (by omega)
  rw [← Nat.add_assoc] at this
  rw [this]
  unfold byteC
  rw [getD_sub bs lo hi j (by omega)]
theorem sub_byte {bs : List Nat} (h : ∀ j, bs.getD j 0 < 256) (lo hi : Nat) : ∀ j, ((bs.take hi).drop lo).getD j 0 < 256 :=
  getD_of_mem (fun b hb => mem_take_byte h hi b (List.mem_of_mem_drop hb))
theorem sub_length (bs : List Nat) (lo hi : Nat) (h : hi ≤ bs.length) : ((bs.take hi).drop lo).length = hi - lo := by simp; omega
def frameN (bs : List Nat) : Nat := le ((bs.take 5).drop 1)
def lenE (bs : List Nat) : Int := if bs.length < 9 then 10 else if 1048576 < frameN bs then 3 else if bs.length < frameN bs + 9 then 10 else 0
def lenV (bs : List Nat) : Nat := if lenE bs = 0 then frameN bs + 9 else 0
def LongPost (w : World) (bs : List Nat) (e : Ending) (w' : World) : Prop := e = .returned (.tuple #[.int .i64 (lenV bs : Nat), .int .i64 (lenE bs)]) ∧ Keeps (fun _ => False) w w'
theorem long_post {w w' : World} {bs : List Nat} (v er : Int) (h1 : lenE bs = er) (h2 : er ≠ 0 ∧ v = 0 ∨ er = 0 ∧ v = ((frameN bs + 9 : Nat) : Int)) (hk : Keeps (fun _ => False) w w') : LongPost w bs (.returned (.tuple #[.int .i64 v, .int .i64 er])) w' := by
  refine ⟨?_, hk⟩
  unfold lenV
  rw [h1]
  rcases h2 with ⟨h2, rfl⟩ | ⟨rfl, rfl⟩
  · rw [if_neg h2]; rfl
  · rw [if_pos rfl]
set_option maxRecDepth 100000 in
set_option maxHeartbeats 1600000 in
theorem long_any (w : World) (A : Option Addr) (len c : Nat) (D : Nat → Prop) (bs : List Nat) (hl : bs.length = len) (hsl : Sl w D A len (byteC bs)) (hb : ∀ j, bs.getD j 0 < 256) (hlen : len ≤ 2097152) (hlc : len ≤ c) :
    Calls Try.prog 22 #[.slice A len c] w (LongPost w bs) := by
  by_cases h9 : len < 9
  · have hfin : LongPost w bs (.returned (.tuple #[.int .i64 0, .int .i64 10])) w := long_post 0 10 (by unfold lenE; rw [if_pos (by omega)]) (.inl ⟨by omega, rfl⟩) (Keeps.refl _ _)
    have HF := Lib.hid hfin
    clear hfin hl hsl hb
    go_enter Try.func22, Try.ntmps22
    go_wp2_with fail
    go_ret2
    exact HF.out
  · obtain ⟨b, off, hA, -, -⟩ := hsl (by omega)
    subst hA
    have hs4 := sl_sub hsl 1 5 (by omega)
    have hb4 := sub_byte hb 1 5
    have hl4 := sub_length bs 1 5 (by omega)
    have hn4 : frameN bs < 4294967296 := by
      have := le_lt (l := (bs.take 5).drop 1) (fun x hx => mem_take_byte hb 5 x (List.mem_of_mem_drop hx))
      rw [hl4] at this
      exact this
    have h8 : le (((bs.take 5).drop 1).take 8) = frameN bs := by rw [List.take_of_length_le (by omega)]; rfl
    have herr : ∀ er, lenE bs = er → lenE bs = er := fun _ h => h
    have hE : lenE bs = if 1048576 < frameN bs then 3 else if len < frameN bs + 9 then 10 else 0 := by unfold lenE; rw [hl, if_neg h9]
    have HS := Lib.hid (And.intro hs4 (And.intro hb4 (And.intro hl4 (And.intro hn4 (And.intro h8 hE)))))
    clear hs4 hb4 hl4 hn4 h8 herr hE hsl hb hl
    have d9 : decide ((len : Int) < 9) = false := by simp; omega
    go_enter Try.func22, Try.ntmps22
    go_wp2_with fail
    refine (little_any _ _ _ _ _ ((bs.take 5).drop 1) HS.out.2.2.1 HS.out.1 HS.out.2.1 (by omega)).mono ?_
    rintro e w1 ⟨rfl, hk1⟩
    obtain ⟨-, -, -, hn4, h8, hE⟩ := HS.out
    rw [h8]
    obtain ⟨n, hn⟩ : ∃ n, n = frameN bs := ⟨_, rfl⟩
    rw [← hn] at hn4 hE
    rw [← hn]
    by_cases h1 : 1048576 < n
    · have hfin : LongPost w bs (.returned (.tuple #[.int .i64 0, .int .i64 3])) w1 := long_post 0 3 (by rw [hE, if_pos h1]) (.inl ⟨by omega, rfl⟩) hk1
      have HF := Lib.hid hfin
      clear hfin hk1 hn h8 hE d9
      go_wp2_with fail
      go_ret2
      exact HF.out
    · by_cases h2 : len < n + 9
      · have hfin : LongPost w bs (.returned (.tuple #[.int .i64 0, .int .i64 10])) w1 := long_post 0 10 (by rw [hE, if_neg h1, if_pos h2]) (.inl ⟨by omega, rfl⟩) hk1
        have HF := Lib.hid hfin
        have d3 : decide ((len : Int) - 9 < (n : Int)) = true := by simp; omega
        clear hfin hk1 hn h8 hE d9
        go_wp2_with fail
        go_ret2
        exact HF.out
      · have hfin : LongPost w bs (.returned (.tuple #[.int .i64 ((n : Int) + 9), .int .i64 0])) w1 := long_post _ 0 (by rw [hE, if_neg h1, if_neg h2]) (.inr ⟨rfl, by omega⟩) hk1
        have HF := Lib.hid hfin
        have d3 : decide ((len : Int) - 9 < (n : Int)) = false := by simp; omega
        clear hfin hk1 hn h8 hE d9
        go_wp2_with fail
        go_ret2
        exact HF.out
def sumOf (bs : List Nat) : Nat := le ((bs.take bs.length).drop (bs.length - 4))
def withE (bs : List Nat) : Int := if sumOf bs = crcS (bs.take (bs.length - 4)) then 0 else 12
def withK (bs : List Nat) : Nat := if withE bs = 0 then bs.getD 0 0 else 0
def withI (bs : List Nat) : List Nat := if withE bs = 0 then (bs.take (bs.length - 4)).drop 5 else []
def WithPost (w : World) (k : Nat) (l : List Nat) (er : Int) (e : Ending) (w' : World) : Prop :=
  ∃ A c, e = .returned (.tuple #[.int .u8 (k : Nat), .slice A l.length c, .int .i64 er]) ∧ w'.ownsRow w.heap.size 5 1 (.slice A l.length c) l.length (l.map byteV) ∧ Keeps (fun _ => False) w w'
theorem own_lit0 (w : World) (base : Nat) (e : TypeId) (hb : base ≤ w.heap.size) : (w.alloc (.cells #[] e)).ownsRow base e 1 (.slice (some ⟨w.heap.size, 0, none⟩) 0 0) 0 [] :=
  World.ownsRow_made w #[] 0 hb (by unfold maxLen; omega) rfl
set_option maxRecDepth 100000 in
set_option maxHeartbeats 1600000 in
theorem within_any (w : World) (A : Option Addr) (len c : Nat) (D : Nat → Prop) (bs : List Nat) (hl : bs.length = len) (hsl : Sl w D A len (byteC bs)) (hb : ∀ j, bs.getD j 0 < 256) (h9 : 9 ≤ len) (hlen : len ≤ 2097152) (hlc : len ≤ c) :
    Calls Try.prog 23 #[.slice A len c] w (WithPost w (withK bs) (withI bs) (withE bs)) := by
  obtain ⟨b, off, hA, -, hcell⟩ := hsl (by omega)
  subst hA
  obtain ⟨m, hm⟩ : ∃ m, m = len - 4 := ⟨_, rfl⟩
  have hs1 := sl_sub hsl m len (Nat.le_refl _)
  have hs2 := sl_sub hsl 0 m (by omega)
  have hs3 := sl_sub hsl 5 m (by omega)
  have hb1 := sub_byte hb m len
  have hb2 := sub_byte hb 0 m
  have hl1 := sub_length bs m len (by omega)
  have hl2 := sub_length bs 0 m (by omega)
  have hl3 := sub_length bs 5 m (by omega)
  rw [Nat.sub_zero] at hs2 hl2
  rw [Nat.add_zero] at hs2
  have h8 : le (((bs.take len).drop m).take 8) = sumOf bs := by rw [List.take_of_length_le (by omega), hm, ← hl]; rfl
  have hcr : crcS ((bs.take m).drop 0) = crcS (bs.take (bs.length - 4)) := by rw [List.drop_zero, hm, hl]
  have hsu : sumOf bs < 4294967296 := by
    have := le_lt (l := (bs.take len).drop m) (fun x hx => mem_take_byte hb len x (List.mem_of_mem_drop hx))
    rw [hl1, show len - m = 4 by omega, List.take_of_length_le (by omega)] at this
    unfold sumOf
    rw [hl, ← hm, List.take_of_length_le (by omega)]
    exact this
  have hI : (bs.take (bs.length - 4)).drop 5 = (bs.take m).drop 5 := by rw [hl, hm]
  have c0 : w.cell? ⟨b, off, none⟩ = some (.int .u8 (bs.getD 0 0 : Nat)) := hcell 0 (by omega)
  have hcu := crcS_lt (mem_take_byte hb (bs.length - 4))
  have HS := Lib.hid (And.intro hs1 (And.intro hs2 (And.intro hs3 (And.intro hb1 (And.intro hb2 (And.intro hl1 (And.intro hl2 (And.intro hl3 (And.intro h8 (And.intro hcr (And.intro hsu (And.intro hI hcu))))))))))))
  have HM := Lib.hid hm
  clear hs1 hs2 hs3 hb1 hb2 hl1 hl2 hl3 h8 hcr hsu hI hcu hcell hsl hb hl
  have e4 : (len : Int) - 4 = (m : Int) := by omega
  have hm5 : 5 ≤ m := by omega
  have hml : m < len := by omega
  clear hm
  have i1 : (0 : Int) ≤ (m : Int) := by omega
  have i2 : (m : Int) ≤ (len : Int) := by omega
  have i3 : (m : Int).toNat = m := by omega
  have i4 : (5 : Int) ≤ (m : Int) := by omega
  have hmc : m ≤ c := by omega
  have hmc2 : m < c := by omega
  have hmc3 : ¬ c = m := by omega
  have hmc4 : ¬ c = 5 := by omega
  have hl0 : 0 < len := by omega
  go_enter Try.func23, Try.ntmps23
  go_wp2_with fail
  clear e4
  obtain ⟨hs1, hs2, hs3, hb1, hb2, hl1, hl2, hl3, h8, hcr, hsu, hI, hcu⟩ := HS.out
  obtain ⟨su, hsu'⟩ : ∃ su, su = sumOf bs := ⟨_, rfl⟩
  obtain ⟨cr, hcr'⟩ : ∃ cr, cr = crcS (bs.take (bs.length - 4)) := ⟨_, rfl⟩
  obtain ⟨k0, hk0⟩ : ∃ k0, k0 = bs.getD 0 0 := ⟨_, rfl⟩
  rw [← hk0] at c0
  rw [← hsu'] at h8 hsu
  rw [← hcr'] at hcr hcu
  have hE : withE bs = if su = cr then 0 else 12 := by rw [hsu', hcr']; rfl
  have hK : withK bs = if withE bs = 0 then k0 else 0 := by rw [hk0]; rfl
  have HT := Lib.hid (And.intro hs1 (And.intro hs2 (And.intro hs3 (And.intro h8 (And.intro hcr (And.intro hE hK))))))
  clear hs1 hs2 hs3 hb1 hb2 hl1 hl2 hl3 h8 hcr hI hE hK hsu' hcr' hk0
  have C0 := Lib.hid c0
  clear c0
  have hS : (fun _ : World => True) (w.drew) := trivial
  refine reg_start (fun _ : World => True) (by kernel_rfl) hS ?_
  refine reg_take (i := 0) (v := ?_) rfl (by kernel_rfl) (by kernel_rfl) (by kernel_rfl) (fun _ _ _ h => h) (Or.inl ⟨by kernel_rfl, ?_⟩) hS ?_
  rotate_left
  · (intro w' hSw; go_simp <;> with_reducible rfl)
  try simp only [List.getElem_toArray, List.getElem_cons_succ, List.getElem_cons_zero, Act.put, List.setIfInBounds_toArray, List.set_cons_zero, List.set_cons_succ]
  refine reg_take (i := 1) (v := ?_) rfl (by kernel_rfl) (by kernel_rfl) (by kernel_rfl) (fun _ _ _ h => h) (Or.inl ⟨by kernel_rfl, ?_⟩) hS ?_
  rotate_left
  · (intro w' hSw; go_simp <;> with_reducible rfl)
  try simp only [List.getElem_toArray, List.getElem_cons_succ, List.getElem_cons_zero, Act.put, List.setIfInBounds_toArray, List.set_cons_zero, List.set_cons_succ]
  refine reg_take (i := 2) (v := ?_) rfl (by kernel_rfl) (by kernel_rfl) (by kernel_rfl) (fun _ _ _ h => h) (Or.inl ⟨by kernel_rfl, ?_⟩) hS ?_
  rotate_left
  · (intro w' hSw; go_simp <;> with_reducible rfl)
  try simp only [List.getElem_toArray, List.getElem_cons_succ, List.getElem_cons_zero, Act.put, List.setIfInBounds_toArray, List.set_cons_zero, List.set_cons_succ]
  refine reg_take (i := 5) (v := ?_) rfl (by kernel_rfl) (by kernel_rfl) (by kernel_rfl) (fun _ _ _ h => h) (Or.inl ⟨by kernel_rfl, ?_⟩) hS ?_
  rotate_left
  · (intro w' hSw; go_simp <;> with_reducible rfl)
  try simp only [List.getElem_toArray, List.getElem_cons_succ, List.getElem_cons_zero, Act.put, List.setIfInBounds_toArray, List.set_cons_zero, List.set_cons_succ]
  refine reg_take (i := 6) (v := ?_) rfl (by kernel_rfl) (by kernel_rfl) (by kernel_rfl) (fun _ _ _ h => h) (Or.inl ⟨by kernel_rfl, ?_⟩) hS ?_
  rotate_left
  · (intro w' hSw; go_simp <;> with_reducible rfl)
  try simp only [List.getElem_toArray, List.getElem_cons_succ, List.getElem_cons_zero, Act.put, List.setIfInBounds_toArray, List.set_cons_zero, List.set_cons_succ]
  refine reg_take (i := 7) (v := ?_) rfl (by kernel_rfl) (by kernel_rfl) (by kernel_rfl) (fun _ _ _ h => h) (Or.inl ⟨by kernel_rfl, ?_⟩) hS ?_
  rotate_left
  · (intro w' hSw; go_simp <;> with_reducible rfl)
  try simp only [List.getElem_toArray, List.getElem_cons_succ, List.getElem_cons_zero, Act.put, List.setIfInBounds_toArray, List.set_cons_zero, List.set_cons_succ]
  refine reg_call (i := 3) rfl (by kernel_rfl) (fun K hK => ?_)
  have HK := Lib.hid hK
  clear hK
  go_simp
  refine (little_any w.drew _ _ _ _ ((bs.take len).drop m) HS.out.2.2.2.2.2.1 (HT.out.1.keep (w' := w.drew) (fun _ _ _ => rfl)) HS.out.2.2.2.1 (by omega)).mono ?_
  rintro e w1 ⟨rfl, hk1⟩
  rw [HT.out.2.2.2.1]
  have hk1' : Keeps (fun _ => False) w w1 := ((Keeps.refl _ w).drew).trans' hk1
  have H1 := Lib.hid hk1'
  clear hk1 hk1'
  go_wp2_with fail
  refine HK.out.to (fun _ : World => True) (fun _ h => h) (trivial) ?_
  clear HK hS
  have hS : (fun _ : World => True) (w1) := trivial
  try simp only [List.getElem_toArray, List.getElem_cons_succ, List.getElem_cons_zero, Act.put, List.setIfInBounds_toArray, List.set_cons_zero, List.set_cons_succ]
  have euw : IntKind.u32.wrap (su : Int) = (su : Int) := by rw [IntKind.wrap_u32']; omega
  refine reg_take (i := 4) (v := ?_) rfl (by kernel_rfl) (by kernel_rfl) (by kernel_rfl) (fun _ _ _ h => h) (Or.inl ⟨by kernel_rfl, ?_⟩) hS ?_
  rotate_left
  · (intro w' hSw; go_simp <;> with_reducible rfl)
  try simp only [List.getElem_toArray, List.getElem_cons_succ, List.getElem_cons_zero, Act.put, List.setIfInBounds_toArray, List.set_cons_zero, List.set_cons_succ]
  clear euw
  refine reg_call (i := 8) rfl (by kernel_rfl) (fun K hK => ?_)
  have HK := Lib.hid hK
  clear hK
  go_simp
  refine (sum_any w1 _ _ _ _ ((bs.take m).drop 0) HS.out.2.2.2.2.2.2.1 (HT.out.2.1.keep (w' := w1) (fun q _ hq => H1.out.block q hq (fun h => h))) HS.out.2.2.2.2.1 (by omega)).mono ?_
  rintro e w2 ⟨rfl, rfl⟩
  rw [HT.out.2.2.2.2.1]
  go_wp2_with fail
  refine HK.out.to (fun _ : World => True) (fun _ h => h) (trivial) ?_
  clear HK hS
  have hS : (fun _ : World => True) (w1) := trivial
  try simp only [List.getElem_toArray, List.getElem_cons_succ, List.getElem_cons_zero, Act.put, List.setIfInBounds_toArray, List.set_cons_zero, List.set_cons_succ]
  refine reg_take (i := 9) (v := ?_) rfl (by kernel_rfl) (by kernel_rfl) (by kernel_rfl) (fun _ _ _ h => h) (Or.inl ⟨by kernel_rfl, ?_⟩) hS ?_
  rotate_left
  · (intro w' hSw; go_simp <;> with_reducible rfl)
  try simp only [List.getElem_toArray, List.getElem_cons_succ, List.getElem_cons_zero, Act.put, List.setIfInBounds_toArray, List.set_cons_zero, List.set_cons_succ]
  refine wpAnyH_done (by kernel_rfl) ?_ _
  try simp only [List.getElem_toArray, List.getElem_cons_succ, List.getElem_cons_zero]
  try simp only [List.getElem_toArray, List.getElem_cons_succ, List.getElem_cons_zero, Act.put, List.setIfInBounds_toArray, List.set_cons_zero, List.set_cons_succ]
  by_cases heq : su = cr
  · have hE0 : withE bs = 0 := by rw [HT.out.2.2.2.2.2.1, if_pos heq]
    have hK0 : withK bs = k0 := by rw [HT.out.2.2.2.2.2.2, hE0, if_pos rfl]
    have hI0 : withI bs = (bs.take m).drop 5 := by unfold withI; rw [hE0, if_pos rfl, HS.out.2.2.2.2.2.2.2.2.2.2.2.1]
    have HE := Lib.hid (And.intro hE0 (And.intro hK0 hI0))
    clear hE0 hK0 hI0
    subst heq
    have d1 : ((su : Int) != (su : Int)) = false := by simp
    have d2 : ((su : Int) == (su : Int)) = true := by simp
    go_wp2_with fail
    clear d1 d2
    have c1 : w1.cell? ⟨b, off, none⟩ = some (.int .u8 (k0 : Nat)) := by
      have hlt := World.block_lt_of_cell? w _ C0.out
      exact (World.cell?_of_block (w := w) (H1.out.block b hlt (fun h => h))).trans C0.out
    have hlt1 : b < w1.heap.size := World.block_lt_of_cell? w1 _ c1
    have sof : ∀ w', Keeps (fun _ => False) w1 w' → (fun w' : World => w'.cell? ⟨b, off, none⟩ = some (.int .u8 (k0 : Nat))) w' := fun w' hk => (World.cell?_of_block (w := w1) (hk.block b hlt1 (fun h => h))).trans c1
    have HSo := Lib.hid sof
    clear sof c1 hlt1
    have kd : Keeps (fun _ => False) w1 w1.drew := (Keeps.refl _ w1).drew
    have hS : (fun w' : World => w'.cell? ⟨b, off, none⟩ = some (.int .u8 (k0 : Nat))) (w1.drew) := HSo.out _ kd
    refine reg_start (fun w' : World => w'.cell? ⟨b, off, none⟩ = some (.int .u8 (k0 : Nat))) (by kernel_rfl) hS ?_
    refine reg_take (i := 0) (v := ?_) rfl (by kernel_rfl) (by kernel_rfl) (by kernel_rfl) (fun _ _ _ h => h) (Or.inl ⟨by kernel_rfl, ?_⟩) hS ?_
    rotate_left
    · (intro w' hSw; go_simp <;> with_reducible rfl)
    try simp only [List.getElem_toArray, List.getElem_cons_succ, List.getElem_cons_zero, Act.put, List.setIfInBounds_toArray, List.set_cons_zero, List.set_cons_succ]
    refine reg_take (i := 1) (v := ?_) rfl (by kernel_rfl) (by kernel_rfl) (by kernel_rfl) (fun _ _ _ h => h) (Or.inl ⟨by kernel_rfl, ?_⟩) hS ?_
    rotate_left
    · (intro w' hSw; go_simp <;> with_reducible rfl)
    try simp only [List.getElem_toArray, List.getElem_cons_succ, List.getElem_cons_zero, Act.put, List.setIfInBounds_toArray, List.set_cons_zero, List.set_cons_succ]
    refine reg_take (i := 2) (v := ?_) rfl (by kernel_rfl) (by kernel_rfl) (by kernel_rfl) (fun _ _ _ h => h) (Or.inl ⟨by kernel_rfl, ?_⟩) hS ?_
    rotate_left
    · (intro w' hSw; go_simp <;> with_reducible rfl)
    try simp only [List.getElem_toArray, List.getElem_cons_succ, List.getElem_cons_zero, Act.put, List.setIfInBounds_toArray, List.set_cons_zero, List.set_cons_succ]
    refine reg_take (i := 4) (v := ?_) rfl (by kernel_rfl) (by kernel_rfl) (by kernel_rfl) (fun _ _ _ h => h) (Or.inl ⟨by kernel_rfl, ?_⟩) hS ?_
    rotate_left
    · (intro w' hSw; go_simp <;> with_reducible rfl)
    try simp only [List.getElem_toArray, List.getElem_cons_succ, List.getElem_cons_zero, Act.put, List.setIfInBounds_toArray, List.set_cons_zero, List.set_cons_succ]
    refine reg_take (i := 5) (v := ?_) rfl (by kernel_rfl) (by kernel_rfl) (by kernel_rfl) (fun _ _ _ h => h) (Or.inl ⟨by kernel_rfl, ?_⟩) hS ?_
    rotate_left
    · (intro w' hSw; go_simp <;> with_reducible rfl)
    try simp only [List.getElem_toArray, List.getElem_cons_succ, List.getElem_cons_zero, Act.put, List.setIfInBounds_toArray, List.set_cons_zero, List.set_cons_succ]
    refine reg_take (i := 6) (v := ?_) rfl (by kernel_rfl) (by kernel_rfl) (by kernel_rfl) (fun _ _ _ h => h) (Or.inl ⟨by kernel_rfl, ?_⟩) hS ?_
    rotate_left
    · (intro w' hSw; go_simp <;> with_reducible rfl)
    try simp only [List.getElem_toArray, List.getElem_cons_succ, List.getElem_cons_zero, Act.put, List.setIfInBounds_toArray, List.set_cons_zero, List.set_cons_succ]
    refine reg_call (i := 3) rfl (by kernel_rfl) (fun K hK => ?_)
    have HK := Lib.hid hK
    clear hK
    go_simp
    go_wp2_with fail
    refine HK.out.to (fun w' : World => w'.cell? ⟨b, off, none⟩ = some (.int .u8 (k0 : Nat))) (fun _ h => h) (HSo.out _ (kd.alloc (.cells #[] 5))) ?_
    clear HK hS
    have hS : (fun w' : World => w'.cell? ⟨b, off, none⟩ = some (.int .u8 (k0 : Nat))) (w1.drew.alloc (.cells #[] 5)) := HSo.out _ (kd.alloc (.cells #[] 5))
    try simp only [List.getElem_toArray, List.getElem_cons_succ, List.getElem_cons_zero, Act.put, List.setIfInBounds_toArray, List.set_cons_zero, List.set_cons_succ]
    refine reg_call (i := 7) rfl (by kernel_rfl) (fun K hK => ?_)
    have HK := Lib.hid hK
    clear hK
    refine step_append_sl (f := byteC ((bs.take m).drop 5)) (D := D) (base := w.heap.size) (n := 0) (xs := []) byteElem rfl (.tmp 22) (.tmp 25) rfl rfl rfl ?hown ?hsl ?h1 ?h63 ?hby ?hbase ?_
    case hown => exact own_lit0 w1.drew w.heap.size 5 H1.out.size
    case hsl => exact HT.out.2.2.1.keep (w' := w1.drew.alloc (.cells #[] 5)) (fun q _ hq => ((H1.out.drew).alloc (.cells #[] 5)).block q hq (fun h => h))
    case h1 => intro j _; rfl
    case h63 => unfold maxLen; omega
    case hby => omega
    case hbase => have := H1.out.size; simp; omega
    intro v3 w3 ho3 hg3 hx3
    clear hx3
    have hkk : Keeps (fun _ => False) w1 w3 := keeps_grown (w0 := w1) (kd.alloc (.cells #[] 5)) (own_lit0 w1.drew w1.heap.size 5 (Nat.le_refl _)) hg3
    have hkw : Keeps (fun _ => False) w w3 := H1.out.trans' hkk
    have e3 : [] ++ (List.range (0 + (m - 5))).map (byteC ((bs.take m).drop 5)) = (withI bs).map byteV := by
      rw [HE.out.2.2, Nat.zero_add, range_bytes HS.out.2.2.2.2.2.2.2.1]; rfl
    have hlI : 0 + (m - 5) = (withI bs).length := by rw [HE.out.2.2, HS.out.2.2.2.2.2.2.2.1]; omega
    rw [Nat.zero_add] at e3
    rw [e3, hlI] at ho3
    obtain ⟨A3, c3, hv3, -, -⟩ := own_form ho3
    subst hv3
    have H3 := Lib.hid (And.intro ho3 (And.intro hkk hkw))
    clear ho3 hg3 hkk hkw e3 hlI
    refine HK.out.to (fun w' : World => w'.cell? ⟨b, off, none⟩ = some (.int .u8 (k0 : Nat))) (fun _ h => h) (HSo.out _ H3.out.2.1) ?_
    clear HK hS
    have hS : (fun w' : World => w'.cell? ⟨b, off, none⟩ = some (.int .u8 (k0 : Nat))) (w3) := HSo.out _ H3.out.2.1
    try simp only [List.getElem_toArray, List.getElem_cons_succ, List.getElem_cons_zero, Act.put, List.setIfInBounds_toArray, List.set_cons_zero, List.set_cons_succ]
    refine reg_take (i := 8) (v := ?_) rfl (by kernel_rfl) (by kernel_rfl) (by kernel_rfl) (fun _ _ _ h => h) (Or.inl ⟨by kernel_rfl, ?_⟩) hS ?_
    rotate_left
    · (intro w' hSw; go_simp <;> with_reducible rfl)
    try simp only [List.getElem_toArray, List.getElem_cons_succ, List.getElem_cons_zero, Act.put, List.setIfInBounds_toArray, List.set_cons_zero, List.set_cons_succ]
    refine reg_take (i := 9) (v := ?_) rfl (by kernel_rfl) (by kernel_rfl) (by kernel_rfl) (fun _ _ _ h => h) (Or.inl ⟨by kernel_rfl, ?_⟩) hS ?_
    rotate_left
    · (intro w' hSw; go_simp <;> with_reducible rfl)
    try simp only [List.getElem_toArray, List.getElem_cons_succ, List.getElem_cons_zero, Act.put, List.setIfInBounds_toArray, List.set_cons_zero, List.set_cons_succ]
    refine reg_take (i := 10) (v := ?_) rfl (by kernel_rfl) (by kernel_rfl) (by kernel_rfl) (fun _ _ _ h => h) (Or.inl ⟨by kernel_rfl, ?_⟩) hS ?_
    rotate_left
    · (intro w' hSw; go_simp <;> with_reducible rfl)
    try simp only [List.getElem_toArray, List.getElem_cons_succ, List.getElem_cons_zero, Act.put, List.setIfInBounds_toArray, List.set_cons_zero, List.set_cons_succ]
    refine wpAnyH_done (by kernel_rfl) ?_ _
    try simp only [List.getElem_toArray, List.getElem_cons_succ, List.getElem_cons_zero]
    try simp only [List.getElem_toArray, List.getElem_cons_succ, List.getElem_cons_zero, Act.put, List.setIfInBounds_toArray, List.set_cons_zero, List.set_cons_succ]
    go_wp2_with fail
    go_ret3
    refine ⟨A3, c3, ?_, H3.out.1, H3.out.2.2⟩
    rw [HE.out.1, HE.out.2.1]
    rfl
  · have hE0 : withE bs = 12 := by rw [HT.out.2.2.2.2.2.1, if_neg heq]
    have hfin : WithPost w (withK bs) (withI bs) (withE bs) (.returned (.tuple #[.int .u8 0, .slice none 0 0, .int .i64 12])) w1 := by
      unfold withK withI
      rw [hE0, if_neg (by omega), if_neg (by omega)]
      exact ⟨none, 0, rfl, ⟨rfl, .inl ⟨rfl, rfl⟩⟩, H1.out⟩
    have HF := Lib.hid hfin
    have d1 : ((su : Int) != (cr : Int)) = true := by simp; omega
    have d2 : ((su : Int) == (cr : Int)) = false := by simp; omega
    clear hE0 hfin heq
    go_wp2_with fail
    go_ret3
    exact HF.out
end Go.Proofs.Ytdgedhamacpghaa
