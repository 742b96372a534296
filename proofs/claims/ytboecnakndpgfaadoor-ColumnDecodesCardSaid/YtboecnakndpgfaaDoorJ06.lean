/-
  Texts of this proof, joined: FrmD, FrmE, FrmF, FrmP, FrmQ, FrmS, DeltaD.
-/
import Derived.Test.YtboecnakndpgfaaDoorJ03
import Derived.Test.YtboecnakndpgfaaDoorJ01
import Derived.Test.YtboecnakndpgfaaDoorJ04
import Derived.Deep.DeepCutAuto
import Derived.Test.YtboecnakndpgfaaDoorJ02
namespace Go.Proofs.YtboecnakndpgfaaDoor.F
open Go.RowKit
set_option linter.unusedVariables false
set_option linter.unusedSimpArgs false
theorem getD_sub (bs : List Nat) (lo hi j : Nat) (h : lo + j < hi) : ((bs.take hi).drop lo).getD j 0 = bs.getD (lo + j) 0 := by
  rw [List.getD_eq_getElem?_getD, List.getD_eq_getElem?_getD, List.getElem?_drop, List.getElem?_take_of_lt h]
theorem sl_sub {w : World} {D : Nat → Prop} {b off len : Nat} {bs : List Nat} (h : Sl w D (some ⟨b, off, none⟩) len (byteC bs)) (lo hi : Nat) (hhi : hi ≤ len) : Sl w D (some ⟨b, off + lo, none⟩) (hi - lo) (byteC ((bs.take hi).drop lo)) := by
  intro h0
  obtain ⟨b', off', e, hD, hc⟩ := h (by omega)
  injection e with e
  injection e with e1 e2
  subst e1
  subst e2
  refine ⟨_, _, rfl, hD, fun j hj => ?_⟩
  have := hc (lo + j) (by omega)
  rw [← Nat.add_assoc] at this
  rw [this]
  unfold byteC
  rw [getD_sub bs lo hi j (by omega)]
theorem sub_byte {bs : List Nat} (h : ∀ j, bs.getD j 0 < 256) (lo hi : Nat) : ∀ j, ((bs.take hi).drop lo).getD j 0 < 256 :=
  getD_of_mem (fun b hb => mem_take_byte h hi b (List.mem_of_mem_drop hb))
theorem sub_length (bs : List Nat) (lo hi : Nat) (h : hi ≤ bs.length) : ((bs.take hi).drop lo).length = hi - lo := by simp; omega
def frameN (bs : List Nat) : Nat := le ((bs.take 5).drop 1)
def lenE (bs : List Nat) : Int := if bs.length < 9 then 10 else if 1048576 < frameN bs then 3 else if bs.length < frameN bs + 9 then 10 else 0
def lenV (bs : List Nat) : Nat := if lenE bs = 0 then frameN bs + 9 else 0
def LongPost (w : World) (bs : List Nat) (e : Ending) (w' : World) : Prop := e = .returned (.tuple #[.int .i64 (lenV bs : Nat), .int .i64 (lenE bs)]) ∧ Keeps (fun _ => False) w w'
theorem long_post {w w' : World} {bs : List Nat} (v er : Int) (h1 : lenE bs = er) (h2 : er ≠ 0 ∧ v = 0 ∨ er = 0 ∧ v = ((frameN bs + 9 : Nat) : Int)) (hk : Keeps (fun _ => False) w w') : LongPost w bs (.returned (.tuple #[.int .i64 v, .int .i64 er])) w' := by
  refine ⟨?_, hk⟩
  unfold lenV
  rw [h1]
  rcases h2 with ⟨h2, rfl⟩ | ⟨rfl, rfl⟩
  · rw [if_neg h2]; rfl
  · rw [if_pos rfl]
set_option maxRecDepth 100000 in
set_option maxHeartbeats 1600000 in
theorem long_any (w : World) (A : Option Addr) (len c : Nat) (D : Nat → Prop) (bs : List Nat) (hl : bs.length = len) (hsl : Sl w D A len (byteC bs)) (hb : ∀ j, bs.getD j 0 < 256) (hlen : len ≤ 2097152) (hlc : len ≤ c) :
    Calls Tryd.prog 62 #[.slice A len c] w (LongPost w bs) := by
  by_cases h9 : len < 9
  · have hfin : LongPost w bs (.returned (.tuple #[.int .i64 0, .int .i64 10])) w := long_post 0 10 (by unfold lenE; rw [if_pos (by omega)]) (.inl ⟨by omega, rfl⟩) (Keeps.refl _ _)
    have HF := Lib.hid hfin
    clear hfin hl hsl hb
    go_enter Tryd.func62, Tryd.ntmps62
    go_wp2_with fail
    go_ret2
    exact HF.out
  · obtain ⟨b, off, hA, -, -⟩ := hsl (by omega)
    subst hA
    have hs4 := sl_sub hsl 1 5 (by omega)
    have hb4 := sub_byte hb 1 5
    have hl4 := sub_length bs 1 5 (by omega)
    have hn4 : frameN bs < 4294967296 := by
      have := le_lt (l := (bs.take 5).drop 1) (fun x hx => mem_take_byte hb 5 x (List.mem_of_mem_drop hx))
      rw [hl4] at this
      exact this
    have h8 : le (((bs.take 5).drop 1).take 8) = frameN bs := by rw [List.take_of_length_le (by omega)]; rfl
    have herr : ∀ er, lenE bs = er → lenE bs = er := fun _ h => h
    have hE : lenE bs = if 1048576 < frameN bs then 3 else if len < frameN bs + 9 then 10 else 0 := by unfold lenE; rw [hl, if_neg h9]
    have HS := Lib.hid (And.intro hs4 (And.intro hb4 (And.intro hl4 (And.intro hn4 (And.intro h8 hE)))))
    clear hs4 hb4 hl4 hn4 h8 herr hE hsl hb hl
    have d9 : decide ((len : Int) < 9) = false := by simp; omega
    go_enter Tryd.func62, Tryd.ntmps62
    go_wp2_with fail
    refine (little_any _ _ _ _ _ ((bs.take 5).drop 1) HS.out.2.2.1 HS.out.1 HS.out.2.1 (by omega)).mono ?_
    rintro e w1 ⟨rfl, hk1⟩
    obtain ⟨-, -, -, hn4, h8, hE⟩ := HS.out
    rw [h8]
    obtain ⟨n, hn⟩ : ∃ n, n = frameN bs := ⟨_, rfl⟩
    rw [← hn] at hn4 hE
    rw [← hn]
    by_cases h1 : 1048576 < n
    · have hfin : LongPost w bs (.returned (.tuple #[.int .i64 0, .int .i64 3])) w1 := long_post 0 3 (by rw [hE, if_pos h1]) (.inl ⟨by omega, rfl⟩) hk1
      have HF := Lib.hid hfin
      clear hfin hk1 hn h8 hE d9
      go_wp2_with fail
      go_ret2
      exact HF.out
    · by_cases h2 : len < n + 9
      · have hfin : LongPost w bs (.returned (.tuple #[.int .i64 0, .int .i64 10])) w1 := long_post 0 10 (by rw [hE, if_neg h1, if_pos h2]) (.inl ⟨by omega, rfl⟩) hk1
        have HF := Lib.hid hfin
        have d3 : decide ((len : Int) - 9 < (n : Int)) = true := by simp; omega
        clear hfin hk1 hn h8 hE d9
        go_wp2_with fail
        go_ret2
        exact HF.out
      · have hfin : LongPost w bs (.returned (.tuple #[.int .i64 ((n : Int) + 9), .int .i64 0])) w1 := long_post _ 0 (by rw [hE, if_neg h1, if_neg h2]) (.inr ⟨rfl, by omega⟩) hk1
        have HF := Lib.hid hfin
        have d3 : decide ((len : Int) - 9 < (n : Int)) = false := by simp; omega
        clear hfin hk1 hn h8 hE d9
        go_wp2_with fail
        go_ret2
        exact HF.out
def sumOf (bs : List Nat) : Nat := le ((bs.take bs.length).drop (bs.length - 4))
def withE (bs : List Nat) : Int := if sumOf bs = crcS (bs.take (bs.length - 4)) then 0 else 12
def withK (bs : List Nat) : Nat := if withE bs = 0 then bs.getD 0 0 else 0
def withI (bs : List Nat) : List Nat := if withE bs = 0 then (bs.take (bs.length - 4)).drop 5 else []
def WithPost (w : World) (k : Nat) (l : List Nat) (er : Int) (e : Ending) (w' : World) : Prop :=
  ∃ A c, e = .returned (.tuple #[.int .u8 (k : Nat), .slice A l.length c, .int .i64 er]) ∧ w'.ownsRow w.heap.size 5 1 (.slice A l.length c) l.length (l.map byteV) ∧ Keeps (fun _ => False) w w'
theorem own_lit0 (w : World) (base : Nat) (e : TypeId) (hb : base ≤ w.heap.size) : (w.alloc (.cells #[] e)).ownsRow base e 1 (.slice (some ⟨w.heap.size, 0, none⟩) 0 0) 0 [] :=
  World.ownsRow_made w #[] 0 hb (by unfold maxLen; omega) rfl
set_option maxRecDepth 100000 in
set_option maxHeartbeats 1600000 in
theorem within_any (w : World) (A : Option Addr) (len c : Nat) (D : Nat → Prop) (bs : List Nat) (hl : bs.length = len) (hsl : Sl w D A len (byteC bs)) (hb : ∀ j, bs.getD j 0 < 256) (h9 : 9 ≤ len) (hlen : len ≤ 2097152) (hlc : len ≤ c) :
    Calls Tryd.prog 63 #[.slice A len c] w (WithPost w (withK bs) (withI bs) (withE bs)) := by
  obtain ⟨b, off, hA, -, hcell⟩ := hsl (by omega)
  subst hA
  obtain ⟨m, hm⟩ : ∃ m, m = len - 4 := ⟨_, rfl⟩
  have hs1 := sl_sub hsl m len (Nat.le_refl _)
  have hs2 := sl_sub hsl 0 m (by omega)
  have hs3 := sl_sub hsl 5 m (by omega)
  have hb1 := sub_byte hb m len
  have hb2 := sub_byte hb 0 m
  have hl1 := sub_length bs m len (by omega)
  have hl2 := sub_length bs 0 m (by omega)
  have hl3 := sub_length bs 5 m (by omega)
  rw [Nat.sub_zero] at hs2 hl2
  rw [Nat.add_zero] at hs2
  have h8 : le (((bs.take len).drop m).take 8) = sumOf bs := by rw [List.take_of_length_le (by omega), hm, ← hl]; rfl
  have hcr : crcS ((bs.take m).drop 0) = crcS (bs.take (bs.length - 4)) := by rw [List.drop_zero, hm, hl]
  have hsu : sumOf bs < 4294967296 := by
    have := le_lt (l := (bs.take len).drop m) (fun x hx => mem_take_byte hb len x (List.mem_of_mem_drop hx))
    rw [hl1, show len - m = 4 by omega, List.take_of_length_le (by omega)] at this
    unfold sumOf
    rw [hl, ← hm, List.take_of_length_le (by omega)]
    exact this
  have hI : (bs.take (bs.length - 4)).drop 5 = (bs.take m).drop 5 := by rw [hl, hm]
  have c0 : w.cell? ⟨b, off, none⟩ = some (.int .u8 (bs.getD 0 0 : Nat)) := hcell 0 (by omega)
  have hcu := crcS_lt (mem_take_byte hb (bs.length - 4))
  have HS := Lib.hid (And.intro hs1 (And.intro hs2 (And.intro hs3 (And.intro hb1 (And.intro hb2 (And.intro hl1 (And.intro hl2 (And.intro hl3 (And.intro h8 (And.intro hcr (And.intro hsu (And.intro hI hcu))))))))))))
  have HM := Lib.hid hm
  clear hs1 hs2 hs3 hb1 hb2 hl1 hl2 hl3 h8 hcr hsu hI hcu hcell hsl hb hl
  have e4 : (len : Int) - 4 = (m : Int) := by omega
  have hm5 : 5 ≤ m := by omega
  have hml : m < len := by omega
  clear hm
  have i1 : (0 : Int) ≤ (m : Int) := by omega
  have i2 : (m : Int) ≤ (len : Int) := by omega
  have i3 : (m : Int).toNat = m := by omega
  have i4 : (5 : Int) ≤ (m : Int) := by omega
  have hmc : m ≤ c := by omega
  have hmc2 : m < c := by omega
  have hmc3 : ¬ c = m := by omega
  have hmc4 : ¬ c = 5 := by omega
  have hl0 : 0 < len := by omega
  go_enter Tryd.func63, Tryd.ntmps63
  go_wp2_with fail
  clear e4
  obtain ⟨hs1, hs2, hs3, hb1, hb2, hl1, hl2, hl3, h8, hcr, hsu, hI, hcu⟩ := HS.out
  obtain ⟨su, hsu'⟩ : ∃ su, su = sumOf bs := ⟨_, rfl⟩
  obtain ⟨cr, hcr'⟩ : ∃ cr, cr = crcS (bs.take (bs.length - 4)) := ⟨_, rfl⟩
  obtain ⟨k0, hk0⟩ : ∃ k0, k0 = bs.getD 0 0 := ⟨_, rfl⟩
  rw [← hk0] at c0
  rw [← hsu'] at h8 hsu
  rw [← hcr'] at hcr hcu
  have hE : withE bs = if su = cr then 0 else 12 := by rw [hsu', hcr']; rfl
  have hK : withK bs = if withE bs = 0 then k0 else 0 := by rw [hk0]; rfl
  have HT := Lib.hid (And.intro hs1 (And.intro hs2 (And.intro hs3 (And.intro h8 (And.intro hcr (And.intro hE hK))))))
  clear hs1 hs2 hs3 hb1 hb2 hl1 hl2 hl3 h8 hcr hI hE hK hsu' hcr' hk0
  have C0 := Lib.hid c0
  clear c0
  have hS : (fun _ : World => True) (w.drew) := trivial
  refine reg_start (fun _ : World => True) (by kernel_rfl) hS ?_
  refine reg_take (i := 0) (v := ?_) rfl (by kernel_rfl) (by kernel_rfl) (by kernel_rfl) (fun _ _ _ h => h) (Or.inl ⟨by kernel_rfl, ?_⟩) hS ?_
  rotate_left
  · (intro w' hSw; go_simp <;> with_reducible rfl)
  try simp only [List.getElem_toArray, List.getElem_cons_succ, List.getElem_cons_zero, Act.put, List.setIfInBounds_toArray, List.set_cons_zero, List.set_cons_succ]
  refine reg_take (i := 1) (v := ?_) rfl (by kernel_rfl) (by kernel_rfl) (by kernel_rfl) (fun _ _ _ h => h) (Or.inl ⟨by kernel_rfl, ?_⟩) hS ?_
  rotate_left
  · (intro w' hSw; go_simp <;> with_reducible rfl)
  try simp only [List.getElem_toArray, List.getElem_cons_succ, List.getElem_cons_zero, Act.put, List.setIfInBounds_toArray, List.set_cons_zero, List.set_cons_succ]
  refine reg_take (i := 2) (v := ?_) rfl (by kernel_rfl) (by kernel_rfl) (by kernel_rfl) (fun _ _ _ h => h) (Or.inl ⟨by kernel_rfl, ?_⟩) hS ?_
  rotate_left
  · (intro w' hSw; go_simp <;> with_reducible rfl)
  try simp only [List.getElem_toArray, List.getElem_cons_succ, List.getElem_cons_zero, Act.put, List.setIfInBounds_toArray, List.set_cons_zero, List.set_cons_succ]
  refine reg_take (i := 5) (v := ?_) rfl (by kernel_rfl) (by kernel_rfl) (by kernel_rfl) (fun _ _ _ h => h) (Or.inl ⟨by kernel_rfl, ?_⟩) hS ?_
  rotate_left
  · (intro w' hSw; go_simp <;> with_reducible rfl)
  try simp only [List.getElem_toArray, List.getElem_cons_succ, List.getElem_cons_zero, Act.put, List.setIfInBounds_toArray, List.set_cons_zero, List.set_cons_succ]
  refine reg_take (i := 6) (v := ?_) rfl (by kernel_rfl) (by kernel_rfl) (by kernel_rfl) (fun _ _ _ h => h) (Or.inl ⟨by kernel_rfl, ?_⟩) hS ?_
  rotate_left
  · (intro w' hSw; go_simp <;> with_reducible rfl)
  try simp only [List.getElem_toArray, List.getElem_cons_succ, List.getElem_cons_zero, Act.put, List.setIfInBounds_toArray, List.set_cons_zero, List.set_cons_succ]
  refine reg_take (i := 7) (v := ?_) rfl (by kernel_rfl) (by kernel_rfl) (by kernel_rfl) (fun _ _ _ h => h) (Or.inl ⟨by kernel_rfl, ?_⟩) hS ?_
  rotate_left
  · (intro w' hSw; go_simp <;> with_reducible rfl)
  try simp only [List.getElem_toArray, List.getElem_cons_succ, List.getElem_cons_zero, Act.put, List.setIfInBounds_toArray, List.set_cons_zero, List.set_cons_succ]
  refine reg_call (i := 3) rfl (by kernel_rfl) (fun K hK => ?_)
  have HK := Lib.hid hK
  clear hK
  go_simp
  refine (little_any w.drew _ _ _ _ ((bs.take len).drop m) HS.out.2.2.2.2.2.1 (HT.out.1.keep (w' := w.drew) (fun _ _ _ => rfl)) HS.out.2.2.2.1 (by omega)).mono ?_
  rintro e w1 ⟨rfl, hk1⟩
  rw [HT.out.2.2.2.1]
  have hk1' : Keeps (fun _ => False) w w1 := ((Keeps.refl _ w).drew).trans' hk1
  have H1 := Lib.hid hk1'
  clear hk1 hk1'
  go_wp2_with fail
  refine HK.out.to (fun _ : World => True) (fun _ h => h) (trivial) ?_
  clear HK hS
  have hS : (fun _ : World => True) (w1) := trivial
  try simp only [List.getElem_toArray, List.getElem_cons_succ, List.getElem_cons_zero, Act.put, List.setIfInBounds_toArray, List.set_cons_zero, List.set_cons_succ]
  have euw : IntKind.u32.wrap (su : Int) = (su : Int) := by rw [IntKind.wrap_u32']; omega
  refine reg_take (i := 4) (v := ?_) rfl (by kernel_rfl) (by kernel_rfl) (by kernel_rfl) (fun _ _ _ h => h) (Or.inl ⟨by kernel_rfl, ?_⟩) hS ?_
  rotate_left
  · (intro w' hSw; go_simp <;> with_reducible rfl)
  try simp only [List.getElem_toArray, List.getElem_cons_succ, List.getElem_cons_zero, Act.put, List.setIfInBounds_toArray, List.set_cons_zero, List.set_cons_succ]
  clear euw
  refine reg_call (i := 8) rfl (by kernel_rfl) (fun K hK => ?_)
  have HK := Lib.hid hK
  clear hK
  go_simp
  refine (sum_any w1 _ _ _ _ ((bs.take m).drop 0) HS.out.2.2.2.2.2.2.1 (HT.out.2.1.keep (w' := w1) (fun q _ hq => H1.out.block q hq (fun h => h))) HS.out.2.2.2.2.1 (by omega)).mono ?_
  rintro e w2 ⟨rfl, rfl⟩
  rw [HT.out.2.2.2.2.1]
  go_wp2_with fail
  refine HK.out.to (fun _ : World => True) (fun _ h => h) (trivial) ?_
  clear HK hS
  have hS : (fun _ : World => True) (w1) := trivial
  try simp only [List.getElem_toArray, List.getElem_cons_succ, List.getElem_cons_zero, Act.put, List.setIfInBounds_toArray, List.set_cons_zero, List.set_cons_succ]
  refine reg_take (i := 9) (v := ?_) rfl (by kernel_rfl) (by kernel_rfl) (by kernel_rfl) (fun _ _ _ h => h) (Or.inl ⟨by kernel_rfl, ?_⟩) hS ?_
  rotate_left
  · (intro w' hSw; go_simp <;> with_reducible rfl)
  try simp only [List.getElem_toArray, List.getElem_cons_succ, List.getElem_cons_zero, Act.put, List.setIfInBounds_toArray, List.set_cons_zero, List.set_cons_succ]
  refine wpAnyH_done (by kernel_rfl) ?_ _
  try simp only [List.getElem_toArray, List.getElem_cons_succ, List.getElem_cons_zero]
  try simp only [List.getElem_toArray, List.getElem_cons_succ, List.getElem_cons_zero, Act.put, List.setIfInBounds_toArray, List.set_cons_zero, List.set_cons_succ]
  by_cases heq : su = cr
  · have hE0 : withE bs = 0 := by rw [HT.out.2.2.2.2.2.1, if_pos heq]
    have hK0 : withK bs = k0 := by rw [HT.out.2.2.2.2.2.2, hE0, if_pos rfl]
    have hI0 : withI bs = (bs.take m).drop 5 := by unfold withI; rw [hE0, if_pos rfl, HS.out.2.2.2.2.2.2.2.2.2.2.2.1]
    have HE := Lib.hid (And.intro hE0 (And.intro hK0 hI0))
    clear hE0 hK0 hI0
    subst heq
    have d1 : ((su : Int) != (su : Int)) = false := by simp
    have d2 : ((su : Int) == (su : Int)) = true := by simp
    go_wp2_with fail
    clear d1 d2
    have c1 : w1.cell? ⟨b, off, none⟩ = some (.int .u8 (k0 : Nat)) := by
      have hlt := World.block_lt_of_cell? w _ C0.out
      exact (World.cell?_of_block (w := w) (H1.out.block b hlt (fun h => h))).trans C0.out
    have hlt1 : b < w1.heap.size := World.block_lt_of_cell? w1 _ c1
    have sof : ∀ w', Keeps (fun _ => False) w1 w' → (fun w' : World => w'.cell? ⟨b, off, none⟩ = some (.int .u8 (k0 : Nat))) w' := fun w' hk => (World.cell?_of_block (w := w1) (hk.block b hlt1 (fun h => h))).trans c1
    have HSo := Lib.hid sof
    clear sof c1 hlt1
    have kd : Keeps (fun _ => False) w1 w1.drew := (Keeps.refl _ w1).drew
    have hS : (fun w' : World => w'.cell? ⟨b, off, none⟩ = some (.int .u8 (k0 : Nat))) (w1.drew) := HSo.out _ kd
    refine reg_start (fun w' : World => w'.cell? ⟨b, off, none⟩ = some (.int .u8 (k0 : Nat))) (by kernel_rfl) hS ?_
    refine reg_take (i := 0) (v := ?_) rfl (by kernel_rfl) (by kernel_rfl) (by kernel_rfl) (fun _ _ _ h => h) (Or.inl ⟨by kernel_rfl, ?_⟩) hS ?_
    rotate_left
    · (intro w' hSw; go_simp <;> with_reducible rfl)
    try simp only [List.getElem_toArray, List.getElem_cons_succ, List.getElem_cons_zero, Act.put, List.setIfInBounds_toArray, List.set_cons_zero, List.set_cons_succ]
    refine reg_take (i := 1) (v := ?_) rfl (by kernel_rfl) (by kernel_rfl) (by kernel_rfl) (fun _ _ _ h => h) (Or.inl ⟨by kernel_rfl, ?_⟩) hS ?_
    rotate_left
    · (intro w' hSw; go_simp <;> with_reducible rfl)
    try simp only [List.getElem_toArray, List.getElem_cons_succ, List.getElem_cons_zero, Act.put, List.setIfInBounds_toArray, List.set_cons_zero, List.set_cons_succ]
    refine reg_take (i := 2) (v := ?_) rfl (by kernel_rfl) (by kernel_rfl) (by kernel_rfl) (fun _ _ _ h => h) (Or.inl ⟨by kernel_rfl, ?_⟩) hS ?_
    rotate_left
    · (intro w' hSw; go_simp <;> with_reducible rfl)
    try simp only [List.getElem_toArray, List.getElem_cons_succ, List.getElem_cons_zero, Act.put, List.setIfInBounds_toArray, List.set_cons_zero, List.set_cons_succ]
    refine reg_take (i := 4) (v := ?_) rfl (by kernel_rfl) (by kernel_rfl) (by kernel_rfl) (fun _ _ _ h => h) (Or.inl ⟨by kernel_rfl, ?_⟩) hS ?_
    rotate_left
    · (intro w' hSw; go_simp <;> with_reducible rfl)
    try simp only [List.getElem_toArray, List.getElem_cons_succ, List.getElem_cons_zero, Act.put, List.setIfInBounds_toArray, List.set_cons_zero, List.set_cons_succ]
    refine reg_take (i := 5) (v := ?_) rfl (by kernel_rfl) (by kernel_rfl) (by kernel_rfl) (fun _ _ _ h => h) (Or.inl ⟨by kernel_rfl, ?_⟩) hS ?_
    rotate_left
    · (intro w' hSw; go_simp <;> with_reducible rfl)
    try simp only [List.getElem_toArray, List.getElem_cons_succ, List.getElem_cons_zero, Act.put, List.setIfInBounds_toArray, List.set_cons_zero, List.set_cons_succ]
    refine reg_take (i := 6) (v := ?_) rfl (by kernel_rfl) (by kernel_rfl) (by kernel_rfl) (fun _ _ _ h => h) (Or.inl ⟨by kernel_rfl, ?_⟩) hS ?_
    rotate_left
    · (intro w' hSw; go_simp <;> with_reducible rfl)
    try simp only [List.getElem_toArray, List.getElem_cons_succ, List.getElem_cons_zero, Act.put, List.setIfInBounds_toArray, List.set_cons_zero, List.set_cons_succ]
    refine reg_call (i := 3) rfl (by kernel_rfl) (fun K hK => ?_)
    have HK := Lib.hid hK
    clear hK
    go_simp
    go_wp2_with fail
    refine HK.out.to (fun w' : World => w'.cell? ⟨b, off, none⟩ = some (.int .u8 (k0 : Nat))) (fun _ h => h) (HSo.out _ (kd.alloc (.cells #[] 5))) ?_
    clear HK hS
    have hS : (fun w' : World => w'.cell? ⟨b, off, none⟩ = some (.int .u8 (k0 : Nat))) (w1.drew.alloc (.cells #[] 5)) := HSo.out _ (kd.alloc (.cells #[] 5))
    try simp only [List.getElem_toArray, List.getElem_cons_succ, List.getElem_cons_zero, Act.put, List.setIfInBounds_toArray, List.set_cons_zero, List.set_cons_succ]
    refine reg_call (i := 7) rfl (by kernel_rfl) (fun K hK => ?_)
    have HK := Lib.hid hK
    clear hK
    refine step_append_sl (f := byteC ((bs.take m).drop 5)) (D := D) (base := w.heap.size) (n := 0) (xs := []) byteElem rfl (.tmp 22) (.tmp 25) rfl rfl rfl ?hown ?hsl ?h1 ?h63 ?hby ?hbase ?_
    case hown => exact own_lit0 w1.drew w.heap.size 5 H1.out.size
    case hsl => exact HT.out.2.2.1.keep (w' := w1.drew.alloc (.cells #[] 5)) (fun q _ hq => ((H1.out.drew).alloc (.cells #[] 5)).block q hq (fun h => h))
    case h1 => intro j _; rfl
    case h63 => unfold maxLen; omega
    case hby => omega
    case hbase => have := H1.out.size; simp; omega
    intro v3 w3 ho3 hg3 hx3
    clear hx3
    have hkk : Keeps (fun _ => False) w1 w3 := keeps_grown (w0 := w1) (kd.alloc (.cells #[] 5)) (own_lit0 w1.drew w1.heap.size 5 (Nat.le_refl _)) hg3
    have hkw : Keeps (fun _ => False) w w3 := H1.out.trans' hkk
    have e3 : [] ++ (List.range (0 + (m - 5))).map (byteC ((bs.take m).drop 5)) = (withI bs).map byteV := by
      rw [HE.out.2.2, Nat.zero_add, range_bytes HS.out.2.2.2.2.2.2.2.1]; rfl
    have hlI : 0 + (m - 5) = (withI bs).length := by rw [HE.out.2.2, HS.out.2.2.2.2.2.2.2.1]; omega
    rw [Nat.zero_add] at e3
    rw [e3, hlI] at ho3
    obtain ⟨A3, c3, hv3, -, -⟩ := own_form ho3
    subst hv3
    have H3 := Lib.hid (And.intro ho3 (And.intro hkk hkw))
    clear ho3 hg3 hkk hkw e3 hlI
    refine HK.out.to (fun w' : World => w'.cell? ⟨b, off, none⟩ = some (.int .u8 (k0 : Nat))) (fun _ h => h) (HSo.out _ H3.out.2.1) ?_
    clear HK hS
    have hS : (fun w' : World => w'.cell? ⟨b, off, none⟩ = some (.int .u8 (k0 : Nat))) (w3) := HSo.out _ H3.out.2.1
    try simp only [List.getElem_toArray, List.getElem_cons_succ, List.getElem_cons_zero, Act.put, List.setIfInBounds_toArray, List.set_cons_zero, List.set_cons_succ]
    refine reg_take (i := 8) (v := ?_) rfl (by kernel_rfl) (by kernel_rfl) (by kernel_rfl) (fun _ _ _ h => h) (Or.inl ⟨by kernel_rfl, ?_⟩) hS ?_
    rotate_left
    · (intro w' hSw; go_simp <;> with_reducible rfl)
    try simp only [List.getElem_toArray, List.getElem_cons_succ, List.getElem_cons_zero, Act.put, List.setIfInBounds_toArray, List.set_cons_zero, List.set_cons_succ]
    refine reg_take (i := 9) (v := ?_) rfl (by kernel_rfl) (by kernel_rfl) (by kernel_rfl) (fun _ _ _ h => h) (Or.inl ⟨by kernel_rfl, ?_⟩) hS ?_
    rotate_left
    · (intro w' hSw; go_simp <;> with_reducible rfl)
    try simp only [List.getElem_toArray, List.getElem_cons_succ, List.getElem_cons_zero, Act.put, List.setIfInBounds_toArray, List.set_cons_zero, List.set_cons_succ]
    refine reg_take (i := 10) (v := ?_) rfl (by kernel_rfl) (by kernel_rfl) (by kernel_rfl) (fun _ _ _ h => h) (Or.inl ⟨by kernel_rfl, ?_⟩) hS ?_
    rotate_left
    · (intro w' hSw; go_simp <;> with_reducible rfl)
    try simp only [List.getElem_toArray, List.getElem_cons_succ, List.getElem_cons_zero, Act.put, List.setIfInBounds_toArray, List.set_cons_zero, List.set_cons_succ]
    refine wpAnyH_done (by kernel_rfl) ?_ _
    try simp only [List.getElem_toArray, List.getElem_cons_succ, List.getElem_cons_zero]
    try simp only [List.getElem_toArray, List.getElem_cons_succ, List.getElem_cons_zero, Act.put, List.setIfInBounds_toArray, List.set_cons_zero, List.set_cons_succ]
    go_wp2_with fail
    go_ret3
    refine ⟨A3, c3, ?_, H3.out.1, H3.out.2.2⟩
    rw [HE.out.1, HE.out.2.1]
    rfl
  · have hE0 : withE bs = 12 := by rw [HT.out.2.2.2.2.2.1, if_neg heq]
    have hfin : WithPost w (withK bs) (withI bs) (withE bs) (.returned (.tuple #[.int .u8 0, .slice none 0 0, .int .i64 12])) w1 := by
      unfold withK withI
      rw [hE0, if_neg (by omega), if_neg (by omega)]
      exact ⟨none, 0, rfl, ⟨rfl, .inl ⟨rfl, rfl⟩⟩, H1.out⟩
    have HF := Lib.hid hfin
    have d1 : ((su : Int) != (cr : Int)) = true := by simp; omega
    have d2 : ((su : Int) == (cr : Int)) = false := by simp; omega
    clear hE0 hfin heq
    go_wp2_with fail
    go_ret3
    exact HF.out
end Go.Proofs.YtboecnakndpgfaaDoor.F
namespace Go.Proofs.YtboecnakndpgfaaDoor.F
open Go.RowKit
set_option linter.unusedVariables false
set_option linter.unusedSimpArgs false
def openE (bs : List Nat) : Int := if lenE bs = 0 then (if lenV bs = bs.length then withE bs else 11) else lenE bs
def openK (bs : List Nat) : Nat := if openE bs = 0 then withK bs else 0
def openI (bs : List Nat) : List Nat := if openE bs = 0 then withI bs else []
def readE (bs : List Nat) : Int := if lenE bs = 0 then withE (bs.take (lenV bs)) else lenE bs
def readN (bs : List Nat) : Nat := if readE bs = 0 then lenV bs else 0
def readK (bs : List Nat) : Nat := if readE bs = 0 then withK (bs.take (lenV bs)) else 0
def readI (bs : List Nat) : List Nat := if readE bs = 0 then withI (bs.take (lenV bs)) else []
def ReadPost (w : World) (k : Nat) (l : List Nat) (n : Nat) (er : Int) (e : Ending) (w' : World) : Prop :=
  ∃ A c, e = .returned (.tuple #[.int .u8 (k : Nat), .slice A l.length c, .int .i64 (n : Nat), .int .i64 er]) ∧ w'.ownsRow w.heap.size 5 1 (.slice A l.length c) l.length (l.map byteV) ∧ Keeps (fun _ => False) w w'
theorem lenE_zero {bs : List Nat} (h : lenE bs = 0) : lenV bs = frameN bs + 9 ∧ frameN bs ≤ 1048576 ∧ frameN bs + 9 ≤ bs.length := by
  unfold lenV
  rw [if_pos h]
  unfold lenE at h
  split at h
  · omega
  · split at h
    · omega
    · split at h
      · omega
      · omega
theorem withE_val (bs : List Nat) : withE bs = 0 ∨ withE bs = 12 := by unfold withE; split; exact .inl rfl; exact .inr rfl
theorem with_err {bs : List Nat} (h : withE bs ≠ 0) : withK bs = 0 ∧ withI bs = [] := by unfold withK withI; rw [if_neg h, if_neg h]; exact ⟨rfl, rfl⟩
set_option maxRecDepth 100000 in
set_option maxHeartbeats 1600000 in
theorem open_any (w : World) (A : Option Addr) (len c : Nat) (D : Nat → Prop) (bs : List Nat) (hl : bs.length = len) (hsl : Sl w D A len (byteC bs)) (hb : ∀ j, bs.getD j 0 < 256) (hlen : len ≤ 2097152) (hlc : len ≤ c) :
    Calls Tryd.prog 30 #[.slice A len c] w (WithPost w (openK bs) (openI bs) (openE bs)) := by
  have HS := Lib.hid (And.intro hl (And.intro hsl hb))
  clear hl hsl hb
  go_enter Tryd.func30, Tryd.ntmps30
  go_wp2_with fail
  refine (long_any _ _ _ _ _ bs HS.out.1 HS.out.2.1 HS.out.2.2 hlen hlc).mono ?_
  rintro e w1 ⟨rfl, hk1⟩
  by_cases hE : lenE bs = 0
  · obtain ⟨g1, g2, g3⟩ := lenE_zero hE
    rw [hE, g1]
    obtain ⟨n, hn⟩ : ∃ n, n = frameN bs + 9 := ⟨_, rfl⟩
    rw [← hn] at g1 g3
    rw [← hn]
    have hn9 : 9 ≤ n := by omega
    have hnl : n ≤ len := by have := HS.out.1; omega
    by_cases heq : n = len
    · have hoE : openE bs = withE bs := by unfold openE; rw [if_pos hE, g1, HS.out.1, if_pos heq]
      have hoK : openK bs = withK bs := by
        unfold openK
        rw [hoE]
        by_cases h0 : withE bs = 0
        · rw [if_pos h0]
        · rw [if_neg h0, (with_err h0).1]
      have hoI : openI bs = withI bs := by
        unfold openI
        rw [hoE]
        by_cases h0 : withE bs = 0
        · rw [if_pos h0]
        · rw [if_neg h0, (with_err h0).2]
      have HO := Lib.hid (And.intro hoE (And.intro hoK hoI))
      have H1 := Lib.hid hk1
      clear hoE hoK hoI hk1 hE g1 g2 g3 hn
      subst heq
      have d : ((n : Int) != (n : Int)) = false := by simp
      go_wp2_with fail
      clear d
      refine (within_any _ _ _ _ _ bs HS.out.1 (HS.out.2.1.keep (w' := w1) (fun q _ hq => H1.out.block q hq (fun h => h))) HS.out.2.2 hn9 hlen hlc).mono ?_
      rintro e w2 ⟨A2, c2, rfl, ho2, hk2⟩
      have hfin : WithPost w (openK bs) (openI bs) (openE bs) (.returned (.tuple #[.int .u8 (withK bs : Nat), .slice A2 (withI bs).length c2, .int .i64 (withE bs)])) w2 := by
        rw [HO.out.1, HO.out.2.1, HO.out.2.2]
        exact ⟨A2, c2, rfl, own_base ho2 H1.out.size, H1.out.trans' hk2⟩
      have HF := Lib.hid hfin
      clear ho2 hk2 hfin
      go_wp2_with fail
      go_ret3
      exact HF.out
    · have hoE : openE bs = 11 := by unfold openE; rw [if_pos hE, g1, HS.out.1, if_neg heq]
      have hfin : WithPost w (openK bs) (openI bs) (openE bs) (.returned (.tuple #[.int .u8 0, .slice none 0 0, .int .i64 11])) w1 := by
        unfold openK openI
        rw [hoE, if_neg (by omega), if_neg (by omega)]
        exact ⟨none, 0, rfl, ⟨rfl, .inl ⟨rfl, rfl⟩⟩, hk1⟩
      have HF := Lib.hid hfin
      clear hfin hoE hk1 hE g1 g2 g3 hn
      have d : ((n : Int) != (len : Int)) = true := by simp; omega
      go_wp2_with fail
      go_ret3
      exact HF.out
  · have hoE : openE bs = lenE bs := by unfold openE; rw [if_neg hE]
    have hfin : WithPost w (openK bs) (openI bs) (openE bs) (.returned (.tuple #[.int .u8 0, .slice none 0 0, .int .i64 (lenE bs)])) w1 := by
      unfold openK openI
      rw [hoE, if_neg hE, if_neg hE]
      exact ⟨none, 0, rfl, ⟨rfl, .inl ⟨rfl, rfl⟩⟩, hk1⟩
    have HF := Lib.hid hfin
    have d1 : (lenE bs != 0) = true := by simp [hE]
    have d2 : (lenE bs == 0) = false := by simp [hE]
    obtain ⟨er, her⟩ : ∃ er, er = lenE bs := ⟨_, rfl⟩
    rw [← her] at d1 d2 HF
    rw [← her]
    clear hfin hoE hk1 hE her
    go_wp2_with fail
    go_ret3
    exact HF.out
end Go.Proofs.YtboecnakndpgfaaDoor.F
namespace Go.Proofs.YtboecnakndpgfaaDoor.F
open Go.RowKit
set_option linter.unusedVariables false
set_option linter.unusedSimpArgs false
def rrE (ex : Bool) (bs : List Nat) : Int := if lenE bs = 0 then (if ex = true ∧ lenV bs ≠ bs.length then 11 else withE (bs.take (lenV bs))) else lenE bs
def rrK (ex : Bool) (bs : List Nat) : Nat := if rrE ex bs = 0 then withK (bs.take (lenV bs)) else 0
def rrI (ex : Bool) (bs : List Nat) : List Nat := if rrE ex bs = 0 then withI (bs.take (lenV bs)) else []
def rrN (ex : Bool) (bs : List Nat) : Nat := if rrE ex bs = 0 then lenV bs else 0
theorem rr_read (bs : List Nat) : rrE false bs = readE bs ∧ rrK false bs = readK bs ∧ rrI false bs = readI bs ∧ rrN false bs = readN bs := by
  have h : rrE false bs = readE bs := by
    unfold rrE readE
    split
    · rw [if_neg (by simp)]
    · rfl
  refine ⟨h, ?_, ?_, ?_⟩
  · unfold rrK readK; rw [h]
  · unfold rrI readI; rw [h]
  · unfold rrN readN; rw [h]
theorem rr_open (bs : List Nat) : rrE true bs = openE bs ∧ rrK true bs = openK bs ∧ rrI true bs = openI bs := by
  have h : rrE true bs = openE bs := by
    unfold rrE openE
    by_cases h1 : lenE bs = 0
    · rw [if_pos h1, if_pos h1]
      by_cases h2 : lenV bs = bs.length
      · rw [if_neg (fun h => h.2 h2), if_pos h2, h2, List.take_length]
      · rw [if_pos ⟨rfl, h2⟩, if_neg h2]
    · rw [if_neg h1, if_neg h1]
  refine ⟨h, ?_, ?_⟩
  · unfold rrK openK
    rw [h]
    by_cases h1 : openE bs = 0
    · rw [if_pos h1, if_pos h1]
      have : lenV bs = bs.length := by
        unfold openE at h1
        by_cases h2 : lenE bs = 0
        · rw [if_pos h2] at h1
          by_cases h3 : lenV bs = bs.length
          · exact h3
          · rw [if_neg h3] at h1; omega
        · rw [if_neg h2] at h1; exact absurd h1 h2
      rw [this, List.take_length]
    · rw [if_neg h1, if_neg h1]
  · unfold rrI openI
    rw [h]
    by_cases h1 : openE bs = 0
    · rw [if_pos h1, if_pos h1]
      have : lenV bs = bs.length := by
        unfold openE at h1
        by_cases h2 : lenE bs = 0
        · rw [if_pos h2] at h1
          by_cases h3 : lenV bs = bs.length
          · exact h3
          · rw [if_neg h3] at h1; omega
        · rw [if_neg h2] at h1; exact absurd h1 h2
      rw [this, List.take_length]
    · rw [if_neg h1, if_neg h1]
theorem rr_err {w w' : World} {ex : Bool} {bs : List Nat} {er : Int} (h : rrE ex bs = er) (h0 : er ≠ 0) (hk : Keeps (fun _ => False) w w') : ReadPost w (rrK ex bs) (rrI ex bs) (rrN ex bs) (rrE ex bs) (.returned (.tuple #[.int .u8 0, .slice none 0 0, .int .i64 0, .int .i64 er])) w' := by
  unfold rrK rrI rrN
  rw [h, if_neg h0, if_neg h0, if_neg h0]
  exact ⟨none, 0, rfl, ⟨rfl, .inl ⟨rfl, rfl⟩⟩, hk⟩
set_option maxRecDepth 100000 in
set_option maxHeartbeats 4000000 in
theorem rread_any (w : World) (ex : Bool) (A : Option Addr) (len c : Nat) (D : Nat → Prop) (bs : List Nat) (hl : bs.length = len) (hsl : Sl w D A len (byteC bs)) (hb : ∀ j, bs.getD j 0 < 256) (hlen : len ≤ 2097152) (hlc : len ≤ c) :
    Calls Tryd.prog 44 #[.slice A len c, .bool ex] w (ReadPost w (rrK ex bs) (rrI ex bs) (rrN ex bs) (rrE ex bs)) := by
  by_cases h9 : len < 9
  · have hE : lenE bs = 10 := by unfold lenE; rw [if_pos (by omega)]
    have hfin := rr_err (w := w) (w' := w) (ex := ex) (bs := bs) (er := 10) (by unfold rrE; rw [hE, if_neg (by omega)]) (by omega) (Keeps.refl _ _)
    have HF := Lib.hid hfin
    clear hfin hl hsl hb hE
    go_enter Tryd.func44, Tryd.ntmps44
    go_wp2_with fail
    exact bodyPost_ret (v := .tuple #[.int .u8 0, .slice none 0 0, .int .i64 0, .int .i64 10]) (by simp [results, Tryd.results44, go_sem]) rfl HF.out
  · obtain ⟨b, off, hA, -, hcell⟩ := hsl (by omega)
    subst hA
    have hs4 := sl_sub hsl 1 5 (by omega)
    have hb4 := sub_byte hb 1 5
    have hl4 := sub_length bs 1 5 (by omega)
    have hn4 : frameN bs < 4294967296 := by
      have := le_lt (l := (bs.take 5).drop 1) (fun x hx => mem_take_byte hb 5 x (List.mem_of_mem_drop hx))
      rw [hl4] at this
      exact this
    have h8 : le (((bs.take 5).drop 1).take 8) = frameN bs := by rw [List.take_of_length_le (by omega)]; rfl
    have hE : lenE bs = if 1048576 < frameN bs then 3 else if len < frameN bs + 9 then 10 else 0 := by unfold lenE; rw [hl, if_neg h9]
    have c0 : w.cell? ⟨b, off, none⟩ = some (.int .u8 (bs.getD 0 0 : Nat)) := hcell 0 (by omega)
    have HS := Lib.hid (And.intro hs4 (And.intro hb4 (And.intro hl4 (And.intro hn4 (And.intro h8 (And.intro hE (And.intro hl (And.intro hsl (And.intro hb c0)))))))))
    clear hs4 hb4 hl4 hn4 h8 hE hsl hb hl hcell c0
    have d9 : decide ((len : Int) < 9) = false := by simp; omega
    go_enter Tryd.func44, Tryd.ntmps44
    go_wp2_with fail
    refine (rlittle_any _ _ _ _ _ ((bs.take 5).drop 1) HS.out.2.2.1 HS.out.1 HS.out.2.1 (by omega)).mono ?_
    rintro e w1 ⟨rfl, rfl⟩
    obtain ⟨-, -, -, hn4, h8, hE, hl, hsl, hb, c0⟩ := HS.out
    rw [h8]
    have hNv : lenE bs = 0 → lenV bs = frameN bs + 9 := fun h => (lenE_zero h).1
    obtain ⟨n, hn⟩ : ∃ n, n = frameN bs := ⟨_, rfl⟩
    rw [← hn] at hn4 hE hNv
    rw [← hn]
    clear hn h8 d9
    by_cases h1 : 1048576 < n
    · have hE3 : lenE bs = 3 := by rw [hE, if_pos h1]
      have hfin := rr_err (w := w) (w' := w) (ex := ex) (bs := bs) (er := 3) (by unfold rrE; rw [hE3, if_neg (by omega)]) (by omega) (Keeps.refl _ _)
      have HF := Lib.hid hfin
      clear hfin hE hE3 hNv hsl hb c0 hl
      go_wp2_with fail
      exact bodyPost_ret (v := .tuple #[.int .u8 0, .slice none 0 0, .int .i64 0, .int .i64 3]) (by simp [results, Tryd.results44, go_sem]) rfl HF.out
    · by_cases h2 : len < n + 9
      · have hE3 : lenE bs = 10 := by rw [hE, if_neg h1, if_pos h2]
        have hfin := rr_err (w := w) (w' := w) (ex := ex) (bs := bs) (er := 10) (by unfold rrE; rw [hE3, if_neg (by omega)]) (by omega) (Keeps.refl _ _)
        have HF := Lib.hid hfin
        have d3 : decide ((len : Int) < (n : Int) + 9) = true := by simp; omega
        clear hfin hE hE3 hNv hsl hb c0 hl
        go_wp2_with fail
        exact bodyPost_ret (v := .tuple #[.int .u8 0, .slice none 0 0, .int .i64 0, .int .i64 10]) (by simp [results, Tryd.results44, go_sem]) rfl HF.out
      · have hE0 : lenE bs = 0 := by rw [hE, if_neg h1, if_neg h2]
        have hV := hNv hE0
        have d3 : decide ((len : Int) < (n : Int) + 9) = false := by simp; omega
        by_cases hx : ex = true ∧ len ≠ n + 9
        · obtain ⟨rfl, hne⟩ := hx
          have hfin := rr_err (w := w) (w' := w) (ex := true) (bs := bs) (er := 11) (by unfold rrE; rw [if_pos hE0, hV, hl, if_pos ⟨rfl, fun h => hne h.symm⟩]) (by omega) (Keeps.refl _ _)
          have HF := Lib.hid hfin
          have d4 : ((len : Int) != (n : Int) + 9) = true := by simp; omega
          clear hfin hE hE0 hNv hsl hb c0 hl hV hne
          go_wp2_with fail
          exact bodyPost_ret (v := .tuple #[.int .u8 0, .slice none 0 0, .int .i64 0, .int .i64 11]) (by simp [results, Tryd.results44, go_sem]) rfl HF.out
        · have hrE : rrE ex bs = withE (bs.take (n + 9)) := by
            unfold rrE
            rw [if_pos hE0, hV, hl, if_neg (fun h => hx ⟨h.1, fun h' => h.2 h'.symm⟩)]
          have hs1 := sl_sub hsl (n + 5) (n + 9) (by omega)
          have hs2 := sl_sub hsl 0 (n + 5) (by omega)
          have hs3 := sl_sub hsl 5 (n + 5) (by omega)
          have hb1 := sub_byte hb (n + 5) (n + 9)
          have hb2 := sub_byte hb 0 (n + 5)
          have hl1 := sub_length bs (n + 5) (n + 9) (by omega)
          have hl2 := sub_length bs 0 (n + 5) (by omega)
          have hl3 := sub_length bs 5 (n + 5) (by omega)
          rw [show n + 9 - (n + 5) = 4 by omega] at hs1 hl1
          rw [show n + 5 - 0 = n + 5 by omega] at hs2 hl2
          rw [show n + 5 - 5 = n by omega] at hs3 hl3
          rw [Nat.add_zero] at hs2
          have hlt : (bs.take (n + 9)).length = n + 9 := by rw [List.length_take]; omega
          have hsm : sumOf (bs.take (n + 9)) = le ((bs.take (n + 9)).drop (n + 5)) := by
            unfold sumOf
            rw [hlt, List.take_take, show min (n + 9) (n + 9) = n + 9 by omega, show n + 9 - 4 = n + 5 by omega]
          have h8 : le (((bs.take (n + 9)).drop (n + 5)).take 8) = sumOf (bs.take (n + 9)) := by rw [List.take_of_length_le (by omega), hsm]
          have hcr : crcS ((bs.take (n + 5)).drop 0) = crcS ((bs.take (n + 9)).take ((bs.take (n + 9)).length - 4)) := by
            rw [List.drop_zero, hlt, List.take_take, show min (n + 9 - 4) (n + 9) = n + 5 by omega]
          have hsu : sumOf (bs.take (n + 9)) < 4294967296 := by
            have := le_lt (l := (bs.take (n + 9)).drop (n + 5)) (fun x hx => mem_take_byte hb (n + 9) x (List.mem_of_mem_drop hx))
            rw [hl1] at this
            rw [hsm]
            exact this
          have hcu : crcS ((bs.take (n + 9)).take ((bs.take (n + 9)).length - 4)) < 4294967296 := crcS_lt (fun x hx => mem_take_byte hb (n + 9) x (List.mem_of_mem_take hx))
          have hI : ((bs.take (n + 9)).take ((bs.take (n + 9)).length - 4)).drop 5 = (bs.take (n + 5)).drop 5 := by rw [hlt, List.take_take, show min (n + 9 - 4) (n + 9) = n + 5 by omega]
          have hk0 : (bs.take (n + 9)).getD 0 0 = bs.getD 0 0 := by rw [List.getD_eq_getElem?_getD, List.getD_eq_getElem?_getD, List.getElem?_take_of_lt (by omega)]
          obtain ⟨T, hT⟩ : ∃ T, T = bs.take (n + 9) := ⟨_, rfl⟩
          rw [← hT] at h8 hcr hsu hcu hI hk0 hrE hsm
          obtain ⟨su, hsu'⟩ : ∃ su, su = sumOf T := ⟨_, rfl⟩
          obtain ⟨cr, hcr'⟩ : ∃ cr, cr = crcS (T.take (T.length - 4)) := ⟨_, rfl⟩
          obtain ⟨k0, hk0'⟩ : ∃ k0, k0 = bs.getD 0 0 := ⟨_, rfl⟩
          rw [← hk0'] at c0 hk0
          rw [← hsu'] at h8 hsu
          rw [← hcr'] at hcr hcu
          have hwE : withE T = if su = cr then 0 else 12 := by rw [hsu', hcr']; rfl
          have HT := Lib.hid (And.intro hs1 (And.intro hs2 (And.intro hs3 (And.intro h8 (And.intro hcr (And.intro hwE (And.intro hrE (And.intro hI hk0))))))))
          have HB := Lib.hid (And.intro hb1 (And.intro hb2 (And.intro hl1 (And.intro hl2 (And.intro hl3 (And.intro hV hT))))))
          have C0 := Lib.hid c0
          have hx' : (ex = true → len = n + 9) := fun h => by
            rcases Nat.lt_trichotomy len (n + 9) with h' | h' | h'
            · exact absurd ⟨h, by omega⟩ hx
            · exact h'
            · exact absurd ⟨h, by omega⟩ hx
          have HX := Lib.hid hx'
          have hnc : n + 9 ≤ c := by omega
          clear hs1 hs2 hs3 hb1 hb2 hl1 hl2 hl3 hlt hsm h8 hcr hI hk0 hrE hT hsu' hcr' hk0' hwE c0 hE hE0 hNv hsl hb hl hV hx hx'
          have j1 : IntKind.i64.wrap ((n : Int) + 5) = (n : Int) + 5 := IntWalk.i64_in _ (by omega)
          have j2 : IntKind.i64.wrap ((n : Int) + 9) = (n : Int) + 9 := IntWalk.i64_in _ (by omega)
          have j3 : (0 : Int) ≤ (n : Int) + 5 := by omega
          have j4 : ((n : Int) + 5).toNat = n + 5 := by omega
          have j5 : ((n : Int) + 9).toNat = n + 9 := by omega
          have j6 : (n : Int) + 5 ≤ (n : Int) + 9 := by omega
          have j7 : (n : Int) + 9 ≤ (c : Int) := by omega
          have j8 : (n : Int) + 5 ≤ (c : Int) := by omega
          have j9 : ¬ c = n + 5 := by omega
          have j10 : ¬ c = 5 := by omega
          have j11 : (5 : Int) ≤ (n : Int) + 5 := by omega
          have j12 : n + 9 - (n + 5) = 4 := by omega
          have j13 : n + 5 - 5 = n := by omega
          have hl0 : 0 < len := by omega
          have HJ := Lib.hid (And.intro j1 (And.intro j2 (And.intro j4 (And.intro j5 (And.intro j12 j13)))))
          clear j1 j2 j4 j5 j12 j13
          go_upto_region 8 with (fail)
          go_cut [30] (fun s30 wx => s30 = .bool false ∧ w = wx)
          case first =>
            cases ex with
            | true =>
              have h := HX.out rfl
              have d4 : ((len : Int) != (n : Int) + 9) = false := by simp; omega
              clear h
              go_wp2_with fail
              go_meet
              exact ⟨rfl, rfl⟩
            | false =>
              go_wp2_with fail
              go_meet
              exact ⟨rfl, rfl⟩
          case rest =>
            obtain ⟨rfl, rfl⟩ := hcut
            go_wp2_with fail
            obtain ⟨j1, j2, j4, j5, j12, j13⟩ := HJ.out
            have hS : (fun _ : World => True) (w.drew) := trivial
            refine reg_start (fun _ : World => True) (by kernel_rfl) hS ?_
            refine reg_take (i := 0) (v := ?_) rfl (by kernel_rfl) (by kernel_rfl) (by kernel_rfl) (fun _ _ _ h => h) (Or.inl ⟨by kernel_rfl, ?_⟩) hS ?_
            rotate_left
            · (intro w' hSw; go_simp <;> with_reducible rfl)
            try simp only [List.getElem_toArray, List.getElem_cons_succ, List.getElem_cons_zero, Act.put, List.setIfInBounds_toArray, List.set_cons_zero, List.set_cons_succ]
            refine reg_take (i := 1) (v := ?_) rfl (by kernel_rfl) (by kernel_rfl) (by kernel_rfl) (fun _ _ _ h => h) (Or.inl ⟨by kernel_rfl, ?_⟩) hS ?_
            rotate_left
            · (intro w' hSw; go_simp <;> with_reducible rfl)
            try simp only [List.getElem_toArray, List.getElem_cons_succ, List.getElem_cons_zero, Act.put, List.setIfInBounds_toArray, List.set_cons_zero, List.set_cons_succ]
            refine reg_take (i := 2) (v := ?_) rfl (by kernel_rfl) (by kernel_rfl) (by kernel_rfl) (fun _ _ _ h => h) (Or.inl ⟨by kernel_rfl, ?_⟩) hS ?_
            rotate_left
            · (intro w' hSw; go_simp <;> with_reducible rfl)
            try simp only [List.getElem_toArray, List.getElem_cons_succ, List.getElem_cons_zero, Act.put, List.setIfInBounds_toArray, List.set_cons_zero, List.set_cons_succ]
            refine reg_take (i := 3) (v := ?_) rfl (by kernel_rfl) (by kernel_rfl) (by kernel_rfl) (fun _ _ _ h => h) (Or.inl ⟨by kernel_rfl, ?_⟩) hS ?_
            rotate_left
            · (intro w' hSw; go_simp <;> with_reducible rfl)
            try simp only [List.getElem_toArray, List.getElem_cons_succ, List.getElem_cons_zero, Act.put, List.setIfInBounds_toArray, List.set_cons_zero, List.set_cons_succ]
            refine reg_take (i := 4) (v := ?_) rfl (by kernel_rfl) (by kernel_rfl) (by kernel_rfl) (fun _ _ _ h => h) (Or.inl ⟨by kernel_rfl, ?_⟩) hS ?_
            rotate_left
            · (intro w' hSw; go_simp <;> with_reducible rfl)
            try simp only [List.getElem_toArray, List.getElem_cons_succ, List.getElem_cons_zero, Act.put, List.setIfInBounds_toArray, List.set_cons_zero, List.set_cons_succ]
            refine reg_take (i := 5) (v := ?_) rfl (by kernel_rfl) (by kernel_rfl) (by kernel_rfl) (fun _ _ _ h => h) (Or.inl ⟨by kernel_rfl, ?_⟩) hS ?_
            rotate_left
            · (intro w' hSw; go_simp <;> with_reducible rfl)
            try simp only [List.getElem_toArray, List.getElem_cons_succ, List.getElem_cons_zero, Act.put, List.setIfInBounds_toArray, List.set_cons_zero, List.set_cons_succ]
            refine reg_take (i := 8) (v := ?_) rfl (by kernel_rfl) (by kernel_rfl) (by kernel_rfl) (fun _ _ _ h => h) (Or.inl ⟨by kernel_rfl, ?_⟩) hS ?_
            rotate_left
            · (intro w' hSw; go_simp <;> with_reducible rfl)
            try simp only [List.getElem_toArray, List.getElem_cons_succ, List.getElem_cons_zero, Act.put, List.setIfInBounds_toArray, List.set_cons_zero, List.set_cons_succ]
            refine reg_take (i := 9) (v := ?_) rfl (by kernel_rfl) (by kernel_rfl) (by kernel_rfl) (fun _ _ _ h => h) (Or.inl ⟨by kernel_rfl, ?_⟩) hS ?_
            rotate_left
            · (intro w' hSw; go_simp <;> with_reducible rfl)
            try simp only [List.getElem_toArray, List.getElem_cons_succ, List.getElem_cons_zero, Act.put, List.setIfInBounds_toArray, List.set_cons_zero, List.set_cons_succ]
            refine reg_take (i := 10) (v := ?_) rfl (by kernel_rfl) (by kernel_rfl) (by kernel_rfl) (fun _ _ _ h => h) (Or.inl ⟨by kernel_rfl, ?_⟩) hS ?_
            rotate_left
            · (intro w' hSw; go_simp <;> with_reducible rfl)
            try simp only [List.getElem_toArray, List.getElem_cons_succ, List.getElem_cons_zero, Act.put, List.setIfInBounds_toArray, List.set_cons_zero, List.set_cons_succ]
            refine reg_take (i := 11) (v := ?_) rfl (by kernel_rfl) (by kernel_rfl) (by kernel_rfl) (fun _ _ _ h => h) (Or.inl ⟨by kernel_rfl, ?_⟩) hS ?_
            rotate_left
            · (intro w' hSw; go_simp <;> with_reducible rfl)
            try simp only [List.getElem_toArray, List.getElem_cons_succ, List.getElem_cons_zero, Act.put, List.setIfInBounds_toArray, List.set_cons_zero, List.set_cons_succ]
            clear j1 j2 j4 j5 j12 j13
            refine reg_call (i := 6) rfl (by kernel_rfl) (fun K hK => ?_)
            have HK := Lib.hid hK
            clear hK
            go_simp
            refine (rlittle_any w.drew _ _ _ _ ((bs.take (n + 9)).drop (n + 5)) HB.out.2.2.1 (HT.out.1.keep (w' := w.drew) (fun _ _ _ => rfl)) HB.out.1 (by omega)).mono ?_
            rintro e w1 ⟨rfl, rfl⟩
            rw [← HB.out.2.2.2.2.2.2, HT.out.2.2.2.1]
            go_wp2_with fail
            refine HK.out.to (fun _ : World => True) (fun _ h => h) (trivial) ?_
            clear HK hS
            have hS : (fun _ : World => True) (w.drew) := trivial
            try simp only [List.getElem_toArray, List.getElem_cons_succ, List.getElem_cons_zero, Act.put, List.setIfInBounds_toArray, List.set_cons_zero, List.set_cons_succ]
            have euw : IntKind.u32.wrap (su : Int) = (su : Int) := by rw [IntKind.wrap_u32']; omega
            refine reg_take (i := 7) (v := ?_) rfl (by kernel_rfl) (by kernel_rfl) (by kernel_rfl) (fun _ _ _ h => h) (Or.inl ⟨by kernel_rfl, ?_⟩) hS ?_
            rotate_left
            · (intro w' hSw; go_simp <;> with_reducible rfl)
            try simp only [List.getElem_toArray, List.getElem_cons_succ, List.getElem_cons_zero, Act.put, List.setIfInBounds_toArray, List.set_cons_zero, List.set_cons_succ]
            clear euw
            refine reg_call (i := 12) rfl (by kernel_rfl) (fun K hK => ?_)
            have HK := Lib.hid hK
            clear hK
            go_simp
            refine (rsum_any w.drew _ _ _ _ ((bs.take (n + 5)).drop 0) HB.out.2.2.2.1 (HT.out.2.1.keep (w' := w.drew) (fun _ _ _ => rfl)) HB.out.2.1 (by omega)).mono ?_
            rintro e w2 ⟨rfl, rfl⟩
            rw [HT.out.2.2.2.2.1]
            go_wp2_with fail
            refine HK.out.to (fun _ : World => True) (fun _ h => h) (trivial) ?_
            clear HK hS
            have hS : (fun _ : World => True) (w.drew) := trivial
            try simp only [List.getElem_toArray, List.getElem_cons_succ, List.getElem_cons_zero, Act.put, List.setIfInBounds_toArray, List.set_cons_zero, List.set_cons_succ]
            refine reg_take (i := 13) (v := ?_) rfl (by kernel_rfl) (by kernel_rfl) (by kernel_rfl) (fun _ _ _ h => h) (Or.inl ⟨by kernel_rfl, ?_⟩) hS ?_
            rotate_left
            · (intro w' hSw; go_simp <;> with_reducible rfl)
            try simp only [List.getElem_toArray, List.getElem_cons_succ, List.getElem_cons_zero, Act.put, List.setIfInBounds_toArray, List.set_cons_zero, List.set_cons_succ]
            refine wpAnyH_done (by kernel_rfl) ?_ _
            try simp only [List.getElem_toArray, List.getElem_cons_succ, List.getElem_cons_zero]
            try simp only [List.getElem_toArray, List.getElem_cons_succ, List.getElem_cons_zero, Act.put, List.setIfInBounds_toArray, List.set_cons_zero, List.set_cons_succ]
            by_cases heq : su = cr
            · have hE0 : rrE ex bs = 0 := by rw [HT.out.2.2.2.2.2.2.1, HT.out.2.2.2.2.2.1, if_pos heq]
              have hwE0 : withE T = 0 := by rw [HT.out.2.2.2.2.2.1, if_pos heq]
              have hK0 : rrK ex bs = k0 := by
                unfold rrK
                rw [if_pos hE0, HB.out.2.2.2.2.2.1, ← HB.out.2.2.2.2.2.2]
                unfold withK
                rw [if_pos hwE0, HT.out.2.2.2.2.2.2.2.2]
              have hI0 : rrI ex bs = (bs.take (n + 5)).drop 5 := by
                unfold rrI
                rw [if_pos hE0, HB.out.2.2.2.2.2.1, ← HB.out.2.2.2.2.2.2]
                unfold withI
                rw [if_pos hwE0, HT.out.2.2.2.2.2.2.2.1]
              have hN0 : rrN ex bs = n + 9 := by unfold rrN; rw [if_pos hE0, HB.out.2.2.2.2.2.1]
              have HE := Lib.hid (And.intro hE0 (And.intro hK0 (And.intro hI0 hN0)))
              clear hE0 hK0 hI0 hN0 hwE0
              subst heq
              have d1 : ((su : Int) != (su : Int)) = false := by simp
              have d2 : ((su : Int) == (su : Int)) = true := by simp
              go_wp2_with fail
              clear d1 d2
              obtain ⟨w1, hw1⟩ : ∃ w1, w1 = w.drew := ⟨_, rfl⟩
              have k1 : Keeps (fun _ => False) w w1 := by rw [hw1]; exact (Keeps.refl _ w).drew
              have c1 : w1.cell? ⟨b, off, none⟩ = some (.int .u8 (k0 : Nat)) := by rw [hw1]; exact C0.out
              rw [← hw1]
              clear hw1
              have H1 := Lib.hid k1
              clear k1
              have hlt1 : b < w1.heap.size := World.block_lt_of_cell? w1 _ c1
              have sof : ∀ w', Keeps (fun _ => False) w1 w' → (fun w' : World => w'.cell? ⟨b, off, none⟩ = some (.int .u8 (k0 : Nat))) w' := fun w' hk => (World.cell?_of_block (w := w1) (hk.block b hlt1 (fun h => h))).trans c1
              have HSo := Lib.hid sof
              clear sof c1 hlt1
              have kd : Keeps (fun _ => False) w1 w1.drew := (Keeps.refl _ w1).drew
              obtain ⟨j1, j2, j4, j5, j12, j13⟩ := HJ.out
              have hS : (fun w' : World => w'.cell? ⟨b, off, none⟩ = some (.int .u8 (k0 : Nat))) (w1.drew) := HSo.out _ kd
              refine reg_start (fun w' : World => w'.cell? ⟨b, off, none⟩ = some (.int .u8 (k0 : Nat))) (by kernel_rfl) hS ?_
              refine reg_take (i := 0) (v := ?_) rfl (by kernel_rfl) (by kernel_rfl) (by kernel_rfl) (fun _ _ _ h => h) (Or.inl ⟨by kernel_rfl, ?_⟩) hS ?_
              rotate_left
              · (intro w' hSw; go_simp <;> with_reducible rfl)
              try simp only [List.getElem_toArray, List.getElem_cons_succ, List.getElem_cons_zero, Act.put, List.setIfInBounds_toArray, List.set_cons_zero, List.set_cons_succ]
              refine reg_take (i := 1) (v := ?_) rfl (by kernel_rfl) (by kernel_rfl) (by kernel_rfl) (fun _ _ _ h => h) (Or.inl ⟨by kernel_rfl, ?_⟩) hS ?_
              rotate_left
              · (intro w' hSw; go_simp <;> with_reducible rfl)
              try simp only [List.getElem_toArray, List.getElem_cons_succ, List.getElem_cons_zero, Act.put, List.setIfInBounds_toArray, List.set_cons_zero, List.set_cons_succ]
              refine reg_take (i := 2) (v := ?_) rfl (by kernel_rfl) (by kernel_rfl) (by kernel_rfl) (fun _ _ _ h => h) (Or.inl ⟨by kernel_rfl, ?_⟩) hS ?_
              rotate_left
              · (intro w' hSw; go_simp <;> with_reducible rfl)
              try simp only [List.getElem_toArray, List.getElem_cons_succ, List.getElem_cons_zero, Act.put, List.setIfInBounds_toArray, List.set_cons_zero, List.set_cons_succ]
              refine reg_take (i := 4) (v := ?_) rfl (by kernel_rfl) (by kernel_rfl) (by kernel_rfl) (fun _ _ _ h => h) (Or.inl ⟨by kernel_rfl, ?_⟩) hS ?_
              rotate_left
              · (intro w' hSw; go_simp <;> with_reducible rfl)
              try simp only [List.getElem_toArray, List.getElem_cons_succ, List.getElem_cons_zero, Act.put, List.setIfInBounds_toArray, List.set_cons_zero, List.set_cons_succ]
              refine reg_take (i := 5) (v := ?_) rfl (by kernel_rfl) (by kernel_rfl) (by kernel_rfl) (fun _ _ _ h => h) (Or.inl ⟨by kernel_rfl, ?_⟩) hS ?_
              rotate_left
              · (intro w' hSw; go_simp <;> with_reducible rfl)
              try simp only [List.getElem_toArray, List.getElem_cons_succ, List.getElem_cons_zero, Act.put, List.setIfInBounds_toArray, List.set_cons_zero, List.set_cons_succ]
              refine reg_take (i := 6) (v := ?_) rfl (by kernel_rfl) (by kernel_rfl) (by kernel_rfl) (fun _ _ _ h => h) (Or.inl ⟨by kernel_rfl, ?_⟩) hS ?_
              rotate_left
              · (intro w' hSw; go_simp <;> with_reducible rfl)
              try simp only [List.getElem_toArray, List.getElem_cons_succ, List.getElem_cons_zero, Act.put, List.setIfInBounds_toArray, List.set_cons_zero, List.set_cons_succ]
              refine reg_take (i := 7) (v := ?_) rfl (by kernel_rfl) (by kernel_rfl) (by kernel_rfl) (fun _ _ _ h => h) (Or.inl ⟨by kernel_rfl, ?_⟩) hS ?_
              rotate_left
              · (intro w' hSw; go_simp <;> with_reducible rfl)
              try simp only [List.getElem_toArray, List.getElem_cons_succ, List.getElem_cons_zero, Act.put, List.setIfInBounds_toArray, List.set_cons_zero, List.set_cons_succ]
              refine reg_take (i := 9) (v := ?_) rfl (by kernel_rfl) (by kernel_rfl) (by kernel_rfl) (fun _ _ _ h => h) (Or.inl ⟨by kernel_rfl, ?_⟩) hS ?_
              rotate_left
              · (intro w' hSw; go_simp <;> with_reducible rfl)
              try simp only [List.getElem_toArray, List.getElem_cons_succ, List.getElem_cons_zero, Act.put, List.setIfInBounds_toArray, List.set_cons_zero, List.set_cons_succ]
              refine reg_take (i := 10) (v := ?_) rfl (by kernel_rfl) (by kernel_rfl) (by kernel_rfl) (fun _ _ _ h => h) (Or.inl ⟨by kernel_rfl, ?_⟩) hS ?_
              rotate_left
              · (intro w' hSw; go_simp <;> with_reducible rfl)
              try simp only [List.getElem_toArray, List.getElem_cons_succ, List.getElem_cons_zero, Act.put, List.setIfInBounds_toArray, List.set_cons_zero, List.set_cons_succ]
              clear j1 j2 j4 j5 j12 j13
              refine reg_call (i := 3) rfl (by kernel_rfl) (fun K hK => ?_)
              have HK := Lib.hid hK
              clear hK
              go_simp
              go_wp2_with fail
              refine HK.out.to (fun w' : World => w'.cell? ⟨b, off, none⟩ = some (.int .u8 (k0 : Nat))) (fun _ h => h) (HSo.out _ (kd.alloc (.cells #[] 5))) ?_
              clear HK hS
              have hS : (fun w' : World => w'.cell? ⟨b, off, none⟩ = some (.int .u8 (k0 : Nat))) (w1.drew.alloc (.cells #[] 5)) := HSo.out _ (kd.alloc (.cells #[] 5))
              try simp only [List.getElem_toArray, List.getElem_cons_succ, List.getElem_cons_zero, Act.put, List.setIfInBounds_toArray, List.set_cons_zero, List.set_cons_succ]
              refine reg_call (i := 8) rfl (by kernel_rfl) (fun K hK => ?_)
              have HK := Lib.hid hK
              clear hK
              refine step_append_sl (f := byteC ((bs.take (n + 5)).drop 5)) (D := D) (base := w.heap.size) (n := 0) (xs := []) byteElem rfl (.tmp 48) (.tmp 52) rfl rfl rfl ?hown ?hsl ?h1 ?h63 ?hby ?hbase ?_
              case hown => exact own_lit0 w1.drew w.heap.size 5 H1.out.size
              case hsl => exact HT.out.2.2.1.keep (w' := w1.drew.alloc (.cells #[] 5)) (fun q _ hq => ((H1.out.drew).alloc (.cells #[] 5)).block q hq (fun h => h))
              case h1 => intro j _; rfl
              case h63 => unfold maxLen; omega
              case hby => omega
              case hbase => have := H1.out.size; simp; omega
              intro v3 w3 ho3 hg3 hx3
              clear hx3
              have hkk : Keeps (fun _ => False) w1 w3 := keeps_grown (w0 := w1) (kd.alloc (.cells #[] 5)) (own_lit0 w1.drew w1.heap.size 5 (Nat.le_refl _)) hg3
              have hkw : Keeps (fun _ => False) w w3 := H1.out.trans' hkk
              have ho3' : w3.ownsRow w.heap.size 5 1 v3 n (((bs.take (n + 5)).drop 5).map byteV) := by
                have := ho3
                rw [List.nil_append, Nat.zero_add, range_bytes HB.out.2.2.2.2.1] at this
                exact this
              obtain ⟨A3, c3, hv3, -, -⟩ := own_form ho3'
              subst hv3
              have hfin : ReadPost w (rrK ex bs) (rrI ex bs) (rrN ex bs) (rrE ex bs) (.returned (.tuple #[.int .u8 (k0 : Nat), .slice A3 n c3, .int .i64 ((n : Int) + 9), .int .i64 0])) w3 := by
                obtain ⟨h1, h2, h3, h4⟩ := HE.out
                refine ⟨A3, c3, ?_, ?_, hkw⟩
                · rw [h1, h2, h3, h4, HB.out.2.2.2.2.1]; rfl
                · rw [h3, HB.out.2.2.2.2.1]; exact ho3'
              have H3 := Lib.hid (And.intro hkk hfin)
              clear ho3 ho3' hg3 hkk hkw hfin
              refine HK.out.to (fun w' : World => w'.cell? ⟨b, off, none⟩ = some (.int .u8 (k0 : Nat))) (fun _ h => h) (HSo.out _ H3.out.1) ?_
              clear HK hS
              have hS : (fun w' : World => w'.cell? ⟨b, off, none⟩ = some (.int .u8 (k0 : Nat))) (w3) := HSo.out _ H3.out.1
              try simp only [List.getElem_toArray, List.getElem_cons_succ, List.getElem_cons_zero, Act.put, List.setIfInBounds_toArray, List.set_cons_zero, List.set_cons_succ]
              refine reg_take (i := 11) (v := ?_) rfl (by kernel_rfl) (by kernel_rfl) (by kernel_rfl) (fun _ _ _ h => h) (Or.inl ⟨by kernel_rfl, ?_⟩) hS ?_
              rotate_left
              · (intro w' hSw; go_simp <;> with_reducible rfl)
              try simp only [List.getElem_toArray, List.getElem_cons_succ, List.getElem_cons_zero, Act.put, List.setIfInBounds_toArray, List.set_cons_zero, List.set_cons_succ]
              refine reg_take (i := 12) (v := ?_) rfl (by kernel_rfl) (by kernel_rfl) (by kernel_rfl) (fun _ _ _ h => h) (Or.inl ⟨by kernel_rfl, ?_⟩) hS ?_
              rotate_left
              · (intro w' hSw; go_simp <;> with_reducible rfl)
              try simp only [List.getElem_toArray, List.getElem_cons_succ, List.getElem_cons_zero, Act.put, List.setIfInBounds_toArray, List.set_cons_zero, List.set_cons_succ]
              refine reg_take (i := 13) (v := ?_) rfl (by kernel_rfl) (by kernel_rfl) (by kernel_rfl) (fun _ _ _ h => h) (Or.inl ⟨by kernel_rfl, ?_⟩) hS ?_
              rotate_left
              · (intro w' hSw; go_simp <;> with_reducible rfl)
              try simp only [List.getElem_toArray, List.getElem_cons_succ, List.getElem_cons_zero, Act.put, List.setIfInBounds_toArray, List.set_cons_zero, List.set_cons_succ]
              refine reg_take (i := 14) (v := ?_) rfl (by kernel_rfl) (by kernel_rfl) (by kernel_rfl) (fun _ _ _ h => h) (Or.inl ⟨by kernel_rfl, ?_⟩) hS ?_
              rotate_left
              · (intro w' hSw; go_simp <;> with_reducible rfl)
              try simp only [List.getElem_toArray, List.getElem_cons_succ, List.getElem_cons_zero, Act.put, List.setIfInBounds_toArray, List.set_cons_zero, List.set_cons_succ]
              refine wpAnyH_done (by kernel_rfl) ?_ _
              try simp only [List.getElem_toArray, List.getElem_cons_succ, List.getElem_cons_zero]
              try simp only [List.getElem_toArray, List.getElem_cons_succ, List.getElem_cons_zero, Act.put, List.setIfInBounds_toArray, List.set_cons_zero, List.set_cons_succ]
              go_wp2_with fail
              exact bodyPost_ret (v := .tuple #[.int .u8 (k0 : Nat), .slice A3 n c3, .int .i64 ((n : Int) + 9), .int .i64 0]) (by simp [results, Tryd.results44, go_sem]) rfl H3.out.2
            · have hE0 : rrE ex bs = 12 := by rw [HT.out.2.2.2.2.2.2.1, HT.out.2.2.2.2.2.1, if_neg heq]
              have hfin := rr_err (w := w) (w' := w.drew) (ex := ex) (bs := bs) (er := 12) hE0 (by omega) ((Keeps.refl _ w).drew)
              have HF := Lib.hid hfin
              have d1 : ((su : Int) != (cr : Int)) = true := by simp; omega
              have d2 : ((su : Int) == (cr : Int)) = false := by simp; omega
              clear hE0 hfin heq
              go_wp2_with fail
              exact bodyPost_ret (v := .tuple #[.int .u8 0, .slice none 0 0, .int .i64 0, .int .i64 12]) (by simp [results, Tryd.results44, go_sem]) rfl HF.out
end Go.Proofs.YtboecnakndpgfaaDoor.F
namespace Go.Proofs.YtboecnakndpgfaaDoor.F
theorem take_body (kind : Nat) (bs more : List Nat) : (sealL kind bs ++ more).take 5 = kind :: fourL bs.length := by
  unfold sealL bodyL fourL
  simp
theorem frameN_seal (kind : Nat) (bs more : List Nat) (h : bs.length < 4294967296) : frameN (sealL kind bs ++ more) = bs.length := by
  unfold frameN
  rw [take_body]
  exact le_four _ h
theorem lenE_seal (kind : Nat) (bs more : List Nat) (h : bs.length ≤ 1048576) : lenE (sealL kind bs ++ more) = 0 ∧ lenV (sealL kind bs ++ more) = bs.length + 9 := by
  have hn := frameN_seal kind bs more (by omega)
  have hl : (sealL kind bs ++ more).length = bs.length + 9 + more.length := by rw [List.length_append, sealL_length]
  have h1 : lenE (sealL kind bs ++ more) = 0 := by
    unfold lenE
    rw [hn, hl, if_neg (by omega), if_neg (by omega), if_neg (by omega)]
  refine ⟨h1, ?_⟩
  unfold lenV
  rw [if_pos h1, hn]
theorem seal_take (kind : Nat) (bs : List Nat) : (sealL kind bs).take ((sealL kind bs).length - 4) = bodyL kind bs := by
  have : (sealL kind bs).length - 4 = (bodyL kind bs).length := by rw [sealL_length, bodyL_length]; omega
  rw [this]
  unfold sealL
  exact List.take_left
theorem seal_drop (kind : Nat) (bs : List Nat) : (sealL kind bs).drop ((sealL kind bs).length - 4) = fourL (crcS (bodyL kind bs)) := by
  have : (sealL kind bs).length - 4 = (bodyL kind bs).length := by rw [sealL_length, bodyL_length]; omega
  rw [this]
  unfold sealL
  exact List.drop_left
theorem with_seal {kind : Nat} {bs : List Nat} (hk : kind < 256) (hb : ∀ j, bs.getD j 0 < 256) : withE (sealL kind bs) = 0 ∧ withK (sealL kind bs) = kind ∧ withI (sealL kind bs) = bs := by
  have h1 : withE (sealL kind bs) = 0 := by
    unfold withE sumOf
    rw [List.take_length, seal_drop, seal_take, le_four _ (crcS_lt (bodyL_byte hk hb)), if_pos rfl]
  refine ⟨h1, ?_, ?_⟩
  · unfold withK
    rw [if_pos h1]
    rfl
  · unfold withI
    rw [if_pos h1, seal_take]
    rfl
theorem open_seal {kind : Nat} {bs : List Nat} (hk : kind < 256) (hb : ∀ j, bs.getD j 0 < 256) (h : bs.length ≤ 1048576) : openE (sealL kind bs) = 0 ∧ openK (sealL kind bs) = kind ∧ openI (sealL kind bs) = bs := by
  obtain ⟨g1, g2⟩ := lenE_seal kind bs [] h
  rw [List.append_nil] at g1 g2
  obtain ⟨w1, w2, w3⟩ := with_seal hk hb
  have h1 : openE (sealL kind bs) = 0 := by
    unfold openE
    rw [if_pos g1, g2, sealL_length, if_pos rfl, w1]
  refine ⟨h1, ?_, ?_⟩
  · unfold openK; rw [if_pos h1, w2]
  · unfold openI; rw [if_pos h1, w3]
theorem read_seal {kind : Nat} {bs : List Nat} (more : List Nat) (hk : kind < 256) (hb : ∀ j, bs.getD j 0 < 256) (h : bs.length ≤ 1048576) :
    readE (sealL kind bs ++ more) = 0 ∧ readK (sealL kind bs ++ more) = kind ∧ readI (sealL kind bs ++ more) = bs ∧ readN (sealL kind bs ++ more) = bs.length + 9 := by
  obtain ⟨g1, g2⟩ := lenE_seal kind bs more h
  obtain ⟨w1, w2, w3⟩ := with_seal hk hb
  have ht : (sealL kind bs ++ more).take (bs.length + 9) = sealL kind bs := by
    rw [← sealL_length kind bs]
    exact List.take_left
  have h1 : readE (sealL kind bs ++ more) = 0 := by
    unfold readE
    rw [if_pos g1, g2, ht, w1]
  refine ⟨h1, ?_, ?_, ?_⟩
  · unfold readK; rw [if_pos h1, g2, ht, w2]
  · unfold readI; rw [if_pos h1, g2, ht, w3]
  · unfold readN; rw [if_pos h1, g2]
theorem open_err {bs : List Nat} (h : openE bs ≠ 0) : openK bs = 0 ∧ openI bs = [] := by unfold openK openI; rw [if_neg h, if_neg h]; exact ⟨rfl, rfl⟩
theorem open_short (kind : Nat) (bs : List Nat) (h : bs.length ≤ 1048576) : openE ((sealL kind bs).take ((sealL kind bs).length - 1)) = 10 := by
  have hl : ((sealL kind bs).take ((sealL kind bs).length - 1)).length = bs.length + 8 := by rw [List.length_take, sealL_length]; omega
  have hE : lenE ((sealL kind bs).take ((sealL kind bs).length - 1)) = 10 := by
    unfold lenE
    rw [hl]
    by_cases h9 : bs.length + 8 < 9
    · rw [if_pos h9]
    · have hn : frameN ((sealL kind bs).take ((sealL kind bs).length - 1)) = bs.length := by
        unfold frameN
        rw [List.take_take, show min 5 ((sealL kind bs).length - 1) = 5 by rw [sealL_length]; omega]
        have := take_body kind bs []
        rw [List.append_nil] at this
        rw [this]
        exact le_four _ (by omega)
      rw [if_neg h9, hn, if_neg (by omega), if_pos (by omega)]
  unfold openE
  rw [hE, if_neg (by omega)]
theorem open_more (kind : Nat) (bs : List Nat) (h : bs.length ≤ 1048576) : openE (sealL kind bs ++ [0]) = 11 := by
  obtain ⟨g1, g2⟩ := lenE_seal kind bs [0] h
  unfold openE
  rw [if_pos g1, g2, List.length_append, sealL_length, if_neg (by simp)]
/-- A frame that opens is whole: its sum is its bytes' sum. -/
theorem open_ok {bs : List Nat} (h : openE bs = 0) : 9 ≤ bs.length ∧ le (bs.drop (bs.length - 4)) = crcS (bs.take (bs.length - 4)) := by
  unfold openE at h
  by_cases h1 : lenE bs = 0
  · rw [if_pos h1] at h
    obtain ⟨g1, g2, g3⟩ := lenE_zero h1
    by_cases h2 : lenV bs = bs.length
    · rw [if_pos h2] at h
      refine ⟨by omega, ?_⟩
      unfold withE sumOf at h
      rw [List.take_length] at h
      split at h
      · assumption
      · omega
    · rw [if_neg h2] at h; omega
  · rw [if_neg h1] at h; exact absurd h h1
theorem le_split {bs : List Nat} (hb : ∀ b ∈ bs, b < 256) (m : Nat) (hm : m ≤ bs.length) : le bs = 2 ^ (8 * m) * le (bs.drop m) ^^^ le (bs.take m) := by
  have h1 := le_append (bs.take m) (bs.drop m)
  rw [List.take_append_drop, List.length_take, Nat.min_eq_left hm] at h1
  have h2 : le (bs.take m) < 2 ^ (8 * m) := by
    have := le_lt (l := bs.take m) (fun b hb' => hb b (List.mem_of_mem_take hb'))
    rw [List.length_take, Nat.min_eq_left hm] at this
    exact this
  rw [join_xor _ _ _ h2, h1]
  omega
/-- Two frames of one length that open differ by no burst of at most 32 bits. -/
theorem burst_open {a b : List Nat} {at_ by_ : Nat} (ha : ∀ x ∈ a, x < 256) (hb : ∀ x ∈ b, x < 256) (hl : a.length = b.length) (h : le b = le a ^^^ by_ * 2 ^ at_) (hby : by_ < 4294967296) (oa : openE a = 0) (ob : openE b = 0) : by_ = 0 := by
  obtain ⟨l1, s1⟩ := open_ok oa
  obtain ⟨l2, s2⟩ := open_ok ob
  obtain ⟨m, hm⟩ : ∃ m, m = a.length - 4 := ⟨_, rfl⟩
  rw [← hm] at s1
  rw [← hl, ← hm] at s2
  have e1 := le_split ha m (by omega)
  have e2 := le_split hb m (by omega)
  unfold crcS at s1 s2
  rw [crcL_le (fun x hx => ha x (List.mem_of_mem_take hx)), List.length_take, Nat.min_eq_left (by omega)] at s1
  rw [crcL_le (fun x hx => hb x (List.mem_of_mem_take hx)), List.length_take, Nat.min_eq_left (by omega)] at s2
  rw [e1, e2] at h
  exact burst (8 * m) at_ by_ hby (crc_diff h s2.symm s1.symm)
theorem le_set {bs : List Nat} (hb : ∀ b ∈ bs, b < 256) (i r : Nat) (hi : i < bs.length) (hr : r < 8) : le (bs.set i (bs.getD i 0 ^^^ 2 ^ r)) = le bs ^^^ 2 ^ (8 * i + r) := by
  induction bs generalizing i with
  | nil => simp at hi
  | cons x l ih =>
    have hx := hb x (by simp)
    have hl : ∀ b ∈ l, b < 256 := fun b hm => hb b (by simp [hm])
    have h28 : (2 : Nat) ^ r ≤ 2 ^ 7 := Nat.pow_le_pow_right (by omega) (by omega)
    cases i with
    | zero =>
      show (x ^^^ 2 ^ r) + 256 * le l = (x + 256 * le l) ^^^ 2 ^ (8 * 0 + r)
      have e1 : x + 256 * le l = 2 ^ 8 * le l ^^^ x := by rw [join_xor 8 _ _ (by omega)]; omega
      have hxr : x ^^^ 2 ^ r < 2 ^ 8 := Nat.xor_lt_two_pow (by omega) (by omega)
      have e2 : (x ^^^ 2 ^ r) + 256 * le l = 2 ^ 8 * le l ^^^ (x ^^^ 2 ^ r) := by rw [join_xor 8 _ _ hxr]; omega
      rw [e1, e2, Nat.xor_assoc, show 8 * 0 + r = r by omega]
    | succ i =>
      have hi' : i < l.length := by simpa using hi
      have h := ih hl i hi'
      show x + 256 * le (l.set i (l.getD i 0 ^^^ 2 ^ r)) = (x + 256 * le l) ^^^ 2 ^ (8 * (i + 1) + r)
      rw [h]
      have e1 : x + 256 * le l = 2 ^ 8 * le l ^^^ x := by rw [join_xor 8 _ _ (by omega)]; omega
      have e2 : x + 256 * (le l ^^^ 2 ^ (8 * i + r)) = 2 ^ 8 * (le l ^^^ 2 ^ (8 * i + r)) ^^^ x := by rw [join_xor 8 _ _ (by omega)]; omega
      have e3 : 2 ^ 8 * (le l ^^^ 2 ^ (8 * i + r)) = 2 ^ 8 * le l ^^^ 2 ^ (8 * (i + 1) + r) := by
        have := Nat.shiftLeft_xor_distrib (a := le l) (b := 2 ^ (8 * i + r)) (i := 8)
        simp only [Nat.shiftLeft_eq] at this
        rw [Nat.mul_comm, this, Nat.mul_comm (le l), ← Nat.pow_add, show 8 * i + r + 8 = 8 * (i + 1) + r by omega]
      rw [e1, e2, e3, Nat.xor_assoc, Nat.xor_assoc, Nat.xor_comm x]
theorem set_byte {bs : List Nat} (hb : ∀ b ∈ bs, b < 256) (i r : Nat) (hr : r < 8) : ∀ b ∈ bs.set i (bs.getD i 0 ^^^ 2 ^ r), b < 256 := by
  intro b hm
  rcases List.mem_or_eq_of_mem_set hm with h | h
  · exact hb b h
  · subst h
    have h28 : (2 : Nat) ^ r ≤ 2 ^ 7 := Nat.pow_le_pow_right (by omega) (by omega)
    exact Nat.xor_lt_two_pow (n := 8) (getD_of_mem hb i) (by omega)
end Go.Proofs.YtboecnakndpgfaaDoor.F
namespace Go.Proofs.YtboecnakndpgfaaDoor.F
def flipL (S : List Nat) (p b : Nat) : Nat → List Nat
  | 0 => S
  | i + 1 => if b / 2 ^ i % 2 = 1 then (flipL S p b i).set ((p + i) / 8) ((flipL S p b i).getD ((p + i) / 8) 0 ^^^ 2 ^ ((p + i) % 8)) else flipL S p b i
theorem flipL_length (S : List Nat) (p b i : Nat) : (flipL S p b i).length = S.length := by
  induction i with
  | zero => rfl
  | succ i ih => unfold flipL; split; rw [List.length_set, ih]; exact ih
theorem flipL_byte {S : List Nat} (hS : ∀ x ∈ S, x < 256) (p b i : Nat) : ∀ x ∈ flipL S p b i, x < 256 := by
  induction i with
  | zero => exact hS
  | succ i ih =>
    unfold flipL
    split
    · exact set_byte ih _ _ (Nat.mod_lt _ (by omega))
    · exact ih
theorem mod_pow_succ (b i : Nat) : b % 2 ^ (i + 1) = b % 2 ^ i + b / 2 ^ i % 2 * 2 ^ i := by
  rw [Nat.pow_succ, Nat.mod_mul, Nat.mul_comm (2 ^ i)]
theorem flipL_le {S : List Nat} (hS : ∀ x ∈ S, x < 256) (p b i : Nat) (h : p + i ≤ 8 * S.length) : le (flipL S p b i) = le S ^^^ b % 2 ^ i * 2 ^ p := by
  induction i with
  | zero => simp [flipL, Nat.mod_one]
  | succ i ih =>
    have ih := ih (by omega)
    unfold flipL
    have hm := mod_pow_succ b i
    by_cases hb : b / 2 ^ i % 2 = 1
    · rw [if_pos hb, le_set (flipL_byte hS p b i) _ _ (by rw [flipL_length]; omega) (Nat.mod_lt _ (by omega)), ih, show 8 * ((p + i) / 8) + (p + i) % 8 = p + i by omega, hm, hb, Nat.one_mul, Nat.xor_assoc]
      congr 1
      have hlt : b % 2 ^ i < 2 ^ i := Nat.mod_lt _ (Nat.two_pow_pos i)
      have e := join_xor i 1 _ hlt
      rw [Nat.mul_one] at e
      rw [Nat.add_comm (b % 2 ^ i) (2 ^ i), ← e]
      have d := Nat.shiftLeft_xor_distrib (a := 2 ^ i) (b := b % 2 ^ i) (i := p)
      simp only [Nat.shiftLeft_eq] at d
      rw [d, ← Nat.pow_add, Nat.add_comm i p]
      exact Nat.xor_comm _ _
    · rw [if_neg hb, ih, hm, show b / 2 ^ i % 2 = 0 by omega]
      simp
theorem flipL_same (S : List Nat) (p b i : Nat) (h : b % 2 ^ i = 0) : flipL S p b i = S := by
  induction i with
  | zero => rfl
  | succ i ih =>
    have hm := mod_pow_succ b i
    have hp := Nat.two_pow_pos i
    have hb : b / 2 ^ i % 2 = 0 := by
      rcases (show b / 2 ^ i % 2 = 0 ∨ b / 2 ^ i % 2 = 1 by omega) with h1 | h1
      · exact h1
      · rw [h1] at hm; omega
    rw [hb] at hm
    unfold flipL
    rw [if_neg (by omega)]
    exact ih (by omega)
theorem flip_open {S : List Nat} (hS : ∀ x ∈ S, x < 256) {p b i : Nat} (hi : i ≤ 32) (h : p + i ≤ 8 * S.length) (ho : openE S = 0) (hb : b % 2 ^ i ≠ 0) : openE (flipL S p b i) ≠ 0 := by
  intro hT
  have hlt : b % 2 ^ i < 4294967296 := by
    have h1 : b % 2 ^ i < 2 ^ i := Nat.mod_lt _ (Nat.two_pow_pos i)
    have h2 : (2 : Nat) ^ i ≤ 2 ^ 32 := Nat.pow_le_pow_right (by omega) hi
    omega
  exact hb (burst_open hS (flipL_byte hS p b i) (flipL_length S p b i).symm (flipL_le hS p b i h) hlt ho hT)
theorem chg_step (b i : Nat) : decide (b % 2 ^ (i + 1) ≠ 0) = if b / 2 ^ i % 2 = 1 then true else decide (b % 2 ^ i ≠ 0) := by
  have hm := mod_pow_succ b i
  have hp := Nat.two_pow_pos i
  by_cases h1 : b / 2 ^ i % 2 = 1
  · rw [if_pos h1]
    rw [h1] at hm
    simp
    omega
  · rw [if_neg h1, hm, show b / 2 ^ i % 2 = 0 by omega, Nat.zero_mul, Nat.add_zero]
end Go.Proofs.YtboecnakndpgfaaDoor.F
namespace Go.Proofs.YtboecnakndpgfaaDoor.F
theorem four_of : ∀ {l : List Nat}, l.length = 4 → (∀ b ∈ l, b < 256) → fourL (le l) = l
  | [a, b, c, d], _, hb => by
    have h1 := hb a (by simp)
    have h2 := hb b (by simp)
    have h3 := hb c (by simp)
    have h4 := hb d (by simp)
    show [(a + 256 * (b + 256 * (c + 256 * (d + 256 * 0)))) % 256, (a + 256 * (b + 256 * (c + 256 * (d + 256 * 0)))) / 256 % 256, (a + 256 * (b + 256 * (c + 256 * (d + 256 * 0)))) / 65536 % 256, (a + 256 * (b + 256 * (c + 256 * (d + 256 * 0)))) / 16777216 % 256] = [a, b, c, d]
    congr 1
    · omega
    · congr 1
      · omega
      · congr 1
        · omega
        · congr 1
          omega
theorem seal_of_open {b : List Nat} (hb : ∀ x ∈ b, x < 256) (h : openE b = 0) : b = sealL (openK b) (openI b) ∧ (openI b).length + 9 = b.length ∧ openK b < 256 := by
  have hok := open_ok h
  have hk : openK b = withK b := by unfold openK; rw [if_pos h]
  have hi : openI b = withI b := by unfold openI; rw [if_pos h]
  have hE := h
  unfold openE at hE
  by_cases h1 : lenE b = 0
  · rw [if_pos h1] at hE
    obtain ⟨g1, g2, g3⟩ := lenE_zero h1
    by_cases h2 : lenV b = b.length
    · rw [if_pos h2] at hE
      rw [hk, hi]
      unfold withK withI
      rw [if_pos hE, if_pos hE]
      obtain ⟨m, hm⟩ : ∃ m, m = b.length - 4 := ⟨_, rfl⟩
      have hm5 : 5 ≤ m := by omega
      rw [← hm] at hok ⊢
      obtain ⟨k, t, rfl⟩ : ∃ k t, b = k :: t := by
        cases b with
        | nil => simp at hok
        | cons k t => exact ⟨k, t, rfl⟩
      have e1 : (k :: t).drop m = fourL (crcS ((k :: t).take m)) := by
        rw [← hok.2, four_of (by rw [List.length_drop]; omega) (fun x hx => hb x (List.mem_of_mem_drop hx))]
      have hI : (((k :: t).take m).drop 5).length = (k :: t).length - 9 := by rw [List.length_drop, List.length_take]; omega
      have hF : frameN (k :: t) = (k :: t).length - 9 := by omega
      have e2 : (((k :: t).take 5).drop 1) = fourL (frameN (k :: t)) := by
        unfold frameN
        rw [four_of (by rw [List.length_drop, List.length_take]; omega) (fun x hx => hb x (List.mem_of_mem_take (List.mem_of_mem_drop hx)))]
      have e3 : (k :: t).take m = bodyL ((k :: t).getD 0 0) (((k :: t).take m).drop 5) := by
        unfold bodyL
        rw [hI, ← hF, ← e2]
        have e4 : (k :: t).take m = ((k :: t).take m).take 5 ++ ((k :: t).take m).drop 5 := (List.take_append_drop 5 _).symm
        have e5 : ((k :: t).take m).take 5 = (k :: t).take 5 := by rw [List.take_take, Nat.min_eq_left hm5]
        rw [e5] at e4
        exact e4
      refine ⟨?_, by rw [hI]; omega, hb k (by simp)⟩
      unfold sealL
      rw [← e3, ← e1, List.take_append_drop]
    · rw [if_neg h2] at hE; omega
  · rw [if_neg h1] at hE; exact absurd hE h1
end Go.Proofs.YtboecnakndpgfaaDoor.F
namespace Go.Proofs.YtboecnakndpgfaaDoor.D
set_option maxRecDepth 100000
open Go.RowKit
set_option linter.unusedVariables false
set_option linter.unusedSimpArgs false
set_option maxRecDepth 100000 in
set_option maxHeartbeats 400000 in
theorem add_any (a b : Int) (w : World) (a0 : -9223372036854775808 ≤ a) (a1 : a ≤ 9223372036854775807) (b0 : -9223372036854775808 ≤ b) (b1 : b ≤ 9223372036854775807) :
    Calls Tryd.prog 37 #[.int .i64 a, .int .i64 b] w fun e w' => e = .returned (.int .i64 (add64 a b)) ∧ w = w' := by
  have H := Lib.hid (And.intro a0 (And.intro a1 (And.intro b0 b1)))
  clear a0 a1 b0 b1
  go_enter Tryd.func37, Tryd.ntmps37
  go_wp2
  go_ret
  refine ⟨ret_int ?_, rfl⟩
  obtain ⟨a0, a1, b0, b1⟩ := H.out
  unfold add64
  unfold wrap64
  simp only [IntKind.wrap_u64]
  omega
/-- The class ahead, i bits of it read, at p: the class, the error, the place behind. -/
def markR (bs : List Nat) (en : Nat) : Nat → Nat → Nat × Int × Nat
  | 0, p => (4, 0, p)
  | f + 1, p => if p < en then (if bitOf bs p = 0 then (4 - (f + 1), 0, p + 1) else markR bs en f (p + 1)) else (0, 10, p)
theorem markR_cls (bs : List Nat) (en f p : Nat) (hf : f ≤ 4) : (markR bs en f p).1 ≤ 4 := by
  induction f generalizing p with
  | zero => exact Nat.le_refl _
  | succ f ih =>
    unfold markR
    split
    · split
      · show 4 - (f + 1) ≤ 4; omega
      · exact ih _ (by omega)
    · exact Nat.zero_le _
theorem markR_le (bs : List Nat) (en f p : Nat) (h : p ≤ en) : (markR bs en f p).2.2 ≤ en := by
  induction f generalizing p with
  | zero => exact h
  | succ f ih =>
    unfold markR
    split
    · split
      · show p + 1 ≤ en; omega
      · exact ih _ (by omega)
    · exact h
theorem gets_one (bs : List Nat) (p : Nat) : gets bs p 1 = bitOf bs p := by simp [gets]
theorem get_one (bs : List Nat) (p en : Nat) (h : p < en) : getV bs p en 1 = bitOf bs p ∧ getE p en 1 = 0 ∧ getN p en 1 = 1 := by
  unfold getV getE getN
  rw [if_pos (by omega), if_pos (by omega), if_pos (by omega), if_pos (by omega)]
  exact ⟨gets_one bs p, rfl, rfl⟩
theorem get_none (bs : List Nat) (p en : Nat) (n : Int) (h : (en : Int) - p < n) (h0 : 0 ≤ n) (h1 : n ≤ 64) : getV bs p en n = 0 ∧ getE p en n = 10 ∧ getN p en n = 0 := by
  unfold getV getE getN
  rw [if_neg (by omega), if_pos (by omega), if_neg (by omega), if_neg (by omega)]
  exact ⟨rfl, rfl, rfl⟩
theorem get_some (bs : List Nat) (p en n : Nat) (h : p + n ≤ en) (h1 : n ≤ 64) : getV bs p en n = gets bs p n ∧ getE p en n = 0 ∧ getN p en n = n := by
  unfold getV getE getN
  rw [if_pos (by omega), if_pos (by omega), if_pos (by omega), if_pos (by omega)]
  exact ⟨rfl, rfl, rfl⟩
def MarkPost (w : World) (r : Nat) (D : Nat → Prop) (bs : List Nat) (en : Nat) (m : Nat × Int × Nat) (e : Ending) (w' : World) : Prop :=
  e = .returned (.tuple #[.int .i64 (m.1 : Nat), .int .i64 m.2.1]) ∧ Rd w' r D bs m.2.2 en ∧ Keeps (fun k => k = r) w w'
set_option maxRecDepth 100000 in
set_option maxHeartbeats 800000 in
theorem mark_any (w : World) (r : Nat) (D : Nat → Prop) (bs : List Nat) (p en : Nat) (h : Rd w r D bs p en) :
    Calls Tryd.prog 66 #[.pointer (some ⟨r, 0, none⟩)] w (MarkPost w r D bs en (markR bs en 4 p)) := by
  have HH := Lib.hid h
  clear h
  go_enter Tryd.func66, Tryd.ntmps66
  go_wp2_with fail
  go_loopw [4] (fun i wr => ∃ k : Nat, k ≤ 4 ∧ i = .int .i64 k ∧ Rd wr r D bs (p + k) en ∧ Keeps (fun k => k = r) w wr ∧ markR bs en 4 p = markR bs en (4 - k) (p + k))
    (fun i _ => 4 - (intOf i).toNat)
  case atStart => exact ⟨0, Nat.zero_le _, rfl, HH.out, Keeps.refl _ _, rfl⟩
  case round =>
    obtain ⟨k, hk, rfl, hrr, hkr, hmr⟩ := hrel
    by_cases hlt : k < 4
    · obtain ⟨f, hf⟩ : ∃ f, 4 - k = f + 1 := ⟨3 - k, by omega⟩
      rw [hf] at hmr
      have HR := Lib.hid (And.intro hrr (And.intro hkr (And.intro hmr hf)))
      clear hrr hkr hmr hf
      go_wp2_with fail
      refine (get_any _ _ _ _ _ _ _ HR.out.1).mono ?_
      rintro e w2 ⟨rfl, hr2, hk2⟩
      by_cases hp : p + k < en
      · obtain ⟨g1, g2, g3⟩ := get_one bs (p + k) en hp
        rw [g3] at hr2
        rw [g1, g2]
        have hb := bitOf_lt bs (p + k)
        obtain ⟨b, hbb⟩ : ∃ b, b = bitOf bs (p + k) := ⟨_, rfl⟩
        rw [← hbb] at hb
        rw [← hbb]
        have H2 := Lib.hid (And.intro hr2 (And.intro (HR.out.2.1.trans' hk2) (And.intro hbb hp)))
        clear hr2 hk2 g1 g2 g3 hbb hp
        rcases (show b = 0 ∨ b = 1 by omega) with rfl | rfl
        · rw [show ((0 : Nat) : Int) = 0 from rfl]
          go_wp2_with fail
          go_ret2
          obtain ⟨h1, h2, h3, h4⟩ := H2.out
          obtain ⟨-, -, m1, m2⟩ := HR.out
          rw [m1]
          unfold markR
          rw [if_pos h4, if_pos h3.symm]
          refine ⟨?_, ?_, h2⟩
          · show _ = Ending.returned (.tuple #[.int .i64 ((4 - (f + 1) : Nat) : Int), .int .i64 0])
            rw [show 4 - (f + 1) = k by omega]
            rfl
          · exact h1
        · rw [show ((1 : Nat) : Int) = 1 from rfl]
          go_wp2_with fail
          go_roundw
          case rel =>
            obtain ⟨h1, h2, h3, h4⟩ := H2.out
            obtain ⟨-, -, m1, m2⟩ := HR.out
            refine ⟨k + 1, by omega, by go_num, h1, h2, ?_⟩
            rw [m1, show 4 - (k + 1) = f by omega]
            show (if p + k < en then _ else _) = _
            rw [if_pos h4, if_neg (by omega)]
            rfl
          case measure => simp [intOf]; omega
      · obtain ⟨g1, g2, g3⟩ := get_none bs (p + k) en 1 (by omega) (by omega) (by omega)
        rw [g3] at hr2
        rw [g1, g2]
        have H2 := Lib.hid (And.intro hr2 (And.intro (HR.out.2.1.trans' hk2) hp))
        clear hr2 hk2 g1 g2 g3 hp
        go_wp2_with fail
        go_ret2
        obtain ⟨h1, h2, h4⟩ := H2.out
        obtain ⟨-, -, m1, m2⟩ := HR.out
        rw [m1]
        unfold markR
        rw [if_neg h4]
        exact ⟨rfl, h1, h2⟩
    · obtain rfl : k = 4 := by omega
      have HR := Lib.hid (And.intro hrr (And.intro hkr hmr))
      clear hrr hkr hmr
      go_wp2_with fail
      go_ret2
      rw [HR.out.2.2]
      exact ⟨rfl, HR.out.1, HR.out.2.1⟩
/-- A step of a step, its class read: it, the error, the place behind. -/
def takeM (bs : List Nat) (en c : Nat) (e : Int) (q : Nat) : Int × Int × Nat :=
  if e = 0 then
    if q + wd c ≤ en then
      if cls (gets bs q (wd c)) = c then (zag (gets bs q (wd c)), 0, q + wd c) else (0, 11, q + wd c)
    else (0, 10, q)
  else (0, e, q)
def takeR (bs : List Nat) (en p : Nat) : Int × Int × Nat := takeM bs en (markR bs en 4 p).1 (markR bs en 4 p).2.1 (markR bs en 4 p).2.2
theorem markR_err (bs : List Nat) (en f p : Nat) : (markR bs en f p).2.1 = 0 ∨ (markR bs en f p).2.1 = 10 := by
  induction f generalizing p with
  | zero => exact .inl rfl
  | succ f ih =>
    unfold markR
    split
    · split
      · exact .inl rfl
      · exact ih _
    · exact .inr rfl
theorem takeR_le (bs : List Nat) (en p : Nat) (h : p ≤ en) : (takeR bs en p).2.2 ≤ en := by
  have := markR_le bs en 4 p h
  unfold takeR takeM
  split
  · split
    · split <;> assumption
    · exact this
  · exact this
theorem gets_64 (bs : List Nat) (p n : Nat) (h : n ≤ 64) : gets bs p n < 18446744073709551616 :=
  Nat.lt_of_lt_of_le (gets_lt bs p n) (Nat.le_trans (Nat.pow_le_pow_right (by omega) h) (by decide))
theorem takeR_range (bs : List Nat) (en p : Nat) : -9223372036854775808 ≤ (takeR bs en p).1 ∧ (takeR bs en p).1 ≤ 9223372036854775807 := by
  unfold takeR takeM
  split
  · split
    · split
      · exact zag_range (gets_64 _ _ _ (wd_le (markR_cls _ _ _ _ (Nat.le_refl _))))
      · exact ⟨by show _ ≤ (0 : Int); omega, by show (0 : Int) ≤ _; omega⟩
    · exact ⟨by show _ ≤ (0 : Int); omega, by show (0 : Int) ≤ _; omega⟩
  · exact ⟨by show _ ≤ (0 : Int); omega, by show (0 : Int) ≤ _; omega⟩
def TakePost (w : World) (r : Nat) (D : Nat → Prop) (bs : List Nat) (en : Nat) (m : Int × Int × Nat) (e : Ending) (w' : World) : Prop :=
  e = .returned (.tuple #[.int .i64 m.1, .int .i64 m.2.1]) ∧ Rd w' r D bs m.2.2 en ∧ Keeps (fun k => k = r) w w'
set_option maxRecDepth 100000 in
set_option maxHeartbeats 800000 in
theorem take_any (w : World) (r : Nat) (D : Nat → Prop) (bs : List Nat) (p en : Nat) (h : Rd w r D bs p en) :
    Calls Tryd.prog 36 #[.pointer (some ⟨r, 0, none⟩)] w (TakePost w r D bs en (takeR bs en p)) := by
  have HH := Lib.hid h
  clear h
  go_enter Tryd.func36, Tryd.ntmps36
  go_wp2_with fail
  refine (mark_any _ _ _ _ _ _ HH.out).mono ?_
  rintro e w1 ⟨rfl, hr1, hk1⟩
  have hc := markR_cls bs en 4 p (Nat.le_refl _)
  have he := markR_err bs en 4 p
  have ht : takeR bs en p = takeM bs en (markR bs en 4 p).1 (markR bs en 4 p).2.1 (markR bs en 4 p).2.2 := rfl
  obtain ⟨m, hm⟩ : ∃ m, m = markR bs en 4 p := ⟨_, rfl⟩
  rw [← hm] at hc he hr1 ht
  rw [← hm]
  clear hm
  obtain ⟨c, e, q⟩ := m
  simp only [] at hc he hr1 ht
  have H1 := Lib.hid (And.intro hr1 (And.intro hk1 ht))
  clear hr1 hk1 ht
  rcases he with rfl | rfl
  · go_wp2_with fail
    refine (widths_any _).mono ?_
    rintro e w2 ⟨rfl, hb2⟩
    have H2 := Lib.hid (And.intro (H1.out.1.below hb2) (H1.out.2.1.trans' (Keeps.of_below hb2)))
    clear hb2
    unfold widthsV
    have ix := fun w => widths_at c (by omega) w
    go_wp2_with fail
    refine (get_any _ _ _ _ _ _ _ H2.out.1).mono ?_
    rintro e w3 ⟨rfl, hr3, hk3⟩
    have hw := wd_le hc
    by_cases hfit : q + wd c ≤ en
    · obtain ⟨g1, g2, g3⟩ := get_some bs q en (wd c) hfit hw
      rw [g3] at hr3
      rw [g1, g2]
      have hz := gets_64 bs q (wd c) hw
      obtain ⟨z, hzz⟩ : ∃ z, z = gets bs q (wd c) := ⟨_, rfl⟩
      rw [← hzz] at hz
      rw [← hzz]
      have H3 := Lib.hid (And.intro hr3 (And.intro (H2.out.2.trans' hk3) (And.intro hzz (And.intro hfit hz))))
      clear hr3 hk3 g1 g2 g3 hzz hfit hz ix hw
      go_wp2_with fail
      refine (classOf_any _ H3.out.2.2.2.2 _).mono ?_
      rintro e w4 ⟨rfl, hb4⟩
      have H4 := Lib.hid (And.intro (H3.out.1.below hb4) (H3.out.2.1.trans' (Keeps.of_below hb4)))
      clear hb4
      by_cases hcl : cls z = c
      · have hne : (((cls z : Nat) : Int) != (c : Int)) = false := by simp [hcl]
        have hne2 : (((cls z : Nat) : Int) == (c : Int)) = true := by simp [hcl]
        have HC := Lib.hid hcl
        clear hcl
        go_wp2_with fail
        refine (zag_any _ _ H3.out.2.2.2.2).mono ?_
        rintro e w5 ⟨rfl, rfl⟩
        go_wp2_with fail
        go_ret2
        obtain ⟨-, -, h3, h4, -⟩ := H3.out
        rw [H1.out.2.2]
        unfold takeM
        rw [if_pos (rfl : (0 : Int) = 0), if_pos h4, ← h3, if_pos HC.out]
        exact ⟨rfl, H4.out.1, H4.out.2⟩
      · have hne : (((cls z : Nat) : Int) != (c : Int)) = true := by simp; omega
        have hne2 : (((cls z : Nat) : Int) == (c : Int)) = false := by simp; omega
        have HC := Lib.hid hcl
        clear hcl
        go_wp2_with fail
        go_ret2
        obtain ⟨-, -, h3, h4, -⟩ := H3.out
        rw [H1.out.2.2]
        unfold takeM
        rw [if_pos (rfl : (0 : Int) = 0), if_pos h4, ← h3, if_neg HC.out]
        exact ⟨rfl, H4.out.1, H4.out.2⟩
    · obtain ⟨g1, g2, g3⟩ := get_none bs q en (wd c) (by omega) (by omega) (by omega)
      rw [g3] at hr3
      rw [g1, g2]
      have H3 := Lib.hid (And.intro hr3 (And.intro (H2.out.2.trans' hk3) hfit))
      clear hr3 hk3 g1 g2 g3 hfit ix hw
      go_wp2_with fail
      go_ret2
      rw [H1.out.2.2]
      unfold takeM
      rw [if_pos (rfl : (0 : Int) = 0), if_neg H3.out.2.2]
      exact ⟨rfl, H3.out.1, H3.out.2.1⟩
  · go_wp2_with fail
    go_ret2
    rw [H1.out.2.2]
    unfold takeM
    rw [if_neg (by omega)]
    exact ⟨rfl, H1.out.1, H1.out.2.1⟩
def endR (bs : List Nat) (en p : Nat) : Bool := decide (en - p < 8) && decide (gets bs p (min (en - p) 64) = 0)
set_option maxRecDepth 100000 in
set_option maxHeartbeats 800000 in
theorem ended_any (w : World) (r : Nat) (D : Nat → Prop) (bs : List Nat) (p en : Nat) (h : Rd w r D bs p en) :
    Calls Tryd.prog 38 #[.pointer (some ⟨r, 0, none⟩)] w fun e w' => e = .returned (.bool (endR bs en p)) ∧ Keeps (fun k => k = r) w w' := by
  have hle := h.le
  have hsm := h.small
  have hen := h.en_le
  have HH := Lib.hid h
  clear h
  obtain ⟨n, hn⟩ : ∃ n : Nat, n = en - p := ⟨_, rfl⟩
  have hni : (en : Int) - p = (n : Int) := by omega
  have hn8 : n ≤ 8796093022208 := by omega
  have HN := Lib.hid (And.intro hn hle)
  clear hn hle hsm hen
  have fin : ∀ b, b = endR bs en p → Ending.returned (.bool b) = .returned (.bool (endR bs en p)) := fun b h => by rw [h]
  have FIN := Lib.hid fin
  clear fin
  go_enter Tryd.func38, Tryd.ntmps38
  go_wp2_with fail
  refine (left_any _ _ _ _ _ _ HH.out).mono ?_
  rintro e w1 ⟨rfl, k1, rfl⟩
  rw [hni]
  clear hni
  by_cases h64 : n < 64
  · have hmi : min (n : Int) 64 = (n : Int) := by omega
    have hd : decide ((64 : Int) < (n : Int)) = false := by simp; omega
    have hd2 : decide ((n : Int) < 64) = true := by simp; omega
    go_wp2_with fail
    refine (get_any _ _ _ _ _ _ _ (HH.out.drewN k1)).mono ?_
    rintro e w2 ⟨rfl, hr2, hk2⟩
    obtain ⟨g1, g2, g3⟩ := get_some bs p en n (by obtain ⟨h1, h2⟩ := HN.out; omega) (by omega)
    have H2 := Lib.hid (Keeps.trans' ((Keeps.refl _ w).drewN k1) hk2)
    have hz := gets_64 bs p n (by omega)
    obtain ⟨z, hzz⟩ : ∃ z, z = gets bs p n := ⟨_, rfl⟩
    rw [← hzz] at hz g1
    rw [g1, g2]
    have H3 := Lib.hid (And.intro hzz hz)
    clear hr2 hk2 g1 g2 g3 hzz hz hmi hd hd2
    have hmn : min n 64 = n := by omega
    have HMN := Lib.hid hmn
    clear hmn
    by_cases h8 : n < 8
    · by_cases h0 : z = 0
      · subst h0
        rw [show ((0 : Nat) : Int) = 0 from rfl]
        go_wp2_with fail
        go_ret
        refine ⟨FIN.out _ ?_, H2.out⟩
        unfold endR
        rw [← HN.out.1, HMN.out, ← H3.out.1]
        simp [h8]
      · have d : ((z : Int) == 0) = false := by simp; omega
        go_wp2_with fail
        go_ret
        refine ⟨FIN.out _ ?_, H2.out⟩
        unfold endR
        rw [← HN.out.1, HMN.out, ← H3.out.1]
        simp [h0]
    · go_wp2_with fail
      go_ret
      refine ⟨FIN.out _ ?_, H2.out⟩
      unfold endR
      rw [← HN.out.1]
      simp [h8]
  · have hmi : min (n : Int) 64 = 64 := by omega
    go_wp2_with fail
    all_goals
      refine (get_any _ _ _ _ _ _ _ (HH.out.drewN k1)).mono ?_
      rintro e w2 ⟨rfl, hr2, hk2⟩
      have H2 := Lib.hid (Keeps.trans' ((Keeps.refl _ w).drewN k1) hk2)
      clear hr2 hk2
      have h8 : ¬ n < 8 := by omega
      have d8 : decide ((n : Int) < 8) = false := by simp; omega
      go_wp2_with fail
      go_ret
      refine ⟨FIN.out _ ?_, H2.out⟩
      unfold endR
      rw [← HN.out.1]
      simp [h8]
end Go.Proofs.YtboecnakndpgfaaDoor.D
