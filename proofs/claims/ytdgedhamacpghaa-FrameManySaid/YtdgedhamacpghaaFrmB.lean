/-
  Contracts of frame.Little and its closure.
-/
import Derived.Test.YtdgedhamacpghaaFrmA
import Derived.StillTailTactics
namespace Go.Proofs.Ytdgedhamacpghaa
open Go.RowKit
set_option linter.unusedVariables false
set_option linter.unusedSimpArgs false
def leFrom (bs : List Nat) (i m : Nat) : Nat := 2 ^ (8 * i) * le ((bs.take m).drop i)
theorem leFrom_step (bs : List Nat) (i m : Nat) (hi : i < m) (hm : m ≤ bs.length) (hb : ∀ j, bs.getD j 0 < 256) : leFrom bs (i + 1) m ||| bs.getD i 0 * 2 ^ (8 * i) = leFrom bs i m := by
  have hd : (bs.take m).drop i = bs.getD i 0 :: (bs.take m).drop (i + 1) := by
    rw [List.drop_eq_getElem_cons (by simp; omega), List.getElem_take, List.getD_eq_getElem?_getD, List.getElem?_eq_getElem (by omega)]
    rfl
  have hx := hb i
  have h1 : leFrom bs (i + 1) m % 2 ^ (8 * i + 8) = 0 := by
    unfold leFrom
    rw [show 8 * (i + 1) = 8 * i + 8 by omega]
    exact Nat.mul_mod_right _ _
  have h2 : bs.getD i 0 * 2 ^ (8 * i) < 2 ^ (8 * i + 8) := by
    rw [Nat.pow_add, Nat.mul_comm (2 ^ (8 * i))]
    exact Nat.mul_lt_mul_of_pos_right (by omega) (Nat.two_pow_pos _)
  rw [nat_join _ _ _ h1 h2]
  unfold leFrom
  rw [hd]
  show _ = 2 ^ (8 * i) * (bs.getD i 0 + 256 * le ((bs.take m).drop (i + 1)))
  rw [show 8 * (i + 1) = 8 * i + 8 by omega, Nat.pow_add, Nat.mul_add, show (2 : Nat) ^ 8 = 256 by decide, Nat.mul_assoc, Nat.mul_comm (bs.getD i 0), Nat.add_comm]
theorem leFrom_lt (bs : List Nat) (i m : Nat) (hm : m ≤ 8) (hb : ∀ j, bs.getD j 0 < 256) : leFrom bs i m < 18446744073709551616 := by
  have h1 := le_lt (l := (bs.take m).drop i) (fun b hbm => mem_take_byte hb m b (List.mem_of_mem_drop hbm))
  have h2 : ((bs.take m).drop i).length ≤ 8 - i := by simp; omega
  unfold leFrom
  rcases Nat.lt_or_ge i 9 with hi | hi
  · have h3 : (2 : Nat) ^ (8 * ((bs.take m).drop i).length) ≤ 2 ^ (8 * (8 - i)) := Nat.pow_le_pow_right (by omega) (by omega)
    have h4 : 2 ^ (8 * i) * le ((bs.take m).drop i) < 2 ^ (8 * i) * 2 ^ (8 * (8 - i)) := Nat.mul_lt_mul_of_pos_left (by omega) (Nat.two_pow_pos _)
    rw [← Nat.pow_add, show 8 * i + 8 * (8 - i) = 64 by omega] at h4
    exact h4
  · have : (bs.take m).drop i = [] := List.drop_eq_nil_of_le (by simp; omega)
    rw [this]
    show _ * 0 < _
    omega
def LitS (w : World) (gu gb : Nat) (A : Option Addr) (len c : Nat) (u : Nat) (w' : World) : Prop :=
  Blk w' gu 30 #[.int .u64 (u : Nat)] ∧ Blk w' gb 22 #[.slice A len c] ∧ Keeps (fun k => k = gu) w w'
set_option maxRecDepth 100000 in
set_option maxHeartbeats 800000 in
theorem lput_any (w : World) (gu gb : Nat) (A : Option Addr) (len c : Nat) (D : Nat → Prop) (bs : List Nat) (i m : Nat) (hl : bs.length = len) (hsl : Sl w D A len (byteC bs)) (hb : ∀ j, bs.getD j 0 < 256) (hi : i < m) (hm : m ≤ len) (hm8 : m ≤ 8)
    (hu : Blk w gu 30 #[.int .u64 (leFrom bs (i + 1) m : Nat)]) (hbb : Blk w gb 22 #[.slice A len c]) :
    Calls Try.prog 21 #[.int .i64 (i : Nat), .pointer (some ⟨gu, 0, none⟩), .pointer (some ⟨gb, 0, none⟩)] w fun e w' => e = .returned (.tuple #[]) ∧ LitS w gu gb A len c (leFrom bs i m) w' := by
  obtain ⟨b, off, hA, -, hc⟩ := hsl (by omega)
  have ck : w.cell? ⟨b, off + i, none⟩ = some (.int .u8 (bs.getD i 0 : Nat)) := hc i (by omega)
  subst hA
  have hx := hb i
  have hst := leFrom_step bs i m hi (by omega) hb
  have hlt := leFrom_lt bs (i + 1) m hm8 hb
  obtain ⟨x, hxx⟩ : ∃ x, x = bs.getD i 0 := ⟨_, rfl⟩
  rw [← hxx] at ck hx hst
  obtain ⟨u, huu⟩ : ∃ u, u = leFrom bs (i + 1) m := ⟨_, rfl⟩
  rw [← huu] at hu hst hlt
  have c0 := hu.cell 0
  have c1 := hbb.cell 0
  have f0 := hu.frozen 0
  simp at c0 c1 f0
  have hne : gb ≠ gu := fun e => (hu.ne hbb (by decide)) e.symm
  have HH := Lib.hid (And.intro hu (And.intro hbb (And.intro hst (And.intro hlt (And.intro hx hne)))))
  clear hu hbb hst hlt hx hne hc hsl hxx huu hb
  have hil : (i : Int) < (len : Int) := by omega
  have hi0 : (0 : Int) ≤ (i : Int) := by omega
  have hin : ((i : Int)).toNat = i := by omega
  have hi8 : IntKind.i64.wrap (8 * (i : Int)) = 8 * (i : Int) := IntWalk.i64_in _ (by omega)
  have hi9 : (0 : Int) ≤ 8 * (i : Int) := by omega
  have hi10 : (8 * (i : Int)).toNat = 8 * i := by omega
  have hi11 : 8 * (i : Int) < 64 := by omega
  go_enter Try.func21, Try.ntmps21
  go_wp2_with fail
  go_still_tail 10, (by kernel_rfl)
  change wpList _ _ _ _ _ w.drew
  clear hin hi8 hi10
  go_wp2_with fail
  obtain ⟨hu, hbb, hst, hlt, hx, hne⟩ := HH.out
  have hp : (2 : Nat) ^ (8 * i) ≤ 2 ^ 56 := Nat.pow_le_pow_right (by omega) (by omega)
  have hxp : x * 2 ^ (8 * i) < 18446744073709551616 := by
    have : x * 2 ^ (8 * i) ≤ 255 * 2 ^ 56 := Nat.mul_le_mul (by omega) hp
    omega
  have e1 : bits .or .u64 (u : Int) (IntKind.u64.wrap (IntKind.u64.wrap (x : Int) * 2 ^ (8 * i))) = ((leFrom bs i m : Nat) : Int) := by
    rw [IntKind.wrap_u64 (x : Int), show (x : Int) % 18446744073709551616 = (x : Int) by omega, show (x : Int) * 2 ^ (8 * i) = ((x * 2 ^ (8 * i) : Nat) : Int) by rw [Int.natCast_mul, Int.natCast_pow]; rfl, IntKind.wrap_u64,
      show ((x * 2 ^ (8 * i) : Nat) : Int) % 18446744073709551616 = ((x * 2 ^ (8 * i) : Nat) : Int) by omega, u64_or_nat _ _ hlt hxp, hst]
  rw [e1]
  refine bodyPost_end (v := .tuple #[]) (by simp [results, Try.results21, go_sem]) rfl ?_
  exact ⟨rfl, by simpa using (hu.set 0 (.int .u64 (leFrom bs i m : Nat))).drew, (hbb.far (by exact hne) _).drew, ((Keeps.refl (fun k => k = gu) w).setCell (p := ⟨gu, 0, none⟩) (fun _ => rfl) _).drew⟩
end Go.Proofs.Ytdgedhamacpghaa
