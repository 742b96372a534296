/-
  The contract of frame.Little. (Printed by a small program.)
-/
import Derived.Test.YtdgedhamacpghaaFrmB
namespace Go.Proofs.Ytdgedhamacpghaa
open Go.RowKit
set_option linter.unusedVariables false
set_option linter.unusedSimpArgs false
theorem lput_at (w : World) (gu gb : Nat) (A : Option Addr) (len c : Nat) (D : Nat → Prop) (bs : List Nat) (i m : Nat) (z : Int) (hz : z = (i : Nat)) (hl : bs.length = len) (hsl : Sl w D A len (byteC bs)) (hb : ∀ j, bs.getD j 0 < 256) (hi : i < m) (hm : m ≤ len) (hm8 : m ≤ 8)
    (hu : Blk w gu 30 #[.int .u64 (leFrom bs (i + 1) m : Nat)]) (hbb : Blk w gb 22 #[.slice A len c]) :
    Calls Try.prog 21 #[.int .i64 z, .pointer (some ⟨gu, 0, none⟩), .pointer (some ⟨gb, 0, none⟩)] w fun e w' => e = .returned (.tuple #[]) ∧ LitS w gu gb A len c (leFrom bs i m) w' := by
  subst hz
  exact lput_any w gu gb A len c D bs i m hl hsl hb hi hm hm8 hu hbb
def LitPost (w : World) (u : Nat) (e : Ending) (w' : World) : Prop := e = .returned (.int .u64 (u : Nat)) ∧ Keeps (fun _ => False) w w'
theorem leFrom_end (bs : List Nat) (m : Nat) : leFrom bs m m = 0 := by
  unfold leFrom
  rw [List.drop_eq_nil_of_le (by simp; omega)]
  show _ * 0 = 0
  omega
set_option maxRecDepth 100000 in
set_option maxHeartbeats 1600000 in
theorem little_0 (w : World) (A : Option Addr) (c : Nat) (D : Nat → Prop) (bs : List Nat) (hl : bs.length = 0) (hsl : Sl w D A 0 (byteC bs)) (hb : ∀ j, bs.getD j 0 < 256) :
    Calls Try.prog 12 #[.slice A 0 c] w (LitPost w (leFrom bs 0 0)) := by
  have HS := Lib.hid (And.intro hl (And.intro hsl hb))
  clear hl hsl hb
  go_enter Try.func12, Try.ntmps12
  go_wp2_with fail
  go_ret
  have k0 : Keeps (fun _ => False) w ((w.alloc (.cells #[.slice A 0 c] 22)).alloc (.cells #[.int .u64 0] 30)) := ((Keeps.refl _ w).alloc _).alloc _
  exact ⟨rfl, k0⟩
set_option maxRecDepth 100000 in
set_option maxHeartbeats 1600000 in
theorem little_1 (w : World) (A : Option Addr) (c : Nat) (D : Nat → Prop) (bs : List Nat) (hl : bs.length = 1) (hsl : Sl w D A 1 (byteC bs)) (hb : ∀ j, bs.getD j 0 < 256) :
    Calls Try.prog 12 #[.slice A 1 c] w (LitPost w (leFrom bs 0 1)) := by
  have HS := Lib.hid (And.intro hl (And.intro hsl hb))
  clear hl hsl hb
  go_enter Try.func12, Try.ntmps12
  go_wp2_with fail
  obtain ⟨x, hx⟩ : ∃ x, x = w.heap.size := ⟨_, rfl⟩
  have k0 : Keeps (fun _ => False) w ((w.alloc (.cells #[.slice A 1 c] 22)).alloc (.cells #[.int .u64 0] 30)) := ((Keeps.refl _ w).alloc _).alloc _
  have bb0 : Blk ((w.alloc (.cells #[.slice A 1 c] 22)).alloc (.cells #[.int .u64 0] 30)) x 22 #[.slice A 1 c] := by rw [hx]; exact (Blk.fresh w _ _).alloc _
  have bu0 : Blk ((w.alloc (.cells #[.slice A 1 c] 22)).alloc (.cells #[.int .u64 0] 30)) (x + 1) 30 #[.int .u64 (leFrom bs 1 1 : Nat)] := by
    rw [hx, leFrom_end]
    have h := Blk.fresh (w.alloc (.cells #[.slice A 1 c] 22)) 30 #[.int .u64 0]
    simpa using h
  have s0 := HS.out.2.1.keep (w' := ((w.alloc (.cells #[.slice A 1 c] 22)).alloc (.cells #[.int .u64 0] 30))) (fun q _ hq => k0.block q hq (fun h => h))
  generalize ((w.alloc (.cells #[.slice A 1 c] 22)).alloc (.cells #[.int .u64 0] 30)) = w0 at k0 bb0 bu0 s0 ⊢
  rw [← hx]
  have hxw : w.heap.size ≤ x := by omega
  have H0 := Lib.hid (And.intro k0 (And.intro bb0 (And.intro bu0 s0)))
  clear k0 bb0 bu0 s0 hx
  refine (lput_at w0 (x + 1) x A 1 c _ bs 0 1 0 rfl HS.out.1 H0.out.2.2.2 HS.out.2.2 (by omega) (by omega) (by omega) H0.out.2.2.1 H0.out.2.1).mono ?_
  rintro e w1 ⟨rfl, hu, hbb, hk⟩
  have H1 := Lib.hid (And.intro (H0.out.1.trans hk (fun y hy e => by omega)) (And.intro hbb (And.intro hu (HS.out.2.1.keep (w' := w1) (fun q _ hq => (H0.out.1.trans hk (T := fun k => k = x + 1) (S := fun _ => False) (fun y hy e => by omega)).block q hq (fun h => h))))))
  clear hu hbb hk
  have c0 := H1.out.2.2.1.cell 0
  simp at c0
  go_wp2_with fail
  go_ret
  exact ⟨rfl, H1.out.1⟩
set_option maxRecDepth 100000 in
set_option maxHeartbeats 1600000 in
theorem little_2 (w : World) (A : Option Addr) (c : Nat) (D : Nat → Prop) (bs : List Nat) (hl : bs.length = 2) (hsl : Sl w D A 2 (byteC bs)) (hb : ∀ j, bs.getD j 0 < 256) :
    Calls Try.prog 12 #[.slice A 2 c] w (LitPost w (leFrom bs 0 2)) := by
  have HS := Lib.hid (And.intro hl (And.intro hsl hb))
  clear hl hsl hb
  go_enter Try.func12, Try.ntmps12
  go_wp2_with fail
  obtain ⟨x, hx⟩ : ∃ x, x = w.heap.size := ⟨_, rfl⟩
  have k0 : Keeps (fun _ => False) w ((w.alloc (.cells #[.slice A 2 c] 22)).alloc (.cells #[.int .u64 0] 30)) := ((Keeps.refl _ w).alloc _).alloc _
  have bb0 : Blk ((w.alloc (.cells #[.slice A 2 c] 22)).alloc (.cells #[.int .u64 0] 30)) x 22 #[.slice A 2 c] := by rw [hx]; exact (Blk.fresh w _ _).alloc _
  have bu0 : Blk ((w.alloc (.cells #[.slice A 2 c] 22)).alloc (.cells #[.int .u64 0] 30)) (x + 1) 30 #[.int .u64 (leFrom bs 2 2 : Nat)] := by
    rw [hx, leFrom_end]
    have h := Blk.fresh (w.alloc (.cells #[.slice A 2 c] 22)) 30 #[.int .u64 0]
    simpa using h
  have s0 := HS.out.2.1.keep (w' := ((w.alloc (.cells #[.slice A 2 c] 22)).alloc (.cells #[.int .u64 0] 30))) (fun q _ hq => k0.block q hq (fun h => h))
  generalize ((w.alloc (.cells #[.slice A 2 c] 22)).alloc (.cells #[.int .u64 0] 30)) = w0 at k0 bb0 bu0 s0 ⊢
  rw [← hx]
  have hxw : w.heap.size ≤ x := by omega
  have H0 := Lib.hid (And.intro k0 (And.intro bb0 (And.intro bu0 s0)))
  clear k0 bb0 bu0 s0 hx
  refine (lput_at w0 (x + 1) x A 2 c _ bs 1 2 1 rfl HS.out.1 H0.out.2.2.2 HS.out.2.2 (by omega) (by omega) (by omega) H0.out.2.2.1 H0.out.2.1).mono ?_
  rintro e w1 ⟨rfl, hu, hbb, hk⟩
  have H1 := Lib.hid (And.intro (H0.out.1.trans hk (fun y hy e => by omega)) (And.intro hbb (And.intro hu (HS.out.2.1.keep (w' := w1) (fun q _ hq => (H0.out.1.trans hk (T := fun k => k = x + 1) (S := fun _ => False) (fun y hy e => by omega)).block q hq (fun h => h))))))
  clear hu hbb hk
  go_wp2_with fail
  refine (lput_at w1 (x + 1) x A 2 c _ bs 0 2 0 rfl HS.out.1 H1.out.2.2.2 HS.out.2.2 (by omega) (by omega) (by omega) H1.out.2.2.1 H1.out.2.1).mono ?_
  rintro e w2 ⟨rfl, hu, hbb, hk⟩
  have H2 := Lib.hid (And.intro (H1.out.1.trans hk (fun y hy e => by omega)) (And.intro hbb (And.intro hu (HS.out.2.1.keep (w' := w2) (fun q _ hq => (H1.out.1.trans hk (T := fun k => k = x + 1) (S := fun _ => False) (fun y hy e => by omega)).block q hq (fun h => h))))))
  clear hu hbb hk
  have c0 := H2.out.2.2.1.cell 0
  simp at c0
  go_wp2_with fail
  go_ret
  exact ⟨rfl, H2.out.1⟩
set_option maxRecDepth 100000 in
set_option maxHeartbeats 1600000 in
theorem little_3 (w : World) (A : Option Addr) (c : Nat) (D : Nat → Prop) (bs : List Nat) (hl : bs.length = 3) (hsl : Sl w D A 3 (byteC bs)) (hb : ∀ j, bs.getD j 0 < 256) :
    Calls Try.prog 12 #[.slice A 3 c] w (LitPost w (leFrom bs 0 3)) := by
  have HS := Lib.hid (And.intro hl (And.intro hsl hb))
  clear hl hsl hb
  go_enter Try.func12, Try.ntmps12
  go_wp2_with fail
  obtain ⟨x, hx⟩ : ∃ x, x = w.heap.size := ⟨_, rfl⟩
  have k0 : Keeps (fun _ => False) w ((w.alloc (.cells #[.slice A 3 c] 22)).alloc (.cells #[.int .u64 0] 30)) := ((Keeps.refl _ w).alloc _).alloc _
  have bb0 : Blk ((w.alloc (.cells #[.slice A 3 c] 22)).alloc (.cells #[.int .u64 0] 30)) x 22 #[.slice A 3 c] := by rw [hx]; exact (Blk.fresh w _ _).alloc _
  have bu0 : Blk ((w.alloc (.cells #[.slice A 3 c] 22)).alloc (.cells #[.int .u64 0] 30)) (x + 1) 30 #[.int .u64 (leFrom bs 3 3 : Nat)] := by
    rw [hx, leFrom_end]
    have h := Blk.fresh (w.alloc (.cells #[.slice A 3 c] 22)) 30 #[.int .u64 0]
    simpa using h
  have s0 := HS.out.2.1.keep (w' := ((w.alloc (.cells #[.slice A 3 c] 22)).alloc (.cells #[.int .u64 0] 30))) (fun q _ hq => k0.block q hq (fun h => h))
  generalize ((w.alloc (.cells #[.slice A 3 c] 22)).alloc (.cells #[.int .u64 0] 30)) = w0 at k0 bb0 bu0 s0 ⊢
  rw [← hx]
  have hxw : w.heap.size ≤ x := by omega
  have H0 := Lib.hid (And.intro k0 (And.intro bb0 (And.intro bu0 s0)))
  clear k0 bb0 bu0 s0 hx
  refine (lput_at w0 (x + 1) x A 3 c _ bs 2 3 2 rfl HS.out.1 H0.out.2.2.2 HS.out.2.2 (by omega) (by omega) (by omega) H0.out.2.2.1 H0.out.2.1).mono ?_
  rintro e w1 ⟨rfl, hu, hbb, hk⟩
  have H1 := Lib.hid (And.intro (H0.out.1.trans hk (fun y hy e => by omega)) (And.intro hbb (And.intro hu (HS.out.2.1.keep (w' := w1) (fun q _ hq => (H0.out.1.trans hk (T := fun k => k = x + 1) (S := fun _ => False) (fun y hy e => by omega)).block q hq (fun h => h))))))
  clear hu hbb hk
  go_wp2_with fail
  refine (lput_at w1 (x + 1) x A 3 c _ bs 1 3 1 rfl HS.out.1 H1.out.2.2.2 HS.out.2.2 (by omega) (by omega) (by omega) H1.out.2.2.1 H1.out.2.1).mono ?_
  rintro e w2 ⟨rfl, hu, hbb, hk⟩
  have H2 := Lib.hid (And.intro (H1.out.1.trans hk (fun y hy e => by omega)) (And.intro hbb (And.intro hu (HS.out.2.1.keep (w' := w2) (fun q _ hq => (H1.out.1.trans hk (T := fun k => k = x + 1) (S := fun _ => False) (fun y hy e => by omega)).block q hq (fun h => h))))))
  clear hu hbb hk
  go_wp2_with fail
  refine (lput_at w2 (x + 1) x A 3 c _ bs 0 3 0 rfl HS.out.1 H2.out.2.2.2 HS.out.2.2 (by omega) (by omega) (by omega) H2.out.2.2.1 H2.out.2.1).mono ?_
  rintro e w3 ⟨rfl, hu, hbb, hk⟩
  have H3 := Lib.hid (And.intro (H2.out.1.trans hk (fun y hy e => by omega)) (And.intro hbb (And.intro hu (HS.out.2.1.keep (w' := w3) (fun q _ hq => (H2.out.1.trans hk (T := fun k => k = x + 1) (S := fun _ => False) (fun y hy e => by omega)).block q hq (fun h => h))))))
  clear hu hbb hk
  have c0 := H3.out.2.2.1.cell 0
  simp at c0
  go_wp2_with fail
  go_ret
  exact ⟨rfl, H3.out.1⟩
set_option maxRecDepth 100000 in
set_option maxHeartbeats 1600000 in
theorem little_4 (w : World) (A : Option Addr) (c : Nat) (D : Nat → Prop) (bs : List Nat) (hl : bs.length = 4) (hsl : Sl w D A 4 (byteC bs)) (hb : ∀ j, bs.getD j 0 < 256) :
    Calls Try.prog 12 #[.slice A 4 c] w (LitPost w (leFrom bs 0 4)) := by
  have HS := Lib.hid (And.intro hl (And.intro hsl hb))
  clear hl hsl hb
  go_enter Try.func12, Try.ntmps12
  go_wp2_with fail
  obtain ⟨x, hx⟩ : ∃ x, x = w.heap.size := ⟨_, rfl⟩
  have k0 : Keeps (fun _ => False) w ((w.alloc (.cells #[.slice A 4 c] 22)).alloc (.cells #[.int .u64 0] 30)) := ((Keeps.refl _ w).alloc _).alloc _
  have bb0 : Blk ((w.alloc (.cells #[.slice A 4 c] 22)).alloc (.cells #[.int .u64 0] 30)) x 22 #[.slice A 4 c] := by rw [hx]; exact (Blk.fresh w _ _).alloc _
  have bu0 : Blk ((w.alloc (.cells #[.slice A 4 c] 22)).alloc (.cells #[.int .u64 0] 30)) (x + 1) 30 #[.int .u64 (leFrom bs 4 4 : Nat)] := by
    rw [hx, leFrom_end]
    have h := Blk.fresh (w.alloc (.cells #[.slice A 4 c] 22)) 30 #[.int .u64 0]
    simpa using h
  have s0 := HS.out.2.1.keep (w' := ((w.alloc (.cells #[.slice A 4 c] 22)).alloc (.cells #[.int .u64 0] 30))) (fun q _ hq => k0.block q hq (fun h => h))
  generalize ((w.alloc (.cells #[.slice A 4 c] 22)).alloc (.cells #[.int .u64 0] 30)) = w0 at k0 bb0 bu0 s0 ⊢
  rw [← hx]
  have hxw : w.heap.size ≤ x := by omega
  have H0 := Lib.hid (And.intro k0 (And.intro bb0 (And.intro bu0 s0)))
  clear k0 bb0 bu0 s0 hx
  refine (lput_at w0 (x + 1) x A 4 c _ bs 3 4 3 rfl HS.out.1 H0.out.2.2.2 HS.out.2.2 (by omega) (by omega) (by omega) H0.out.2.2.1 H0.out.2.1).mono ?_
  rintro e w1 ⟨rfl, hu, hbb, hk⟩
  have H1 := Lib.hid (And.intro (H0.out.1.trans hk (fun y hy e => by omega)) (And.intro hbb (And.intro hu (HS.out.2.1.keep (w' := w1) (fun q _ hq => (H0.out.1.trans hk (T := fun k => k = x + 1) (S := fun _ => False) (fun y hy e => by omega)).block q hq (fun h => h))))))
  clear hu hbb hk
  go_wp2_with fail
  refine (lput_at w1 (x + 1) x A 4 c _ bs 2 4 2 rfl HS.out.1 H1.out.2.2.2 HS.out.2.2 (by omega) (by omega) (by omega) H1.out.2.2.1 H1.out.2.1).mono ?_
  rintro e w2 ⟨rfl, hu, hbb, hk⟩
  have H2 := Lib.hid (And.intro (H1.out.1.trans hk (fun y hy e => by omega)) (And.intro hbb (And.intro hu (HS.out.2.1.keep (w' := w2) (fun q _ hq => (H1.out.1.trans hk (T := fun k => k = x + 1) (S := fun _ => False) (fun y hy e => by omega)).block q hq (fun h => h))))))
  clear hu hbb hk
  go_wp2_with fail
  refine (lput_at w2 (x + 1) x A 4 c _ bs 1 4 1 rfl HS.out.1 H2.out.2.2.2 HS.out.2.2 (by omega) (by omega) (by omega) H2.out.2.2.1 H2.out.2.1).mono ?_
  rintro e w3 ⟨rfl, hu, hbb, hk⟩
  have H3 := Lib.hid (And.intro (H2.out.1.trans hk (fun y hy e => by omega)) (And.intro hbb (And.intro hu (HS.out.2.1.keep (w' := w3) (fun q _ hq => (H2.out.1.trans hk (T := fun k => k = x + 1) (S := fun _ => False) (fun y hy e => by omega)).block q hq (fun h => h))))))
  clear hu hbb hk
  go_wp2_with fail
  refine (lput_at w3 (x + 1) x A 4 c _ bs 0 4 0 rfl HS.out.1 H3.out.2.2.2 HS.out.2.2 (by omega) (by omega) (by omega) H3.out.2.2.1 H3.out.2.1).mono ?_
  rintro e w4 ⟨rfl, hu, hbb, hk⟩
  have H4 := Lib.hid (And.intro (H3.out.1.trans hk (fun y hy e => by omega)) (And.intro hbb (And.intro hu (HS.out.2.1.keep (w' := w4) (fun q _ hq => (H3.out.1.trans hk (T := fun k => k = x + 1) (S := fun _ => False) (fun y hy e => by omega)).block q hq (fun h => h))))))
  clear hu hbb hk
  have c0 := H4.out.2.2.1.cell 0
  simp at c0
  go_wp2_with fail
  go_ret
  exact ⟨rfl, H4.out.1⟩
set_option maxRecDepth 100000 in
set_option maxHeartbeats 1600000 in
theorem little_5 (w : World) (A : Option Addr) (c : Nat) (D : Nat → Prop) (bs : List Nat) (hl : bs.length = 5) (hsl : Sl w D A 5 (byteC bs)) (hb : ∀ j, bs.getD j 0 < 256) :
    Calls Try.prog 12 #[.slice A 5 c] w (LitPost w (leFrom bs 0 5)) := by
  have HS := Lib.hid (And.intro hl (And.intro hsl hb))
  clear hl hsl hb
  go_enter Try.func12, Try.ntmps12
  go_wp2_with fail
  obtain ⟨x, hx⟩ : ∃ x, x = w.heap.size := ⟨_, rfl⟩
  have k0 : Keeps (fun _ => False) w ((w.alloc (.cells #[.slice A 5 c] 22)).alloc (.cells #[.int .u64 0] 30)) := ((Keeps.refl _ w).alloc _).alloc _
  have bb0 : Blk ((w.alloc (.cells #[.slice A 5 c] 22)).alloc (.cells #[.int .u64 0] 30)) x 22 #[.slice A 5 c] := by rw [hx]; exact (Blk.fresh w _ _).alloc _
  have bu0 : Blk ((w.alloc (.cells #[.slice A 5 c] 22)).alloc (.cells #[.int .u64 0] 30)) (x + 1) 30 #[.int .u64 (leFrom bs 5 5 : Nat)] := by
    rw [hx, leFrom_end]
    have h := Blk.fresh (w.alloc (.cells #[.slice A 5 c] 22)) 30 #[.int .u64 0]
    simpa using h
  have s0 := HS.out.2.1.keep (w' := ((w.alloc (.cells #[.slice A 5 c] 22)).alloc (.cells #[.int .u64 0] 30))) (fun q _ hq => k0.block q hq (fun h => h))
  generalize ((w.alloc (.cells #[.slice A 5 c] 22)).alloc (.cells #[.int .u64 0] 30)) = w0 at k0 bb0 bu0 s0 ⊢
  rw [← hx]
  have hxw : w.heap.size ≤ x := by omega
  have H0 := Lib.hid (And.intro k0 (And.intro bb0 (And.intro bu0 s0)))
  clear k0 bb0 bu0 s0 hx
  refine (lput_at w0 (x + 1) x A 5 c _ bs 4 5 4 rfl HS.out.1 H0.out.2.2.2 HS.out.2.2 (by omega) (by omega) (by omega) H0.out.2.2.1 H0.out.2.1).mono ?_
  rintro e w1 ⟨rfl, hu, hbb, hk⟩
  have H1 := Lib.hid (And.intro (H0.out.1.trans hk (fun y hy e => by omega)) (And.intro hbb (And.intro hu (HS.out.2.1.keep (w' := w1) (fun q _ hq => (H0.out.1.trans hk (T := fun k => k = x + 1) (S := fun _ => False) (fun y hy e => by omega)).block q hq (fun h => h))))))
  clear hu hbb hk
  go_wp2_with fail
  refine (lput_at w1 (x + 1) x A 5 c _ bs 3 5 3 rfl HS.out.1 H1.out.2.2.2 HS.out.2.2 (by omega) (by omega) (by omega) H1.out.2.2.1 H1.out.2.1).mono ?_
  rintro e w2 ⟨rfl, hu, hbb, hk⟩
  have H2 := Lib.hid (And.intro (H1.out.1.trans hk (fun y hy e => by omega)) (And.intro hbb (And.intro hu (HS.out.2.1.keep (w' := w2) (fun q _ hq => (H1.out.1.trans hk (T := fun k => k = x + 1) (S := fun _ => False) (fun y hy e => by omega)).block q hq (fun h => h))))))
  clear hu hbb hk
  go_wp2_with fail
  refine (lput_at w2 (x + 1) x A 5 c _ bs 2 5 2 rfl HS.out.1 H2.out.2.2.2 HS.out.2.2 (by omega) (by omega) (by omega) H2.out.2.2.1 H2.out.2.1).mono ?_
  rintro e w3 ⟨rfl, hu, hbb, hk⟩
  have H3 := Lib.hid (And.intro (H2.out.1.trans hk (fun y hy e => by omega)) (And.intro hbb (And.intro hu (HS.out.2.1.keep (w' := w3) (fun q _ hq => (H2.out.1.trans hk (T := fun k => k = x + 1) (S := fun _ => False) (fun y hy e => by omega)).block q hq (fun h => h))))))
  clear hu hbb hk
  go_wp2_with fail
  refine (lput_at w3 (x + 1) x A 5 c _ bs 1 5 1 rfl HS.out.1 H3.out.2.2.2 HS.out.2.2 (by omega) (by omega) (by omega) H3.out.2.2.1 H3.out.2.1).mono ?_
  rintro e w4 ⟨rfl, hu, hbb, hk⟩
  have H4 := Lib.hid (And.intro (H3.out.1.trans hk (fun y hy e => by omega)) (And.intro hbb (And.intro hu (HS.out.2.1.keep (w' := w4) (fun q _ hq => (H3.out.1.trans hk (T := fun k => k = x + 1) (S := fun _ => False) (fun y hy e => by omega)).block q hq (fun h => h))))))
  clear hu hbb hk
  go_wp2_with fail
  refine (lput_at w4 (x + 1) x A 5 c _ bs 0 5 0 rfl HS.out.1 H4.out.2.2.2 HS.out.2.2 (by omega) (by omega) (by omega) H4.out.2.2.1 H4.out.2.1).mono ?_
  rintro e w5 ⟨rfl, hu, hbb, hk⟩
  have H5 := Lib.hid (And.intro (H4.out.1.trans hk (fun y hy e => by omega)) (And.intro hbb (And.intro hu (HS.out.2.1.keep (w' := w5) (fun q _ hq => (H4.out.1.trans hk (T := fun k => k = x + 1) (S := fun _ => False) (fun y hy e => by omega)).block q hq (fun h => h))))))
  clear hu hbb hk
  have c0 := H5.out.2.2.1.cell 0
  simp at c0
  go_wp2_with fail
  go_ret
  exact ⟨rfl, H5.out.1⟩
set_option maxRecDepth 100000 in
set_option maxHeartbeats 1600000 in
theorem little_6 (w : World) (A : Option Addr) (c : Nat) (D : Nat → Prop) (bs : List Nat) (hl : bs.length = 6) (hsl : Sl w D A 6 (byteC bs)) (hb : ∀ j, bs.getD j 0 < 256) :
    Calls Try.prog 12 #[.slice A 6 c] w (LitPost w (leFrom bs 0 6)) := by
  have HS := Lib.hid (And.intro hl (And.intro hsl hb))
  clear hl hsl hb
  go_enter Try.func12, Try.ntmps12
  go_wp2_with fail
  obtain ⟨x, hx⟩ : ∃ x, x = w.heap.size := ⟨_, rfl⟩
  have k0 : Keeps (fun _ => False) w ((w.alloc (.cells #[.slice A 6 c] 22)).alloc (.cells #[.int .u64 0] 30)) := ((Keeps.refl _ w).alloc _).alloc _
  have bb0 : Blk ((w.alloc (.cells #[.slice A 6 c] 22)).alloc (.cells #[.int .u64 0] 30)) x 22 #[.slice A 6 c] := by rw [hx]; exact (Blk.fresh w _ _).alloc _
  have bu0 : Blk ((w.alloc (.cells #[.slice A 6 c] 22)).alloc (.cells #[.int .u64 0] 30)) (x + 1) 30 #[.int .u64 (leFrom bs 6 6 : Nat)] := by
    rw [hx, leFrom_end]
    have h := Blk.fresh (w.alloc (.cells #[.slice A 6 c] 22)) 30 #[.int .u64 0]
    simpa using h
  have s0 := HS.out.2.1.keep (w' := ((w.alloc (.cells #[.slice A 6 c] 22)).alloc (.cells #[.int .u64 0] 30))) (fun q _ hq => k0.block q hq (fun h => h))
  generalize ((w.alloc (.cells #[.slice A 6 c] 22)).alloc (.cells #[.int .u64 0] 30)) = w0 at k0 bb0 bu0 s0 ⊢
  rw [← hx]
  have hxw : w.heap.size ≤ x := by omega
  have H0 := Lib.hid (And.intro k0 (And.intro bb0 (And.intro bu0 s0)))
  clear k0 bb0 bu0 s0 hx
  refine (lput_at w0 (x + 1) x A 6 c _ bs 5 6 5 rfl HS.out.1 H0.out.2.2.2 HS.out.2.2 (by omega) (by omega) (by omega) H0.out.2.2.1 H0.out.2.1).mono ?_
  rintro e w1 ⟨rfl, hu, hbb, hk⟩
  have H1 := Lib.hid (And.intro (H0.out.1.trans hk (fun y hy e => by omega)) (And.intro hbb (And.intro hu (HS.out.2.1.keep (w' := w1) (fun q _ hq => (H0.out.1.trans hk (T := fun k => k = x + 1) (S := fun _ => False) (fun y hy e => by omega)).block q hq (fun h => h))))))
  clear hu hbb hk
  go_wp2_with fail
  refine (lput_at w1 (x + 1) x A 6 c _ bs 4 6 4 rfl HS.out.1 H1.out.2.2.2 HS.out.2.2 (by omega) (by omega) (by omega) H1.out.2.2.1 H1.out.2.1).mono ?_
  rintro e w2 ⟨rfl, hu, hbb, hk⟩
  have H2 := Lib.hid (And.intro (H1.out.1.trans hk (fun y hy e => by omega)) (And.intro hbb (And.intro hu (HS.out.2.1.keep (w' := w2) (fun q _ hq => (H1.out.1.trans hk (T := fun k => k = x + 1) (S := fun _ => False) (fun y hy e => by omega)).block q hq (fun h => h))))))
  clear hu hbb hk
  go_wp2_with fail
  refine (lput_at w2 (x + 1) x A 6 c _ bs 3 6 3 rfl HS.out.1 H2.out.2.2.2 HS.out.2.2 (by omega) (by omega) (by omega) H2.out.2.2.1 H2.out.2.1).mono ?_
  rintro e w3 ⟨rfl, hu, hbb, hk⟩
  have H3 := Lib.hid (And.intro (H2.out.1.trans hk (fun y hy e => by omega)) (And.intro hbb (And.intro hu (HS.out.2.1.keep (w' := w3) (fun q _ hq => (H2.out.1.trans hk (T := fun k => k = x + 1) (S := fun _ => False) (fun y hy e => by omega)).block q hq (fun h => h))))))
  clear hu hbb hk
  go_wp2_with fail
  refine (lput_at w3 (x + 1) x A 6 c _ bs 2 6 2 rfl HS.out.1 H3.out.2.2.2 HS.out.2.2 (by omega) (by omega) (by omega) H3.out.2.2.1 H3.out.2.1).mono ?_
  rintro e w4 ⟨rfl, hu, hbb, hk⟩
  have H4 := Lib.hid (And.intro (H3.out.1.trans hk (fun y hy e => by omega)) (And.intro hbb (And.intro hu (HS.out.2.1.keep (w' := w4) (fun q _ hq => (H3.out.1.trans hk (T := fun k => k = x + 1) (S := fun _ => False) (fun y hy e => by omega)).block q hq (fun h => h))))))
  clear hu hbb hk
  go_wp2_with fail
  refine (lput_at w4 (x + 1) x A 6 c _ bs 1 6 1 rfl HS.out.1 H4.out.2.2.2 HS.out.2.2 (by omega) (by omega) (by omega) H4.out.2.2.1 H4.out.2.1).mono ?_
  rintro e w5 ⟨rfl, hu, hbb, hk⟩
  have H5 := Lib.hid (And.intro (H4.out.1.trans hk (fun y hy e => by omega)) (And.intro hbb (And.intro hu (HS.out.2.1.keep (w' := w5) (fun q _ hq => (H4.out.1.trans hk (T := fun k => k = x + 1) (S := fun _ => False) (fun y hy e => by omega)).block q hq (fun h => h))))))
  clear hu hbb hk
  go_wp2_with fail
  refine (lput_at w5 (x + 1) x A 6 c _ bs 0 6 0 rfl HS.out.1 H5.out.2.2.2 HS.out.2.2 (by omega) (by omega) (by omega) H5.out.2.2.1 H5.out.2.1).mono ?_
  rintro e w6 ⟨rfl, hu, hbb, hk⟩
  have H6 := Lib.hid (And.intro (H5.out.1.trans hk (fun y hy e => by omega)) (And.intro hbb (And.intro hu (HS.out.2.1.keep (w' := w6) (fun q _ hq => (H5.out.1.trans hk (T := fun k => k = x + 1) (S := fun _ => False) (fun y hy e => by omega)).block q hq (fun h => h))))))
  clear hu hbb hk
  have c0 := H6.out.2.2.1.cell 0
  simp at c0
  go_wp2_with fail
  go_ret
  exact ⟨rfl, H6.out.1⟩
set_option maxRecDepth 100000 in
set_option maxHeartbeats 1600000 in
theorem little_7 (w : World) (A : Option Addr) (c : Nat) (D : Nat → Prop) (bs : List Nat) (hl : bs.length = 7) (hsl : Sl w D A 7 (byteC bs)) (hb : ∀ j, bs.getD j 0 < 256) :
    Calls Try.prog 12 #[.slice A 7 c] w (LitPost w (leFrom bs 0 7)) := by
  have HS := Lib.hid (And.intro hl (And.intro hsl hb))
  clear hl hsl hb
  go_enter Try.func12, Try.ntmps12
  go_wp2_with fail
  obtain ⟨x, hx⟩ : ∃ x, x = w.heap.size := ⟨_, rfl⟩
  have k0 : Keeps (fun _ => False) w ((w.alloc (.cells #[.slice A 7 c] 22)).alloc (.cells #[.int .u64 0] 30)) := ((Keeps.refl _ w).alloc _).alloc _
  have bb0 : Blk ((w.alloc (.cells #[.slice A 7 c] 22)).alloc (.cells #[.int .u64 0] 30)) x 22 #[.slice A 7 c] := by rw [hx]; exact (Blk.fresh w _ _).alloc _
  have bu0 : Blk ((w.alloc (.cells #[.slice A 7 c] 22)).alloc (.cells #[.int .u64 0] 30)) (x + 1) 30 #[.int .u64 (leFrom bs 7 7 : Nat)] := by
    rw [hx, leFrom_end]
    have h := Blk.fresh (w.alloc (.cells #[.slice A 7 c] 22)) 30 #[.int .u64 0]
    simpa using h
  have s0 := HS.out.2.1.keep (w' := ((w.alloc (.cells #[.slice A 7 c] 22)).alloc (.cells #[.int .u64 0] 30))) (fun q _ hq => k0.block q hq (fun h => h))
  generalize ((w.alloc (.cells #[.slice A 7 c] 22)).alloc (.cells #[.int .u64 0] 30)) = w0 at k0 bb0 bu0 s0 ⊢
  rw [← hx]
  have hxw : w.heap.size ≤ x := by omega
  have H0 := Lib.hid (And.intro k0 (And.intro bb0 (And.intro bu0 s0)))
  clear k0 bb0 bu0 s0 hx
  refine (lput_at w0 (x + 1) x A 7 c _ bs 6 7 6 rfl HS.out.1 H0.out.2.2.2 HS.out.2.2 (by omega) (by omega) (by omega) H0.out.2.2.1 H0.out.2.1).mono ?_
  rintro e w1 ⟨rfl, hu, hbb, hk⟩
  have H1 := Lib.hid (And.intro (H0.out.1.trans hk (fun y hy e => by omega)) (And.intro hbb (And.intro hu (HS.out.2.1.keep (w' := w1) (fun q _ hq => (H0.out.1.trans hk (T := fun k => k = x + 1) (S := fun _ => False) (fun y hy e => by omega)).block q hq (fun h => h))))))
  clear hu hbb hk
  go_wp2_with fail
  refine (lput_at w1 (x + 1) x A 7 c _ bs 5 7 5 rfl HS.out.1 H1.out.2.2.2 HS.out.2.2 (by omega) (by omega) (by omega) H1.out.2.2.1 H1.out.2.1).mono ?_
  rintro e w2 ⟨rfl, hu, hbb, hk⟩
  have H2 := Lib.hid (And.intro (H1.out.1.trans hk (fun y hy e => by omega)) (And.intro hbb (And.intro hu (HS.out.2.1.keep (w' := w2) (fun q _ hq => (H1.out.1.trans hk (T := fun k => k = x + 1) (S := fun _ => False) (fun y hy e => by omega)).block q hq (fun h => h))))))
  clear hu hbb hk
  go_wp2_with fail
  refine (lput_at w2 (x + 1) x A 7 c _ bs 4 7 4 rfl HS.out.1 H2.out.2.2.2 HS.out.2.2 (by omega) (by omega) (by omega) H2.out.2.2.1 H2.out.2.1).mono ?_
  rintro e w3 ⟨rfl, hu, hbb, hk⟩
  have H3 := Lib.hid (And.intro (H2.out.1.trans hk (fun y hy e => by omega)) (And.intro hbb (And.intro hu (HS.out.2.1.keep (w' := w3) (fun q _ hq => (H2.out.1.trans hk (T := fun k => k = x + 1) (S := fun _ => False) (fun y hy e => by omega)).block q hq (fun h => h))))))
  clear hu hbb hk
  go_wp2_with fail
  refine (lput_at w3 (x + 1) x A 7 c _ bs 3 7 3 rfl HS.out.1 H3.out.2.2.2 HS.out.2.2 (by omega) (by omega) (by omega) H3.out.2.2.1 H3.out.2.1).mono ?_
  rintro e w4 ⟨rfl, hu, hbb, hk⟩
  have H4 := Lib.hid (And.intro (H3.out.1.trans hk (fun y hy e => by omega)) (And.intro hbb (And.intro hu (HS.out.2.1.keep (w' := w4) (fun q _ hq => (H3.out.1.trans hk (T := fun k => k = x + 1) (S := fun _ => False) (fun y hy e => by omega)).block q hq (fun h => h))))))
  clear hu hbb hk
  go_wp2_with fail
  refine (lput_at w4 (x + 1) x A 7 c _ bs 2 7 2 rfl HS.out.1 H4.out.2.2.2 HS.out.2.2 (by omega) (by omega) (by omega) H4.out.2.2.1 H4.out.2.1).mono ?_
  rintro e w5 ⟨rfl, hu, hbb, hk⟩
  have H5 := Lib.hid (And.intro (H4.out.1.trans hk (fun y hy e => by omega)) (And.intro hbb (And.intro hu (HS.out.2.1.keep (w' := w5) (fun q _ hq => (H4.out.1.trans hk (T := fun k => k = x + 1) (S := fun _ => False) (fun y hy e => by omega)).block q hq (fun h => h))))))
  clear hu hbb hk
  go_wp2_with fail
  refine (lput_at w5 (x + 1) x A 7 c _ bs 1 7 1 rfl HS.out.1 H5.out.2.2.2 HS.out.2.2 (by omega) (by omega) (by omega) H5.out.2.2.1 H5.out.2.1).mono ?_
  rintro e w6 ⟨rfl, hu, hbb, hk⟩
  have H6 := Lib.hid (And.intro (H5.out.1.trans hk (fun y hy e => by omega)) (And.intro hbb (And.intro hu (HS.out.2.1.keep (w' := w6) (fun q _ hq => (H5.out.1.trans hk (T := fun k => k = x + 1) (S := fun _ => False) (fun y hy e => by omega)).block q hq (fun h => h))))))
  clear hu hbb hk
  go_wp2_with fail
  refine (lput_at w6 (x + 1) x A 7 c _ bs 0 7 0 rfl HS.out.1 H6.out.2.2.2 HS.out.2.2 (by omega) (by omega) (by omega) H6.out.2.2.1 H6.out.2.1).mono ?_
  rintro e w7 ⟨rfl, hu, hbb, hk⟩
  have H7 := Lib.hid (And.intro (H6.out.1.trans hk (fun y hy e => by omega)) (And.intro hbb (And.intro hu (HS.out.2.1.keep (w' := w7) (fun q _ hq => (H6.out.1.trans hk (T := fun k => k = x + 1) (S := fun _ => False) (fun y hy e => by omega)).block q hq (fun h => h))))))
  clear hu hbb hk
  have c0 := H7.out.2.2.1.cell 0
  simp at c0
  go_wp2_with fail
  go_ret
  exact ⟨rfl, H7.out.1⟩
set_option maxRecDepth 100000 in
set_option maxHeartbeats 1600000 in
theorem little_8 (w : World) (A : Option Addr) (c : Nat) (D : Nat → Prop) (bs : List Nat) (len : Nat) (hl : bs.length = len) (hlen : 8 ≤ len) (hlen2 : len ≤ 1099511627776) (hsl : Sl w D A len (byteC bs)) (hb : ∀ j, bs.getD j 0 < 256) :
    Calls Try.prog 12 #[.slice A len c] w (LitPost w (leFrom bs 0 8)) := by
  have HS := Lib.hid (And.intro hl (And.intro hsl hb))
  clear hl hsl hb
  have hmi : min (len : Int) 8 = 8 := by omega
  have hd : decide ((8 : Int) < (len : Int)) = true ∨ len = 8 := by rcases (show 8 < len ∨ len = 8 by omega) with h | h; exact .inl (by simp; omega); exact .inr h
  clear hd
  go_enter Try.func12, Try.ntmps12
  go_wp2_with fail
  all_goals
    obtain ⟨x, hx⟩ : ∃ x, x = w.heap.size := ⟨_, rfl⟩
    have k0 : Keeps (fun _ => False) w ((w.alloc (.cells #[.slice A len c] 22)).alloc (.cells #[.int .u64 0] 30)) := ((Keeps.refl _ w).alloc _).alloc _
    have bb0 : Blk ((w.alloc (.cells #[.slice A len c] 22)).alloc (.cells #[.int .u64 0] 30)) x 22 #[.slice A len c] := by rw [hx]; exact (Blk.fresh w _ _).alloc _
    have bu0 : Blk ((w.alloc (.cells #[.slice A len c] 22)).alloc (.cells #[.int .u64 0] 30)) (x + 1) 30 #[.int .u64 (leFrom bs 8 8 : Nat)] := by
      rw [hx, leFrom_end]
      have h := Blk.fresh (w.alloc (.cells #[.slice A len c] 22)) 30 #[.int .u64 0]
      simpa using h
    have s0 := HS.out.2.1.keep (w' := ((w.alloc (.cells #[.slice A len c] 22)).alloc (.cells #[.int .u64 0] 30))) (fun q _ hq => k0.block q hq (fun h => h))
    generalize ((w.alloc (.cells #[.slice A len c] 22)).alloc (.cells #[.int .u64 0] 30)) = w0 at k0 bb0 bu0 s0 ⊢
    rw [← hx]
    have hxw : w.heap.size ≤ x := by omega
    have H0 := Lib.hid (And.intro k0 (And.intro bb0 (And.intro bu0 s0)))
    clear k0 bb0 bu0 s0 hx
    refine (lput_at w0 (x + 1) x A len c _ bs 7 8 7 rfl HS.out.1 H0.out.2.2.2 HS.out.2.2 (by omega) (by omega) (by omega) H0.out.2.2.1 H0.out.2.1).mono ?_
    rintro e w1 ⟨rfl, hu, hbb, hk⟩
    have H1 := Lib.hid (And.intro (H0.out.1.trans hk (fun y hy e => by omega)) (And.intro hbb (And.intro hu (HS.out.2.1.keep (w' := w1) (fun q _ hq => (H0.out.1.trans hk (T := fun k => k = x + 1) (S := fun _ => False) (fun y hy e => by omega)).block q hq (fun h => h))))))
    clear hu hbb hk
    go_wp2_with fail
    refine (lput_at w1 (x + 1) x A len c _ bs 6 8 6 rfl HS.out.1 H1.out.2.2.2 HS.out.2.2 (by omega) (by omega) (by omega) H1.out.2.2.1 H1.out.2.1).mono ?_
    rintro e w2 ⟨rfl, hu, hbb, hk⟩
    have H2 := Lib.hid (And.intro (H1.out.1.trans hk (fun y hy e => by omega)) (And.intro hbb (And.intro hu (HS.out.2.1.keep (w' := w2) (fun q _ hq => (H1.out.1.trans hk (T := fun k => k = x + 1) (S := fun _ => False) (fun y hy e => by omega)).block q hq (fun h => h))))))
    clear hu hbb hk
    go_wp2_with fail
    refine (lput_at w2 (x + 1) x A len c _ bs 5 8 5 rfl HS.out.1 H2.out.2.2.2 HS.out.2.2 (by omega) (by omega) (by omega) H2.out.2.2.1 H2.out.2.1).mono ?_
    rintro e w3 ⟨rfl, hu, hbb, hk⟩
    have H3 := Lib.hid (And.intro (H2.out.1.trans hk (fun y hy e => by omega)) (And.intro hbb (And.intro hu (HS.out.2.1.keep (w' := w3) (fun q _ hq => (H2.out.1.trans hk (T := fun k => k = x + 1) (S := fun _ => False) (fun y hy e => by omega)).block q hq (fun h => h))))))
    clear hu hbb hk
    go_wp2_with fail
    refine (lput_at w3 (x + 1) x A len c _ bs 4 8 4 rfl HS.out.1 H3.out.2.2.2 HS.out.2.2 (by omega) (by omega) (by omega) H3.out.2.2.1 H3.out.2.1).mono ?_
    rintro e w4 ⟨rfl, hu, hbb, hk⟩
    have H4 := Lib.hid (And.intro (H3.out.1.trans hk (fun y hy e => by omega)) (And.intro hbb (And.intro hu (HS.out.2.1.keep (w' := w4) (fun q _ hq => (H3.out.1.trans hk (T := fun k => k = x + 1) (S := fun _ => False) (fun y hy e => by omega)).block q hq (fun h => h))))))
    clear hu hbb hk
    go_wp2_with fail
    refine (lput_at w4 (x + 1) x A len c _ bs 3 8 3 rfl HS.out.1 H4.out.2.2.2 HS.out.2.2 (by omega) (by omega) (by omega) H4.out.2.2.1 H4.out.2.1).mono ?_
    rintro e w5 ⟨rfl, hu, hbb, hk⟩
    have H5 := Lib.hid (And.intro (H4.out.1.trans hk (fun y hy e => by omega)) (And.intro hbb (And.intro hu (HS.out.2.1.keep (w' := w5) (fun q _ hq => (H4.out.1.trans hk (T := fun k => k = x + 1) (S := fun _ => False) (fun y hy e => by omega)).block q hq (fun h => h))))))
    clear hu hbb hk
    go_wp2_with fail
    refine (lput_at w5 (x + 1) x A len c _ bs 2 8 2 rfl HS.out.1 H5.out.2.2.2 HS.out.2.2 (by omega) (by omega) (by omega) H5.out.2.2.1 H5.out.2.1).mono ?_
    rintro e w6 ⟨rfl, hu, hbb, hk⟩
    have H6 := Lib.hid (And.intro (H5.out.1.trans hk (fun y hy e => by omega)) (And.intro hbb (And.intro hu (HS.out.2.1.keep (w' := w6) (fun q _ hq => (H5.out.1.trans hk (T := fun k => k = x + 1) (S := fun _ => False) (fun y hy e => by omega)).block q hq (fun h => h))))))
    clear hu hbb hk
    go_wp2_with fail
    refine (lput_at w6 (x + 1) x A len c _ bs 1 8 1 rfl HS.out.1 H6.out.2.2.2 HS.out.2.2 (by omega) (by omega) (by omega) H6.out.2.2.1 H6.out.2.1).mono ?_
    rintro e w7 ⟨rfl, hu, hbb, hk⟩
    have H7 := Lib.hid (And.intro (H6.out.1.trans hk (fun y hy e => by omega)) (And.intro hbb (And.intro hu (HS.out.2.1.keep (w' := w7) (fun q _ hq => (H6.out.1.trans hk (T := fun k => k = x + 1) (S := fun _ => False) (fun y hy e => by omega)).block q hq (fun h => h))))))
    clear hu hbb hk
    go_wp2_with fail
    refine (lput_at w7 (x + 1) x A len c _ bs 0 8 0 rfl HS.out.1 H7.out.2.2.2 HS.out.2.2 (by omega) (by omega) (by omega) H7.out.2.2.1 H7.out.2.1).mono ?_
    rintro e w8 ⟨rfl, hu, hbb, hk⟩
    have H8 := Lib.hid (And.intro (H7.out.1.trans hk (fun y hy e => by omega)) (And.intro hbb (And.intro hu (HS.out.2.1.keep (w' := w8) (fun q _ hq => (H7.out.1.trans hk (T := fun k => k = x + 1) (S := fun _ => False) (fun y hy e => by omega)).block q hq (fun h => h))))))
    clear hu hbb hk
    have c0 := H8.out.2.2.1.cell 0
    simp at c0
    go_wp2_with fail
    go_ret
    exact ⟨rfl, H8.out.1⟩
theorem little_any (w : World) (A : Option Addr) (len c : Nat) (D : Nat → Prop) (bs : List Nat) (hl : bs.length = len) (hsl : Sl w D A len (byteC bs)) (hb : ∀ j, bs.getD j 0 < 256) (hlen : len ≤ 1099511627776) :
    Calls Try.prog 12 #[.slice A len c] w (LitPost w (le (bs.take 8))) := by
  have e : ∀ m, leFrom bs 0 m = le (bs.take m) := fun m => by unfold leFrom; rw [List.drop_zero]; omega
  rcases Nat.lt_or_ge len 8 with h | h
  · have e2 : bs.take 8 = bs.take len := by rw [List.take_of_length_le (by omega), List.take_of_length_le (by omega)]
    rw [e2, ← e]
    rcases (show len = 0 ∨ len = 1 ∨ len = 2 ∨ len = 3 ∨ len = 4 ∨ len = 5 ∨ len = 6 ∨ len = 7 by omega) with rfl | rfl | rfl | rfl | rfl | rfl | rfl | rfl
    · exact little_0 w A c D bs hl hsl hb
    · exact little_1 w A c D bs hl hsl hb
    · exact little_2 w A c D bs hl hsl hb
    · exact little_3 w A c D bs hl hsl hb
    · exact little_4 w A c D bs hl hsl hb
    · exact little_5 w A c D bs hl hsl hb
    · exact little_6 w A c D bs hl hsl hb
    · exact little_7 w A c D bs hl hsl hb
  · rw [← e]
    exact little_8 w A c D bs len hl h hlen hsl hb
end Go.Proofs.Ytdgedhamacpghaa
