/-
  Texts of this proof, joined: FrmL, FrmD, FrmE, FrmP, FrmS, DeltaSizesW, DeltaR.
-/
import Derived.Test.YtopbbicjbjmdnaaGreatDoorJ07
import Derived.Test.YtopbbicjbjmdnaaGreatDoorJ03
import Derived.Test.YtopbbicjbjmdnaaGreatDoorJ01
import Derived.Test.YtopbbicjbjmdnaaGreatDoorJ04
import Derived.Test.YtopbbicjbjmdnaaGreatDoorJ05
import Derived.Deep.LoopGhost
namespace Go.Proofs.YtopbbicjbjmdnaaGreatDoor.F
open Go.RowKit
set_option linter.unusedVariables false
set_option linter.unusedSimpArgs false
theorem lput_at (w : World) (gu gb : Nat) (A : Option Addr) (len c : Nat) (D : Nat → Prop) (bs : List Nat) (i m : Nat) (z : Int) (hz : z = (i : Nat)) (hl : bs.length = len) (hsl : Sl w D A len (byteC bs)) (hb : ∀ j, bs.getD j 0 < 256) (hi : i < m) (hm : m ≤ len) (hm8 : m ≤ 8)
    (hu : Blk w gu 54 #[.int .u64 (leFrom bs (i + 1) m : Nat)]) (hbb : Blk w gb 25 #[.slice A len c]) :
    Calls Tryz.prog 63 #[.int .i64 z, .pointer (some ⟨gu, 0, none⟩), .pointer (some ⟨gb, 0, none⟩)] w fun e w' => e = .returned (.tuple #[]) ∧ LitS w gu gb A len c (leFrom bs i m) w' := by
  subst hz
  exact lput_any w gu gb A len c D bs i m hl hsl hb hi hm hm8 hu hbb
def LitPost (w : World) (u : Nat) (e : Ending) (w' : World) : Prop := e = .returned (.int .u64 (u : Nat)) ∧ Keeps (fun _ => False) w w'
theorem leFrom_end (bs : List Nat) (m : Nat) : leFrom bs m m = 0 := by
  unfold leFrom
  rw [List.drop_eq_nil_of_le (by simp; omega)]
  show _ * 0 = 0
  omega
set_option maxRecDepth 100000 in
set_option maxHeartbeats 1600000 in
theorem little_0 (w : World) (A : Option Addr) (c : Nat) (D : Nat → Prop) (bs : List Nat) (hl : bs.length = 0) (hsl : Sl w D A 0 (byteC bs)) (hb : ∀ j, bs.getD j 0 < 256) :
    Calls Tryz.prog 43 #[.slice A 0 c] w (LitPost w (leFrom bs 0 0)) := by
  have HS := Lib.hid (And.intro hl (And.intro hsl hb))
  clear hl hsl hb
  go_enter Tryz.func43, Tryz.ntmps43
  go_wp2_with fail
  go_ret
  have k0 : Keeps (fun _ => False) w ((w.alloc (.cells #[.slice A 0 c] 25)).alloc (.cells #[.int .u64 0] 54)) := ((Keeps.refl _ w).alloc _).alloc _
  exact ⟨rfl, k0⟩
set_option maxRecDepth 100000 in
set_option maxHeartbeats 1600000 in
theorem little_1 (w : World) (A : Option Addr) (c : Nat) (D : Nat → Prop) (bs : List Nat) (hl : bs.length = 1) (hsl : Sl w D A 1 (byteC bs)) (hb : ∀ j, bs.getD j 0 < 256) :
    Calls Tryz.prog 43 #[.slice A 1 c] w (LitPost w (leFrom bs 0 1)) := by
  have HS := Lib.hid (And.intro hl (And.intro hsl hb))
  clear hl hsl hb
  go_enter Tryz.func43, Tryz.ntmps43
  go_wp2_with fail
  obtain ⟨x, hx⟩ : ∃ x, x = w.heap.size := ⟨_, rfl⟩
  have k0 : Keeps (fun _ => False) w ((w.alloc (.cells #[.slice A 1 c] 25)).alloc (.cells #[.int .u64 0] 54)) := ((Keeps.refl _ w).alloc _).alloc _
  have bb0 : Blk ((w.alloc (.cells #[.slice A 1 c] 25)).alloc (.cells #[.int .u64 0] 54)) x 25 #[.slice A 1 c] := by rw [hx]; exact (Blk.fresh w _ _).alloc _
  have bu0 : Blk ((w.alloc (.cells #[.slice A 1 c] 25)).alloc (.cells #[.int .u64 0] 54)) (x + 1) 54 #[.int .u64 (leFrom bs 1 1 : Nat)] := by
    rw [hx, leFrom_end]
    have h := Blk.fresh (w.alloc (.cells #[.slice A 1 c] 25)) 54 #[.int .u64 0]
    simpa using h
  have s0 := HS.out.2.1.keep (w' := ((w.alloc (.cells #[.slice A 1 c] 25)).alloc (.cells #[.int .u64 0] 54))) (fun q _ hq => k0.block q hq (fun h => h))
  generalize ((w.alloc (.cells #[.slice A 1 c] 25)).alloc (.cells #[.int .u64 0] 54)) = w0 at k0 bb0 bu0 s0 ⊢
  rw [← hx]
  have hxw : w.heap.size ≤ x := by omega
  have H0 := Lib.hid (And.intro k0 (And.intro bb0 (And.intro bu0 s0)))
  clear k0 bb0 bu0 s0 hx
  refine (lput_at w0 (x + 1) x A 1 c _ bs 0 1 0 rfl HS.out.1 H0.out.2.2.2 HS.out.2.2 (by omega) (by omega) (by omega) H0.out.2.2.1 H0.out.2.1).mono ?_
  rintro e w1 ⟨rfl, hu, hbb, hk⟩
  have H1 := Lib.hid (And.intro (H0.out.1.trans hk (fun y hy e => by omega)) (And.intro hbb (And.intro hu (HS.out.2.1.keep (w' := w1) (fun q _ hq => (H0.out.1.trans hk (T := fun k => k = x + 1) (S := fun _ => False) (fun y hy e => by omega)).block q hq (fun h => h))))))
  clear hu hbb hk
  have c0 := H1.out.2.2.1.cell 0
  simp at c0
  go_wp2_with fail
  go_ret
  exact ⟨rfl, H1.out.1⟩
set_option maxRecDepth 100000 in
set_option maxHeartbeats 1600000 in
theorem little_2 (w : World) (A : Option Addr) (c : Nat) (D : Nat → Prop) (bs : List Nat) (hl : bs.length = 2) (hsl : Sl w D A 2 (byteC bs)) (hb : ∀ j, bs.getD j 0 < 256) :
    Calls Tryz.prog 43 #[.slice A 2 c] w (LitPost w (leFrom bs 0 2)) := by
  have HS := Lib.hid (And.intro hl (And.intro hsl hb))
  clear hl hsl hb
  go_enter Tryz.func43, Tryz.ntmps43
  go_wp2_with fail
  obtain ⟨x, hx⟩ : ∃ x, x = w.heap.size := ⟨_, rfl⟩
  have k0 : Keeps (fun _ => False) w ((w.alloc (.cells #[.slice A 2 c] 25)).alloc (.cells #[.int .u64 0] 54)) := ((Keeps.refl _ w).alloc _).alloc _
  have bb0 : Blk ((w.alloc (.cells #[.slice A 2 c] 25)).alloc (.cells #[.int .u64 0] 54)) x 25 #[.slice A 2 c] := by rw [hx]; exact (Blk.fresh w _ _).alloc _
  have bu0 : Blk ((w.alloc (.cells #[.slice A 2 c] 25)).alloc (.cells #[.int .u64 0] 54)) (x + 1) 54 #[.int .u64 (leFrom bs 2 2 : Nat)] := by
    rw [hx, leFrom_end]
    have h := Blk.fresh (w.alloc (.cells #[.slice A 2 c] 25)) 54 #[.int .u64 0]
    simpa using h
  have s0 := HS.out.2.1.keep (w' := ((w.alloc (.cells #[.slice A 2 c] 25)).alloc (.cells #[.int .u64 0] 54))) (fun q _ hq => k0.block q hq (fun h => h))
  generalize ((w.alloc (.cells #[.slice A 2 c] 25)).alloc (.cells #[.int .u64 0] 54)) = w0 at k0 bb0 bu0 s0 ⊢
  rw [← hx]
  have hxw : w.heap.size ≤ x := by omega
  have H0 := Lib.hid (And.intro k0 (And.intro bb0 (And.intro bu0 s0)))
  clear k0 bb0 bu0 s0 hx
  refine (lput_at w0 (x + 1) x A 2 c _ bs 1 2 1 rfl HS.out.1 H0.out.2.2.2 HS.out.2.2 (by omega) (by omega) (by omega) H0.out.2.2.1 H0.out.2.1).mono ?_
  rintro e w1 ⟨rfl, hu, hbb, hk⟩
  have H1 := Lib.hid (And.intro (H0.out.1.trans hk (fun y hy e => by omega)) (And.intro hbb (And.intro hu (HS.out.2.1.keep (w' := w1) (fun q _ hq => (H0.out.1.trans hk (T := fun k => k = x + 1) (S := fun _ => False) (fun y hy e => by omega)).block q hq (fun h => h))))))
  clear hu hbb hk
  go_wp2_with fail
  refine (lput_at w1 (x + 1) x A 2 c _ bs 0 2 0 rfl HS.out.1 H1.out.2.2.2 HS.out.2.2 (by omega) (by omega) (by omega) H1.out.2.2.1 H1.out.2.1).mono ?_
  rintro e w2 ⟨rfl, hu, hbb, hk⟩
  have H2 := Lib.hid (And.intro (H1.out.1.trans hk (fun y hy e => by omega)) (And.intro hbb (And.intro hu (HS.out.2.1.keep (w' := w2) (fun q _ hq => (H1.out.1.trans hk (T := fun k => k = x + 1) (S := fun _ => False) (fun y hy e => by omega)).block q hq (fun h => h))))))
  clear hu hbb hk
  have c0 := H2.out.2.2.1.cell 0
  simp at c0
  go_wp2_with fail
  go_ret
  exact ⟨rfl, H2.out.1⟩
set_option maxRecDepth 100000 in
set_option maxHeartbeats 1600000 in
theorem little_3 (w : World) (A : Option Addr) (c : Nat) (D : Nat → Prop) (bs : List Nat) (hl : bs.length = 3) (hsl : Sl w D A 3 (byteC bs)) (hb : ∀ j, bs.getD j 0 < 256) :
    Calls Tryz.prog 43 #[.slice A 3 c] w (LitPost w (leFrom bs 0 3)) := by
  have HS := Lib.hid (And.intro hl (And.intro hsl hb))
  clear hl hsl hb
  go_enter Tryz.func43, Tryz.ntmps43
  go_wp2_with fail
  obtain ⟨x, hx⟩ : ∃ x, x = w.heap.size := ⟨_, rfl⟩
  have k0 : Keeps (fun _ => False) w ((w.alloc (.cells #[.slice A 3 c] 25)).alloc (.cells #[.int .u64 0] 54)) := ((Keeps.refl _ w).alloc _).alloc _
  have bb0 : Blk ((w.alloc (.cells #[.slice A 3 c] 25)).alloc (.cells #[.int .u64 0] 54)) x 25 #[.slice A 3 c] := by rw [hx]; exact (Blk.fresh w _ _).alloc _
  have bu0 : Blk ((w.alloc (.cells #[.slice A 3 c] 25)).alloc (.cells #[.int .u64 0] 54)) (x + 1) 54 #[.int .u64 (leFrom bs 3 3 : Nat)] := by
    rw [hx, leFrom_end]
    have h := Blk.fresh (w.alloc (.cells #[.slice A 3 c] 25)) 54 #[.int .u64 0]
    simpa using h
  have s0 := HS.out.2.1.keep (w' := ((w.alloc (.cells #[.slice A 3 c] 25)).alloc (.cells #[.int .u64 0] 54))) (fun q _ hq => k0.block q hq (fun h => h))
  generalize ((w.alloc (.cells #[.slice A 3 c] 25)).alloc (.cells #[.int .u64 0] 54)) = w0 at k0 bb0 bu0 s0 ⊢
  rw [← hx]
  have hxw : w.heap.size ≤ x := by omega
  have H0 := Lib.hid (And.intro k0 (And.intro bb0 (And.intro bu0 s0)))
  clear k0 bb0 bu0 s0 hx
  refine (lput_at w0 (x + 1) x A 3 c _ bs 2 3 2 rfl HS.out.1 H0.out.2.2.2 HS.out.2.2 (by omega) (by omega) (by omega) H0.out.2.2.1 H0.out.2.1).mono ?_
  rintro e w1 ⟨rfl, hu, hbb, hk⟩
  have H1 := Lib.hid (And.intro (H0.out.1.trans hk (fun y hy e => by omega)) (And.intro hbb (And.intro hu (HS.out.2.1.keep (w' := w1) (fun q _ hq => (H0.out.1.trans hk (T := fun k => k = x + 1) (S := fun _ => False) (fun y hy e => by omega)).block q hq (fun h => h))))))
  clear hu hbb hk
  go_wp2_with fail
  refine (lput_at w1 (x + 1) x A 3 c _ bs 1 3 1 rfl HS.out.1 H1.out.2.2.2 HS.out.2.2 (by omega) (by omega) (by omega) H1.out.2.2.1 H1.out.2.1).mono ?_
  rintro e w2 ⟨rfl, hu, hbb, hk⟩
  have H2 := Lib.hid (And.intro (H1.out.1.trans hk (fun y hy e => by omega)) (And.intro hbb (And.intro hu (HS.out.2.1.keep (w' := w2) (fun q _ hq => (H1.out.1.trans hk (T := fun k => k = x + 1) (S := fun _ => False) (fun y hy e => by omega)).block q hq (fun h => h))))))
  clear hu hbb hk
  go_wp2_with fail
  refine (lput_at w2 (x + 1) x A 3 c _ bs 0 3 0 rfl HS.out.1 H2.out.2.2.2 HS.out.2.2 (by omega) (by omega) (by omega) H2.out.2.2.1 H2.out.2.1).mono ?_
  rintro e w3 ⟨rfl, hu, hbb, hk⟩
  have H3 := Lib.hid (And.intro (H2.out.1.trans hk (fun y hy e => by omega)) (And.intro hbb (And.intro hu (HS.out.2.1.keep (w' := w3) (fun q _ hq => (H2.out.1.trans hk (T := fun k => k = x + 1) (S := fun _ => False) (fun y hy e => by omega)).block q hq (fun h => h))))))
  clear hu hbb hk
  have c0 := H3.out.2.2.1.cell 0
  simp at c0
  go_wp2_with fail
  go_ret
  exact ⟨rfl, H3.out.1⟩
set_option maxRecDepth 100000 in
set_option maxHeartbeats 1600000 in
theorem little_4 (w : World) (A : Option Addr) (c : Nat) (D : Nat → Prop) (bs : List Nat) (hl : bs.length = 4) (hsl : Sl w D A 4 (byteC bs)) (hb : ∀ j, bs.getD j 0 < 256) :
    Calls Tryz.prog 43 #[.slice A 4 c] w (LitPost w (leFrom bs 0 4)) := by
  have HS := Lib.hid (And.intro hl (And.intro hsl hb))
  clear hl hsl hb
  go_enter Tryz.func43, Tryz.ntmps43
  go_wp2_with fail
  obtain ⟨x, hx⟩ : ∃ x, x = w.heap.size := ⟨_, rfl⟩
  have k0 : Keeps (fun _ => False) w ((w.alloc (.cells #[.slice A 4 c] 25)).alloc (.cells #[.int .u64 0] 54)) := ((Keeps.refl _ w).alloc _).alloc _
  have bb0 : Blk ((w.alloc (.cells #[.slice A 4 c] 25)).alloc (.cells #[.int .u64 0] 54)) x 25 #[.slice A 4 c] := by rw [hx]; exact (Blk.fresh w _ _).alloc _
  have bu0 : Blk ((w.alloc (.cells #[.slice A 4 c] 25)).alloc (.cells #[.int .u64 0] 54)) (x + 1) 54 #[.int .u64 (leFrom bs 4 4 : Nat)] := by
    rw [hx, leFrom_end]
    have h := Blk.fresh (w.alloc (.cells #[.slice A 4 c] 25)) 54 #[.int .u64 0]
    simpa using h
  have s0 := HS.out.2.1.keep (w' := ((w.alloc (.cells #[.slice A 4 c] 25)).alloc (.cells #[.int .u64 0] 54))) (fun q _ hq => k0.block q hq (fun h => h))
  generalize ((w.alloc (.cells #[.slice A 4 c] 25)).alloc (.cells #[.int .u64 0] 54)) = w0 at k0 bb0 bu0 s0 ⊢
  rw [← hx]
  have hxw : w.heap.size ≤ x := by omega
  have H0 := Lib.hid (And.intro k0 (And.intro bb0 (And.intro bu0 s0)))
  clear k0 bb0 bu0 s0 hx
  refine (lput_at w0 (x + 1) x A 4 c _ bs 3 4 3 rfl HS.out.1 H0.out.2.2.2 HS.out.2.2 (by omega) (by omega) (by omega) H0.out.2.2.1 H0.out.2.1).mono ?_
  rintro e w1 ⟨rfl, hu, hbb, hk⟩
  have H1 := Lib.hid (And.intro (H0.out.1.trans hk (fun y hy e => by omega)) (And.intro hbb (And.intro hu (HS.out.2.1.keep (w' := w1) (fun q _ hq => (H0.out.1.trans hk (T := fun k => k = x + 1) (S := fun _ => False) (fun y hy e => by omega)).block q hq (fun h => h))))))
  clear hu hbb hk
  go_wp2_with fail
  refine (lput_at w1 (x + 1) x A 4 c _ bs 2 4 2 rfl HS.out.1 H1.out.2.2.2 HS.out.2.2 (by omega) (by omega) (by omega) H1.out.2.2.1 H1.out.2.1).mono ?_
  rintro e w2 ⟨rfl, hu, hbb, hk⟩
  have H2 := Lib.hid (And.intro (H1.out.1.trans hk (fun y hy e => by omega)) (And.intro hbb (And.intro hu (HS.out.2.1.keep (w' := w2) (fun q _ hq => (H1.out.1.trans hk (T := fun k => k = x + 1) (S := fun _ => False) (fun y hy e => by omega)).block q hq (fun h => h))))))
  clear hu hbb hk
  go_wp2_with fail
  refine (lput_at w2 (x + 1) x A 4 c _ bs 1 4 1 rfl HS.out.1 H2.out.2.2.2 HS.out.2.2 (by omega) (by omega) (by omega) H2.out.2.2.1 H2.out.2.1).mono ?_
  rintro e w3 ⟨rfl, hu, hbb, hk⟩
  have H3 := Lib.hid (And.intro (H2.out.1.trans hk (fun y hy e => by omega)) (And.intro hbb (And.intro hu (HS.out.2.1.keep (w' := w3) (fun q _ hq => (H2.out.1.trans hk (T := fun k => k = x + 1) (S := fun _ => False) (fun y hy e => by omega)).block q hq (fun h => h))))))
  clear hu hbb hk
  go_wp2_with fail
  refine (lput_at w3 (x + 1) x A 4 c _ bs 0 4 0 rfl HS.out.1 H3.out.2.2.2 HS.out.2.2 (by omega) (by omega) (by omega) H3.out.2.2.1 H3.out.2.1).mono ?_
  rintro e w4 ⟨rfl, hu, hbb, hk⟩
  have H4 := Lib.hid (And.intro (H3.out.1.trans hk (fun y hy e => by omega)) (And.intro hbb (And.intro hu (HS.out.2.1.keep (w' := w4) (fun q _ hq => (H3.out.1.trans hk (T := fun k => k = x + 1) (S := fun _ => False) (fun y hy e => by omega)).block q hq (fun h => h))))))
  clear hu hbb hk
  have c0 := H4.out.2.2.1.cell 0
  simp at c0
  go_wp2_with fail
  go_ret
  exact ⟨rfl, H4.out.1⟩
set_option maxRecDepth 100000 in
set_option maxHeartbeats 1600000 in
theorem little_5 (w : World) (A : Option Addr) (c : Nat) (D : Nat → Prop) (bs : List Nat) (hl : bs.length = 5) (hsl : Sl w D A 5 (byteC bs)) (hb : ∀ j, bs.getD j 0 < 256) :
    Calls Tryz.prog 43 #[.slice A 5 c] w (LitPost w (leFrom bs 0 5)) := by
  have HS := Lib.hid (And.intro hl (And.intro hsl hb))
  clear hl hsl hb
  go_enter Tryz.func43, Tryz.ntmps43
  go_wp2_with fail
  obtain ⟨x, hx⟩ : ∃ x, x = w.heap.size := ⟨_, rfl⟩
  have k0 : Keeps (fun _ => False) w ((w.alloc (.cells #[.slice A 5 c] 25)).alloc (.cells #[.int .u64 0] 54)) := ((Keeps.refl _ w).alloc _).alloc _
  have bb0 : Blk ((w.alloc (.cells #[.slice A 5 c] 25)).alloc (.cells #[.int .u64 0] 54)) x 25 #[.slice A 5 c] := by rw [hx]; exact (Blk.fresh w _ _).alloc _
  have bu0 : Blk ((w.alloc (.cells #[.slice A 5 c] 25)).alloc (.cells #[.int .u64 0] 54)) (x + 1) 54 #[.int .u64 (leFrom bs 5 5 : Nat)] := by
    rw [hx, leFrom_end]
    have h := Blk.fresh (w.alloc (.cells #[.slice A 5 c] 25)) 54 #[.int .u64 0]
    simpa using h
  have s0 := HS.out.2.1.keep (w' := ((w.alloc (.cells #[.slice A 5 c] 25)).alloc (.cells #[.int .u64 0] 54))) (fun q _ hq => k0.block q hq (fun h => h))
  generalize ((w.alloc (.cells #[.slice A 5 c] 25)).alloc (.cells #[.int .u64 0] 54)) = w0 at k0 bb0 bu0 s0 ⊢
  rw [← hx]
  have hxw : w.heap.size ≤ x := by omega
  have H0 := Lib.hid (And.intro k0 (And.intro bb0 (And.intro bu0 s0)))
  clear k0 bb0 bu0 s0 hx
  refine (lput_at w0 (x + 1) x A 5 c _ bs 4 5 4 rfl HS.out.1 H0.out.2.2.2 HS.out.2.2 (by omega) (by omega) (by omega) H0.out.2.2.1 H0.out.2.1).mono ?_
  rintro e w1 ⟨rfl, hu, hbb, hk⟩
  have H1 := Lib.hid (And.intro (H0.out.1.trans hk (fun y hy e => by omega)) (And.intro hbb (And.intro hu (HS.out.2.1.keep (w' := w1) (fun q _ hq => (H0.out.1.trans hk (T := fun k => k = x + 1) (S := fun _ => False) (fun y hy e => by omega)).block q hq (fun h => h))))))
  clear hu hbb hk
  go_wp2_with fail
  refine (lput_at w1 (x + 1) x A 5 c _ bs 3 5 3 rfl HS.out.1 H1.out.2.2.2 HS.out.2.2 (by omega) (by omega) (by omega) H1.out.2.2.1 H1.out.2.1).mono ?_
  rintro e w2 ⟨rfl, hu, hbb, hk⟩
  have H2 := Lib.hid (And.intro (H1.out.1.trans hk (fun y hy e => by omega)) (And.intro hbb (And.intro hu (HS.out.2.1.keep (w' := w2) (fun q _ hq => (H1.out.1.trans hk (T := fun k => k = x + 1) (S := fun _ => False) (fun y hy e => by omega)).block q hq (fun h => h))))))
  clear hu hbb hk
  go_wp2_with fail
  refine (lput_at w2 (x + 1) x A 5 c _ bs 2 5 2 rfl HS.out.1 H2.out.2.2.2 HS.out.2.2 (by omega) (by omega) (by omega) H2.out.2.2.1 H2.out.2.1).mono ?_
  rintro e w3 ⟨rfl, hu, hbb, hk⟩
  have H3 := Lib.hid (And.intro (H2.out.1.trans hk (fun y hy e => by omega)) (And.intro hbb (And.intro hu (HS.out.2.1.keep (w' := w3) (fun q _ hq => (H2.out.1.trans hk (T := fun k => k = x + 1) (S := fun _ => False) (fun y hy e => by omega)).block q hq (fun h => h))))))
  clear hu hbb hk
  go_wp2_with fail
  refine (lput_at w3 (x + 1) x A 5 c _ bs 1 5 1 rfl HS.out.1 H3.out.2.2.2 HS.out.2.2 (by omega) (by omega) (by omega) H3.out.2.2.1 H3.out.2.1).mono ?_
  rintro e w4 ⟨rfl, hu, hbb, hk⟩
  have H4 := Lib.hid (And.intro (H3.out.1.trans hk (fun y hy e => by omega)) (And.intro hbb (And.intro hu (HS.out.2.1.keep (w' := w4) (fun q _ hq => (H3.out.1.trans hk (T := fun k => k = x + 1) (S := fun _ => False) (fun y hy e => by omega)).block q hq (fun h => h))))))
  clear hu hbb hk
  go_wp2_with fail
  refine (lput_at w4 (x + 1) x A 5 c _ bs 0 5 0 rfl HS.out.1 H4.out.2.2.2 HS.out.2.2 (by omega) (by omega) (by omega) H4.out.2.2.1 H4.out.2.1).mono ?_
  rintro e w5 ⟨rfl, hu, hbb, hk⟩
  have H5 := Lib.hid (And.intro (H4.out.1.trans hk (fun y hy e => by omega)) (And.intro hbb (And.intro hu (HS.out.2.1.keep (w' := w5) (fun q _ hq => (H4.out.1.trans hk (T := fun k => k = x + 1) (S := fun _ => False) (fun y hy e => by omega)).block q hq (fun h => h))))))
  clear hu hbb hk
  have c0 := H5.out.2.2.1.cell 0
  simp at c0
  go_wp2_with fail
  go_ret
  exact ⟨rfl, H5.out.1⟩
set_option maxRecDepth 100000 in
set_option maxHeartbeats 1600000 in
theorem little_6 (w : World) (A : Option Addr) (c : Nat) (D : Nat → Prop) (bs : List Nat) (hl : bs.length = 6) (hsl : Sl w D A 6 (byteC bs)) (hb : ∀ j, bs.getD j 0 < 256) :
    Calls Tryz.prog 43 #[.slice A 6 c] w (LitPost w (leFrom bs 0 6)) := by
  have HS := Lib.hid (And.intro hl (And.intro hsl hb))
  clear hl hsl hb
  go_enter Tryz.func43, Tryz.ntmps43
  go_wp2_with fail
  obtain ⟨x, hx⟩ : ∃ x, x = w.heap.size := ⟨_, rfl⟩
  have k0 : Keeps (fun _ => False) w ((w.alloc (.cells #[.slice A 6 c] 25)).alloc (.cells #[.int .u64 0] 54)) := ((Keeps.refl _ w).alloc _).alloc _
  have bb0 : Blk ((w.alloc (.cells #[.slice A 6 c] 25)).alloc (.cells #[.int .u64 0] 54)) x 25 #[.slice A 6 c] := by rw [hx]; exact (Blk.fresh w _ _).alloc _
  have bu0 : Blk ((w.alloc (.cells #[.slice A 6 c] 25)).alloc (.cells #[.int .u64 0] 54)) (x + 1) 54 #[.int .u64 (leFrom bs 6 6 : Nat)] := by
    rw [hx, leFrom_end]
    have h := Blk.fresh (w.alloc (.cells #[.slice A 6 c] 25)) 54 #[.int .u64 0]
    simpa using h
  have s0 := HS.out.2.1.keep (w' := ((w.alloc (.cells #[.slice A 6 c] 25)).alloc (.cells #[.int .u64 0] 54))) (fun q _ hq => k0.block q hq (fun h => h))
  generalize ((w.alloc (.cells #[.slice A 6 c] 25)).alloc (.cells #[.int .u64 0] 54)) = w0 at k0 bb0 bu0 s0 ⊢
  rw [← hx]
  have hxw : w.heap.size ≤ x := by omega
  have H0 := Lib.hid (And.intro k0 (And.intro bb0 (And.intro bu0 s0)))
  clear k0 bb0 bu0 s0 hx
  refine (lput_at w0 (x + 1) x A 6 c _ bs 5 6 5 rfl HS.out.1 H0.out.2.2.2 HS.out.2.2 (by omega) (by omega) (by omega) H0.out.2.2.1 H0.out.2.1).mono ?_
  rintro e w1 ⟨rfl, hu, hbb, hk⟩
  have H1 := Lib.hid (And.intro (H0.out.1.trans hk (fun y hy e => by omega)) (And.intro hbb (And.intro hu (HS.out.2.1.keep (w' := w1) (fun q _ hq => (H0.out.1.trans hk (T := fun k => k = x + 1) (S := fun _ => False) (fun y hy e => by omega)).block q hq (fun h => h))))))
  clear hu hbb hk
  go_wp2_with fail
  refine (lput_at w1 (x + 1) x A 6 c _ bs 4 6 4 rfl HS.out.1 H1.out.2.2.2 HS.out.2.2 (by omega) (by omega) (by omega) H1.out.2.2.1 H1.out.2.1).mono ?_
  rintro e w2 ⟨rfl, hu, hbb, hk⟩
  have H2 := Lib.hid (And.intro (H1.out.1.trans hk (fun y hy e => by omega)) (And.intro hbb (And.intro hu (HS.out.2.1.keep (w' := w2) (fun q _ hq => (H1.out.1.trans hk (T := fun k => k = x + 1) (S := fun _ => False) (fun y hy e => by omega)).block q hq (fun h => h))))))
  clear hu hbb hk
  go_wp2_with fail
  refine (lput_at w2 (x + 1) x A 6 c _ bs 3 6 3 rfl HS.out.1 H2.out.2.2.2 HS.out.2.2 (by omega) (by omega) (by omega) H2.out.2.2.1 H2.out.2.1).mono ?_
  rintro e w3 ⟨rfl, hu, hbb, hk⟩
  have H3 := Lib.hid (And.intro (H2.out.1.trans hk (fun y hy e => by omega)) (And.intro hbb (And.intro hu (HS.out.2.1.keep (w' := w3) (fun q _ hq => (H2.out.1.trans hk (T := fun k => k = x + 1) (S := fun _ => False) (fun y hy e => by omega)).block q hq (fun h => h))))))
  clear hu hbb hk
  go_wp2_with fail
  refine (lput_at w3 (x + 1) x A 6 c _ bs 2 6 2 rfl HS.out.1 H3.out.2.2.2 HS.out.2.2 (by omega) (by omega) (by omega) H3.out.2.2.1 H3.out.2.1).mono ?_
  rintro e w4 ⟨rfl, hu, hbb, hk⟩
  have H4 := Lib.hid (And.intro (H3.out.1.trans hk (fun y hy e => by omega)) (And.intro hbb (And.intro hu (HS.out.2.1.keep (w' := w4) (fun q _ hq => (H3.out.1.trans hk (T := fun k => k = x + 1) (S := fun _ => False) (fun y hy e => by omega)).block q hq (fun h => h))))))
  clear hu hbb hk
  go_wp2_with fail
  refine (lput_at w4 (x + 1) x A 6 c _ bs 1 6 1 rfl HS.out.1 H4.out.2.2.2 HS.out.2.2 (by omega) (by omega) (by omega) H4.out.2.2.1 H4.out.2.1).mono ?_
  rintro e w5 ⟨rfl, hu, hbb, hk⟩
  have H5 := Lib.hid (And.intro (H4.out.1.trans hk (fun y hy e => by omega)) (And.intro hbb (And.intro hu (HS.out.2.1.keep (w' := w5) (fun q _ hq => (H4.out.1.trans hk (T := fun k => k = x + 1) (S := fun _ => False) (fun y hy e => by omega)).block q hq (fun h => h))))))
  clear hu hbb hk
  go_wp2_with fail
  refine (lput_at w5 (x + 1) x A 6 c _ bs 0 6 0 rfl HS.out.1 H5.out.2.2.2 HS.out.2.2 (by omega) (by omega) (by omega) H5.out.2.2.1 H5.out.2.1).mono ?_
  rintro e w6 ⟨rfl, hu, hbb, hk⟩
  have H6 := Lib.hid (And.intro (H5.out.1.trans hk (fun y hy e => by omega)) (And.intro hbb (And.intro hu (HS.out.2.1.keep (w' := w6) (fun q _ hq => (H5.out.1.trans hk (T := fun k => k = x + 1) (S := fun _ => False) (fun y hy e => by omega)).block q hq (fun h => h))))))
  clear hu hbb hk
  have c0 := H6.out.2.2.1.cell 0
  simp at c0
  go_wp2_with fail
  go_ret
  exact ⟨rfl, H6.out.1⟩
set_option maxRecDepth 100000 in
set_option maxHeartbeats 1600000 in
theorem little_7 (w : World) (A : Option Addr) (c : Nat) (D : Nat → Prop) (bs : List Nat) (hl : bs.length = 7) (hsl : Sl w D A 7 (byteC bs)) (hb : ∀ j, bs.getD j 0 < 256) :
    Calls Tryz.prog 43 #[.slice A 7 c] w (LitPost w (leFrom bs 0 7)) := by
  have HS := Lib.hid (And.intro hl (And.intro hsl hb))
  clear hl hsl hb
  go_enter Tryz.func43, Tryz.ntmps43
  go_wp2_with fail
  obtain ⟨x, hx⟩ : ∃ x, x = w.heap.size := ⟨_, rfl⟩
  have k0 : Keeps (fun _ => False) w ((w.alloc (.cells #[.slice A 7 c] 25)).alloc (.cells #[.int .u64 0] 54)) := ((Keeps.refl _ w).alloc _).alloc _
  have bb0 : Blk ((w.alloc (.cells #[.slice A 7 c] 25)).alloc (.cells #[.int .u64 0] 54)) x 25 #[.slice A 7 c] := by rw [hx]; exact (Blk.fresh w _ _).alloc _
  have bu0 : Blk ((w.alloc (.cells #[.slice A 7 c] 25)).alloc (.cells #[.int .u64 0] 54)) (x + 1) 54 #[.int .u64 (leFrom bs 7 7 : Nat)] := by
    rw [hx, leFrom_end]
    have h := Blk.fresh (w.alloc (.cells #[.slice A 7 c] 25)) 54 #[.int .u64 0]
    simpa using h
  have s0 := HS.out.2.1.keep (w' := ((w.alloc (.cells #[.slice A 7 c] 25)).alloc (.cells #[.int .u64 0] 54))) (fun q _ hq => k0.block q hq (fun h => h))
  generalize ((w.alloc (.cells #[.slice A 7 c] 25)).alloc (.cells #[.int .u64 0] 54)) = w0 at k0 bb0 bu0 s0 ⊢
  rw [← hx]
  have hxw : w.heap.size ≤ x := by omega
  have H0 := Lib.hid (And.intro k0 (And.intro bb0 (And.intro bu0 s0)))
  clear k0 bb0 bu0 s0 hx
  refine (lput_at w0 (x + 1) x A 7 c _ bs 6 7 6 rfl HS.out.1 H0.out.2.2.2 HS.out.2.2 (by omega) (by omega) (by omega) H0.out.2.2.1 H0.out.2.1).mono ?_
  rintro e w1 ⟨rfl, hu, hbb, hk⟩
  have H1 := Lib.hid (And.intro (H0.out.1.trans hk (fun y hy e => by omega)) (And.intro hbb (And.intro hu (HS.out.2.1.keep (w' := w1) (fun q _ hq => (H0.out.1.trans hk (T := fun k => k = x + 1) (S := fun _ => False) (fun y hy e => by omega)).block q hq (fun h => h))))))
  clear hu hbb hk
  go_wp2_with fail
  refine (lput_at w1 (x + 1) x A 7 c _ bs 5 7 5 rfl HS.out.1 H1.out.2.2.2 HS.out.2.2 (by omega) (by omega) (by omega) H1.out.2.2.1 H1.out.2.1).mono ?_
  rintro e w2 ⟨rfl, hu, hbb, hk⟩
  have H2 := Lib.hid (And.intro (H1.out.1.trans hk (fun y hy e => by omega)) (And.intro hbb (And.intro hu (HS.out.2.1.keep (w' := w2) (fun q _ hq => (H1.out.1.trans hk (T := fun k => k = x + 1) (S := fun _ => False) (fun y hy e => by omega)).block q hq (fun h => h))))))
  clear hu hbb hk
  go_wp2_with fail
  refine (lput_at w2 (x + 1) x A 7 c _ bs 4 7 4 rfl HS.out.1 H2.out.2.2.2 HS.out.2.2 (by omega) (by omega) (by omega) H2.out.2.2.1 H2.out.2.1).mono ?_
  rintro e w3 ⟨rfl, hu, hbb, hk⟩
  have H3 := Lib.hid (And.intro (H2.out.1.trans hk (fun y hy e => by omega)) (And.intro hbb (And.intro hu (HS.out.2.1.keep (w' := w3) (fun q _ hq => (H2.out.1.trans hk (T := fun k => k = x + 1) (S := fun _ => False) (fun y hy e => by omega)).block q hq (fun h => h))))))
  clear hu hbb hk
  go_wp2_with fail
  refine (lput_at w3 (x + 1) x A 7 c _ bs 3 7 3 rfl HS.out.1 H3.out.2.2.2 HS.out.2.2 (by omega) (by omega) (by omega) H3.out.2.2.1 H3.out.2.1).mono ?_
  rintro e w4 ⟨rfl, hu, hbb, hk⟩
  have H4 := Lib.hid (And.intro (H3.out.1.trans hk (fun y hy e => by omega)) (And.intro hbb (And.intro hu (HS.out.2.1.keep (w' := w4) (fun q _ hq => (H3.out.1.trans hk (T := fun k => k = x + 1) (S := fun _ => False) (fun y hy e => by omega)).block q hq (fun h => h))))))
  clear hu hbb hk
  go_wp2_with fail
  refine (lput_at w4 (x + 1) x A 7 c _ bs 2 7 2 rfl HS.out.1 H4.out.2.2.2 HS.out.2.2 (by omega) (by omega) (by omega) H4.out.2.2.1 H4.out.2.1).mono ?_
  rintro e w5 ⟨rfl, hu, hbb, hk⟩
  have H5 := Lib.hid (And.intro (H4.out.1.trans hk (fun y hy e => by omega)) (And.intro hbb (And.intro hu (HS.out.2.1.keep (w' := w5) (fun q _ hq => (H4.out.1.trans hk (T := fun k => k = x + 1) (S := fun _ => False) (fun y hy e => by omega)).block q hq (fun h => h))))))
  clear hu hbb hk
  go_wp2_with fail
  refine (lput_at w5 (x + 1) x A 7 c _ bs 1 7 1 rfl HS.out.1 H5.out.2.2.2 HS.out.2.2 (by omega) (by omega) (by omega) H5.out.2.2.1 H5.out.2.1).mono ?_
  rintro e w6 ⟨rfl, hu, hbb, hk⟩
  have H6 := Lib.hid (And.intro (H5.out.1.trans hk (fun y hy e => by omega)) (And.intro hbb (And.intro hu (HS.out.2.1.keep (w' := w6) (fun q _ hq => (H5.out.1.trans hk (T := fun k => k = x + 1) (S := fun _ => False) (fun y hy e => by omega)).block q hq (fun h => h))))))
  clear hu hbb hk
  go_wp2_with fail
  refine (lput_at w6 (x + 1) x A 7 c _ bs 0 7 0 rfl HS.out.1 H6.out.2.2.2 HS.out.2.2 (by omega) (by omega) (by omega) H6.out.2.2.1 H6.out.2.1).mono ?_
  rintro e w7 ⟨rfl, hu, hbb, hk⟩
  have H7 := Lib.hid (And.intro (H6.out.1.trans hk (fun y hy e => by omega)) (And.intro hbb (And.intro hu (HS.out.2.1.keep (w' := w7) (fun q _ hq => (H6.out.1.trans hk (T := fun k => k = x + 1) (S := fun _ => False) (fun y hy e => by omega)).block q hq (fun h => h))))))
  clear hu hbb hk
  have c0 := H7.out.2.2.1.cell 0
  simp at c0
  go_wp2_with fail
  go_ret
  exact ⟨rfl, H7.out.1⟩
set_option maxRecDepth 100000 in
set_option maxHeartbeats 1600000 in
theorem little_8 (w : World) (A : Option Addr) (c : Nat) (D : Nat → Prop) (bs : List Nat) (len : Nat) (hl : bs.length = len) (hlen : 8 ≤ len) (hlen2 : len ≤ 1099511627776) (hsl : Sl w D A len (byteC bs)) (hb : ∀ j, bs.getD j 0 < 256) :
    Calls Tryz.prog 43 #[.slice A len c] w (LitPost w (leFrom bs 0 8)) := by
  have HS := Lib.hid (And.intro hl (And.intro hsl hb))
  clear hl hsl hb
  have hmi : min (len : Int) 8 = 8 := by omega
  have hd : decide ((8 : Int) < (len : Int)) = true ∨ len = 8 := by rcases (show 8 < len ∨ len = 8 by omega) with h | h; exact .inl (by simp; omega); exact .inr h
  clear hd
  go_enter Tryz.func43, Tryz.ntmps43
  go_wp2_with fail
  all_goals
    obtain ⟨x, hx⟩ : ∃ x, x = w.heap.size := ⟨_, rfl⟩
    have k0 : Keeps (fun _ => False) w ((w.alloc (.cells #[.slice A len c] 25)).alloc (.cells #[.int .u64 0] 54)) := ((Keeps.refl _ w).alloc _).alloc _
    have bb0 : Blk ((w.alloc (.cells #[.slice A len c] 25)).alloc (.cells #[.int .u64 0] 54)) x 25 #[.slice A len c] := by rw [hx]; exact (Blk.fresh w _ _).alloc _
    have bu0 : Blk ((w.alloc (.cells #[.slice A len c] 25)).alloc (.cells #[.int .u64 0] 54)) (x + 1) 54 #[.int .u64 (leFrom bs 8 8 : Nat)] := by
      rw [hx, leFrom_end]
      have h := Blk.fresh (w.alloc (.cells #[.slice A len c] 25)) 54 #[.int .u64 0]
      simpa using h
    have s0 := HS.out.2.1.keep (w' := ((w.alloc (.cells #[.slice A len c] 25)).alloc (.cells #[.int .u64 0] 54))) (fun q _ hq => k0.block q hq (fun h => h))
    generalize ((w.alloc (.cells #[.slice A len c] 25)).alloc (.cells #[.int .u64 0] 54)) = w0 at k0 bb0 bu0 s0 ⊢
    rw [← hx]
    have hxw : w.heap.size ≤ x := by omega
    have H0 := Lib.hid (And.intro k0 (And.intro bb0 (And.intro bu0 s0)))
    clear k0 bb0 bu0 s0 hx
    refine (lput_at w0 (x + 1) x A len c _ bs 7 8 7 rfl HS.out.1 H0.out.2.2.2 HS.out.2.2 (by omega) (by omega) (by omega) H0.out.2.2.1 H0.out.2.1).mono ?_
    rintro e w1 ⟨rfl, hu, hbb, hk⟩
    have H1 := Lib.hid (And.intro (H0.out.1.trans hk (fun y hy e => by omega)) (And.intro hbb (And.intro hu (HS.out.2.1.keep (w' := w1) (fun q _ hq => (H0.out.1.trans hk (T := fun k => k = x + 1) (S := fun _ => False) (fun y hy e => by omega)).block q hq (fun h => h))))))
    clear hu hbb hk
    go_wp2_with fail
    refine (lput_at w1 (x + 1) x A len c _ bs 6 8 6 rfl HS.out.1 H1.out.2.2.2 HS.out.2.2 (by omega) (by omega) (by omega) H1.out.2.2.1 H1.out.2.1).mono ?_
    rintro e w2 ⟨rfl, hu, hbb, hk⟩
    have H2 := Lib.hid (And.intro (H1.out.1.trans hk (fun y hy e => by omega)) (And.intro hbb (And.intro hu (HS.out.2.1.keep (w' := w2) (fun q _ hq => (H1.out.1.trans hk (T := fun k => k = x + 1) (S := fun _ => False) (fun y hy e => by omega)).block q hq (fun h => h))))))
    clear hu hbb hk
    go_wp2_with fail
    refine (lput_at w2 (x + 1) x A len c _ bs 5 8 5 rfl HS.out.1 H2.out.2.2.2 HS.out.2.2 (by omega) (by omega) (by omega) H2.out.2.2.1 H2.out.2.1).mono ?_
    rintro e w3 ⟨rfl, hu, hbb, hk⟩
    have H3 := Lib.hid (And.intro (H2.out.1.trans hk (fun y hy e => by omega)) (And.intro hbb (And.intro hu (HS.out.2.1.keep (w' := w3) (fun q _ hq => (H2.out.1.trans hk (T := fun k => k = x + 1) (S := fun _ => False) (fun y hy e => by omega)).block q hq (fun h => h))))))
    clear hu hbb hk
    go_wp2_with fail
    refine (lput_at w3 (x + 1) x A len c _ bs 4 8 4 rfl HS.out.1 H3.out.2.2.2 HS.out.2.2 (by omega) (by omega) (by omega) H3.out.2.2.1 H3.out.2.1).mono ?_
    rintro e w4 ⟨rfl, hu, hbb, hk⟩
    have H4 := Lib.hid (And.intro (H3.out.1.trans hk (fun y hy e => by omega)) (And.intro hbb (And.intro hu (HS.out.2.1.keep (w' := w4) (fun q _ hq => (H3.out.1.trans hk (T := fun k => k = x + 1) (S := fun _ => False) (fun y hy e => by omega)).block q hq (fun h => h))))))
    clear hu hbb hk
    go_wp2_with fail
    refine (lput_at w4 (x + 1) x A len c _ bs 3 8 3 rfl HS.out.1 H4.out.2.2.2 HS.out.2.2 (by omega) (by omega) (by omega) H4.out.2.2.1 H4.out.2.1).mono ?_
    rintro e w5 ⟨rfl, hu, hbb, hk⟩
    have H5 := Lib.hid (And.intro (H4.out.1.trans hk (fun y hy e => by omega)) (And.intro hbb (And.intro hu (HS.out.2.1.keep (w' := w5) (fun q _ hq => (H4.out.1.trans hk (T := fun k => k = x + 1) (S := fun _ => False) (fun y hy e => by omega)).block q hq (fun h => h))))))
    clear hu hbb hk
    go_wp2_with fail
    refine (lput_at w5 (x + 1) x A len c _ bs 2 8 2 rfl HS.out.1 H5.out.2.2.2 HS.out.2.2 (by omega) (by omega) (by omega) H5.out.2.2.1 H5.out.2.1).mono ?_
    rintro e w6 ⟨rfl, hu, hbb, hk⟩
    have H6 := Lib.hid (And.intro (H5.out.1.trans hk (fun y hy e => by omega)) (And.intro hbb (And.intro hu (HS.out.2.1.keep (w' := w6) (fun q _ hq => (H5.out.1.trans hk (T := fun k => k = x + 1) (S := fun _ => False) (fun y hy e => by omega)).block q hq (fun h => h))))))
    clear hu hbb hk
    go_wp2_with fail
    refine (lput_at w6 (x + 1) x A len c _ bs 1 8 1 rfl HS.out.1 H6.out.2.2.2 HS.out.2.2 (by omega) (by omega) (by omega) H6.out.2.2.1 H6.out.2.1).mono ?_
    rintro e w7 ⟨rfl, hu, hbb, hk⟩
    have H7 := Lib.hid (And.intro (H6.out.1.trans hk (fun y hy e => by omega)) (And.intro hbb (And.intro hu (HS.out.2.1.keep (w' := w7) (fun q _ hq => (H6.out.1.trans hk (T := fun k => k = x + 1) (S := fun _ => False) (fun y hy e => by omega)).block q hq (fun h => h))))))
    clear hu hbb hk
    go_wp2_with fail
    refine (lput_at w7 (x + 1) x A len c _ bs 0 8 0 rfl HS.out.1 H7.out.2.2.2 HS.out.2.2 (by omega) (by omega) (by omega) H7.out.2.2.1 H7.out.2.1).mono ?_
    rintro e w8 ⟨rfl, hu, hbb, hk⟩
    have H8 := Lib.hid (And.intro (H7.out.1.trans hk (fun y hy e => by omega)) (And.intro hbb (And.intro hu (HS.out.2.1.keep (w' := w8) (fun q _ hq => (H7.out.1.trans hk (T := fun k => k = x + 1) (S := fun _ => False) (fun y hy e => by omega)).block q hq (fun h => h))))))
    clear hu hbb hk
    have c0 := H8.out.2.2.1.cell 0
    simp at c0
    go_wp2_with fail
    go_ret
    exact ⟨rfl, H8.out.1⟩
theorem little_any (w : World) (A : Option Addr) (len c : Nat) (D : Nat → Prop) (bs : List Nat) (hl : bs.length = len) (hsl : Sl w D A len (byteC bs)) (hb : ∀ j, bs.getD j 0 < 256) (hlen : len ≤ 1099511627776) :
    Calls Tryz.prog 43 #[.slice A len c] w (LitPost w (le (bs.take 8))) := by
  have e : ∀ m, leFrom bs 0 m = le (bs.take m) := fun m => by unfold leFrom; rw [List.drop_zero]; omega
  rcases Nat.lt_or_ge len 8 with h | h
  · have e2 : bs.take 8 = bs.take len := by rw [List.take_of_length_le (by omega), List.take_of_length_le (by omega)]
    rw [e2, ← e]
    rcases (show len = 0 ∨ len = 1 ∨ len = 2 ∨ len = 3 ∨ len = 4 ∨ len = 5 ∨ len = 6 ∨ len = 7 by omega) with rfl | rfl | rfl | rfl | rfl | rfl | rfl | rfl
    · exact little_0 w A c D bs hl hsl hb
    · exact little_1 w A c D bs hl hsl hb
    · exact little_2 w A c D bs hl hsl hb
    · exact little_3 w A c D bs hl hsl hb
    · exact little_4 w A c D bs hl hsl hb
    · exact little_5 w A c D bs hl hsl hb
    · exact little_6 w A c D bs hl hsl hb
    · exact little_7 w A c D bs hl hsl hb
  · rw [← e]
    exact little_8 w A c D bs len hl h hlen hsl hb
end Go.Proofs.YtopbbicjbjmdnaaGreatDoor.F
namespace Go.Proofs.YtopbbicjbjmdnaaGreatDoor.F
open Go.RowKit
set_option linter.unusedVariables false
set_option linter.unusedSimpArgs false
theorem getD_sub (bs : List Nat) (lo hi j : Nat) (h : lo + j < hi) : ((bs.take hi).drop lo).getD j 0 = bs.getD (lo + j) 0 := by
  rw [List.getD_eq_getElem?_getD, List.getD_eq_getElem?_getD, List.getElem?_drop, List.getElem?_take_of_lt h]
theorem sl_sub {w : World} {D : Nat → Prop} {b off len : Nat} {bs : List Nat} (h : Sl w D (some ⟨b, off, none⟩) len (byteC bs)) (lo hi : Nat) (hhi : hi ≤ len) : Sl w D (some ⟨b, off + lo, none⟩) (hi - lo) (byteC ((bs.take hi).drop lo)) := by
  intro h0
  obtain ⟨b', off', e, hD, hc⟩ := h (by omega)
  injection e with e
  injection e with e1 e2
  subst e1
  subst e2
  refine ⟨_, _, rfl, hD, fun j hj => ?_⟩
  have := hc (lo + j) (by omega)
  rw [← Nat.add_assoc] at this
  rw [this]
  unfold byteC
  rw [getD_sub bs lo hi j (by omega)]
theorem sub_byte {bs : List Nat} (h : ∀ j, bs.getD j 0 < 256) (lo hi : Nat) : ∀ j, ((bs.take hi).drop lo).getD j 0 < 256 :=
  getD_of_mem (fun b hb => mem_take_byte h hi b (List.mem_of_mem_drop hb))
theorem sub_length (bs : List Nat) (lo hi : Nat) (h : hi ≤ bs.length) : ((bs.take hi).drop lo).length = hi - lo := by simp; omega
def frameN (bs : List Nat) : Nat := le ((bs.take 5).drop 1)
def lenE (bs : List Nat) : Int := if bs.length < 9 then 10 else if 1048576 < frameN bs then 3 else if bs.length < frameN bs + 9 then 10 else 0
def lenV (bs : List Nat) : Nat := if lenE bs = 0 then frameN bs + 9 else 0
def LongPost (w : World) (bs : List Nat) (e : Ending) (w' : World) : Prop := e = .returned (.tuple #[.int .i64 (lenV bs : Nat), .int .i64 (lenE bs)]) ∧ Keeps (fun _ => False) w w'
theorem long_post {w w' : World} {bs : List Nat} (v er : Int) (h1 : lenE bs = er) (h2 : er ≠ 0 ∧ v = 0 ∨ er = 0 ∧ v = ((frameN bs + 9 : Nat) : Int)) (hk : Keeps (fun _ => False) w w') : LongPost w bs (.returned (.tuple #[.int .i64 v, .int .i64 er])) w' := by
  refine ⟨?_, hk⟩
  unfold lenV
  rw [h1]
  rcases h2 with ⟨h2, rfl⟩ | ⟨rfl, rfl⟩
  · rw [if_neg h2]; rfl
  · rw [if_pos rfl]
set_option maxRecDepth 100000 in
set_option maxHeartbeats 1600000 in
theorem long_any (w : World) (A : Option Addr) (len c : Nat) (D : Nat → Prop) (bs : List Nat) (hl : bs.length = len) (hsl : Sl w D A len (byteC bs)) (hb : ∀ j, bs.getD j 0 < 256) (hlen : len ≤ 2097152) (hlc : len ≤ c) :
    Calls Tryz.prog 61 #[.slice A len c] w (LongPost w bs) := by
  by_cases h9 : len < 9
  · have hfin : LongPost w bs (.returned (.tuple #[.int .i64 0, .int .i64 10])) w := long_post 0 10 (by unfold lenE; rw [if_pos (by omega)]) (.inl ⟨by omega, rfl⟩) (Keeps.refl _ _)
    have HF := Lib.hid hfin
    clear hfin hl hsl hb
    go_enter Tryz.func61, Tryz.ntmps61
    go_wp2_with fail
    go_ret2
    exact HF.out
  · obtain ⟨b, off, hA, -, -⟩ := hsl (by omega)
    subst hA
    have hs4 := sl_sub hsl 1 5 (by omega)
    have hb4 := sub_byte hb 1 5
    have hl4 := sub_length bs 1 5 (by omega)
    have hn4 : frameN bs < 4294967296 := by
      have := le_lt (l := (bs.take 5).drop 1) (fun x hx => mem_take_byte hb 5 x (List.mem_of_mem_drop hx))
      rw [hl4] at this
      exact this
    have h8 : le (((bs.take 5).drop 1).take 8) = frameN bs := by rw [List.take_of_length_le (by omega)]; rfl
    have herr : ∀ er, lenE bs = er → lenE bs = er := fun _ h => h
    have hE : lenE bs = if 1048576 < frameN bs then 3 else if len < frameN bs + 9 then 10 else 0 := by unfold lenE; rw [hl, if_neg h9]
    have HS := Lib.hid (And.intro hs4 (And.intro hb4 (And.intro hl4 (And.intro hn4 (And.intro h8 hE)))))
    clear hs4 hb4 hl4 hn4 h8 herr hE hsl hb hl
    have d9 : decide ((len : Int) < 9) = false := by simp; omega
    go_enter Tryz.func61, Tryz.ntmps61
    go_wp2_with fail
    refine (little_any _ _ _ _ _ ((bs.take 5).drop 1) HS.out.2.2.1 HS.out.1 HS.out.2.1 (by omega)).mono ?_
    rintro e w1 ⟨rfl, hk1⟩
    obtain ⟨-, -, -, hn4, h8, hE⟩ := HS.out
    rw [h8]
    obtain ⟨n, hn⟩ : ∃ n, n = frameN bs := ⟨_, rfl⟩
    rw [← hn] at hn4 hE
    rw [← hn]
    by_cases h1 : 1048576 < n
    · have hfin : LongPost w bs (.returned (.tuple #[.int .i64 0, .int .i64 3])) w1 := long_post 0 3 (by rw [hE, if_pos h1]) (.inl ⟨by omega, rfl⟩) hk1
      have HF := Lib.hid hfin
      clear hfin hk1 hn h8 hE d9
      go_wp2_with fail
      go_ret2
      exact HF.out
    · by_cases h2 : len < n + 9
      · have hfin : LongPost w bs (.returned (.tuple #[.int .i64 0, .int .i64 10])) w1 := long_post 0 10 (by rw [hE, if_neg h1, if_pos h2]) (.inl ⟨by omega, rfl⟩) hk1
        have HF := Lib.hid hfin
        have d3 : decide ((len : Int) - 9 < (n : Int)) = true := by simp; omega
        clear hfin hk1 hn h8 hE d9
        go_wp2_with fail
        go_ret2
        exact HF.out
      · have hfin : LongPost w bs (.returned (.tuple #[.int .i64 ((n : Int) + 9), .int .i64 0])) w1 := long_post _ 0 (by rw [hE, if_neg h1, if_neg h2]) (.inr ⟨rfl, by omega⟩) hk1
        have HF := Lib.hid hfin
        have d3 : decide ((len : Int) - 9 < (n : Int)) = false := by simp; omega
        clear hfin hk1 hn h8 hE d9
        go_wp2_with fail
        go_ret2
        exact HF.out
def sumOf (bs : List Nat) : Nat := le ((bs.take bs.length).drop (bs.length - 4))
def withE (bs : List Nat) : Int := if sumOf bs = crcS (bs.take (bs.length - 4)) then 0 else 12
def withK (bs : List Nat) : Nat := if withE bs = 0 then bs.getD 0 0 else 0
def withI (bs : List Nat) : List Nat := if withE bs = 0 then (bs.take (bs.length - 4)).drop 5 else []
def WithPost (w : World) (k : Nat) (l : List Nat) (er : Int) (e : Ending) (w' : World) : Prop :=
  ∃ A c, e = .returned (.tuple #[.int .u8 (k : Nat), .slice A l.length c, .int .i64 er]) ∧ w'.ownsRow w.heap.size 5 1 (.slice A l.length c) l.length (l.map byteV) ∧ Keeps (fun _ => False) w w'
theorem own_lit0 (w : World) (base : Nat) (e : TypeId) (hb : base ≤ w.heap.size) : (w.alloc (.cells #[] e)).ownsRow base e 1 (.slice (some ⟨w.heap.size, 0, none⟩) 0 0) 0 [] :=
  World.ownsRow_made w #[] 0 hb (by unfold maxLen; omega) rfl
set_option maxRecDepth 100000 in
set_option maxHeartbeats 1600000 in
theorem within_any (w : World) (A : Option Addr) (len c : Nat) (D : Nat → Prop) (bs : List Nat) (hl : bs.length = len) (hsl : Sl w D A len (byteC bs)) (hb : ∀ j, bs.getD j 0 < 256) (h9 : 9 ≤ len) (hlen : len ≤ 2097152) (hlc : len ≤ c) :
    Calls Tryz.prog 62 #[.slice A len c] w (WithPost w (withK bs) (withI bs) (withE bs)) := by
  obtain ⟨b, off, hA, -, hcell⟩ := hsl (by omega)
  subst hA
  obtain ⟨m, hm⟩ : ∃ m, m = len - 4 := ⟨_, rfl⟩
  have hs1 := sl_sub hsl m len (Nat.le_refl _)
  have hs2 := sl_sub hsl 0 m (by omega)
  have hs3 := sl_sub hsl 5 m (by omega)
  have hb1 := sub_byte hb m len
  have hb2 := sub_byte hb 0 m
  have hl1 := sub_length bs m len (by omega)
  have hl2 := sub_length bs 0 m (by omega)
  have hl3 := sub_length bs 5 m (by omega)
  rw [Nat.sub_zero] at hs2 hl2
  rw [Nat.add_zero] at hs2
  have h8 : le (((bs.take len).drop m).take 8) = sumOf bs := by rw [List.take_of_length_le (by omega), hm, ← hl]; rfl
  have hcr : crcS ((bs.take m).drop 0) = crcS (bs.take (bs.length - 4)) := by rw [List.drop_zero, hm, hl]
  have hsu : sumOf bs < 4294967296 := by
    have := le_lt (l := (bs.take len).drop m) (fun x hx => mem_take_byte hb len x (List.mem_of_mem_drop hx))
    rw [hl1, show len - m = 4 by omega, List.take_of_length_le (by omega)] at this
    unfold sumOf
    rw [hl, ← hm, List.take_of_length_le (by omega)]
    exact this
  have hI : (bs.take (bs.length - 4)).drop 5 = (bs.take m).drop 5 := by rw [hl, hm]
  have c0 : w.cell? ⟨b, off, none⟩ = some (.int .u8 (bs.getD 0 0 : Nat)) := hcell 0 (by omega)
  have hcu := crcS_lt (mem_take_byte hb (bs.length - 4))
  have HS := Lib.hid (And.intro hs1 (And.intro hs2 (And.intro hs3 (And.intro hb1 (And.intro hb2 (And.intro hl1 (And.intro hl2 (And.intro hl3 (And.intro h8 (And.intro hcr (And.intro hsu (And.intro hI hcu))))))))))))
  have HM := Lib.hid hm
  clear hs1 hs2 hs3 hb1 hb2 hl1 hl2 hl3 h8 hcr hsu hI hcu hcell hsl hb hl
  have e4 : (len : Int) - 4 = (m : Int) := by omega
  have hm5 : 5 ≤ m := by omega
  have hml : m < len := by omega
  clear hm
  have i1 : (0 : Int) ≤ (m : Int) := by omega
  have i2 : (m : Int) ≤ (len : Int) := by omega
  have i3 : (m : Int).toNat = m := by omega
  have i4 : (5 : Int) ≤ (m : Int) := by omega
  have hmc : m ≤ c := by omega
  have hmc2 : m < c := by omega
  have hmc3 : ¬ c = m := by omega
  have hmc4 : ¬ c = 5 := by omega
  have hl0 : 0 < len := by omega
  go_enter Tryz.func62, Tryz.ntmps62
  go_wp2_with fail
  clear e4
  obtain ⟨hs1, hs2, hs3, hb1, hb2, hl1, hl2, hl3, h8, hcr, hsu, hI, hcu⟩ := HS.out
  obtain ⟨su, hsu'⟩ : ∃ su, su = sumOf bs := ⟨_, rfl⟩
  obtain ⟨cr, hcr'⟩ : ∃ cr, cr = crcS (bs.take (bs.length - 4)) := ⟨_, rfl⟩
  obtain ⟨k0, hk0⟩ : ∃ k0, k0 = bs.getD 0 0 := ⟨_, rfl⟩
  rw [← hk0] at c0
  rw [← hsu'] at h8 hsu
  rw [← hcr'] at hcr hcu
  have hE : withE bs = if su = cr then 0 else 12 := by rw [hsu', hcr']; rfl
  have hK : withK bs = if withE bs = 0 then k0 else 0 := by rw [hk0]; rfl
  have HT := Lib.hid (And.intro hs1 (And.intro hs2 (And.intro hs3 (And.intro h8 (And.intro hcr (And.intro hE hK))))))
  clear hs1 hs2 hs3 hb1 hb2 hl1 hl2 hl3 h8 hcr hI hE hK hsu' hcr' hk0
  have C0 := Lib.hid c0
  clear c0
  have hS : (fun _ : World => True) (w.drew) := trivial
  refine reg_start (fun _ : World => True) (by kernel_rfl) hS ?_
  refine reg_take (i := 0) (v := ?_) rfl (by kernel_rfl) (by kernel_rfl) (by kernel_rfl) (fun _ _ _ h => h) (Or.inl ⟨by kernel_rfl, ?_⟩) hS ?_
  rotate_left
  · (intro w' hSw; go_simp <;> with_reducible rfl)
  try simp only [List.getElem_toArray, List.getElem_cons_succ, List.getElem_cons_zero, Act.put, List.setIfInBounds_toArray, List.set_cons_zero, List.set_cons_succ]
  refine reg_take (i := 1) (v := ?_) rfl (by kernel_rfl) (by kernel_rfl) (by kernel_rfl) (fun _ _ _ h => h) (Or.inl ⟨by kernel_rfl, ?_⟩) hS ?_
  rotate_left
  · (intro w' hSw; go_simp <;> with_reducible rfl)
  try simp only [List.getElem_toArray, List.getElem_cons_succ, List.getElem_cons_zero, Act.put, List.setIfInBounds_toArray, List.set_cons_zero, List.set_cons_succ]
  refine reg_take (i := 2) (v := ?_) rfl (by kernel_rfl) (by kernel_rfl) (by kernel_rfl) (fun _ _ _ h => h) (Or.inl ⟨by kernel_rfl, ?_⟩) hS ?_
  rotate_left
  · (intro w' hSw; go_simp <;> with_reducible rfl)
  try simp only [List.getElem_toArray, List.getElem_cons_succ, List.getElem_cons_zero, Act.put, List.setIfInBounds_toArray, List.set_cons_zero, List.set_cons_succ]
  refine reg_take (i := 5) (v := ?_) rfl (by kernel_rfl) (by kernel_rfl) (by kernel_rfl) (fun _ _ _ h => h) (Or.inl ⟨by kernel_rfl, ?_⟩) hS ?_
  rotate_left
  · (intro w' hSw; go_simp <;> with_reducible rfl)
  try simp only [List.getElem_toArray, List.getElem_cons_succ, List.getElem_cons_zero, Act.put, List.setIfInBounds_toArray, List.set_cons_zero, List.set_cons_succ]
  refine reg_take (i := 6) (v := ?_) rfl (by kernel_rfl) (by kernel_rfl) (by kernel_rfl) (fun _ _ _ h => h) (Or.inl ⟨by kernel_rfl, ?_⟩) hS ?_
  rotate_left
  · (intro w' hSw; go_simp <;> with_reducible rfl)
  try simp only [List.getElem_toArray, List.getElem_cons_succ, List.getElem_cons_zero, Act.put, List.setIfInBounds_toArray, List.set_cons_zero, List.set_cons_succ]
  refine reg_take (i := 7) (v := ?_) rfl (by kernel_rfl) (by kernel_rfl) (by kernel_rfl) (fun _ _ _ h => h) (Or.inl ⟨by kernel_rfl, ?_⟩) hS ?_
  rotate_left
  · (intro w' hSw; go_simp <;> with_reducible rfl)
  try simp only [List.getElem_toArray, List.getElem_cons_succ, List.getElem_cons_zero, Act.put, List.setIfInBounds_toArray, List.set_cons_zero, List.set_cons_succ]
  refine reg_call (i := 3) rfl (by kernel_rfl) (fun K hK => ?_)
  have HK := Lib.hid hK
  clear hK
  go_simp
  refine (little_any w.drew _ _ _ _ ((bs.take len).drop m) HS.out.2.2.2.2.2.1 (HT.out.1.keep (w' := w.drew) (fun _ _ _ => rfl)) HS.out.2.2.2.1 (by omega)).mono ?_
  rintro e w1 ⟨rfl, hk1⟩
  rw [HT.out.2.2.2.1]
  have hk1' : Keeps (fun _ => False) w w1 := ((Keeps.refl _ w).drew).trans' hk1
  have H1 := Lib.hid hk1'
  clear hk1 hk1'
  go_wp2_with fail
  refine HK.out.to (fun _ : World => True) (fun _ h => h) (trivial) ?_
  clear HK hS
  have hS : (fun _ : World => True) (w1) := trivial
  try simp only [List.getElem_toArray, List.getElem_cons_succ, List.getElem_cons_zero, Act.put, List.setIfInBounds_toArray, List.set_cons_zero, List.set_cons_succ]
  have euw : IntKind.u32.wrap (su : Int) = (su : Int) := by rw [IntKind.wrap_u32']; omega
  refine reg_take (i := 4) (v := ?_) rfl (by kernel_rfl) (by kernel_rfl) (by kernel_rfl) (fun _ _ _ h => h) (Or.inl ⟨by kernel_rfl, ?_⟩) hS ?_
  rotate_left
  · (intro w' hSw; go_simp <;> with_reducible rfl)
  try simp only [List.getElem_toArray, List.getElem_cons_succ, List.getElem_cons_zero, Act.put, List.setIfInBounds_toArray, List.set_cons_zero, List.set_cons_succ]
  clear euw
  refine reg_call (i := 8) rfl (by kernel_rfl) (fun K hK => ?_)
  have HK := Lib.hid hK
  clear hK
  go_simp
  refine (sum_any w1 _ _ _ _ ((bs.take m).drop 0) HS.out.2.2.2.2.2.2.1 (HT.out.2.1.keep (w' := w1) (fun q _ hq => H1.out.block q hq (fun h => h))) HS.out.2.2.2.2.1 (by omega)).mono ?_
  rintro e w2 ⟨rfl, rfl⟩
  rw [HT.out.2.2.2.2.1]
  go_wp2_with fail
  refine HK.out.to (fun _ : World => True) (fun _ h => h) (trivial) ?_
  clear HK hS
  have hS : (fun _ : World => True) (w1) := trivial
  try simp only [List.getElem_toArray, List.getElem_cons_succ, List.getElem_cons_zero, Act.put, List.setIfInBounds_toArray, List.set_cons_zero, List.set_cons_succ]
  refine reg_take (i := 9) (v := ?_) rfl (by kernel_rfl) (by kernel_rfl) (by kernel_rfl) (fun _ _ _ h => h) (Or.inl ⟨by kernel_rfl, ?_⟩) hS ?_
  rotate_left
  · (intro w' hSw; go_simp <;> with_reducible rfl)
  try simp only [List.getElem_toArray, List.getElem_cons_succ, List.getElem_cons_zero, Act.put, List.setIfInBounds_toArray, List.set_cons_zero, List.set_cons_succ]
  refine wpAnyH_done (by kernel_rfl) ?_ _
  try simp only [List.getElem_toArray, List.getElem_cons_succ, List.getElem_cons_zero]
  try simp only [List.getElem_toArray, List.getElem_cons_succ, List.getElem_cons_zero, Act.put, List.setIfInBounds_toArray, List.set_cons_zero, List.set_cons_succ]
  by_cases heq : su = cr
  · have hE0 : withE bs = 0 := by rw [HT.out.2.2.2.2.2.1, if_pos heq]
    have hK0 : withK bs = k0 := by rw [HT.out.2.2.2.2.2.2, hE0, if_pos rfl]
    have hI0 : withI bs = (bs.take m).drop 5 := by unfold withI; rw [hE0, if_pos rfl, HS.out.2.2.2.2.2.2.2.2.2.2.2.1]
    have HE := Lib.hid (And.intro hE0 (And.intro hK0 hI0))
    clear hE0 hK0 hI0
    subst heq
    have d1 : ((su : Int) != (su : Int)) = false := by simp
    have d2 : ((su : Int) == (su : Int)) = true := by simp
    go_wp2_with fail
    clear d1 d2
    have c1 : w1.cell? ⟨b, off, none⟩ = some (.int .u8 (k0 : Nat)) := by
      have hlt := World.block_lt_of_cell? w _ C0.out
      exact (World.cell?_of_block (w := w) (H1.out.block b hlt (fun h => h))).trans C0.out
    have hlt1 : b < w1.heap.size := World.block_lt_of_cell? w1 _ c1
    have sof : ∀ w', Keeps (fun _ => False) w1 w' → (fun w' : World => w'.cell? ⟨b, off, none⟩ = some (.int .u8 (k0 : Nat))) w' := fun w' hk => (World.cell?_of_block (w := w1) (hk.block b hlt1 (fun h => h))).trans c1
    have HSo := Lib.hid sof
    clear sof c1 hlt1
    have kd : Keeps (fun _ => False) w1 w1.drew := (Keeps.refl _ w1).drew
    have hS : (fun w' : World => w'.cell? ⟨b, off, none⟩ = some (.int .u8 (k0 : Nat))) (w1.drew) := HSo.out _ kd
    refine reg_start (fun w' : World => w'.cell? ⟨b, off, none⟩ = some (.int .u8 (k0 : Nat))) (by kernel_rfl) hS ?_
    refine reg_take (i := 0) (v := ?_) rfl (by kernel_rfl) (by kernel_rfl) (by kernel_rfl) (fun _ _ _ h => h) (Or.inl ⟨by kernel_rfl, ?_⟩) hS ?_
    rotate_left
    · (intro w' hSw; go_simp <;> with_reducible rfl)
    try simp only [List.getElem_toArray, List.getElem_cons_succ, List.getElem_cons_zero, Act.put, List.setIfInBounds_toArray, List.set_cons_zero, List.set_cons_succ]
    refine reg_take (i := 1) (v := ?_) rfl (by kernel_rfl) (by kernel_rfl) (by kernel_rfl) (fun _ _ _ h => h) (Or.inl ⟨by kernel_rfl, ?_⟩) hS ?_
    rotate_left
    · (intro w' hSw; go_simp <;> with_reducible rfl)
    try simp only [List.getElem_toArray, List.getElem_cons_succ, List.getElem_cons_zero, Act.put, List.setIfInBounds_toArray, List.set_cons_zero, List.set_cons_succ]
    refine reg_take (i := 2) (v := ?_) rfl (by kernel_rfl) (by kernel_rfl) (by kernel_rfl) (fun _ _ _ h => h) (Or.inl ⟨by kernel_rfl, ?_⟩) hS ?_
    rotate_left
    · (intro w' hSw; go_simp <;> with_reducible rfl)
    try simp only [List.getElem_toArray, List.getElem_cons_succ, List.getElem_cons_zero, Act.put, List.setIfInBounds_toArray, List.set_cons_zero, List.set_cons_succ]
    refine reg_take (i := 4) (v := ?_) rfl (by kernel_rfl) (by kernel_rfl) (by kernel_rfl) (fun _ _ _ h => h) (Or.inl ⟨by kernel_rfl, ?_⟩) hS ?_
    rotate_left
    · (intro w' hSw; go_simp <;> with_reducible rfl)
    try simp only [List.getElem_toArray, List.getElem_cons_succ, List.getElem_cons_zero, Act.put, List.setIfInBounds_toArray, List.set_cons_zero, List.set_cons_succ]
    refine reg_take (i := 5) (v := ?_) rfl (by kernel_rfl) (by kernel_rfl) (by kernel_rfl) (fun _ _ _ h => h) (Or.inl ⟨by kernel_rfl, ?_⟩) hS ?_
    rotate_left
    · (intro w' hSw; go_simp <;> with_reducible rfl)
    try simp only [List.getElem_toArray, List.getElem_cons_succ, List.getElem_cons_zero, Act.put, List.setIfInBounds_toArray, List.set_cons_zero, List.set_cons_succ]
    refine reg_take (i := 6) (v := ?_) rfl (by kernel_rfl) (by kernel_rfl) (by kernel_rfl) (fun _ _ _ h => h) (Or.inl ⟨by kernel_rfl, ?_⟩) hS ?_
    rotate_left
    · (intro w' hSw; go_simp <;> with_reducible rfl)
    try simp only [List.getElem_toArray, List.getElem_cons_succ, List.getElem_cons_zero, Act.put, List.setIfInBounds_toArray, List.set_cons_zero, List.set_cons_succ]
    refine reg_call (i := 3) rfl (by kernel_rfl) (fun K hK => ?_)
    have HK := Lib.hid hK
    clear hK
    go_simp
    go_wp2_with fail
    refine HK.out.to (fun w' : World => w'.cell? ⟨b, off, none⟩ = some (.int .u8 (k0 : Nat))) (fun _ h => h) (HSo.out _ (kd.alloc (.cells #[] 5))) ?_
    clear HK hS
    have hS : (fun w' : World => w'.cell? ⟨b, off, none⟩ = some (.int .u8 (k0 : Nat))) (w1.drew.alloc (.cells #[] 5)) := HSo.out _ (kd.alloc (.cells #[] 5))
    try simp only [List.getElem_toArray, List.getElem_cons_succ, List.getElem_cons_zero, Act.put, List.setIfInBounds_toArray, List.set_cons_zero, List.set_cons_succ]
    refine reg_call (i := 7) rfl (by kernel_rfl) (fun K hK => ?_)
    have HK := Lib.hid hK
    clear hK
    refine step_append_sl (f := byteC ((bs.take m).drop 5)) (D := D) (base := w.heap.size) (n := 0) (xs := []) byteElem rfl (.tmp 22) (.tmp 25) rfl rfl rfl ?hown ?hsl ?h1 ?h63 ?hby ?hbase ?_
    case hown => exact own_lit0 w1.drew w.heap.size 5 H1.out.size
    case hsl => exact HT.out.2.2.1.keep (w' := w1.drew.alloc (.cells #[] 5)) (fun q _ hq => ((H1.out.drew).alloc (.cells #[] 5)).block q hq (fun h => h))
    case h1 => intro j _; rfl
    case h63 => unfold maxLen; omega
    case hby => omega
    case hbase => have := H1.out.size; simp; omega
    intro v3 w3 ho3 hg3 hx3
    clear hx3
    have hkk : Keeps (fun _ => False) w1 w3 := keeps_grown (w0 := w1) (kd.alloc (.cells #[] 5)) (own_lit0 w1.drew w1.heap.size 5 (Nat.le_refl _)) hg3
    have hkw : Keeps (fun _ => False) w w3 := H1.out.trans' hkk
    have e3 : [] ++ (List.range (0 + (m - 5))).map (byteC ((bs.take m).drop 5)) = (withI bs).map byteV := by
      rw [HE.out.2.2, Nat.zero_add, range_bytes HS.out.2.2.2.2.2.2.2.1]; rfl
    have hlI : 0 + (m - 5) = (withI bs).length := by rw [HE.out.2.2, HS.out.2.2.2.2.2.2.2.1]; omega
    rw [Nat.zero_add] at e3
    rw [e3, hlI] at ho3
    obtain ⟨A3, c3, hv3, -, -⟩ := own_form ho3
    subst hv3
    have H3 := Lib.hid (And.intro ho3 (And.intro hkk hkw))
    clear ho3 hg3 hkk hkw e3 hlI
    refine HK.out.to (fun w' : World => w'.cell? ⟨b, off, none⟩ = some (.int .u8 (k0 : Nat))) (fun _ h => h) (HSo.out _ H3.out.2.1) ?_
    clear HK hS
    have hS : (fun w' : World => w'.cell? ⟨b, off, none⟩ = some (.int .u8 (k0 : Nat))) (w3) := HSo.out _ H3.out.2.1
    try simp only [List.getElem_toArray, List.getElem_cons_succ, List.getElem_cons_zero, Act.put, List.setIfInBounds_toArray, List.set_cons_zero, List.set_cons_succ]
    refine reg_take (i := 8) (v := ?_) rfl (by kernel_rfl) (by kernel_rfl) (by kernel_rfl) (fun _ _ _ h => h) (Or.inl ⟨by kernel_rfl, ?_⟩) hS ?_
    rotate_left
    · (intro w' hSw; go_simp <;> with_reducible rfl)
    try simp only [List.getElem_toArray, List.getElem_cons_succ, List.getElem_cons_zero, Act.put, List.setIfInBounds_toArray, List.set_cons_zero, List.set_cons_succ]
    refine reg_take (i := 9) (v := ?_) rfl (by kernel_rfl) (by kernel_rfl) (by kernel_rfl) (fun _ _ _ h => h) (Or.inl ⟨by kernel_rfl, ?_⟩) hS ?_
    rotate_left
    · (intro w' hSw; go_simp <;> with_reducible rfl)
    try simp only [List.getElem_toArray, List.getElem_cons_succ, List.getElem_cons_zero, Act.put, List.setIfInBounds_toArray, List.set_cons_zero, List.set_cons_succ]
    refine reg_take (i := 10) (v := ?_) rfl (by kernel_rfl) (by kernel_rfl) (by kernel_rfl) (fun _ _ _ h => h) (Or.inl ⟨by kernel_rfl, ?_⟩) hS ?_
    rotate_left
    · (intro w' hSw; go_simp <;> with_reducible rfl)
    try simp only [List.getElem_toArray, List.getElem_cons_succ, List.getElem_cons_zero, Act.put, List.setIfInBounds_toArray, List.set_cons_zero, List.set_cons_succ]
    refine wpAnyH_done (by kernel_rfl) ?_ _
    try simp only [List.getElem_toArray, List.getElem_cons_succ, List.getElem_cons_zero]
    try simp only [List.getElem_toArray, List.getElem_cons_succ, List.getElem_cons_zero, Act.put, List.setIfInBounds_toArray, List.set_cons_zero, List.set_cons_succ]
    go_wp2_with fail
    go_ret3
    refine ⟨A3, c3, ?_, H3.out.1, H3.out.2.2⟩
    rw [HE.out.1, HE.out.2.1]
    rfl
  · have hE0 : withE bs = 12 := by rw [HT.out.2.2.2.2.2.1, if_neg heq]
    have hfin : WithPost w (withK bs) (withI bs) (withE bs) (.returned (.tuple #[.int .u8 0, .slice none 0 0, .int .i64 12])) w1 := by
      unfold withK withI
      rw [hE0, if_neg (by omega), if_neg (by omega)]
      exact ⟨none, 0, rfl, ⟨rfl, .inl ⟨rfl, rfl⟩⟩, H1.out⟩
    have HF := Lib.hid hfin
    have d1 : ((su : Int) != (cr : Int)) = true := by simp; omega
    have d2 : ((su : Int) == (cr : Int)) = false := by simp; omega
    clear hE0 hfin heq
    go_wp2_with fail
    go_ret3
    exact HF.out
end Go.Proofs.YtopbbicjbjmdnaaGreatDoor.F
namespace Go.Proofs.YtopbbicjbjmdnaaGreatDoor.F
open Go.RowKit
set_option linter.unusedVariables false
set_option linter.unusedSimpArgs false
def openE (bs : List Nat) : Int := if lenE bs = 0 then (if lenV bs = bs.length then withE bs else 11) else lenE bs
def openK (bs : List Nat) : Nat := if openE bs = 0 then withK bs else 0
def openI (bs : List Nat) : List Nat := if openE bs = 0 then withI bs else []
def readE (bs : List Nat) : Int := if lenE bs = 0 then withE (bs.take (lenV bs)) else lenE bs
def readN (bs : List Nat) : Nat := if readE bs = 0 then lenV bs else 0
def readK (bs : List Nat) : Nat := if readE bs = 0 then withK (bs.take (lenV bs)) else 0
def readI (bs : List Nat) : List Nat := if readE bs = 0 then withI (bs.take (lenV bs)) else []
def ReadPost (w : World) (k : Nat) (l : List Nat) (n : Nat) (er : Int) (e : Ending) (w' : World) : Prop :=
  ∃ A c, e = .returned (.tuple #[.int .u8 (k : Nat), .slice A l.length c, .int .i64 (n : Nat), .int .i64 er]) ∧ w'.ownsRow w.heap.size 5 1 (.slice A l.length c) l.length (l.map byteV) ∧ Keeps (fun _ => False) w w'
theorem lenE_zero {bs : List Nat} (h : lenE bs = 0) : lenV bs = frameN bs + 9 ∧ frameN bs ≤ 1048576 ∧ frameN bs + 9 ≤ bs.length := by
  unfold lenV
  rw [if_pos h]
  unfold lenE at h
  split at h
  · omega
  · split at h
    · omega
    · split at h
      · omega
      · omega
theorem withE_val (bs : List Nat) : withE bs = 0 ∨ withE bs = 12 := by unfold withE; split; exact .inl rfl; exact .inr rfl
theorem with_err {bs : List Nat} (h : withE bs ≠ 0) : withK bs = 0 ∧ withI bs = [] := by unfold withK withI; rw [if_neg h, if_neg h]; exact ⟨rfl, rfl⟩
set_option maxRecDepth 100000 in
set_option maxHeartbeats 1600000 in
theorem open_any (w : World) (A : Option Addr) (len c : Nat) (D : Nat → Prop) (bs : List Nat) (hl : bs.length = len) (hsl : Sl w D A len (byteC bs)) (hb : ∀ j, bs.getD j 0 < 256) (hlen : len ≤ 2097152) (hlc : len ≤ c) :
    Calls Tryz.prog 42 #[.slice A len c] w (WithPost w (openK bs) (openI bs) (openE bs)) := by
  have HS := Lib.hid (And.intro hl (And.intro hsl hb))
  clear hl hsl hb
  go_enter Tryz.func42, Tryz.ntmps42
  go_wp2_with fail
  refine (long_any _ _ _ _ _ bs HS.out.1 HS.out.2.1 HS.out.2.2 hlen hlc).mono ?_
  rintro e w1 ⟨rfl, hk1⟩
  by_cases hE : lenE bs = 0
  · obtain ⟨g1, g2, g3⟩ := lenE_zero hE
    rw [hE, g1]
    obtain ⟨n, hn⟩ : ∃ n, n = frameN bs + 9 := ⟨_, rfl⟩
    rw [← hn] at g1 g3
    rw [← hn]
    have hn9 : 9 ≤ n := by omega
    have hnl : n ≤ len := by have := HS.out.1; omega
    by_cases heq : n = len
    · have hoE : openE bs = withE bs := by unfold openE; rw [if_pos hE, g1, HS.out.1, if_pos heq]
      have hoK : openK bs = withK bs := by
        unfold openK
        rw [hoE]
        by_cases h0 : withE bs = 0
        · rw [if_pos h0]
        · rw [if_neg h0, (with_err h0).1]
      have hoI : openI bs = withI bs := by
        unfold openI
        rw [hoE]
        by_cases h0 : withE bs = 0
        · rw [if_pos h0]
        · rw [if_neg h0, (with_err h0).2]
      have HO := Lib.hid (And.intro hoE (And.intro hoK hoI))
      have H1 := Lib.hid hk1
      clear hoE hoK hoI hk1 hE g1 g2 g3 hn
      subst heq
      have d : ((n : Int) != (n : Int)) = false := by simp
      go_wp2_with fail
      clear d
      refine (within_any _ _ _ _ _ bs HS.out.1 (HS.out.2.1.keep (w' := w1) (fun q _ hq => H1.out.block q hq (fun h => h))) HS.out.2.2 hn9 hlen hlc).mono ?_
      rintro e w2 ⟨A2, c2, rfl, ho2, hk2⟩
      have hfin : WithPost w (openK bs) (openI bs) (openE bs) (.returned (.tuple #[.int .u8 (withK bs : Nat), .slice A2 (withI bs).length c2, .int .i64 (withE bs)])) w2 := by
        rw [HO.out.1, HO.out.2.1, HO.out.2.2]
        exact ⟨A2, c2, rfl, own_base ho2 H1.out.size, H1.out.trans' hk2⟩
      have HF := Lib.hid hfin
      clear ho2 hk2 hfin
      go_wp2_with fail
      go_ret3
      exact HF.out
    · have hoE : openE bs = 11 := by unfold openE; rw [if_pos hE, g1, HS.out.1, if_neg heq]
      have hfin : WithPost w (openK bs) (openI bs) (openE bs) (.returned (.tuple #[.int .u8 0, .slice none 0 0, .int .i64 11])) w1 := by
        unfold openK openI
        rw [hoE, if_neg (by omega), if_neg (by omega)]
        exact ⟨none, 0, rfl, ⟨rfl, .inl ⟨rfl, rfl⟩⟩, hk1⟩
      have HF := Lib.hid hfin
      clear hfin hoE hk1 hE g1 g2 g3 hn
      have d : ((n : Int) != (len : Int)) = true := by simp; omega
      go_wp2_with fail
      go_ret3
      exact HF.out
  · have hoE : openE bs = lenE bs := by unfold openE; rw [if_neg hE]
    have hfin : WithPost w (openK bs) (openI bs) (openE bs) (.returned (.tuple #[.int .u8 0, .slice none 0 0, .int .i64 (lenE bs)])) w1 := by
      unfold openK openI
      rw [hoE, if_neg hE, if_neg hE]
      exact ⟨none, 0, rfl, ⟨rfl, .inl ⟨rfl, rfl⟩⟩, hk1⟩
    have HF := Lib.hid hfin
    have d1 : (lenE bs != 0) = true := by simp [hE]
    have d2 : (lenE bs == 0) = false := by simp [hE]
    obtain ⟨er, her⟩ : ∃ er, er = lenE bs := ⟨_, rfl⟩
    rw [← her] at d1 d2 HF
    rw [← her]
    clear hfin hoE hk1 hE her
    go_wp2_with fail
    go_ret3
    exact HF.out
end Go.Proofs.YtopbbicjbjmdnaaGreatDoor.F
namespace Go.Proofs.YtopbbicjbjmdnaaGreatDoor.F
theorem take_body (kind : Nat) (bs more : List Nat) : (sealL kind bs ++ more).take 5 = kind :: fourL bs.length := by
  unfold sealL bodyL fourL
  simp
theorem frameN_seal (kind : Nat) (bs more : List Nat) (h : bs.length < 4294967296) : frameN (sealL kind bs ++ more) = bs.length := by
  unfold frameN
  rw [take_body]
  exact le_four _ h
theorem lenE_seal (kind : Nat) (bs more : List Nat) (h : bs.length ≤ 1048576) : lenE (sealL kind bs ++ more) = 0 ∧ lenV (sealL kind bs ++ more) = bs.length + 9 := by
  have hn := frameN_seal kind bs more (by omega)
  have hl : (sealL kind bs ++ more).length = bs.length + 9 + more.length := by rw [List.length_append, sealL_length]
  have h1 : lenE (sealL kind bs ++ more) = 0 := by
    unfold lenE
    rw [hn, hl, if_neg (by omega), if_neg (by omega), if_neg (by omega)]
  refine ⟨h1, ?_⟩
  unfold lenV
  rw [if_pos h1, hn]
theorem seal_take (kind : Nat) (bs : List Nat) : (sealL kind bs).take ((sealL kind bs).length - 4) = bodyL kind bs := by
  have : (sealL kind bs).length - 4 = (bodyL kind bs).length := by rw [sealL_length, bodyL_length]; omega
  rw [this]
  unfold sealL
  exact List.take_left
theorem seal_drop (kind : Nat) (bs : List Nat) : (sealL kind bs).drop ((sealL kind bs).length - 4) = fourL (crcS (bodyL kind bs)) := by
  have : (sealL kind bs).length - 4 = (bodyL kind bs).length := by rw [sealL_length, bodyL_length]; omega
  rw [this]
  unfold sealL
  exact List.drop_left
theorem with_seal {kind : Nat} {bs : List Nat} (hk : kind < 256) (hb : ∀ j, bs.getD j 0 < 256) : withE (sealL kind bs) = 0 ∧ withK (sealL kind bs) = kind ∧ withI (sealL kind bs) = bs := by
  have h1 : withE (sealL kind bs) = 0 := by
    unfold withE sumOf
    rw [List.take_length, seal_drop, seal_take, le_four _ (crcS_lt (bodyL_byte hk hb)), if_pos rfl]
  refine ⟨h1, ?_, ?_⟩
  · unfold withK
    rw [if_pos h1]
    rfl
  · unfold withI
    rw [if_pos h1, seal_take]
    rfl
theorem open_seal {kind : Nat} {bs : List Nat} (hk : kind < 256) (hb : ∀ j, bs.getD j 0 < 256) (h : bs.length ≤ 1048576) : openE (sealL kind bs) = 0 ∧ openK (sealL kind bs) = kind ∧ openI (sealL kind bs) = bs := by
  obtain ⟨g1, g2⟩ := lenE_seal kind bs [] h
  rw [List.append_nil] at g1 g2
  obtain ⟨w1, w2, w3⟩ := with_seal hk hb
  have h1 : openE (sealL kind bs) = 0 := by
    unfold openE
    rw [if_pos g1, g2, sealL_length, if_pos rfl, w1]
  refine ⟨h1, ?_, ?_⟩
  · unfold openK; rw [if_pos h1, w2]
  · unfold openI; rw [if_pos h1, w3]
theorem read_seal {kind : Nat} {bs : List Nat} (more : List Nat) (hk : kind < 256) (hb : ∀ j, bs.getD j 0 < 256) (h : bs.length ≤ 1048576) :
    readE (sealL kind bs ++ more) = 0 ∧ readK (sealL kind bs ++ more) = kind ∧ readI (sealL kind bs ++ more) = bs ∧ readN (sealL kind bs ++ more) = bs.length + 9 := by
  obtain ⟨g1, g2⟩ := lenE_seal kind bs more h
  obtain ⟨w1, w2, w3⟩ := with_seal hk hb
  have ht : (sealL kind bs ++ more).take (bs.length + 9) = sealL kind bs := by
    rw [← sealL_length kind bs]
    exact List.take_left
  have h1 : readE (sealL kind bs ++ more) = 0 := by
    unfold readE
    rw [if_pos g1, g2, ht, w1]
  refine ⟨h1, ?_, ?_, ?_⟩
  · unfold readK; rw [if_pos h1, g2, ht, w2]
  · unfold readI; rw [if_pos h1, g2, ht, w3]
  · unfold readN; rw [if_pos h1, g2]
theorem open_err {bs : List Nat} (h : openE bs ≠ 0) : openK bs = 0 ∧ openI bs = [] := by unfold openK openI; rw [if_neg h, if_neg h]; exact ⟨rfl, rfl⟩
theorem open_short (kind : Nat) (bs : List Nat) (h : bs.length ≤ 1048576) : openE ((sealL kind bs).take ((sealL kind bs).length - 1)) = 10 := by
  have hl : ((sealL kind bs).take ((sealL kind bs).length - 1)).length = bs.length + 8 := by rw [List.length_take, sealL_length]; omega
  have hE : lenE ((sealL kind bs).take ((sealL kind bs).length - 1)) = 10 := by
    unfold lenE
    rw [hl]
    by_cases h9 : bs.length + 8 < 9
    · rw [if_pos h9]
    · have hn : frameN ((sealL kind bs).take ((sealL kind bs).length - 1)) = bs.length := by
        unfold frameN
        rw [List.take_take, show min 5 ((sealL kind bs).length - 1) = 5 by rw [sealL_length]; omega]
        have := take_body kind bs []
        rw [List.append_nil] at this
        rw [this]
        exact le_four _ (by omega)
      rw [if_neg h9, hn, if_neg (by omega), if_pos (by omega)]
  unfold openE
  rw [hE, if_neg (by omega)]
theorem open_more (kind : Nat) (bs : List Nat) (h : bs.length ≤ 1048576) : openE (sealL kind bs ++ [0]) = 11 := by
  obtain ⟨g1, g2⟩ := lenE_seal kind bs [0] h
  unfold openE
  rw [if_pos g1, g2, List.length_append, sealL_length, if_neg (by simp)]
/-- A frame that opens is whole: its sum is its bytes' sum. -/
theorem open_ok {bs : List Nat} (h : openE bs = 0) : 9 ≤ bs.length ∧ le (bs.drop (bs.length - 4)) = crcS (bs.take (bs.length - 4)) := by
  unfold openE at h
  by_cases h1 : lenE bs = 0
  · rw [if_pos h1] at h
    obtain ⟨g1, g2, g3⟩ := lenE_zero h1
    by_cases h2 : lenV bs = bs.length
    · rw [if_pos h2] at h
      refine ⟨by omega, ?_⟩
      unfold withE sumOf at h
      rw [List.take_length] at h
      split at h
      · assumption
      · omega
    · rw [if_neg h2] at h; omega
  · rw [if_neg h1] at h; exact absurd h h1
theorem le_split {bs : List Nat} (hb : ∀ b ∈ bs, b < 256) (m : Nat) (hm : m ≤ bs.length) : le bs = 2 ^ (8 * m) * le (bs.drop m) ^^^ le (bs.take m) := by
  have h1 := le_append (bs.take m) (bs.drop m)
  rw [List.take_append_drop, List.length_take, Nat.min_eq_left hm] at h1
  have h2 : le (bs.take m) < 2 ^ (8 * m) := by
    have := le_lt (l := bs.take m) (fun b hb' => hb b (List.mem_of_mem_take hb'))
    rw [List.length_take, Nat.min_eq_left hm] at this
    exact this
  rw [join_xor _ _ _ h2, h1]
  omega
/-- Two frames of one length that open differ by no burst of at most 32 bits. -/
theorem burst_open {a b : List Nat} {at_ by_ : Nat} (ha : ∀ x ∈ a, x < 256) (hb : ∀ x ∈ b, x < 256) (hl : a.length = b.length) (h : le b = le a ^^^ by_ * 2 ^ at_) (hby : by_ < 4294967296) (oa : openE a = 0) (ob : openE b = 0) : by_ = 0 := by
  obtain ⟨l1, s1⟩ := open_ok oa
  obtain ⟨l2, s2⟩ := open_ok ob
  obtain ⟨m, hm⟩ : ∃ m, m = a.length - 4 := ⟨_, rfl⟩
  rw [← hm] at s1
  rw [← hl, ← hm] at s2
  have e1 := le_split ha m (by omega)
  have e2 := le_split hb m (by omega)
  unfold crcS at s1 s2
  rw [crcL_le (fun x hx => ha x (List.mem_of_mem_take hx)), List.length_take, Nat.min_eq_left (by omega)] at s1
  rw [crcL_le (fun x hx => hb x (List.mem_of_mem_take hx)), List.length_take, Nat.min_eq_left (by omega)] at s2
  rw [e1, e2] at h
  exact burst (8 * m) at_ by_ hby (crc_diff h s2.symm s1.symm)
theorem le_set {bs : List Nat} (hb : ∀ b ∈ bs, b < 256) (i r : Nat) (hi : i < bs.length) (hr : r < 8) : le (bs.set i (bs.getD i 0 ^^^ 2 ^ r)) = le bs ^^^ 2 ^ (8 * i + r) := by
  induction bs generalizing i with
  | nil => simp at hi
  | cons x l ih =>
    have hx := hb x (by simp)
    have hl : ∀ b ∈ l, b < 256 := fun b hm => hb b (by simp [hm])
    have h28 : (2 : Nat) ^ r ≤ 2 ^ 7 := Nat.pow_le_pow_right (by omega) (by omega)
    cases i with
    | zero =>
      show (x ^^^ 2 ^ r) + 256 * le l = (x + 256 * le l) ^^^ 2 ^ (8 * 0 + r)
      have e1 : x + 256 * le l = 2 ^ 8 * le l ^^^ x := by rw [join_xor 8 _ _ (by omega)]; omega
      have hxr : x ^^^ 2 ^ r < 2 ^ 8 := Nat.xor_lt_two_pow (by omega) (by omega)
      have e2 : (x ^^^ 2 ^ r) + 256 * le l = 2 ^ 8 * le l ^^^ (x ^^^ 2 ^ r) := by rw [join_xor 8 _ _ hxr]; omega
      rw [e1, e2, Nat.xor_assoc, show 8 * 0 + r = r by omega]
    | succ i =>
      have hi' : i < l.length := by simpa using hi
      have h := ih hl i hi'
      show x + 256 * le (l.set i (l.getD i 0 ^^^ 2 ^ r)) = (x + 256 * le l) ^^^ 2 ^ (8 * (i + 1) + r)
      rw [h]
      have e1 : x + 256 * le l = 2 ^ 8 * le l ^^^ x := by rw [join_xor 8 _ _ (by omega)]; omega
      have e2 : x + 256 * (le l ^^^ 2 ^ (8 * i + r)) = 2 ^ 8 * (le l ^^^ 2 ^ (8 * i + r)) ^^^ x := by rw [join_xor 8 _ _ (by omega)]; omega
      have e3 : 2 ^ 8 * (le l ^^^ 2 ^ (8 * i + r)) = 2 ^ 8 * le l ^^^ 2 ^ (8 * (i + 1) + r) := by
        have := Nat.shiftLeft_xor_distrib (a := le l) (b := 2 ^ (8 * i + r)) (i := 8)
        simp only [Nat.shiftLeft_eq] at this
        rw [Nat.mul_comm, this, Nat.mul_comm (le l), ← Nat.pow_add, show 8 * i + r + 8 = 8 * (i + 1) + r by omega]
      rw [e1, e2, e3, Nat.xor_assoc, Nat.xor_assoc, Nat.xor_comm x]
theorem set_byte {bs : List Nat} (hb : ∀ b ∈ bs, b < 256) (i r : Nat) (hr : r < 8) : ∀ b ∈ bs.set i (bs.getD i 0 ^^^ 2 ^ r), b < 256 := by
  intro b hm
  rcases List.mem_or_eq_of_mem_set hm with h | h
  · exact hb b h
  · subst h
    have h28 : (2 : Nat) ^ r ≤ 2 ^ 7 := Nat.pow_le_pow_right (by omega) (by omega)
    exact Nat.xor_lt_two_pow (n := 8) (getD_of_mem hb i) (by omega)
end Go.Proofs.YtopbbicjbjmdnaaGreatDoor.F
namespace Go.Proofs.YtopbbicjbjmdnaaGreatDoor.F
theorem four_of : ∀ {l : List Nat}, l.length = 4 → (∀ b ∈ l, b < 256) → fourL (le l) = l
  | [a, b, c, d], _, hb => by
    have h1 := hb a (by simp)
    have h2 := hb b (by simp)
    have h3 := hb c (by simp)
    have h4 := hb d (by simp)
    show [(a + 256 * (b + 256 * (c + 256 * (d + 256 * 0)))) % 256, (a + 256 * (b + 256 * (c + 256 * (d + 256 * 0)))) / 256 % 256, (a + 256 * (b + 256 * (c + 256 * (d + 256 * 0)))) / 65536 % 256, (a + 256 * (b + 256 * (c + 256 * (d + 256 * 0)))) / 16777216 % 256] = [a, b, c, d]
    congr 1
    · omega
    · congr 1
      · omega
      · congr 1
        · omega
        · congr 1
          omega
theorem seal_of_open {b : List Nat} (hb : ∀ x ∈ b, x < 256) (h : openE b = 0) : b = sealL (openK b) (openI b) ∧ (openI b).length + 9 = b.length ∧ openK b < 256 := by
  have hok := open_ok h
  have hk : openK b = withK b := by unfold openK; rw [if_pos h]
  have hi : openI b = withI b := by unfold openI; rw [if_pos h]
  have hE := h
  unfold openE at hE
  by_cases h1 : lenE b = 0
  · rw [if_pos h1] at hE
    obtain ⟨g1, g2, g3⟩ := lenE_zero h1
    by_cases h2 : lenV b = b.length
    · rw [if_pos h2] at hE
      rw [hk, hi]
      unfold withK withI
      rw [if_pos hE, if_pos hE]
      obtain ⟨m, hm⟩ : ∃ m, m = b.length - 4 := ⟨_, rfl⟩
      have hm5 : 5 ≤ m := by omega
      rw [← hm] at hok ⊢
      obtain ⟨k, t, rfl⟩ : ∃ k t, b = k :: t := by
        cases b with
        | nil => simp at hok
        | cons k t => exact ⟨k, t, rfl⟩
      have e1 : (k :: t).drop m = fourL (crcS ((k :: t).take m)) := by
        rw [← hok.2, four_of (by rw [List.length_drop]; omega) (fun x hx => hb x (List.mem_of_mem_drop hx))]
      have hI : (((k :: t).take m).drop 5).length = (k :: t).length - 9 := by rw [List.length_drop, List.length_take]; omega
      have hF : frameN (k :: t) = (k :: t).length - 9 := by omega
      have e2 : (((k :: t).take 5).drop 1) = fourL (frameN (k :: t)) := by
        unfold frameN
        rw [four_of (by rw [List.length_drop, List.length_take]; omega) (fun x hx => hb x (List.mem_of_mem_take (List.mem_of_mem_drop hx)))]
      have e3 : (k :: t).take m = bodyL ((k :: t).getD 0 0) (((k :: t).take m).drop 5) := by
        unfold bodyL
        rw [hI, ← hF, ← e2]
        have e4 : (k :: t).take m = ((k :: t).take m).take 5 ++ ((k :: t).take m).drop 5 := (List.take_append_drop 5 _).symm
        have e5 : ((k :: t).take m).take 5 = (k :: t).take 5 := by rw [List.take_take, Nat.min_eq_left hm5]
        rw [e5] at e4
        exact e4
      refine ⟨?_, by rw [hI]; omega, hb k (by simp)⟩
      unfold sealL
      rw [← e3, ← e1, List.take_append_drop]
    · rw [if_neg h2] at hE; omega
  · rw [if_neg h1] at hE; exact absurd hE h1
end Go.Proofs.YtopbbicjbjmdnaaGreatDoor.F
namespace Go.Proofs.YtopbbicjbjmdnaaGreatDoor.D
set_option maxRecDepth 100000
open Go.RowKit
set_option linter.unusedVariables false
set_option linter.unusedSimpArgs false
/-- A sum modulo 2^64. -/
def add64 (a b : Int) : Int := (a + b + 9223372036854775808) % 18446744073709551616 - 9223372036854775808
theorem add64_range (a b : Int) : -9223372036854775808 ≤ add64 a b ∧ add64 a b ≤ 9223372036854775807 := by unfold add64; omega
theorem sub_add (a s : Int) (h0 : -9223372036854775808 ≤ s) (h1 : s ≤ 9223372036854775807) : sub64 (add64 a s) a = s := by unfold sub64 add64; omega
theorem sub_zero64 (s : Int) (h0 : -9223372036854775808 ≤ s) (h1 : s ≤ 9223372036854775807) : sub64 s 0 = s := by unfold sub64; omega
theorem sub_self64 (s : Int) : sub64 s s = 0 := by unfold sub64; omega
theorem add_walk (a s : Int) (a0 : -9223372036854775808 ≤ a) (a1 : a ≤ 9223372036854775807) (h0 : -9223372036854775808 ≤ s) (h1 : s ≤ 9223372036854775807) : wrap64 (IntKind.u64.wrap (IntKind.u64.wrap a + IntKind.u64.wrap s)) = add64 a s := by
  unfold add64 wrap64
  simp only [IntKind.wrap_u64]
  omega
/-- Times of one step each. -/
def tick (a s : Int) : Nat → Int
  | 0 => a
  | k + 1 => add64 (tick a s k) s
theorem tick_range (a s : Int) (a0 : -9223372036854775808 ≤ a) (a1 : a ≤ 9223372036854775807) (k : Nat) : -9223372036854775808 ≤ tick a s k ∧ tick a s k ≤ 9223372036854775807 := by
  cases k with
  | zero => exact ⟨a0, a1⟩
  | succ k => exact add64_range _ _
theorem tick_len (a s : Int) (h0 : -9223372036854775808 ≤ s) (h1 : s ≤ 9223372036854775807) (n : Nat) : (encTo (tick a s) (n + 2)).length = 64 + (ah (cls (zig s)) + wd (cls (zig s))) + n := by
  induction n with
  | zero =>
    unfold encTo
    rw [List.length_append, dbits_length]
    have e : sub64 (sub64 (tick a s 1) (tick a s 0)) (st (tick a s) 1) = s := by
      show sub64 (sub64 (add64 (tick a s 0) s) (tick a s 0)) 0 = s
      rw [sub_add _ _ h0 h1, sub_zero64 s h0 h1]
    rw [e]
    show (bitsTo (u64 (tick a s 0)) 64 64).length + _ = _
    rw [bitsTo_length]
    omega
  | succ n ih =>
    have e : sub64 (sub64 (tick a s (n + 2)) (tick a s (n + 1))) (st (tick a s) (n + 2)) = 0 := by
      show sub64 (sub64 (add64 (tick a s (n + 1)) s) (tick a s (n + 1))) (sub64 (add64 (tick a s n) s) (tick a s n)) = 0
      rw [sub_add _ _ h0 h1, sub_add _ _ h0 h1, sub_self64]
    show (encTo (tick a s) (n + 2) ++ dbits (zig (sub64 (sub64 (tick a s (n + 2)) (tick a s (n + 1))) (st (tick a s) (n + 2))))).length = _
    rw [List.length_append, ih, e, dbits_length]
    have : ah (cls (zig 0)) + wd (cls (zig 0)) = 1 := by decide
    omega
theorem sl_of_row {w : World} {base c n : Nat} {A : Option Addr} {f : Nat → Int} (ho : w.ownsRow base 3 1 (.slice A n c) n ((List.range n).map fun j => Value.int .i64 (f j))) : Sl w (fun k => (Value.slice A n c).ownBlock = some k) A n (fun j => .int .i64 (f j)) := by
  refine Sl.of_own ho ?_
  intro j u hu
  rw [List.getElem?_map] at hu
  rcases Nat.lt_or_ge j n with hj | hj
  · rw [List.getElem?_range hj] at hu
    simpa using hu.symm
  · rw [List.getElem?_eq_none (by simpa using hj)] at hu
    cases hu
end Go.Proofs.YtopbbicjbjmdnaaGreatDoor.D
namespace Go.Proofs.YtopbbicjbjmdnaaGreatDoor.D
set_option maxRecDepth 100000
open Go.RowKit
set_option linter.unusedVariables false
set_option linter.unusedSimpArgs false
theorem ret2_int {k l : IntKind} {a b c d : Int} (h : a = b) (h' : c = d) : Ending.returned (.tuple #[.int k a, .int l c]) = .returned (.tuple #[.int k b, .int l d]) := by rw [h, h']
theorem dbits_ref (z : Nat) : dbits z = List.replicate (cls z) 1 ++ (if cls z < 4 then [0] else []) ++ bitsTo z (wd (cls z)) (wd (cls z)) := by
  unfold dbits
  congr 1
  have hk := cls_le z
  generalize cls z = k at *
  rcases (show k = 0 ∨ k = 1 ∨ k = 2 ∨ k = 3 ∨ k = 4 by omega) with rfl | rfl | rfl | rfl | rfl <;> decide
end Go.Proofs.YtopbbicjbjmdnaaGreatDoor.D
