/-
  The walk of the law BitsNobody: writers and readers that no call made.
-/
import Derived.Test.YtgphdigcilbnlaaBitsBy
namespace Go.Proofs.Ytgphdigcilbnlaa
open Go.RowKit
theorem fresh2 (w : World) (o : Obj) (t : TypeId) (cs : Array Value) : Blk ((w.alloc o).alloc (.cells cs t)) (w.heap.size + 1) t cs := by
  have := Blk.fresh (w.alloc o) t cs
  rwa [show (w.alloc o).heap.size = w.heap.size + 1 from by simp] at this
/-- nil, or a plain Writer{}. -/
def NoWr (w : World) (p : Option Addr) : Prop := p = none ∨ ∃ a, p = some ⟨a, 0, none⟩ ∧ Blk w a 54 #[.nilFunc, .slice none 0 0, .int .i64 0]
def NoRd (w : World) (p : Option Addr) : Prop := p = none ∨ ∃ a, p = some ⟨a, 0, none⟩ ∧ Blk w a 57 #[.bool false, .slice none 0 0, .int .i64 0, .int .i64 0]
theorem nil_nil (w : World) : (binOp .eql 52 .nilFunc .nilFunc).run Try.prog w = .ok (.bool true) w := by kernel_rfl
set_option maxHeartbeats 400000 in
theorem none_no (w : World) (p : Option Addr) (h : NoWr w p) :
    Calls Try.prog 35 #[.pointer p] w fun e w' => e = .returned (.bool true) ∧ w = w' := by
  rcases h with rfl | ⟨a, rfl, hb⟩
  · go_enter Try.func35, Try.ntmps35
    go_wp2
    go_ret
    exact ⟨rfl, rfl⟩
  · have c0 := hb.cell 0
    simp at c0
    clear hb
    have hfn := nil_nil
    go_enter Try.func35, Try.ntmps35
    go_wp2
    go_ret
    exact ⟨rfl, rfl⟩
theorem NoWr.keeps {w w' : World} {p : Option Addr} (h : NoWr w p) (hk : Keeps (fun _ => False) w w') : NoWr w' p := by
  rcases h with h | ⟨a, h, hb⟩
  · exact .inl h
  · exact .inr ⟨a, h, hb.keeps hk (fun h => h)⟩
set_option maxHeartbeats 400000 in
theorem put_no (w : World) (p : Option Addr) (v n : Int) (h : NoWr w p) :
    Calls Try.prog 21 #[.pointer p, .int .u64 v, .int .i64 n] w fun e w' => e = .returned (.int .i64 1) ∧ Keeps (fun _ => False) w w' := by
  have h1 : NoWr (w.alloc (.cells #[.int .u64 v] 31)) p := h.keeps ((Keeps.refl _ _).alloc _)
  have HH := Lib.hid h1
  clear h h1
  go_enter Try.func21, Try.ntmps21
  go_wp2_with fail
  refine (none_no _ _ HH.out).mono ?_
  rintro e w' ⟨rfl, rfl⟩
  go_wp2_with fail
  go_ret
  exact ⟨rfl, (Keeps.refl _ _).alloc _⟩
set_option maxHeartbeats 400000 in
theorem len_no (w : World) (p : Option Addr) (h : NoWr w p) :
    Calls Try.prog 23 #[.pointer p] w fun e w' => e = .returned (.int .i64 0) ∧ w = w' := by
  have HH := Lib.hid h
  clear h
  go_enter Try.func23, Try.ntmps23
  go_wp2_with fail
  refine (none_no _ _ HH.out).mono ?_
  rintro e w' ⟨rfl, rfl⟩
  go_wp2_with fail
  go_ret
  exact ⟨rfl, rfl⟩
set_option maxHeartbeats 400000 in
theorem bytes_no (w : World) (p : Option Addr) (h : NoWr w p) :
    Calls Try.prog 24 #[.pointer p] w fun e w' => e = .returned (.slice none 0 0) ∧ w = w' := by
  have HH := Lib.hid h
  clear h
  go_enter Try.func24, Try.ntmps24
  go_wp2_with fail
  refine (none_no _ _ HH.out).mono ?_
  rintro e w' ⟨rfl, rfl⟩
  go_wp2_with fail
  go_ret
  exact ⟨rfl, rfl⟩
set_option maxHeartbeats 400000 in
theorem get_no (w : World) (p : Option Addr) (n : Int) (h : NoRd w p) :
    Calls Try.prog 17 #[.pointer p, .int .i64 n] w fun e w' => e = .returned (.tuple #[.int .u64 0, .int .i64 1]) ∧ w = w' := by
  rcases h with rfl | ⟨a, rfl, hb⟩
  · go_enter Try.func17, Try.ntmps17
    go_wp2
    go_ret2
    exact ⟨rfl, rfl⟩
  · have c0 := hb.cell 0
    simp at c0
    clear hb
    go_enter Try.func17, Try.ntmps17
    go_wp2
    go_ret2
    exact ⟨rfl, rfl⟩
set_option maxHeartbeats 400000 in
theorem left_no (w : World) (p : Option Addr) (h : NoRd w p) :
    Calls Try.prog 19 #[.pointer p] w fun e w' => e = .returned (.int .i64 0) ∧ w = w' := by
  rcases h with rfl | ⟨a, rfl, hb⟩
  · go_enter Try.func19, Try.ntmps19
    go_wp2
    go_ret
    exact ⟨rfl, rfl⟩
  · have c0 := hb.cell 0
    simp at c0
    clear hb
    go_enter Try.func19, Try.ntmps19
    go_wp2
    go_ret
    exact ⟨rfl, rfl⟩

/-- The list of a nil pointer and one to the block o. -/
def TwoPtr (w : World) (g o : Nat) (t : TypeId) : Prop := Blk w g t #[.pointer none, .pointer (some ⟨o, 0, none⟩)]
theorem TwoPtr.at {w : World} {g o k : Nat} {t : TypeId} (h : TwoPtr w g o t) (hk : k < 2) : ∃ p, w.cell? ⟨g, k, none⟩ = some (.pointer p) ∧ (p = none ∨ p = some ⟨o, 0, none⟩) := by
  rcases (show k = 0 ∨ k = 1 by omega) with rfl | rfl
  · exact ⟨none, by rw [Blk.cell h 0]; rfl, .inl rfl⟩
  · exact ⟨some ⟨o, 0, none⟩, by rw [Blk.cell h 1]; rfl, .inr rfl⟩
set_option maxRecDepth 100000 in
set_option maxHeartbeats 1000000 in
theorem bitsNobody_walk (a0 a1 : Int) (w : World) (w0 : (Lit.int .u64 a0).wf = true) (w1 : (Lit.int .i64 a1).wf = true) :
    Calls Try.prog 5 #[.int .u64 a0, .int .i64 a1] w fun e w' => e = .returned (.bool true) ∧ Below w.heap.size w w' := by
  clear w0 w1
  go_enter Try.func5, Try.ntmps5
  go_wp2_with fail
  go_loopw [15, 6] (fun i _ wr => ∃ k : Nat, k ≤ 2 ∧ i = .int .i64 k ∧ TwoPtr wr (w.heap.size + 1) w.heap.size 41 ∧ Blk wr w.heap.size 54 #[.nilFunc, .slice none 0 0, .int .i64 0] ∧ Keeps (fun _ => False) w wr)
    (fun i _ _ => 2 - (intOf i).toNat)
  case atStart =>
    refine ⟨0, by omega, rfl, ?_, ?_, ?_⟩
    · exact fresh2 w _ _ _
    · exact (Blk.fresh w _ _).alloc _
    · exact ((Keeps.refl _ w).alloc _).alloc _
  case round =>
    obtain ⟨k, hk, rfl, htwo, hob, hkp⟩ := hrel
    by_cases hlt : k < 2
    · obtain ⟨p, hcp, hp⟩ := htwo.at hlt
      have hno : NoWr wr p := by
        rcases hp with rfl | rfl
        · exact .inl rfl
        · exact .inr ⟨_, rfl, hob⟩
      have H0 := Lib.hid (And.intro htwo (And.intro hob (And.intro hkp hno)))
      clear htwo hob hkp hp hno
      go_wp2_with fail
      refine (put_no _ _ _ _ H0.out.2.2.2).mono ?_
      rintro e w2 ⟨rfl, hk2⟩
      have H1 := Lib.hid (And.intro (Blk.keeps H0.out.1 hk2 (fun h => h)) (And.intro (H0.out.2.1.keeps hk2 (fun h => h)) (And.intro (H0.out.2.2.1.trans' hk2) (H0.out.2.2.2.keeps hk2))))
      clear H0 hk2 hcp
      go_wp2_with fail
      refine (len_no _ _ H1.out.2.2.2).mono ?_
      rintro e w3 ⟨rfl, rfl⟩
      go_wp2_with fail
      refine (bytes_no _ _ H1.out.2.2.2).mono ?_
      rintro e w3 ⟨rfl, rfl⟩
      go_wp2_with fail
      go_roundw
      case rel => exact ⟨k + 1, by omega, by go_num, H1.out.1, H1.out.2.1, H1.out.2.2.1⟩
      case measure => simp [intOf]; omega
    · clear htwo hob
      obtain ⟨wo, rfl⟩ : ∃ wo : World, wo = wr := ⟨_, rfl⟩
      go_wp2_with fail
      go_loopw [40, 8] (fun i _ wq => ∃ k : Nat, k ≤ 2 ∧ i = .int .i64 k ∧ TwoPtr wq (wo.heap.size + 1) wo.heap.size 24 ∧ Blk wq wo.heap.size 57 #[.bool false, .slice none 0 0, .int .i64 0, .int .i64 0] ∧ Keeps (fun _ => False) w wq)
        (fun i _ _ => 2 - (intOf i).toNat)
      case atStart =>
        refine ⟨0, by omega, rfl, ?_, ?_, ?_⟩
        · exact fresh2 wo _ _ _
        · exact (Blk.fresh wo _ _).alloc _
        · exact (hkp.alloc _).alloc _
      case round =>
        obtain ⟨k2, hk2, rfl, htwo, hob, hkq⟩ := hrel
        by_cases hlt2 : k2 < 2
        · obtain ⟨p, hcp, hp⟩ := htwo.at hlt2
          have hno : NoRd wr p := by
            rcases hp with rfl | rfl
            · exact .inl rfl
            · exact .inr ⟨_, rfl, hob⟩
          have H0 := Lib.hid (And.intro htwo (And.intro hob (And.intro hkq hno)))
          clear htwo hob hkq hp hno
          go_wp2_with fail
          refine (get_no _ _ _ H0.out.2.2.2).mono ?_
          rintro e w3 ⟨rfl, rfl⟩
          go_wp2_with fail
          refine (left_no _ _ H0.out.2.2.2).mono ?_
          rintro e w3 ⟨rfl, rfl⟩
          go_wp2_with fail
          go_roundw
          case rel => exact ⟨k2 + 1, by omega, by go_num, H0.out.1, H0.out.2.1, H0.out.2.2.1⟩
          case measure => simp [intOf]; omega
        · go_wp2_with fail
          go_ret
          exact ⟨rfl, hkq.to_below⟩
end Go.Proofs.Ytgphdigcilbnlaa
