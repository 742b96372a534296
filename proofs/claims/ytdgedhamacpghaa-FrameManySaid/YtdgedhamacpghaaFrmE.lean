/-
  Contracts of frame.Read and frame.Open.
-/
import Derived.Test.YtdgedhamacpghaaFrmD
namespace Go.Proofs.Ytdgedhamacpghaa
open Go.RowKit
set_option linter.unusedVariables false
set_option linter.unusedSimpArgs false
def openE (bs : List Nat) : Int := if lenE bs = 0 then (if lenV bs = bs.length then withE bs else 11) else lenE bs
def openK (bs : List Nat) : Nat := if openE bs = 0 then withK bs else 0
def openI (bs : List Nat) : List Nat := if openE bs = 0 then withI bs else []
def readE (bs : List Nat) : Int := if lenE bs = 0 then withE (bs.take (lenV bs)) else lenE bs
def readN (bs : List Nat) : Nat := if readE bs = 0 then lenV bs else 0
def readK (bs : List Nat) : Nat := if readE bs = 0 then withK (bs.take (lenV bs)) else 0
def readI (bs : List Nat) : List Nat := if readE bs = 0 then withI (bs.take (lenV bs)) else []
def ReadPost (w : World) (k : Nat) (l : List Nat) (n : Nat) (er : Int) (e : Ending) (w' : World) : Prop :=
  ∃ A c, e = .returned (.tuple #[.int .u8 (k : Nat), .slice A l.length c, .int .i64 (n : Nat), .int .i64 er]) ∧ w'.ownsRow w.heap.size 5 1 (.slice A l.length c) l.length (l.map byteV) ∧ Keeps (fun _ => False) w w'
theorem lenE_zero {bs : List Nat} (h : lenE bs = 0) : lenV bs = frameN bs + 9 ∧ frameN bs ≤ 1048576 ∧ frameN bs + 9 ≤ bs.length := by
  unfold lenV
  rw [if_pos h]
  unfold lenE at h
  split at h
  · omega
  · split at h
    · omega
    · split at h
      · omega
      · omega
theorem withE_val (bs : List Nat) : withE bs = 0 ∨ withE bs = 12 := by unfold withE; split; exact .inl rfl; exact .inr rfl
theorem with_err {bs : List Nat} (h : withE bs ≠ 0) : withK bs = 0 ∧ withI bs = [] := by unfold withK withI; rw [if_neg h, if_neg h]; exact ⟨rfl, rfl⟩
set_option maxRecDepth 100000 in
set_option maxHeartbeats 1600000 in
theorem open_any (w : World) (A : Option Addr) (len c : Nat) (D : Nat → Prop) (bs : List Nat) (hl : bs.length = len) (hsl : Sl w D A len (byteC bs)) (hb : ∀ j, bs.getD j 0 < 256) (hlen : len ≤ 2097152) (hlc : len ≤ c) :
    Calls Try.prog 14 #[.slice A len c] w (WithPost w (openK bs) (openI bs) (openE bs)) := by
  have HS := Lib.hid (And.intro hl (And.intro hsl hb))
  clear hl hsl hb
  go_enter Try.func14, Try.ntmps14
  go_wp2_with fail
  refine (long_any _ _ _ _ _ bs HS.out.1 HS.out.2.1 HS.out.2.2 hlen hlc).mono ?_
  rintro e w1 ⟨rfl, hk1⟩
  by_cases hE : lenE bs = 0
  · obtain ⟨g1, g2, g3⟩ := lenE_zero hE
    rw [hE, g1]
    obtain ⟨n, hn⟩ : ∃ n, n = frameN bs + 9 := ⟨_, rfl⟩
    rw [← hn] at g1 g3
    rw [← hn]
    have hn9 : 9 ≤ n := by omega
    have hnl : n ≤ len := by have := HS.out.1; omega
    by_cases heq : n = len
    · have hoE : openE bs = withE bs := by unfold openE; rw [if_pos hE, g1, HS.out.1, if_pos heq]
      have hoK : openK bs = withK bs := by
        unfold openK
        rw [hoE]
        by_cases h0 : withE bs = 0
        · rw [if_pos h0]
        · rw [if_neg h0, (with_err h0).1]
      have hoI : openI bs = withI bs := by
        unfold openI
        rw [hoE]
        by_cases h0 : withE bs = 0
        · rw [if_pos h0]
        · rw [if_neg h0, (with_err h0).2]
      have HO := Lib.hid (And.intro hoE (And.intro hoK hoI))
      have H1 := Lib.hid hk1
      clear hoE hoK hoI hk1 hE g1 g2 g3 hn
      subst heq
      have d : ((n : Int) != (n : Int)) = false := by simp
      go_wp2_with fail
      clear d
      refine (within_any _ _ _ _ _ bs HS.out.1 (HS.out.2.1.keep (w' := w1) (fun q _ hq => H1.out.block q hq (fun h => h))) HS.out.2.2 hn9 hlen hlc).mono ?_
      rintro e w2 ⟨A2, c2, rfl, ho2, hk2⟩
      have hfin : WithPost w (openK bs) (openI bs) (openE bs) (.returned (.tuple #[.int .u8 (withK bs : Nat), .slice A2 (withI bs).length c2, .int .i64 (withE bs)])) w2 := by
        rw [HO.out.1, HO.out.2.1, HO.out.2.2]
        exact ⟨A2, c2, rfl, own_base ho2 H1.out.size, H1.out.trans' hk2⟩
      have HF := Lib.hid hfin
      clear ho2 hk2 hfin
      go_wp2_with fail
      go_ret3
      exact HF.out
    · have hoE : openE bs = 11 := by unfold openE; rw [if_pos hE, g1, HS.out.1, if_neg heq]
      have hfin : WithPost w (openK bs) (openI bs) (openE bs) (.returned (.tuple #[.int .u8 0, .slice none 0 0, .int .i64 11])) w1 := by
        unfold openK openI
        rw [hoE, if_neg (by omega), if_neg (by omega)]
        exact ⟨none, 0, rfl, ⟨rfl, .inl ⟨rfl, rfl⟩⟩, hk1⟩
      have HF := Lib.hid hfin
      clear hfin hoE hk1 hE g1 g2 g3 hn
      have d : ((n : Int) != (len : Int)) = true := by simp; omega
      go_wp2_with fail
      go_ret3
      exact HF.out
  · have hoE : openE bs = lenE bs := by unfold openE; rw [if_neg hE]
    have hfin : WithPost w (openK bs) (openI bs) (openE bs) (.returned (.tuple #[.int .u8 0, .slice none 0 0, .int .i64 (lenE bs)])) w1 := by
      unfold openK openI
      rw [hoE, if_neg hE, if_neg hE]
      exact ⟨none, 0, rfl, ⟨rfl, .inl ⟨rfl, rfl⟩⟩, hk1⟩
    have HF := Lib.hid hfin
    have d1 : (lenE bs != 0) = true := by simp [hE]
    have d2 : (lenE bs == 0) = false := by simp [hE]
    obtain ⟨er, her⟩ : ∃ er, er = lenE bs := ⟨_, rfl⟩
    rw [← her] at d1 d2 HF
    rw [← her]
    clear hfin hoE hk1 hE her
    go_wp2_with fail
    go_ret3
    exact HF.out
set_option maxRecDepth 100000 in
set_option maxHeartbeats 1600000 in
theorem read_any (w : World) (A : Option Addr) (len c : Nat) (D : Nat → Prop) (bs : List Nat) (hl : bs.length = len) (hsl : Sl w D A len (byteC bs)) (hb : ∀ j, bs.getD j 0 < 256) (hlen : len ≤ 2097152) (hlc : len ≤ c) :
    Calls Try.prog 15 #[.slice A len c] w (ReadPost w (readK bs) (readI bs) (readN bs) (readE bs)) := by
  have HS := Lib.hid (And.intro hl (And.intro hsl hb))
  clear hl hsl hb
  go_enter Try.func15, Try.ntmps15
  go_wp2_with fail
  refine (long_any _ _ _ _ _ bs HS.out.1 HS.out.2.1 HS.out.2.2 hlen hlc).mono ?_
  rintro e w1 ⟨rfl, hk1⟩
  by_cases hE : lenE bs = 0
  · obtain ⟨g1, g2, g3⟩ := lenE_zero hE
    rw [hE, g1]
    obtain ⟨n, hn⟩ : ∃ n, n = frameN bs + 9 := ⟨_, rfl⟩
    rw [← hn] at g1 g3
    rw [← hn]
    have hn9 : 9 ≤ n := by omega
    have hnl : n ≤ len := by have := HS.out.1; omega
    have hnc : n ≤ c := by omega
    obtain ⟨bs', hbs'⟩ : ∃ b, b = bs.take n := ⟨_, rfl⟩
    have hrE : readE bs = withE bs' := by unfold readE; rw [if_pos hE, g1, hbs']
    have hrN : readN bs = if withE bs' = 0 then n else 0 := by unfold readN; rw [hrE, g1]
    have hrK : readK bs = withK bs' := by
      unfold readK
      rw [hrE, g1, ← hbs']
      by_cases h0 : withE bs' = 0
      · rw [if_pos h0]
      · rw [if_neg h0, (with_err h0).1]
    have hrI : readI bs = withI bs' := by
      unfold readI
      rw [hrE, g1, ← hbs']
      by_cases h0 : withE bs' = 0
      · rw [if_pos h0]
      · rw [if_neg h0, (with_err h0).2]
    have HO := Lib.hid (And.intro hrE (And.intro hrN (And.intro hrK hrI)))
    obtain ⟨b, off, hA, -, -⟩ := HS.out.2.1 (by omega)
    subst hA
    have hs2 := sl_sub HS.out.2.1 0 n hnl
    rw [Nat.sub_zero, Nat.add_zero, List.drop_zero, ← hbs'] at hs2
    have hb2 : ∀ j, bs'.getD j 0 < 256 := by rw [hbs']; exact getD_of_mem (mem_take_byte HS.out.2.2 n)
    have hl2 : bs'.length = n := by rw [hbs']; have := HS.out.1; simp; omega
    have H1 := Lib.hid (And.intro hk1 (And.intro hs2 (And.intro hb2 hl2)))
    clear hrE hrN hrK hrI hk1 hE g1 g2 g3 hn hs2 hb2 hl2 hbs'
    go_wp2_with fail
    refine (within_any _ _ _ _ _ bs' H1.out.2.2.2 (H1.out.2.1.keep (w' := w1) (fun q _ hq => H1.out.1.block q hq (fun h => h))) H1.out.2.2.1 hn9 (by omega) hnc).mono ?_
    rintro e w2 ⟨A2, c2, rfl, ho2, hk2⟩
    have ho2' := own_base ho2 H1.out.1.size
    have hk2' := H1.out.1.trans' hk2
    rcases withE_val bs' with h0 | h0
    · have hfin : ReadPost w (readK bs) (readI bs) (readN bs) (readE bs) (.returned (.tuple #[.int .u8 (withK bs' : Nat), .slice A2 (withI bs').length c2, .int .i64 (n : Nat), .int .i64 0])) w2 := by
        rw [HO.out.1, HO.out.2.1, HO.out.2.2.1, HO.out.2.2.2, h0, if_pos rfl]
        exact ⟨A2, c2, rfl, ho2', hk2'⟩
      have HF := Lib.hid hfin
      rw [h0]
      clear ho2 hk2 ho2' hk2' h0 hfin
      go_wp2_with fail
      exact bodyPost_ret (v := .tuple #[.int .u8 (withK bs' : Nat), .slice A2 (withI bs').length c2, .int .i64 (n : Nat), .int .i64 0]) (by simp [results, Try.results15, go_sem]) rfl HF.out
    · obtain ⟨hK0, hI0⟩ := with_err (bs := bs') (by omega)
      have hfin : ReadPost w (readK bs) (readI bs) (readN bs) (readE bs) (.returned (.tuple #[.int .u8 0, .slice none 0 0, .int .i64 0, .int .i64 12])) w2 := by
        rw [HO.out.1, HO.out.2.1, HO.out.2.2.1, HO.out.2.2.2, h0, hK0, hI0, if_neg (by omega)]
        exact ⟨none, 0, rfl, ⟨rfl, .inl ⟨rfl, rfl⟩⟩, hk2'⟩
      have HF := Lib.hid hfin
      rw [h0]
      clear ho2 hk2 ho2' hk2' h0 hK0 hI0 hfin
      go_wp2_with fail
      exact bodyPost_ret (v := .tuple #[.int .u8 0, .slice none 0 0, .int .i64 0, .int .i64 12]) (by simp [results, Try.results15, go_sem]) rfl HF.out
  · have hrE : readE bs = lenE bs := by unfold readE; rw [if_neg hE]
    have hfin : ReadPost w (readK bs) (readI bs) (readN bs) (readE bs) (.returned (.tuple #[.int .u8 0, .slice none 0 0, .int .i64 0, .int .i64 (lenE bs)])) w1 := by
      unfold readK readI readN
      rw [hrE, if_neg hE, if_neg hE, if_neg hE]
      exact ⟨none, 0, rfl, ⟨rfl, .inl ⟨rfl, rfl⟩⟩, hk1⟩
    have HF := Lib.hid hfin
    have d1 : (lenE bs != 0) = true := by simp [hE]
    have d2 : (lenE bs == 0) = false := by simp [hE]
    obtain ⟨er, her⟩ : ∃ er, er = lenE bs := ⟨_, rfl⟩
    rw [← her] at d1 d2 HF
    rw [← her]
    clear hfin hrE hk1 hE her
    go_wp2_with fail
    exact bodyPost_ret (v := .tuple #[.int .u8 0, .slice none 0 0, .int .i64 0, .int .i64 er]) (by simp [results, Try.results15, go_sem]) rfl HF.out
end Go.Proofs.Ytdgedhamacpghaa
