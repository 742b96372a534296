/-
  Texts of this proof, joined: SgD, SgP, SgQ.
-/
import Derived.Test.YtopbbicjbjmdnaaJ05
import Derived.Test.YtopbbicjbjmdnaaJ02
import Derived.Lib.MinMaxS
import Derived.Test.YtopbbicjbjmdnaaJ01
import Derived.Laws.Cover1
namespace Go.Proofs.Ytopbbicjbjmdnaa
open Go.RowKit Go.Maps
set_option maxRecDepth 100000
set_option linter.unusedVariables false
set_option linter.unusedSimpArgs false
def shiftP (f : Nat → Pt) (a : Nat) (j : Nat) : Pt := f (a + j)
/-- How many points the block from a on has. -/
def blkN (n a : Nat) : Nat := min (a + 1024) n - a
def bO (f : Nat → Pt) (n : Nat) : Nat → List Nat
  | 0 => []
  | k + 1 => bO f n k ++ (colL (shiftP f (1024 * k)) (blkN n (1024 * k))).1
def bF (f : Nat → Pt) (n : Nat) : Nat → List Nat
  | 0 => []
  | k + 1 => bF f n k ++ footB (shiftP f (1024 * k)) (blkN n (1024 * k))
def stepV (f : Nat → Pt) (n k : Nat) : Bool := colV (shiftP f (1024 * k)) (blkN n (1024 * k)) && (k == 0 || decide ((f (1024 * k - 1)).t < (f (1024 * k)).t))
def bV (f : Nat → Pt) (n : Nat) : Nat → Bool
  | 0 => true
  | k + 1 => bV f n k && stepV f n k
theorem bV_bad {f : Nat → Pt} {n k : Nat} (h : stepV f n k = false) : ∀ m, k < m → bV f n m = false
  | 0, hk => by omega
  | m + 1, hk => by
    show (bV f n m && stepV f n m) = false
    rcases Nat.lt_or_ge k m with h1 | h1
    · rw [bV_bad h m h1]; rfl
    · rw [show m = k by omega, h]; simp
theorem colL_len (f : Nat → Pt) (n : Nat) (hn : n ≤ 4096) : (colL f n).1.length ≤ 130049 := by
  unfold colL
  have := colUp_len f n hn 3
  split
  · show (F.sealL 3 _).length ≤ _
    rw [F.sealL_length]; omega
  · show ([] : List Nat).length ≤ _; simp
theorem bO_len (f : Nat → Pt) (n : Nat) (hn : n ≤ 4096) : ∀ k, (bO f n k).length ≤ k * 130049
  | 0 => by simp [bO]
  | k + 1 => by
    have ih := bO_len f n hn k
    have h := colL_len (shiftP f (1024 * k)) (blkN n (1024 * k)) (by unfold blkN; omega)
    show (bO f n k ++ _).length ≤ _
    rw [List.length_append]
    omega
theorem footB_len (f : Nat → Pt) (hok : ∀ j, PtOk (f j)) (n : Nat) (hn : n ≤ 4096) : (footB f n).length ≤ 40 := by
  unfold footB
  have h0 := colL_len f n hn
  have h1 := V.vput_len10 (u := (colL f n).1.length) (by omega)
  have h2 := V.vput_len10 (u := zig (f 0).t) (zig_lt (hok 0).1.1 (hok 0).1.2)
  have h3 := V.vput_len10 (u := zig (f (n - 1)).t) (zig_lt (hok _).1.1 (hok _).1.2)
  have h4 := V.vput_len10 (u := n) (by omega)
  simp only [List.length_append]
  omega
theorem bF_len (f : Nat → Pt) (hok : ∀ j, PtOk (f j)) (n : Nat) (hn : n ≤ 4096) : ∀ k, (bF f n k).length ≤ k * 40
  | 0 => by simp [bF]
  | k + 1 => by
    have ih := bF_len f hok n hn k
    have h := footB_len (shiftP f (1024 * k)) (fun j => hok _) (blkN n (1024 * k)) (by unfold blkN; omega)
    show (bF f n k ++ _).length ≤ _
    rw [List.length_append]
    omega
/-- How many blocks n points have. -/
def nbl (n : Nat) : Nat := (n + 1023) / 1024
def BlkPost (w0 : World) (xo xf : Nat) (O FT : List Nat) (f : Nat → Pt) (n : Nat) (e : Ending) (w' : World) : Prop :=
  (bV f n (nbl n) = true ∧ 0 < n ∧ e = .returned (.bool true) ∧ ∃ vo vf, TwoIs w0 xo xf vo vf (O ++ bO f n (nbl n)) (FT ++ bF f n (nbl n)) w') ∨
  ((bV f n (nbl n) = false ∨ n = 0) ∧ e = .returned (.bool false) ∧ Below w0.heap.size w0 w')
set_option maxHeartbeats 4000000 in
theorem blocks_any (w0 w : World) (xo xf : Nat) (vo vf : Value) (O FT : List Nat) (A : Option Addr) (n c : Nat) (f : Nat → Pt) (h : TwoIs w0 xo xf vo vf O FT w) (hsl : SlP w (fun q => q < w0.heap.size) A n f) (hn : n ≤ 4096) (hc : n ≤ c) (hcm : c ≤ 9223372036854775807) (hO : O.length ≤ 536870912) (hF : FT.length ≤ 536870912) (hok : ∀ j, PtOk (f j)) :
    Calls Try.prog 11 #[.slice A n c, .func (.func 12) #[] #[.pointer (some ⟨xo, 0, none⟩), .pointer (some ⟨xf, 0, none⟩)]] w (BlkPost w0 xo xf O FT f n) := by
  have H0 := Lib.hid (And.intro h (And.intro hsl hok))
  clear h hsl hok
  go_enter Try.func11, Try.ntmps11
  go_wp2_with fail
  go_loopw [5] (fun i wr => ∃ (k : Nat), k ≤ nbl n ∧ i = .int .i64 ((1024 * k : Nat) : Int) ∧ bV f n k = true ∧ ∃ vo vf, TwoIs w0 xo xf vo vf (O ++ bO f n k) (FT ++ bF f n k) wr) (fun i _ => n - (intOf i).toNat)
  case atStart => exact ⟨0, by omega, rfl, rfl, vo, vf, by rw [show bO f n 0 = [] from rfl, show bF f n 0 = [] from rfl, List.append_nil, List.append_nil]; exact H0.out.1⟩
  case round =>
    obtain ⟨k, hk, rfl, hv, vo1, vf1, hT⟩ := hrel
    by_cases hlt : 1024 * k < n
    · obtain ⟨b, off, hA, hbl, hcell⟩ := H0.out.2.1 (by omega)
      subst hA
      obtain ⟨a, ha⟩ : ∃ a, a = 1024 * k := ⟨_, rfl⟩
      rw [← ha]
      have hlt' : (a : Int) < (n : Int) := by omega
      have HT := Lib.hid (And.intro hT (And.intro hv (And.intro ha hcell)))
      clear hT hv hcell ha
      go_upto_region 5 with (fail)
      have hp : (min ((a : Int) + 1024) (n : Int)).toNat - a = blkN n a := by unfold blkN; omega
      generalize min ((a : Int) + 1024) (n : Int) = mv at hp ⊢
      rw [hp]
      obtain ⟨p, hpe⟩ : ∃ p, p = blkN n a := ⟨_, rfl⟩
      rw [← hpe]
      have hp0 : 0 < p := by rw [hpe]; unfold blkN; omega
      have hp1 : p ≤ 1024 := by rw [hpe]; unfold blkN; omega
      have hpn : a + p ≤ n := by rw [hpe]; unfold blkN; omega
      have hsp : ∀ wx, Below w0.heap.size w0 wx → SlP wx (fun q => q < w0.heap.size) (some ⟨b, off + a * 3, none⟩) p (shiftP f a) := by
        intro wx hx
        have h1 : SlP wx (fun q => q < w0.heap.size) (some ⟨b, off, none⟩) (a + p) f := fun hq => by
          refine ⟨b, off, rfl, hbl, fun j hj => ?_⟩
          obtain ⟨g1, g2, g3⟩ := HT.out.2.2.2 j (by omega)
          have hb : ∀ o, wx.cell? ⟨b, o, none⟩ = w.cell? ⟨b, o, none⟩ := fun o => (hx.cell (by exact hbl)).trans (H0.out.1.own.bel.cell (by exact hbl)).symm
          exact ⟨(hb _).trans g1, (hb _).trans g2, (hb _).trans g3⟩
        exact h1.drop
      have hst : stepV f n k = (colV (shiftP f a) p && (k == 0 || decide ((f (a - 1)).t < (f a).t))) := by unfold stepV; rw [← HT.out.2.2.1, ← hpe]
      have HP := Lib.hid (And.intro hpe (And.intro hsp hst))
      clear hp hpe hsp hst
      have hval := fun (wx : World) (hx : Below w0.heap.size w0 wx) => cvalid_any (some ⟨b, off + a * 3, none⟩) p (c - a) (shiftP f a) _ wx (HP.out.2.1 wx hx) (by omega)
      have HV := Lib.hid hval
      clear hval
      have hS : (TwoIs w0 xo xf vo1 vf1 (O ++ bO f n k) (FT ++ bF f n k)) (wr.drew) := HT.out.1.call (Below.refl _ _).drew
      refine reg_start (TwoIs w0 xo xf vo1 vf1 (O ++ bO f n k) (FT ++ bF f n k)) (by kernel_rfl) hS ?_
      refine reg_take (i := 0) (v := ?_) rfl (by kernel_rfl) (by kernel_rfl) (by kernel_rfl) (fun _ _ _ h => h) (Or.inl ⟨by kernel_rfl, ?_⟩) hS ?_
      rotate_left
      · (intro w' hSw; go_simp <;> with_reducible rfl)
      try simp only [List.getElem_toArray, List.getElem_cons_succ, List.getElem_cons_zero, Act.put, List.setIfInBounds_toArray, List.set_cons_zero, List.set_cons_succ]
      refine reg_call (i := 1) rfl (by kernel_rfl) (fun K hK => ?_)
      have HK := Lib.hid hK
      clear hK
      go_simp
      refine (HV.out _ hS.own.bel).mono ?_
      rintro e w6 ⟨rfl, hb6⟩
      have H6 := Lib.hid (hS.call hb6)
      clear hb6
      cases hcv : colV (shiftP f a) p with
      | false =>
        have HF := Lib.hid (show bV f n (nbl n) = false from bV_bad (k := k) (by rw [HP.out.2.2, hcv]; rfl) _ (by unfold nbl; have := HT.out.2.2.1; omega))
        clear hcv
        go_wp2_with fail
        refine HK.out.to (TwoIs w0 xo xf vo1 vf1 (O ++ bO f n k) (FT ++ bF f n k)) (fun _ h => h) (H6.out) ?_
        clear HK hS
        have hS : (TwoIs w0 xo xf vo1 vf1 (O ++ bO f n k) (FT ++ bF f n k)) (w6) := H6.out
        try simp only [List.getElem_toArray, List.getElem_cons_succ, List.getElem_cons_zero, Act.put, List.setIfInBounds_toArray, List.set_cons_zero, List.set_cons_succ]
        refine reg_take (i := 2) (v := ?_) rfl (by kernel_rfl) (by kernel_rfl) (by kernel_rfl) (fun _ _ _ h => h) (Or.inl ⟨by kernel_rfl, ?_⟩) hS ?_
        rotate_left
        · (intro w' hSw; go_simp <;> with_reducible rfl)
        try simp only [List.getElem_toArray, List.getElem_cons_succ, List.getElem_cons_zero, Act.put, List.setIfInBounds_toArray, List.set_cons_zero, List.set_cons_succ]
        refine reg_take (i := 3) (v := ?_) rfl (by kernel_rfl) (by kernel_rfl) (by kernel_rfl) (fun _ _ _ h => h) (Or.inl ⟨by kernel_rfl, ?_⟩) hS ?_
        rotate_left
        · (intro w' hSw; go_simp <;> with_reducible rfl)
        try simp only [List.getElem_toArray, List.getElem_cons_succ, List.getElem_cons_zero, Act.put, List.setIfInBounds_toArray, List.set_cons_zero, List.set_cons_succ]
        refine reg_take (i := 4) (v := undef) rfl (by kernel_rfl) (by kernel_rfl) (by kernel_rfl) (fun _ _ _ h => h) (Or.inr ⟨by kernel_rfl, rfl⟩) hS ?_
        try simp only [List.getElem_toArray, List.getElem_cons_succ, List.getElem_cons_zero, Act.put, List.setIfInBounds_toArray, List.set_cons_zero, List.set_cons_succ]
        refine reg_take (i := 5) (v := undef) rfl (by kernel_rfl) (by kernel_rfl) (by kernel_rfl) (fun _ _ _ h => h) (Or.inr ⟨by kernel_rfl, rfl⟩) hS ?_
        try simp only [List.getElem_toArray, List.getElem_cons_succ, List.getElem_cons_zero, Act.put, List.setIfInBounds_toArray, List.set_cons_zero, List.set_cons_succ]
        refine reg_take (i := 6) (v := undef) rfl (by kernel_rfl) (by kernel_rfl) (by kernel_rfl) (fun _ _ _ h => h) (Or.inr ⟨by kernel_rfl, rfl⟩) hS ?_
        try simp only [List.getElem_toArray, List.getElem_cons_succ, List.getElem_cons_zero, Act.put, List.setIfInBounds_toArray, List.set_cons_zero, List.set_cons_succ]
        refine reg_take (i := 7) (v := undef) rfl (by kernel_rfl) (by kernel_rfl) (by kernel_rfl) (fun _ _ _ h => h) (Or.inr ⟨by kernel_rfl, rfl⟩) hS ?_
        try simp only [List.getElem_toArray, List.getElem_cons_succ, List.getElem_cons_zero, Act.put, List.setIfInBounds_toArray, List.set_cons_zero, List.set_cons_succ]
        refine reg_take (i := 8) (v := undef) rfl (by kernel_rfl) (by kernel_rfl) (by kernel_rfl) (fun _ _ _ h => h) (Or.inr ⟨by kernel_rfl, rfl⟩) hS ?_
        try simp only [List.getElem_toArray, List.getElem_cons_succ, List.getElem_cons_zero, Act.put, List.setIfInBounds_toArray, List.set_cons_zero, List.set_cons_succ]
        refine reg_take (i := 9) (v := undef) rfl (by kernel_rfl) (by kernel_rfl) (by kernel_rfl) (fun _ _ _ h => h) (Or.inr ⟨by kernel_rfl, rfl⟩) hS ?_
        try simp only [List.getElem_toArray, List.getElem_cons_succ, List.getElem_cons_zero, Act.put, List.setIfInBounds_toArray, List.set_cons_zero, List.set_cons_succ]
        refine reg_take (i := 10) (v := undef) rfl (by kernel_rfl) (by kernel_rfl) (by kernel_rfl) (fun _ _ _ h => h) (Or.inr ⟨by kernel_rfl, rfl⟩) hS ?_
        try simp only [List.getElem_toArray, List.getElem_cons_succ, List.getElem_cons_zero, Act.put, List.setIfInBounds_toArray, List.set_cons_zero, List.set_cons_succ]
        refine reg_take (i := 11) (v := undef) rfl (by kernel_rfl) (by kernel_rfl) (by kernel_rfl) (fun _ _ _ h => h) (Or.inr ⟨by kernel_rfl, rfl⟩) hS ?_
        try simp only [List.getElem_toArray, List.getElem_cons_succ, List.getElem_cons_zero, Act.put, List.setIfInBounds_toArray, List.set_cons_zero, List.set_cons_succ]
        refine reg_take (i := 12) (v := undef) rfl (by kernel_rfl) (by kernel_rfl) (by kernel_rfl) (fun _ _ _ h => h) (Or.inr ⟨by kernel_rfl, rfl⟩) hS ?_
        try simp only [List.getElem_toArray, List.getElem_cons_succ, List.getElem_cons_zero, Act.put, List.setIfInBounds_toArray, List.set_cons_zero, List.set_cons_succ]
        refine reg_take (i := 13) (v := undef) rfl (by kernel_rfl) (by kernel_rfl) (by kernel_rfl) (fun _ _ _ h => h) (Or.inr ⟨by kernel_rfl, rfl⟩) hS ?_
        try simp only [List.getElem_toArray, List.getElem_cons_succ, List.getElem_cons_zero, Act.put, List.setIfInBounds_toArray, List.set_cons_zero, List.set_cons_succ]
        refine reg_take (i := 14) (v := undef) rfl (by kernel_rfl) (by kernel_rfl) (by kernel_rfl) (fun _ _ _ h => h) (Or.inr ⟨by kernel_rfl, rfl⟩) hS ?_
        try simp only [List.getElem_toArray, List.getElem_cons_succ, List.getElem_cons_zero, Act.put, List.setIfInBounds_toArray, List.set_cons_zero, List.set_cons_succ]
        refine reg_take (i := 15) (v := undef) rfl (by kernel_rfl) (by kernel_rfl) (by kernel_rfl) (fun _ _ _ h => h) (Or.inr ⟨by kernel_rfl, rfl⟩) hS ?_
        try simp only [List.getElem_toArray, List.getElem_cons_succ, List.getElem_cons_zero, Act.put, List.setIfInBounds_toArray, List.set_cons_zero, List.set_cons_succ]
        refine reg_take (i := 16) (v := undef) rfl (by kernel_rfl) (by kernel_rfl) (by kernel_rfl) (fun _ _ _ h => h) (Or.inr ⟨by kernel_rfl, rfl⟩) hS ?_
        try simp only [List.getElem_toArray, List.getElem_cons_succ, List.getElem_cons_zero, Act.put, List.setIfInBounds_toArray, List.set_cons_zero, List.set_cons_succ]
        refine reg_take (i := 17) (v := undef) rfl (by kernel_rfl) (by kernel_rfl) (by kernel_rfl) (fun _ _ _ h => h) (Or.inr ⟨by kernel_rfl, rfl⟩) hS ?_
        try simp only [List.getElem_toArray, List.getElem_cons_succ, List.getElem_cons_zero, Act.put, List.setIfInBounds_toArray, List.set_cons_zero, List.set_cons_succ]
        refine reg_take (i := 18) (v := undef) rfl (by kernel_rfl) (by kernel_rfl) (by kernel_rfl) (fun _ _ _ h => h) (Or.inr ⟨by kernel_rfl, rfl⟩) hS ?_
        try simp only [List.getElem_toArray, List.getElem_cons_succ, List.getElem_cons_zero, Act.put, List.setIfInBounds_toArray, List.set_cons_zero, List.set_cons_succ]
        refine reg_take (i := 19) (v := ?_) rfl (by kernel_rfl) (by kernel_rfl) (by kernel_rfl) (fun _ _ _ h => h) (Or.inl ⟨by kernel_rfl, ?_⟩) hS ?_
        rotate_left
        · (intro w' hSw; go_simp <;> with_reducible rfl)
        try simp only [List.getElem_toArray, List.getElem_cons_succ, List.getElem_cons_zero, Act.put, List.setIfInBounds_toArray, List.set_cons_zero, List.set_cons_succ]
        refine wpAnyH_done (by kernel_rfl) ?_ _
        try simp only [List.getElem_toArray, List.getElem_cons_succ, List.getElem_cons_zero]
        try simp only [List.getElem_toArray, List.getElem_cons_succ, List.getElem_cons_zero, Act.put, List.setIfInBounds_toArray, List.set_cons_zero, List.set_cons_succ]
        have HG := Lib.hid hS.own.bel
        clear hS
        go_wp2_with fail
        go_ret
        exact .inr ⟨.inl HF.out, rfl, HG.out⟩
      | true =>
        have HCV := Lib.hid hcv
        clear hcv
        go_wp2_with fail
        refine HK.out.to (TwoIs w0 xo xf vo1 vf1 (O ++ bO f n k) (FT ++ bF f n k)) (fun _ h => h) (H6.out) ?_
        clear HK hS
        have hS : (TwoIs w0 xo xf vo1 vf1 (O ++ bO f n k) (FT ++ bF f n k)) (w6) := H6.out
        try simp only [List.getElem_toArray, List.getElem_cons_succ, List.getElem_cons_zero, Act.put, List.setIfInBounds_toArray, List.set_cons_zero, List.set_cons_succ]
        have hce : ∀ wx, Below w0.heap.size w0 wx → ∀ j, j < n → wx.cell? ⟨b, off + j * 3, none⟩ = some (.int .i64 (f j).t) := fun wx hx j hj =>
          (hx.cell (by exact hbl)).trans ((H0.out.1.own.bel.cell (by exact hbl)).symm.trans (HT.out.2.2.2 j hj).1)
        have HCE := Lib.hid hce
        clear hce
        by_cases ha0 : a = 0
        · have hk0 : k = 0 := by have := HT.out.2.2.1; omega
          have HO := Lib.hid (show stepV f n k = true by rw [HP.out.2.2, HCV.out, hk0]; rfl)
          have d0 : decide ((0 : Int) < (a : Int)) = false := by simp; omega
          have d0' : decide (0 < a) = false := by simp; omega
          clear ha0 hk0
          refine reg_take (i := 2) (v := ?_) rfl (by kernel_rfl) (by kernel_rfl) (by kernel_rfl) (fun _ _ _ h => h) (Or.inl ⟨by kernel_rfl, ?_⟩) hS ?_
          rotate_left
          · (intro w' hSw; go_simp <;> with_reducible rfl)
          try simp only [List.getElem_toArray, List.getElem_cons_succ, List.getElem_cons_zero, Act.put, List.setIfInBounds_toArray, List.set_cons_zero, List.set_cons_succ]
          refine reg_take (i := 3) (v := ?_) rfl (by kernel_rfl) (by kernel_rfl) (by kernel_rfl) (fun _ _ _ h => h) (Or.inl ⟨by kernel_rfl, ?_⟩) hS ?_
          rotate_left
          · (intro w' hSw; go_simp <;> with_reducible rfl)
          try simp only [List.getElem_toArray, List.getElem_cons_succ, List.getElem_cons_zero, Act.put, List.setIfInBounds_toArray, List.set_cons_zero, List.set_cons_succ]
          refine reg_take (i := 4) (v := ?_) rfl (by kernel_rfl) (by kernel_rfl) (by kernel_rfl) (fun _ _ _ h => h) (Or.inl ⟨by kernel_rfl, ?_⟩) hS ?_
          rotate_left
          · (intro w' hSw; go_simp <;> with_reducible rfl)
          try simp only [List.getElem_toArray, List.getElem_cons_succ, List.getElem_cons_zero, Act.put, List.setIfInBounds_toArray, List.set_cons_zero, List.set_cons_succ]
          refine reg_take (i := 5) (v := ?_) rfl (by kernel_rfl) (by kernel_rfl) (by kernel_rfl) (fun _ _ _ h => h) (Or.inl ⟨by kernel_rfl, ?_⟩) hS ?_
          rotate_left
          · (intro w' hSw; go_simp <;> with_reducible rfl)
          try simp only [List.getElem_toArray, List.getElem_cons_succ, List.getElem_cons_zero, Act.put, List.setIfInBounds_toArray, List.set_cons_zero, List.set_cons_succ]
          refine reg_take (i := 6) (v := ?_) rfl (by kernel_rfl) (by kernel_rfl) (by kernel_rfl) (fun _ _ _ h => h) (Or.inl ⟨by kernel_rfl, ?_⟩) hS ?_
          rotate_left
          · (intro w' hSw; go_simp <;> with_reducible rfl)
          try simp only [List.getElem_toArray, List.getElem_cons_succ, List.getElem_cons_zero, Act.put, List.setIfInBounds_toArray, List.set_cons_zero, List.set_cons_succ]
          refine reg_take (i := 7) (v := undef) rfl (by kernel_rfl) (by kernel_rfl) (by kernel_rfl) (fun _ _ _ h => h) (Or.inr ⟨by kernel_rfl, rfl⟩) hS ?_
          try simp only [List.getElem_toArray, List.getElem_cons_succ, List.getElem_cons_zero, Act.put, List.setIfInBounds_toArray, List.set_cons_zero, List.set_cons_succ]
          refine reg_take (i := 8) (v := undef) rfl (by kernel_rfl) (by kernel_rfl) (by kernel_rfl) (fun _ _ _ h => h) (Or.inr ⟨by kernel_rfl, rfl⟩) hS ?_
          try simp only [List.getElem_toArray, List.getElem_cons_succ, List.getElem_cons_zero, Act.put, List.setIfInBounds_toArray, List.set_cons_zero, List.set_cons_succ]
          refine reg_take (i := 9) (v := undef) rfl (by kernel_rfl) (by kernel_rfl) (by kernel_rfl) (fun _ _ _ h => h) (Or.inr ⟨by kernel_rfl, rfl⟩) hS ?_
          try simp only [List.getElem_toArray, List.getElem_cons_succ, List.getElem_cons_zero, Act.put, List.setIfInBounds_toArray, List.set_cons_zero, List.set_cons_succ]
          refine reg_take (i := 10) (v := undef) rfl (by kernel_rfl) (by kernel_rfl) (by kernel_rfl) (fun _ _ _ h => h) (Or.inr ⟨by kernel_rfl, rfl⟩) hS ?_
          try simp only [List.getElem_toArray, List.getElem_cons_succ, List.getElem_cons_zero, Act.put, List.setIfInBounds_toArray, List.set_cons_zero, List.set_cons_succ]
          refine reg_take (i := 11) (v := undef) rfl (by kernel_rfl) (by kernel_rfl) (by kernel_rfl) (fun _ _ _ h => h) (Or.inr ⟨by kernel_rfl, rfl⟩) hS ?_
          try simp only [List.getElem_toArray, List.getElem_cons_succ, List.getElem_cons_zero, Act.put, List.setIfInBounds_toArray, List.set_cons_zero, List.set_cons_succ]
          refine reg_take (i := 12) (v := undef) rfl (by kernel_rfl) (by kernel_rfl) (by kernel_rfl) (fun _ _ _ h => h) (Or.inr ⟨by kernel_rfl, rfl⟩) hS ?_
          try simp only [List.getElem_toArray, List.getElem_cons_succ, List.getElem_cons_zero, Act.put, List.setIfInBounds_toArray, List.set_cons_zero, List.set_cons_succ]
          refine reg_take (i := 13) (v := undef) rfl (by kernel_rfl) (by kernel_rfl) (by kernel_rfl) (fun _ _ _ h => h) (Or.inr ⟨by kernel_rfl, rfl⟩) hS ?_
          try simp only [List.getElem_toArray, List.getElem_cons_succ, List.getElem_cons_zero, Act.put, List.setIfInBounds_toArray, List.set_cons_zero, List.set_cons_succ]
          refine reg_take (i := 14) (v := undef) rfl (by kernel_rfl) (by kernel_rfl) (by kernel_rfl) (fun _ _ _ h => h) (Or.inr ⟨by kernel_rfl, rfl⟩) hS ?_
          try simp only [List.getElem_toArray, List.getElem_cons_succ, List.getElem_cons_zero, Act.put, List.setIfInBounds_toArray, List.set_cons_zero, List.set_cons_succ]
          refine reg_take (i := 15) (v := undef) rfl (by kernel_rfl) (by kernel_rfl) (by kernel_rfl) (fun _ _ _ h => h) (Or.inr ⟨by kernel_rfl, rfl⟩) hS ?_
          try simp only [List.getElem_toArray, List.getElem_cons_succ, List.getElem_cons_zero, Act.put, List.setIfInBounds_toArray, List.set_cons_zero, List.set_cons_succ]
          refine reg_take (i := 16) (v := undef) rfl (by kernel_rfl) (by kernel_rfl) (by kernel_rfl) (fun _ _ _ h => h) (Or.inr ⟨by kernel_rfl, rfl⟩) hS ?_
          try simp only [List.getElem_toArray, List.getElem_cons_succ, List.getElem_cons_zero, Act.put, List.setIfInBounds_toArray, List.set_cons_zero, List.set_cons_succ]
          refine reg_take (i := 17) (v := undef) rfl (by kernel_rfl) (by kernel_rfl) (by kernel_rfl) (fun _ _ _ h => h) (Or.inr ⟨by kernel_rfl, rfl⟩) hS ?_
          try simp only [List.getElem_toArray, List.getElem_cons_succ, List.getElem_cons_zero, Act.put, List.setIfInBounds_toArray, List.set_cons_zero, List.set_cons_succ]
          refine reg_take (i := 18) (v := ?_) rfl (by kernel_rfl) (by kernel_rfl) (by kernel_rfl) (fun _ _ _ h => h) (Or.inl ⟨by kernel_rfl, ?_⟩) hS ?_
          rotate_left
          · (intro w' hSw; go_simp <;> with_reducible rfl)
          try simp only [List.getElem_toArray, List.getElem_cons_succ, List.getElem_cons_zero, Act.put, List.setIfInBounds_toArray, List.set_cons_zero, List.set_cons_succ]
          refine reg_take (i := 19) (v := ?_) rfl (by kernel_rfl) (by kernel_rfl) (by kernel_rfl) (fun _ _ _ h => h) (Or.inl ⟨by kernel_rfl, ?_⟩) hS ?_
          rotate_left
          · (intro w' hSw; go_simp <;> with_reducible rfl)
          try simp only [List.getElem_toArray, List.getElem_cons_succ, List.getElem_cons_zero, Act.put, List.setIfInBounds_toArray, List.set_cons_zero, List.set_cons_succ]
          refine wpAnyH_done (by kernel_rfl) ?_ _
          try simp only [List.getElem_toArray, List.getElem_cons_succ, List.getElem_cons_zero]
          try simp only [List.getElem_toArray, List.getElem_cons_succ, List.getElem_cons_zero, Act.put, List.setIfInBounds_toArray, List.set_cons_zero, List.set_cons_succ]
          have HG := Lib.hid hS
          clear hS
          go_wp2_with fail
          refine (sclo_any w0 _ xo xf vo1 vf1 (O ++ bO f n k) (FT ++ bF f n k) (some ⟨b, off + a * 3, none⟩) p (c - a) (shiftP f a) HG.out (HP.out.2.1 _ HG.out.own.bel) hp0 (by omega) (by omega)
            (by have := bO_len f n hn k; have := HT.out.2.2.1; rw [List.length_append]; omega) (by have := bF_len f H0.out.2.2 n hn k; have := HT.out.2.2.1; rw [List.length_append]; omega)
            (by have := colL_len (shiftP f a) p (by omega); omega) (fun j => H0.out.2.2 _)).mono ?_
          rintro e w8 ⟨rfl, vo2, vf2, h8⟩
          have HE := Lib.hid h8
          clear h8
          go_wp2_with fail
          go_roundw
          case rel =>
            refine ⟨k + 1, by unfold nbl; have := HT.out.2.2.1; omega, by congr 1; have := HT.out.2.2.1; omega, ?_, vo2, vf2, ?_⟩
            · show (bV f n k && stepV f n k) = true
              rw [HT.out.2.1, HO.out]; rfl
            · have e1 : O ++ bO f n (k + 1) = (O ++ bO f n k) ++ (colL (shiftP f a) p).1 := by rw [List.append_assoc, HP.out.1, HT.out.2.2.1]; rfl
              have e2 : FT ++ bF f n (k + 1) = (FT ++ bF f n k) ++ footB (shiftP f a) p := by rw [List.append_assoc, HP.out.1, HT.out.2.2.1]; rfl
              rw [e1, e2]
              exact HE.out
          case measure => simp [intOf] <;> omega
        · have d0 : decide ((0 : Int) < (a : Int)) = true := by simp; omega
          have d0' : decide (0 < a) = true := by simp; omega
          obtain ⟨q, hq⟩ : ∃ q, q = a - 1 := ⟨_, rfl⟩
          have km : ((a : Int) - 1) = (q : Int) := by omega
          have kw : IntKind.i64.wrap (q : Int) = (q : Int) := IntWalk.i64_in _ (by omega)
          have hqn : (q : Int) < (n : Int) := by omega
          have hqn' : q < n := by omega
          have hp0i : (0 : Int) < (p : Int) := by omega
          have hst : stepV f n k = !decide ((f a).t ≤ (f q).t) := by
            rw [HP.out.2.2, HCV.out, hq]
            have hk : (k == 0) = false := by have := HT.out.2.2.1; simp; omega
            rw [hk]
            by_cases g : (f (a - 1)).t < (f a).t
            · rw [decide_eq_true g, decide_eq_false (by omega)]; rfl
            · rw [decide_eq_false g, decide_eq_true (by omega)]; rfl
          have HST := Lib.hid hst
          clear hst ha0 hq
          refine reg_take (i := 2) (v := ?_) rfl (by kernel_rfl) (by kernel_rfl) (by kernel_rfl) (fun _ _ _ h => h) (Or.inl ⟨by kernel_rfl, ?_⟩) hS ?_
          rotate_left
          · (intro w' hSw; go_simp <;> with_reducible rfl)
          try simp only [List.getElem_toArray, List.getElem_cons_succ, List.getElem_cons_zero, Act.put, List.setIfInBounds_toArray, List.set_cons_zero, List.set_cons_succ]
          refine reg_take (i := 3) (v := ?_) rfl (by kernel_rfl) (by kernel_rfl) (by kernel_rfl) (fun _ _ _ h => h) (Or.inl ⟨by kernel_rfl, ?_⟩) hS ?_
          rotate_left
          · (intro w' hSw; go_simp <;> with_reducible rfl)
          try simp only [List.getElem_toArray, List.getElem_cons_succ, List.getElem_cons_zero, Act.put, List.setIfInBounds_toArray, List.set_cons_zero, List.set_cons_succ]
          refine reg_take (i := 4) (v := ?_) rfl (by kernel_rfl) (by kernel_rfl) (by kernel_rfl) (fun _ _ _ h => h) (Or.inl ⟨by kernel_rfl, ?_⟩) hS ?_
          rotate_left
          · (intro w' hSw; go_simp <;> with_reducible rfl)
          try simp only [List.getElem_toArray, List.getElem_cons_succ, List.getElem_cons_zero, Act.put, List.setIfInBounds_toArray, List.set_cons_zero, List.set_cons_succ]
          refine reg_take (i := 5) (v := ?_) rfl (by kernel_rfl) (by kernel_rfl) (by kernel_rfl) (fun _ _ _ h => h) (Or.inl ⟨by kernel_rfl, ?_⟩) hS ?_
          rotate_left
          · (intro w' hSw; go_simp <;> with_reducible rfl)
          try simp only [List.getElem_toArray, List.getElem_cons_succ, List.getElem_cons_zero, Act.put, List.setIfInBounds_toArray, List.set_cons_zero, List.set_cons_succ]
          refine reg_take (i := 6) (v := ?_) rfl (by kernel_rfl) (by kernel_rfl) (by kernel_rfl) (fun _ _ _ h => h) (Or.inl ⟨by kernel_rfl, ?_⟩) hS ?_
          rotate_left
          · (intro w' hSw; go_simp <;> with_reducible rfl)
          try simp only [List.getElem_toArray, List.getElem_cons_succ, List.getElem_cons_zero, Act.put, List.setIfInBounds_toArray, List.set_cons_zero, List.set_cons_succ]
          refine reg_take (i := 7) (v := ?_) rfl (by kernel_rfl) (by kernel_rfl) (by kernel_rfl) (fun _ _ _ h => h) (Or.inl ⟨by kernel_rfl, ?_⟩) hS ?_
          rotate_left
          · (intro w' hSw; go_simp <;> with_reducible rfl)
          try simp only [List.getElem_toArray, List.getElem_cons_succ, List.getElem_cons_zero, Act.put, List.setIfInBounds_toArray, List.set_cons_zero, List.set_cons_succ]
          refine reg_take (i := 8) (v := ?_) rfl (by kernel_rfl) (by kernel_rfl) (by kernel_rfl) (fun _ _ _ h => h) (Or.inl ⟨by kernel_rfl, ?_⟩) hS ?_
          rotate_left
          · (intro w' hSw; go_simp <;> with_reducible rfl)
          try simp only [List.getElem_toArray, List.getElem_cons_succ, List.getElem_cons_zero, Act.put, List.setIfInBounds_toArray, List.set_cons_zero, List.set_cons_succ]
          refine reg_take (i := 9) (v := ?_) rfl (by kernel_rfl) (by kernel_rfl) (by kernel_rfl) (fun _ _ _ h => h) (Or.inl ⟨by kernel_rfl, ?_⟩) hS ?_
          rotate_left
          · (intro w' hSw; go_simp <;> with_reducible rfl)
          try simp only [List.getElem_toArray, List.getElem_cons_succ, List.getElem_cons_zero, Act.put, List.setIfInBounds_toArray, List.set_cons_zero, List.set_cons_succ]
          refine reg_take (i := 10) (v := ?_) rfl (by kernel_rfl) (by kernel_rfl) (by kernel_rfl) (fun _ _ _ h => h) (Or.inl ⟨by kernel_rfl, ?_⟩) hS ?_
          rotate_left
          · (intro w' hSw; have u0 := HCE.out w' hSw.own.bel a (by omega); go_simp <;> with_reducible rfl)
          try simp only [List.getElem_toArray, List.getElem_cons_succ, List.getElem_cons_zero, Act.put, List.setIfInBounds_toArray, List.set_cons_zero, List.set_cons_succ]
          refine reg_take (i := 11) (v := ?_) rfl (by kernel_rfl) (by kernel_rfl) (by kernel_rfl) (fun _ _ _ h => h) (Or.inl ⟨by kernel_rfl, ?_⟩) hS ?_
          rotate_left
          · (intro w' hSw; go_simp <;> with_reducible rfl)
          try simp only [List.getElem_toArray, List.getElem_cons_succ, List.getElem_cons_zero, Act.put, List.setIfInBounds_toArray, List.set_cons_zero, List.set_cons_succ]
          refine reg_take (i := 12) (v := ?_) rfl (by kernel_rfl) (by kernel_rfl) (by kernel_rfl) (fun _ _ _ h => h) (Or.inl ⟨by kernel_rfl, ?_⟩) hS ?_
          rotate_left
          · (intro w' hSw; go_simp <;> with_reducible rfl)
          try simp only [List.getElem_toArray, List.getElem_cons_succ, List.getElem_cons_zero, Act.put, List.setIfInBounds_toArray, List.set_cons_zero, List.set_cons_succ]
          refine reg_take (i := 13) (v := ?_) rfl (by kernel_rfl) (by kernel_rfl) (by kernel_rfl) (fun _ _ _ h => h) (Or.inl ⟨by kernel_rfl, ?_⟩) hS ?_
          rotate_left
          · (intro w' hSw; go_simp <;> with_reducible rfl)
          try simp only [List.getElem_toArray, List.getElem_cons_succ, List.getElem_cons_zero, Act.put, List.setIfInBounds_toArray, List.set_cons_zero, List.set_cons_succ]
          refine reg_take (i := 14) (v := ?_) rfl (by kernel_rfl) (by kernel_rfl) (by kernel_rfl) (fun _ _ _ h => h) (Or.inl ⟨by kernel_rfl, ?_⟩) hS ?_
          rotate_left
          · (intro w' hSw; go_simp <;> with_reducible rfl)
          try simp only [List.getElem_toArray, List.getElem_cons_succ, List.getElem_cons_zero, Act.put, List.setIfInBounds_toArray, List.set_cons_zero, List.set_cons_succ]
          refine reg_take (i := 15) (v := ?_) rfl (by kernel_rfl) (by kernel_rfl) (by kernel_rfl) (fun _ _ _ h => h) (Or.inl ⟨by kernel_rfl, ?_⟩) hS ?_
          rotate_left
          · (intro w' hSw; go_simp <;> with_reducible rfl)
          try simp only [List.getElem_toArray, List.getElem_cons_succ, List.getElem_cons_zero, Act.put, List.setIfInBounds_toArray, List.set_cons_zero, List.set_cons_succ]
          refine reg_take (i := 16) (v := ?_) rfl (by kernel_rfl) (by kernel_rfl) (by kernel_rfl) (fun _ _ _ h => h) (Or.inl ⟨by kernel_rfl, ?_⟩) hS ?_
          rotate_left
          · (intro w' hSw; have u1 := HCE.out w' hSw.own.bel q hqn'; go_simp <;> with_reducible rfl)
          try simp only [List.getElem_toArray, List.getElem_cons_succ, List.getElem_cons_zero, Act.put, List.setIfInBounds_toArray, List.set_cons_zero, List.set_cons_succ]
          refine reg_take (i := 17) (v := ?_) rfl (by kernel_rfl) (by kernel_rfl) (by kernel_rfl) (fun _ _ _ h => h) (Or.inl ⟨by kernel_rfl, ?_⟩) hS ?_
          rotate_left
          · (intro w' hSw; go_simp <;> with_reducible rfl)
          try simp only [List.getElem_toArray, List.getElem_cons_succ, List.getElem_cons_zero, Act.put, List.setIfInBounds_toArray, List.set_cons_zero, List.set_cons_succ]
          by_cases hle : (f a).t ≤ (f q).t
          · have d1 : decide ((f a).t ≤ (f q).t) = true := by simp [hle]
            have HF := Lib.hid (show bV f n (nbl n) = false from bV_bad (k := k) (by rw [HST.out, d1]; rfl) _ (by unfold nbl; have := HT.out.2.2.1; omega))
            clear hle
            refine reg_take (i := 18) (v := ?_) rfl (by kernel_rfl) (by kernel_rfl) (by kernel_rfl) (fun _ _ _ h => h) (Or.inl ⟨by kernel_rfl, ?_⟩) hS ?_
            rotate_left
            · (intro w' hSw; go_simp <;> with_reducible rfl)
            try simp only [List.getElem_toArray, List.getElem_cons_succ, List.getElem_cons_zero, Act.put, List.setIfInBounds_toArray, List.set_cons_zero, List.set_cons_succ]
            refine reg_take (i := 19) (v := ?_) rfl (by kernel_rfl) (by kernel_rfl) (by kernel_rfl) (fun _ _ _ h => h) (Or.inl ⟨by kernel_rfl, ?_⟩) hS ?_
            rotate_left
            · (intro w' hSw; go_simp <;> with_reducible rfl)
            try simp only [List.getElem_toArray, List.getElem_cons_succ, List.getElem_cons_zero, Act.put, List.setIfInBounds_toArray, List.set_cons_zero, List.set_cons_succ]
            refine wpAnyH_done (by kernel_rfl) ?_ _
            try simp only [List.getElem_toArray, List.getElem_cons_succ, List.getElem_cons_zero]
            try simp only [List.getElem_toArray, List.getElem_cons_succ, List.getElem_cons_zero, Act.put, List.setIfInBounds_toArray, List.set_cons_zero, List.set_cons_succ]
            have HG := Lib.hid hS.own.bel
            clear hS
            go_wp2_with fail
            go_ret
            exact .inr ⟨.inl HF.out, rfl, HG.out⟩
          · have d1 : decide ((f a).t ≤ (f q).t) = false := by simp; omega
            have HO := Lib.hid (show stepV f n k = true by rw [HST.out, d1]; rfl)
            clear hle
            refine reg_take (i := 18) (v := ?_) rfl (by kernel_rfl) (by kernel_rfl) (by kernel_rfl) (fun _ _ _ h => h) (Or.inl ⟨by kernel_rfl, ?_⟩) hS ?_
            rotate_left
            · (intro w' hSw; go_simp <;> with_reducible rfl)
            try simp only [List.getElem_toArray, List.getElem_cons_succ, List.getElem_cons_zero, Act.put, List.setIfInBounds_toArray, List.set_cons_zero, List.set_cons_succ]
            refine reg_take (i := 19) (v := ?_) rfl (by kernel_rfl) (by kernel_rfl) (by kernel_rfl) (fun _ _ _ h => h) (Or.inl ⟨by kernel_rfl, ?_⟩) hS ?_
            rotate_left
            · (intro w' hSw; go_simp <;> with_reducible rfl)
            try simp only [List.getElem_toArray, List.getElem_cons_succ, List.getElem_cons_zero, Act.put, List.setIfInBounds_toArray, List.set_cons_zero, List.set_cons_succ]
            refine wpAnyH_done (by kernel_rfl) ?_ _
            try simp only [List.getElem_toArray, List.getElem_cons_succ, List.getElem_cons_zero]
            try simp only [List.getElem_toArray, List.getElem_cons_succ, List.getElem_cons_zero, Act.put, List.setIfInBounds_toArray, List.set_cons_zero, List.set_cons_succ]
            have HG := Lib.hid hS
            clear hS
            go_wp2_with fail
            refine (sclo_any w0 _ xo xf vo1 vf1 (O ++ bO f n k) (FT ++ bF f n k) (some ⟨b, off + a * 3, none⟩) p (c - a) (shiftP f a) HG.out (HP.out.2.1 _ HG.out.own.bel) hp0 (by omega) (by omega)
              (by have := bO_len f n hn k; have := HT.out.2.2.1; rw [List.length_append]; omega) (by have := bF_len f H0.out.2.2 n hn k; have := HT.out.2.2.1; rw [List.length_append]; omega)
              (by have := colL_len (shiftP f a) p (by omega); omega) (fun j => H0.out.2.2 _)).mono ?_
            rintro e w8 ⟨rfl, vo2, vf2, h8⟩
            have HE := Lib.hid h8
            clear h8
            go_wp2_with fail
            go_roundw
            case rel =>
              refine ⟨k + 1, by unfold nbl; have := HT.out.2.2.1; omega, by congr 1; have := HT.out.2.2.1; omega, ?_, vo2, vf2, ?_⟩
              · show (bV f n k && stepV f n k) = true
                rw [HT.out.2.1, HO.out]; rfl
              · have e1 : O ++ bO f n (k + 1) = (O ++ bO f n k) ++ (colL (shiftP f a) p).1 := by rw [List.append_assoc, HP.out.1, HT.out.2.2.1]; rfl
                have e2 : FT ++ bF f n (k + 1) = (FT ++ bF f n k) ++ footB (shiftP f a) p := by rw [List.append_assoc, HP.out.1, HT.out.2.2.1]; rfl
                rw [e1, e2]
                exact HE.out
            case measure => simp [intOf] <;> omega
    · have HE := Lib.hid (And.intro hT hv)
      clear hT hv
      rcases Nat.eq_zero_or_pos n with h0 | h0
      · subst h0
        have d1 : decide (((1024 * k : Nat) : Int) < 0) = false := by simp; omega
        go_wp2_with fail
        go_ret
        exact .inr ⟨.inr rfl, rfl, HE.out.1.own.bel⟩
      · have hkn : k = nbl n := by unfold nbl at hk ⊢; omega
        have d1 : decide (((1024 * k : Nat) : Int) < (n : Int)) = false := by simp; omega
        have d2 : decide ((0 : Int) < (n : Int)) = true := by simp; omega
        have HK := Lib.hid hkn
        clear hkn
        go_wp2_with fail
        go_ret
        refine .inl ⟨by rw [← HK.out]; exact HE.out.2, h0, rfl, vo1, vf1, ?_⟩
        rw [← HK.out]
        exact HE.out.1
end Go.Proofs.Ytopbbicjbjmdnaa
namespace Go.Proofs.Ytopbbicjbjmdnaa
open Go.RowKit Go.Maps
set_option maxRecDepth 100000
set_option linter.unusedVariables false
set_option linter.unusedSimpArgs false
def leS (s t : ByteArray) : Bool := Op.bytesLess s.toList t.toList || s.toList == t.toList
theorem leS_false {s t : ByteArray} (h : leS s t = false) : t.toList < s.toList := by
  unfold leS at h
  rw [Bool.or_eq_false_iff, Proofs.bytesLess_eq] at h
  obtain ⟨h1, h2⟩ := h
  have h1' : ¬ s.toList < t.toList := by simpa using h1
  have h2' : s.toList ≠ t.toList := by simpa using h2
  exact Classical.byContradiction fun h3 => h2' (List.le_antisymm (List.not_lt.1 h3) (List.not_lt.1 h1'))
theorem leS_true {s t : ByteArray} (h : ¬ t.toList < s.toList) : leS s t = true := by
  cases h' : leS s t with
  | true => rfl
  | false => exact absurd (leS_false h') h
/-- The first k names rise. -/
def Rise (nm : Nat → ByteArray) (k : Nat) : Prop := ∀ i, 0 < i → i < k → leS (nm i) (nm (i - 1)) = false
theorem Rise.lt {nm : Nat → ByteArray} {k : Nat} (h : Rise nm k) (i : Nat) : ∀ d, 0 < d → i + d < k → (nm i).toList < (nm (i + d)).toList
  | 0, h0, _ => absurd h0 (by omega)
  | d + 1, _, hk => by
    have h1 := leS_false (h (i + (d + 1)) (by omega) hk)
    rw [show i + (d + 1) - 1 = i + d by omega] at h1
    rcases Nat.eq_zero_or_pos d with h0 | h0
    · subst h0; exact h1
    · exact List.lt_trans (Rise.lt h i d h0 (by omega)) h1
theorem Rise.apart {nm : Nat → ByteArray} {k : Nat} (h : Rise nm k) : Apart nm k := fun i j hij hj e => by
  have := h.lt i (j - i) (by omega) (by omega)
  rw [show i + (j - i) = j by omega, e] at this
  exact List.lt_irrefl _ this
/-- A name that is there already does not rise. -/
theorem Rise.there {nm : Nat → ByteArray} {k j : Nat} (h : Rise nm k) (hj : j < k) (e : nm j = nm k) : leS (nm k) (nm (k - 1)) = true := by
  refine leS_true fun hlt => ?_
  rcases Nat.lt_or_ge j (k - 1) with h1 | h1
  · have := h.lt j (k - 1 - j) (by omega) (by omega)
    rw [show j + (k - 1 - j) = k - 1 by omega, e] at this
    exact List.lt_irrefl _ (List.lt_trans this hlt)
  · have : j = k - 1 := by omega
    rw [← this, e] at hlt
    exact List.lt_irrefl _ hlt
/-- Is the i-th name one that may be, and behind the one ahead of it? -/
def stepOk (nm : Nat → ByteArray) (i : Nat) : Bool := nameOk (nm i) && (i == 0 || !leS (nm i) (nm (i - 1)))
def namesOk (nm : Nat → ByteArray) (k : Nat) : Bool := (List.range k).all (stepOk nm)
theorem namesOk_succ (nm : Nat → ByteArray) (k : Nat) : namesOk nm (k + 1) = (namesOk nm k && stepOk nm k) := by unfold namesOk; rw [List.range_succ, List.all_append]; simp
theorem namesOk_bad {nm : Nat → ByteArray} {i k : Nat} (hi : i < k) (h : stepOk nm i = false) : namesOk nm k = false := by
  unfold namesOk
  rw [List.all_eq_false]
  exact ⟨i, List.mem_range.2 hi, by rw [h]; simp⟩
theorem namesOk_rise {nm : Nat → ByteArray} {k : Nat} (h : namesOk nm k = true) : Rise nm k := fun i h0 hi => by
  have := List.all_eq_true.1 h i (List.mem_range.2 hi)
  unfold stepOk at this
  simp only [Bool.and_eq_true, Bool.or_eq_true, beq_iff_eq] at this
  rcases this.2 with h1 | h1
  · omega
  · simpa using h1
theorem namesOk_name {nm : Nat → ByteArray} {k i : Nat} (h : namesOk nm k = true) (hi : i < k) : nameOk (nm i) = true := by
  have := List.all_eq_true.1 h i (List.mem_range.2 hi)
  unfold stepOk at this
  simp only [Bool.and_eq_true] at this
  exact this.1
/-- Parts in memory: names and slices of points. -/
structure PartsAt (w : World) (A : Option Addr) (k : Nat) (nm : Nat → ByteArray) (pa : Nat → Option Addr) (pn pc : Nat → Nat) (pf : Nat → Nat → Pt) : Prop where
  row : 0 < k → ∃ b off, A = some ⟨b, off, none⟩ ∧ b < w.heap.size ∧ ∀ j, j < k → w.cell? ⟨b, off + j * 2, none⟩ = some (.string (nm j)) ∧ w.cell? ⟨b, off + j * 2 + 1, none⟩ = some (.slice (pa j) (pn j) (pc j))
  pts : ∀ j, j < k → SlP w (fun q => q < w.heap.size) (pa j) (pn j) (pf j)
  le : ∀ j, j < k → pn j ≤ pc j ∧ pc j ≤ 9223372036854775807
  ok : ∀ j i, PtOk (pf j i)
  nsz : ∀ j, j < k → (nm j).size ≤ 9223372036854775807
theorem PartsAt.below {w w' : World} {A : Option Addr} {k : Nat} {nm : Nat → ByteArray} {pa : Nat → Option Addr} {pn pc : Nat → Nat} {pf : Nat → Nat → Pt} (h : PartsAt w A k nm pa pn pc pf) (hb : Below w.heap.size w w') : PartsAt w' A k nm pa pn pc pf := by
  refine ⟨fun hk => ?_, fun j hj => ?_, h.le, h.ok, h.nsz⟩
  · obtain ⟨b, off, e, hlt, hc⟩ := h.row hk
    exact ⟨b, off, e, Nat.lt_of_lt_of_le hlt hb.size, fun j hj => ⟨(hb.cell (by exact hlt)).trans (hc j hj).1, (hb.cell (by exact hlt)).trans (hc j hj).2⟩⟩
  · exact ((h.pts j hj).below hb).mono (fun _ hq => Nat.lt_of_lt_of_le hq hb.size)
end Go.Proofs.Ytopbbicjbjmdnaa
namespace Go.Proofs.Ytopbbicjbjmdnaa
open Go.RowKit Go.Maps
set_option maxRecDepth 100000
set_option linter.unusedVariables false
set_option linter.unusedSimpArgs false
theorem DictS.alloc {w0 w : World} {d m k y : Nat} {nm : Nat → ByteArray} (h : DictS w0 [] d m k nm w) (hy : y = w.heap.size) (ty : TypeId) (cs : Array Value) : DictS w0 [(y, ty, cs)] d m k nm (w.alloc (.cells cs ty)) := by
  refine ⟨h.own.alloc hy ty cs, World.ownsMap.alloc h.map _, h.ge, fun b hb => ?_⟩
  rcases List.mem_cons.1 hb with rfl | hb
  · exact h.ne _ List.mem_cons_self
  · obtain rfl := List.mem_singleton.1 hb
    have := World.ownsMap.lt h.map
    show y ≠ m
    omega
theorem DictS.forget {w0 w : World} {L : List (Nat × TypeId × Array Value)} {d m k : Nat} {nm : Nat → ByteArray} (h : DictS w0 L d m k nm w) : DictS w0 [] d m k nm w :=
  ⟨h.own.take 1, h.map, h.ge, fun b hb => h.ne b (by obtain rfl := List.mem_singleton.1 hb; exact List.mem_cons_self)⟩
def NamesFn (k : Nat) (nm : Nat → ByteArray) (w : World) (e : Ending) (w' : World) : Prop :=
  (namesOk nm k = true ∧ 0 < k ∧ ∃ d m, e = .returned (.tuple #[.pointer (some ⟨d, 0, none⟩), .bool true]) ∧ DictS w [] d m k nm w') ∨
  ((namesOk nm k = false ∨ k = 0) ∧ ∃ v, e = .returned (.tuple #[v, .bool false]) ∧ Below w.heap.size w w')
set_option maxHeartbeats 4000000 in
theorem names_any (w : World) (A : Option Addr) (k c : Nat) (nm : Nat → ByteArray) (pa : Nat → Option Addr) (pn pc : Nat → Nat) (pf : Nat → Nat → Pt) (h : PartsAt w A k nm pa pn pc pf) (hk : k ≤ 1024) :
    Calls Try.prog 8 #[.slice A k c] w (NamesFn k nm w) := by
  have H0 := Lib.hid h
  clear h
  go_enter Try.func8, Try.ntmps8
  go_wp2_with fail
  refine (dNew_any w nm).mono ?_
  rintro e w1 ⟨rfl, hd⟩
  obtain ⟨m, hm⟩ : ∃ m, m = w.heap.size := ⟨_, rfl⟩
  obtain ⟨d, hd0⟩ : ∃ d, d = w.heap.size + 1 := ⟨_, rfl⟩
  rw [← hd0, ← hm] at hd
  rw [← hd0]
  have HD := Lib.hid hd
  clear hd hm hd0
  go_wp2_with fail
  go_loopw [12] (fun i wr => ∃ (j : Nat), j ≤ k ∧ i = .int .i64 (j : Nat) ∧ namesOk nm j = true ∧ DictS w [] d m j nm wr) (fun i _ => k - (intOf i).toNat)
  case atStart => exact ⟨0, by omega, rfl, rfl, HD.out⟩
  case round =>
    obtain ⟨j, hj, rfl, hok, hS⟩ := hrel
    by_cases hlt : j < k
    · obtain ⟨b, off, hA, hbl, hcell⟩ := H0.out.row (by omega)
      subst hA
      obtain ⟨s, hs⟩ : ∃ s, s = nm j := ⟨_, rfl⟩
      have zc0 : wr.cell? ⟨b, off + j * 2, none⟩ = some (.string s) := by rw [hs]; exact (hS.own.bel.cell (by exact hbl)).trans (hcell j hlt).1
      have zc1 : wr.cell? ⟨b, off + j * 2 + 1, none⟩ = some (.slice (pa j) (pn j) (pc j)) := (hS.own.bel.cell (by exact hbl)).trans (hcell j hlt).2
      have hjk : (j : Int) < (k : Int) := by omega
      obtain ⟨y, hy⟩ : ∃ y, y = wr.heap.size := ⟨_, rfl⟩
      have HS := Lib.hid (And.intro hS (And.intro hok (And.intro hs hy)))
      have HC := Lib.hid hcell
      clear hS hok hs hcell
      go_upto_region 5 with (fail)
      rw [← hy]
      clear zc0 zc1
      refine wp_gen (fun wx => DictS w [(y, 36, #[.string s, .slice (pa j) (pn j) (pc j)])] d m j nm wx) (HS.out.1.alloc hy _ _) ?_
      intro w2 h2
      clear hy
      have zc0 := h2.own.cell 1 0 rfl rfl
      have H2 := Lib.hid h2
      clear h2
      have hrise := namesOk_rise HS.out.2.1
      have hput := dPut_any w w2 [(y, 36, #[.string s, .slice (pa j) (pn j) (pc j)])] d m j nm H2.out (by omega) hrise.apart (H0.out.nsz j hlt)
      rw [← HS.out.2.2.1] at hput
      go_wp2_with fail
      refine hput.mono ?_
      intro e w3 hcase
      have HQ := Lib.hid hrise
      clear hput zc0 hrise
      rcases hcase with ⟨hn, rfl, h3⟩ | ⟨hn, hth, q, rfl, h3⟩ | ⟨hn, hfr, rfl, h3⟩
      · have HF := Lib.hid (show namesOk nm k = false from namesOk_bad hlt (by unfold stepOk; rw [hn]; rfl))
        have H3 := Lib.hid h3
        clear hn h3
        go_upto_region 6 with (fail)
        have hS : (DictS w [(y, 36, #[.string s, .slice (pa j) (pn j) (pc j)])] d m j nm) (w3.drew) := H3.out.call (Below.refl _ _).drew
        refine reg_start (DictS w [(y, 36, #[.string s, .slice (pa j) (pn j) (pc j)])] d m j nm) (by kernel_rfl) hS ?_
        refine reg_take (i := 0) (v := ?_) rfl (by kernel_rfl) (by kernel_rfl) (by kernel_rfl) (fun _ _ _ h => h) (Or.inl ⟨by kernel_rfl, ?_⟩) hS ?_
        rotate_left
        · (intro w' hSw; go_simp <;> with_reducible rfl)
        try simp only [List.getElem_toArray, List.getElem_cons_succ, List.getElem_cons_zero, Act.put, List.setIfInBounds_toArray, List.set_cons_zero, List.set_cons_succ]
        refine reg_take (i := 1) (v := ?_) rfl (by kernel_rfl) (by kernel_rfl) (by kernel_rfl) (fun _ _ _ h => h) (Or.inl ⟨by kernel_rfl, ?_⟩) hS ?_
        rotate_left
        · (intro w' hSw; go_simp <;> with_reducible rfl)
        try simp only [List.getElem_toArray, List.getElem_cons_succ, List.getElem_cons_zero, Act.put, List.setIfInBounds_toArray, List.set_cons_zero, List.set_cons_succ]
        refine reg_take (i := 2) (v := ?_) rfl (by kernel_rfl) (by kernel_rfl) (by kernel_rfl) (fun _ _ _ h => h) (Or.inl ⟨by kernel_rfl, ?_⟩) hS ?_
        rotate_left
        · (intro w' hSw; go_simp <;> with_reducible rfl)
        try simp only [List.getElem_toArray, List.getElem_cons_succ, List.getElem_cons_zero, Act.put, List.setIfInBounds_toArray, List.set_cons_zero, List.set_cons_succ]
        refine reg_take (i := 3) (v := undef) rfl (by kernel_rfl) (by kernel_rfl) (by kernel_rfl) (fun _ _ _ h => h) (Or.inr ⟨by kernel_rfl, rfl⟩) hS ?_
        try simp only [List.getElem_toArray, List.getElem_cons_succ, List.getElem_cons_zero, Act.put, List.setIfInBounds_toArray, List.set_cons_zero, List.set_cons_succ]
        refine reg_take (i := 4) (v := undef) rfl (by kernel_rfl) (by kernel_rfl) (by kernel_rfl) (fun _ _ _ h => h) (Or.inr ⟨by kernel_rfl, rfl⟩) hS ?_
        try simp only [List.getElem_toArray, List.getElem_cons_succ, List.getElem_cons_zero, Act.put, List.setIfInBounds_toArray, List.set_cons_zero, List.set_cons_succ]
        refine reg_take (i := 5) (v := undef) rfl (by kernel_rfl) (by kernel_rfl) (by kernel_rfl) (fun _ _ _ h => h) (Or.inr ⟨by kernel_rfl, rfl⟩) hS ?_
        try simp only [List.getElem_toArray, List.getElem_cons_succ, List.getElem_cons_zero, Act.put, List.setIfInBounds_toArray, List.set_cons_zero, List.set_cons_succ]
        refine reg_take (i := 6) (v := undef) rfl (by kernel_rfl) (by kernel_rfl) (by kernel_rfl) (fun _ _ _ h => h) (Or.inr ⟨by kernel_rfl, rfl⟩) hS ?_
        try simp only [List.getElem_toArray, List.getElem_cons_succ, List.getElem_cons_zero, Act.put, List.setIfInBounds_toArray, List.set_cons_zero, List.set_cons_succ]
        refine reg_take (i := 7) (v := undef) rfl (by kernel_rfl) (by kernel_rfl) (by kernel_rfl) (fun _ _ _ h => h) (Or.inr ⟨by kernel_rfl, rfl⟩) hS ?_
        try simp only [List.getElem_toArray, List.getElem_cons_succ, List.getElem_cons_zero, Act.put, List.setIfInBounds_toArray, List.set_cons_zero, List.set_cons_succ]
        refine reg_take (i := 8) (v := undef) rfl (by kernel_rfl) (by kernel_rfl) (by kernel_rfl) (fun _ _ _ h => h) (Or.inr ⟨by kernel_rfl, rfl⟩) hS ?_
        try simp only [List.getElem_toArray, List.getElem_cons_succ, List.getElem_cons_zero, Act.put, List.setIfInBounds_toArray, List.set_cons_zero, List.set_cons_succ]
        refine reg_take (i := 9) (v := undef) rfl (by kernel_rfl) (by kernel_rfl) (by kernel_rfl) (fun _ _ _ h => h) (Or.inr ⟨by kernel_rfl, rfl⟩) hS ?_
        try simp only [List.getElem_toArray, List.getElem_cons_succ, List.getElem_cons_zero, Act.put, List.setIfInBounds_toArray, List.set_cons_zero, List.set_cons_succ]
        refine reg_take (i := 10) (v := undef) rfl (by kernel_rfl) (by kernel_rfl) (by kernel_rfl) (fun _ _ _ h => h) (Or.inr ⟨by kernel_rfl, rfl⟩) hS ?_
        try simp only [List.getElem_toArray, List.getElem_cons_succ, List.getElem_cons_zero, Act.put, List.setIfInBounds_toArray, List.set_cons_zero, List.set_cons_succ]
        refine reg_take (i := 11) (v := undef) rfl (by kernel_rfl) (by kernel_rfl) (by kernel_rfl) (fun _ _ _ h => h) (Or.inr ⟨by kernel_rfl, rfl⟩) hS ?_
        try simp only [List.getElem_toArray, List.getElem_cons_succ, List.getElem_cons_zero, Act.put, List.setIfInBounds_toArray, List.set_cons_zero, List.set_cons_succ]
        refine reg_take (i := 12) (v := undef) rfl (by kernel_rfl) (by kernel_rfl) (by kernel_rfl) (fun _ _ _ h => h) (Or.inr ⟨by kernel_rfl, rfl⟩) hS ?_
        try simp only [List.getElem_toArray, List.getElem_cons_succ, List.getElem_cons_zero, Act.put, List.setIfInBounds_toArray, List.set_cons_zero, List.set_cons_succ]
        refine reg_take (i := 13) (v := undef) rfl (by kernel_rfl) (by kernel_rfl) (by kernel_rfl) (fun _ _ _ h => h) (Or.inr ⟨by kernel_rfl, rfl⟩) hS ?_
        try simp only [List.getElem_toArray, List.getElem_cons_succ, List.getElem_cons_zero, Act.put, List.setIfInBounds_toArray, List.set_cons_zero, List.set_cons_succ]
        refine reg_take (i := 14) (v := undef) rfl (by kernel_rfl) (by kernel_rfl) (by kernel_rfl) (fun _ _ _ h => h) (Or.inr ⟨by kernel_rfl, rfl⟩) hS ?_
        try simp only [List.getElem_toArray, List.getElem_cons_succ, List.getElem_cons_zero, Act.put, List.setIfInBounds_toArray, List.set_cons_zero, List.set_cons_succ]
        refine reg_take (i := 15) (v := undef) rfl (by kernel_rfl) (by kernel_rfl) (by kernel_rfl) (fun _ _ _ h => h) (Or.inr ⟨by kernel_rfl, rfl⟩) hS ?_
        try simp only [List.getElem_toArray, List.getElem_cons_succ, List.getElem_cons_zero, Act.put, List.setIfInBounds_toArray, List.set_cons_zero, List.set_cons_succ]
        refine reg_take (i := 16) (v := ?_) rfl (by kernel_rfl) (by kernel_rfl) (by kernel_rfl) (fun _ _ _ h => h) (Or.inl ⟨by kernel_rfl, ?_⟩) hS ?_
        rotate_left
        · (intro w' hSw; go_simp <;> with_reducible rfl)
        try simp only [List.getElem_toArray, List.getElem_cons_succ, List.getElem_cons_zero, Act.put, List.setIfInBounds_toArray, List.set_cons_zero, List.set_cons_succ]
        refine wpAnyH_done (by kernel_rfl) ?_ _
        try simp only [List.getElem_toArray, List.getElem_cons_succ, List.getElem_cons_zero]
        try simp only [List.getElem_toArray, List.getElem_cons_succ, List.getElem_cons_zero, Act.put, List.setIfInBounds_toArray, List.set_cons_zero, List.set_cons_succ]
        have HG := Lib.hid hS.own.bel
        clear hS
        go_wp2_with fail
        go_ret2
        exact .inr ⟨.inl HF.out, _, rfl, HG.out⟩
      · obtain ⟨i, rfl⟩ : ∃ i, j = i + 1 := ⟨j - 1, by obtain ⟨q, h, _⟩ := hth; omega⟩
        have hle : leS s (nm i) = true := by obtain ⟨q, h1, h2⟩ := hth; rw [HS.out.2.2.1]; exact HQ.out.there h1 h2
        have HF := Lib.hid (show namesOk nm k = false from namesOk_bad hlt (by unfold stepOk; rw [← HS.out.2.2.1]; show (nameOk s && (false || !leS s (nm i))) = false; rw [hle]; simp))
        obtain ⟨t, ht⟩ : ∃ t, t = nm i := ⟨_, rfl⟩
        rw [← ht] at hle
        have zt : w3.cell? ⟨b, off + i * 2, none⟩ = some (.string t) := by rw [ht]; exact (h3.own.bel.cell (by exact hbl)).trans (HC.out i (by omega)).1
        have H3 := Lib.hid (And.intro h3 zt)
        have HL := Lib.hid hle
        have km : ((i : Int) + 1 - 1) = (i : Int) := by omega
        have hik : (i : Int) < (k : Int) := by omega
        have kw : IntKind.i64.wrap (i : Int) = (i : Int) := IntWalk.i64_in _ (by omega)
        clear hn h3 zt ht hle
        go_upto_region 6 with (fail)
        have hS : (fun w' => DictS w [(y, 36, #[.string s, .slice (pa (i + 1)) (pn (i + 1)) (pc (i + 1))])] d m (i + 1) nm w' ∧ w'.cell? ⟨b, off + i * 2, none⟩ = some (.string t)) (w3.drew) := ⟨H3.out.1.call (Below.refl _ _).drew, H3.out.2⟩
        refine reg_start (fun w' => DictS w [(y, 36, #[.string s, .slice (pa (i + 1)) (pn (i + 1)) (pc (i + 1))])] d m (i + 1) nm w' ∧ w'.cell? ⟨b, off + i * 2, none⟩ = some (.string t)) (by kernel_rfl) hS ?_
        refine reg_take (i := 0) (v := ?_) rfl (by kernel_rfl) (by kernel_rfl) (by kernel_rfl) (fun _ _ _ h => h) (Or.inl ⟨by kernel_rfl, ?_⟩) hS ?_
        rotate_left
        · (intro w' hSw; go_simp <;> with_reducible rfl)
        try simp only [List.getElem_toArray, List.getElem_cons_succ, List.getElem_cons_zero, Act.put, List.setIfInBounds_toArray, List.set_cons_zero, List.set_cons_succ]
        refine reg_take (i := 1) (v := ?_) rfl (by kernel_rfl) (by kernel_rfl) (by kernel_rfl) (fun _ _ _ h => h) (Or.inl ⟨by kernel_rfl, ?_⟩) hS ?_
        rotate_left
        · (intro w' hSw; go_simp <;> with_reducible rfl)
        try simp only [List.getElem_toArray, List.getElem_cons_succ, List.getElem_cons_zero, Act.put, List.setIfInBounds_toArray, List.set_cons_zero, List.set_cons_succ]
        refine reg_take (i := 2) (v := ?_) rfl (by kernel_rfl) (by kernel_rfl) (by kernel_rfl) (fun _ _ _ h => h) (Or.inl ⟨by kernel_rfl, ?_⟩) hS ?_
        rotate_left
        · (intro w' hSw; go_simp <;> with_reducible rfl)
        try simp only [List.getElem_toArray, List.getElem_cons_succ, List.getElem_cons_zero, Act.put, List.setIfInBounds_toArray, List.set_cons_zero, List.set_cons_succ]
        refine reg_take (i := 3) (v := ?_) rfl (by kernel_rfl) (by kernel_rfl) (by kernel_rfl) (fun _ _ _ h => h) (Or.inl ⟨by kernel_rfl, ?_⟩) hS ?_
        rotate_left
        · (intro w' hSw; go_simp <;> with_reducible rfl)
        try simp only [List.getElem_toArray, List.getElem_cons_succ, List.getElem_cons_zero, Act.put, List.setIfInBounds_toArray, List.set_cons_zero, List.set_cons_succ]
        refine reg_take (i := 4) (v := ?_) rfl (by kernel_rfl) (by kernel_rfl) (by kernel_rfl) (fun _ _ _ h => h) (Or.inl ⟨by kernel_rfl, ?_⟩) hS ?_
        rotate_left
        · (intro w' hSw; go_simp <;> with_reducible rfl)
        try simp only [List.getElem_toArray, List.getElem_cons_succ, List.getElem_cons_zero, Act.put, List.setIfInBounds_toArray, List.set_cons_zero, List.set_cons_succ]
        refine reg_take (i := 5) (v := ?_) rfl (by kernel_rfl) (by kernel_rfl) (by kernel_rfl) (fun _ _ _ h => h) (Or.inl ⟨by kernel_rfl, ?_⟩) hS ?_
        rotate_left
        · (intro w' hSw; go_simp <;> with_reducible rfl)
        try simp only [List.getElem_toArray, List.getElem_cons_succ, List.getElem_cons_zero, Act.put, List.setIfInBounds_toArray, List.set_cons_zero, List.set_cons_succ]
        refine reg_take (i := 6) (v := ?_) rfl (by kernel_rfl) (by kernel_rfl) (by kernel_rfl) (fun _ _ _ h => h) (Or.inl ⟨by kernel_rfl, ?_⟩) hS ?_
        rotate_left
        · (intro w' hSw; go_simp <;> with_reducible rfl)
        try simp only [List.getElem_toArray, List.getElem_cons_succ, List.getElem_cons_zero, Act.put, List.setIfInBounds_toArray, List.set_cons_zero, List.set_cons_succ]
        refine reg_take (i := 7) (v := ?_) rfl (by kernel_rfl) (by kernel_rfl) (by kernel_rfl) (fun _ _ _ h => h) (Or.inl ⟨by kernel_rfl, ?_⟩) hS ?_
        rotate_left
        · (intro w' hSw; have u0 := hSw.1.own.cell 1 0 rfl rfl; go_simp <;> with_reducible rfl)
        try simp only [List.getElem_toArray, List.getElem_cons_succ, List.getElem_cons_zero, Act.put, List.setIfInBounds_toArray, List.set_cons_zero, List.set_cons_succ]
        refine reg_take (i := 8) (v := ?_) rfl (by kernel_rfl) (by kernel_rfl) (by kernel_rfl) (fun _ _ _ h => h) (Or.inl ⟨by kernel_rfl, ?_⟩) hS ?_
        rotate_left
        · (intro w' hSw; go_simp <;> with_reducible rfl)
        try simp only [List.getElem_toArray, List.getElem_cons_succ, List.getElem_cons_zero, Act.put, List.setIfInBounds_toArray, List.set_cons_zero, List.set_cons_succ]
        refine reg_take (i := 9) (v := ?_) rfl (by kernel_rfl) (by kernel_rfl) (by kernel_rfl) (fun _ _ _ h => h) (Or.inl ⟨by kernel_rfl, ?_⟩) hS ?_
        rotate_left
        · (intro w' hSw; go_simp <;> with_reducible rfl)
        try simp only [List.getElem_toArray, List.getElem_cons_succ, List.getElem_cons_zero, Act.put, List.setIfInBounds_toArray, List.set_cons_zero, List.set_cons_succ]
        refine reg_take (i := 10) (v := ?_) rfl (by kernel_rfl) (by kernel_rfl) (by kernel_rfl) (fun _ _ _ h => h) (Or.inl ⟨by kernel_rfl, ?_⟩) hS ?_
        rotate_left
        · (intro w' hSw; go_simp <;> with_reducible rfl)
        try simp only [List.getElem_toArray, List.getElem_cons_succ, List.getElem_cons_zero, Act.put, List.setIfInBounds_toArray, List.set_cons_zero, List.set_cons_succ]
        refine reg_take (i := 11) (v := ?_) rfl (by kernel_rfl) (by kernel_rfl) (by kernel_rfl) (fun _ _ _ h => h) (Or.inl ⟨by kernel_rfl, ?_⟩) hS ?_
        rotate_left
        · (intro w' hSw; go_simp <;> with_reducible rfl)
        try simp only [List.getElem_toArray, List.getElem_cons_succ, List.getElem_cons_zero, Act.put, List.setIfInBounds_toArray, List.set_cons_zero, List.set_cons_succ]
        refine reg_take (i := 12) (v := ?_) rfl (by kernel_rfl) (by kernel_rfl) (by kernel_rfl) (fun _ _ _ h => h) (Or.inl ⟨by kernel_rfl, ?_⟩) hS ?_
        rotate_left
        · (intro w' hSw; go_simp <;> with_reducible rfl)
        try simp only [List.getElem_toArray, List.getElem_cons_succ, List.getElem_cons_zero, Act.put, List.setIfInBounds_toArray, List.set_cons_zero, List.set_cons_succ]
        refine reg_take (i := 13) (v := ?_) rfl (by kernel_rfl) (by kernel_rfl) (by kernel_rfl) (fun _ _ _ h => h) (Or.inl ⟨by kernel_rfl, ?_⟩) hS ?_
        rotate_left
        · (intro w' hSw; have u1 := hSw.2; go_simp <;> with_reducible rfl)
        try simp only [List.getElem_toArray, List.getElem_cons_succ, List.getElem_cons_zero, Act.put, List.setIfInBounds_toArray, List.set_cons_zero, List.set_cons_succ]
        refine reg_take (i := 14) (v := .bool (leS s t)) rfl (by kernel_rfl) (by kernel_rfl) (by kernel_rfl) (fun _ _ _ h => h) (Or.inl ⟨by kernel_rfl, ?_⟩) hS ?_
        · (intro w' hSw; (go_simp <;> rfl))
        try simp only [List.getElem_toArray, List.getElem_cons_succ, List.getElem_cons_zero, Act.put, List.setIfInBounds_toArray, List.set_cons_zero, List.set_cons_succ]
        rw [HL.out]
        refine reg_take (i := 15) (v := ?_) rfl (by kernel_rfl) (by kernel_rfl) (by kernel_rfl) (fun _ _ _ h => h) (Or.inl ⟨by kernel_rfl, ?_⟩) hS ?_
        rotate_left
        · (intro w' hSw; go_simp <;> with_reducible rfl)
        try simp only [List.getElem_toArray, List.getElem_cons_succ, List.getElem_cons_zero, Act.put, List.setIfInBounds_toArray, List.set_cons_zero, List.set_cons_succ]
        refine reg_take (i := 16) (v := ?_) rfl (by kernel_rfl) (by kernel_rfl) (by kernel_rfl) (fun _ _ _ h => h) (Or.inl ⟨by kernel_rfl, ?_⟩) hS ?_
        rotate_left
        · (intro w' hSw; go_simp <;> with_reducible rfl)
        try simp only [List.getElem_toArray, List.getElem_cons_succ, List.getElem_cons_zero, Act.put, List.setIfInBounds_toArray, List.set_cons_zero, List.set_cons_succ]
        refine wpAnyH_done (by kernel_rfl) ?_ _
        try simp only [List.getElem_toArray, List.getElem_cons_succ, List.getElem_cons_zero]
        try simp only [List.getElem_toArray, List.getElem_cons_succ, List.getElem_cons_zero, Act.put, List.setIfInBounds_toArray, List.set_cons_zero, List.set_cons_succ]
        have HG := Lib.hid hS.1.own.bel
        clear hS
        go_wp2_with fail
        go_ret2
        exact .inr ⟨.inl HF.out, _, rfl, HG.out⟩
      · rcases Nat.eq_zero_or_pos j with h0 | h0
        · subst h0
          have HO := Lib.hid (show namesOk nm (0 + 1) = true by rw [namesOk_succ, HS.out.2.1]; unfold stepOk; rw [hn]; rfl)
          have H3 := Lib.hid h3
          clear hn h3
          go_upto_region 6 with (fail)
          have hS : (DictS w [(y, 36, #[.string s, .slice (pa 0) (pn 0) (pc 0)])] d m (0 + 1) nm) (w3.drew) := H3.out.call (Below.refl _ _).drew
          refine reg_start (DictS w [(y, 36, #[.string s, .slice (pa 0) (pn 0) (pc 0)])] d m (0 + 1) nm) (by kernel_rfl) hS ?_
          refine reg_take (i := 0) (v := ?_) rfl (by kernel_rfl) (by kernel_rfl) (by kernel_rfl) (fun _ _ _ h => h) (Or.inl ⟨by kernel_rfl, ?_⟩) hS ?_
          rotate_left
          · (intro w' hSw; go_simp <;> with_reducible rfl)
          try simp only [List.getElem_toArray, List.getElem_cons_succ, List.getElem_cons_zero, Act.put, List.setIfInBounds_toArray, List.set_cons_zero, List.set_cons_succ]
          refine reg_take (i := 1) (v := ?_) rfl (by kernel_rfl) (by kernel_rfl) (by kernel_rfl) (fun _ _ _ h => h) (Or.inl ⟨by kernel_rfl, ?_⟩) hS ?_
          rotate_left
          · (intro w' hSw; go_simp <;> with_reducible rfl)
          try simp only [List.getElem_toArray, List.getElem_cons_succ, List.getElem_cons_zero, Act.put, List.setIfInBounds_toArray, List.set_cons_zero, List.set_cons_succ]
          refine reg_take (i := 2) (v := ?_) rfl (by kernel_rfl) (by kernel_rfl) (by kernel_rfl) (fun _ _ _ h => h) (Or.inl ⟨by kernel_rfl, ?_⟩) hS ?_
          rotate_left
          · (intro w' hSw; go_simp <;> with_reducible rfl)
          try simp only [List.getElem_toArray, List.getElem_cons_succ, List.getElem_cons_zero, Act.put, List.setIfInBounds_toArray, List.set_cons_zero, List.set_cons_succ]
          refine reg_take (i := 3) (v := ?_) rfl (by kernel_rfl) (by kernel_rfl) (by kernel_rfl) (fun _ _ _ h => h) (Or.inl ⟨by kernel_rfl, ?_⟩) hS ?_
          rotate_left
          · (intro w' hSw; go_simp <;> with_reducible rfl)
          try simp only [List.getElem_toArray, List.getElem_cons_succ, List.getElem_cons_zero, Act.put, List.setIfInBounds_toArray, List.set_cons_zero, List.set_cons_succ]
          refine reg_take (i := 4) (v := ?_) rfl (by kernel_rfl) (by kernel_rfl) (by kernel_rfl) (fun _ _ _ h => h) (Or.inl ⟨by kernel_rfl, ?_⟩) hS ?_
          rotate_left
          · (intro w' hSw; go_simp <;> with_reducible rfl)
          try simp only [List.getElem_toArray, List.getElem_cons_succ, List.getElem_cons_zero, Act.put, List.setIfInBounds_toArray, List.set_cons_zero, List.set_cons_succ]
          refine reg_take (i := 5) (v := ?_) rfl (by kernel_rfl) (by kernel_rfl) (by kernel_rfl) (fun _ _ _ h => h) (Or.inl ⟨by kernel_rfl, ?_⟩) hS ?_
          rotate_left
          · (intro w' hSw; go_simp <;> with_reducible rfl)
          try simp only [List.getElem_toArray, List.getElem_cons_succ, List.getElem_cons_zero, Act.put, List.setIfInBounds_toArray, List.set_cons_zero, List.set_cons_succ]
          refine reg_take (i := 6) (v := undef) rfl (by kernel_rfl) (by kernel_rfl) (by kernel_rfl) (fun _ _ _ h => h) (Or.inr ⟨by kernel_rfl, rfl⟩) hS ?_
          try simp only [List.getElem_toArray, List.getElem_cons_succ, List.getElem_cons_zero, Act.put, List.setIfInBounds_toArray, List.set_cons_zero, List.set_cons_succ]
          refine reg_take (i := 7) (v := undef) rfl (by kernel_rfl) (by kernel_rfl) (by kernel_rfl) (fun _ _ _ h => h) (Or.inr ⟨by kernel_rfl, rfl⟩) hS ?_
          try simp only [List.getElem_toArray, List.getElem_cons_succ, List.getElem_cons_zero, Act.put, List.setIfInBounds_toArray, List.set_cons_zero, List.set_cons_succ]
          refine reg_take (i := 8) (v := undef) rfl (by kernel_rfl) (by kernel_rfl) (by kernel_rfl) (fun _ _ _ h => h) (Or.inr ⟨by kernel_rfl, rfl⟩) hS ?_
          try simp only [List.getElem_toArray, List.getElem_cons_succ, List.getElem_cons_zero, Act.put, List.setIfInBounds_toArray, List.set_cons_zero, List.set_cons_succ]
          refine reg_take (i := 9) (v := undef) rfl (by kernel_rfl) (by kernel_rfl) (by kernel_rfl) (fun _ _ _ h => h) (Or.inr ⟨by kernel_rfl, rfl⟩) hS ?_
          try simp only [List.getElem_toArray, List.getElem_cons_succ, List.getElem_cons_zero, Act.put, List.setIfInBounds_toArray, List.set_cons_zero, List.set_cons_succ]
          refine reg_take (i := 10) (v := undef) rfl (by kernel_rfl) (by kernel_rfl) (by kernel_rfl) (fun _ _ _ h => h) (Or.inr ⟨by kernel_rfl, rfl⟩) hS ?_
          try simp only [List.getElem_toArray, List.getElem_cons_succ, List.getElem_cons_zero, Act.put, List.setIfInBounds_toArray, List.set_cons_zero, List.set_cons_succ]
          refine reg_take (i := 11) (v := undef) rfl (by kernel_rfl) (by kernel_rfl) (by kernel_rfl) (fun _ _ _ h => h) (Or.inr ⟨by kernel_rfl, rfl⟩) hS ?_
          try simp only [List.getElem_toArray, List.getElem_cons_succ, List.getElem_cons_zero, Act.put, List.setIfInBounds_toArray, List.set_cons_zero, List.set_cons_succ]
          refine reg_take (i := 12) (v := undef) rfl (by kernel_rfl) (by kernel_rfl) (by kernel_rfl) (fun _ _ _ h => h) (Or.inr ⟨by kernel_rfl, rfl⟩) hS ?_
          try simp only [List.getElem_toArray, List.getElem_cons_succ, List.getElem_cons_zero, Act.put, List.setIfInBounds_toArray, List.set_cons_zero, List.set_cons_succ]
          refine reg_take (i := 13) (v := undef) rfl (by kernel_rfl) (by kernel_rfl) (by kernel_rfl) (fun _ _ _ h => h) (Or.inr ⟨by kernel_rfl, rfl⟩) hS ?_
          try simp only [List.getElem_toArray, List.getElem_cons_succ, List.getElem_cons_zero, Act.put, List.setIfInBounds_toArray, List.set_cons_zero, List.set_cons_succ]
          refine reg_take (i := 14) (v := undef) rfl (by kernel_rfl) (by kernel_rfl) (by kernel_rfl) (fun _ _ _ h => h) (Or.inr ⟨by kernel_rfl, rfl⟩) hS ?_
          try simp only [List.getElem_toArray, List.getElem_cons_succ, List.getElem_cons_zero, Act.put, List.setIfInBounds_toArray, List.set_cons_zero, List.set_cons_succ]
          refine reg_take (i := 15) (v := ?_) rfl (by kernel_rfl) (by kernel_rfl) (by kernel_rfl) (fun _ _ _ h => h) (Or.inl ⟨by kernel_rfl, ?_⟩) hS ?_
          rotate_left
          · (intro w' hSw; go_simp <;> with_reducible rfl)
          try simp only [List.getElem_toArray, List.getElem_cons_succ, List.getElem_cons_zero, Act.put, List.setIfInBounds_toArray, List.set_cons_zero, List.set_cons_succ]
          refine reg_take (i := 16) (v := ?_) rfl (by kernel_rfl) (by kernel_rfl) (by kernel_rfl) (fun _ _ _ h => h) (Or.inl ⟨by kernel_rfl, ?_⟩) hS ?_
          rotate_left
          · (intro w' hSw; go_simp <;> with_reducible rfl)
          try simp only [List.getElem_toArray, List.getElem_cons_succ, List.getElem_cons_zero, Act.put, List.setIfInBounds_toArray, List.set_cons_zero, List.set_cons_succ]
          refine wpAnyH_done (by kernel_rfl) ?_ _
          try simp only [List.getElem_toArray, List.getElem_cons_succ, List.getElem_cons_zero]
          try simp only [List.getElem_toArray, List.getElem_cons_succ, List.getElem_cons_zero, Act.put, List.setIfInBounds_toArray, List.set_cons_zero, List.set_cons_succ]
          have HG := Lib.hid hS
          clear hS
          go_wp2_with fail
          go_roundw
          case rel => exact ⟨0 + 1, by omega, by go_num, HO.out, HG.out.forget⟩
          case measure => simp [intOf] <;> omega
        · obtain ⟨i, rfl⟩ : ∃ i, j = i + 1 := ⟨j - 1, by omega⟩
          have HNO := Lib.hid hn
          cases hle : leS s (nm i) with
          | true =>
            have HF := Lib.hid (show namesOk nm k = false from namesOk_bad hlt (by unfold stepOk; rw [← HS.out.2.2.1]; show (nameOk s && (false || !leS s (nm i))) = false; rw [hle]; simp))
            obtain ⟨t, ht⟩ : ∃ t, t = nm i := ⟨_, rfl⟩
            rw [← ht] at hle
            have zt : w3.cell? ⟨b, off + i * 2, none⟩ = some (.string t) := by rw [ht]; exact (h3.own.bel.cell (by exact hbl)).trans (HC.out i (by omega)).1
            have H3 := Lib.hid (And.intro h3 zt)
            have HL := Lib.hid hle
            have km : ((i : Int) + 1 - 1) = (i : Int) := by omega
            have hik : (i : Int) < (k : Int) := by omega
            have kw : IntKind.i64.wrap (i : Int) = (i : Int) := IntWalk.i64_in _ (by omega)
            clear hn h3 zt ht hle
            go_upto_region 6 with (fail)
            have hS : (fun w' => DictS w [(y, 36, #[.string s, .slice (pa (i + 1)) (pn (i + 1)) (pc (i + 1))])] d m (i + 1 + 1) nm w' ∧ w'.cell? ⟨b, off + i * 2, none⟩ = some (.string t)) (w3.drew) := ⟨H3.out.1.call (Below.refl _ _).drew, H3.out.2⟩
            refine reg_start (fun w' => DictS w [(y, 36, #[.string s, .slice (pa (i + 1)) (pn (i + 1)) (pc (i + 1))])] d m (i + 1 + 1) nm w' ∧ w'.cell? ⟨b, off + i * 2, none⟩ = some (.string t)) (by kernel_rfl) hS ?_
            refine reg_take (i := 0) (v := ?_) rfl (by kernel_rfl) (by kernel_rfl) (by kernel_rfl) (fun _ _ _ h => h) (Or.inl ⟨by kernel_rfl, ?_⟩) hS ?_
            rotate_left
            · (intro w' hSw; go_simp <;> with_reducible rfl)
            try simp only [List.getElem_toArray, List.getElem_cons_succ, List.getElem_cons_zero, Act.put, List.setIfInBounds_toArray, List.set_cons_zero, List.set_cons_succ]
            refine reg_take (i := 1) (v := ?_) rfl (by kernel_rfl) (by kernel_rfl) (by kernel_rfl) (fun _ _ _ h => h) (Or.inl ⟨by kernel_rfl, ?_⟩) hS ?_
            rotate_left
            · (intro w' hSw; go_simp <;> with_reducible rfl)
            try simp only [List.getElem_toArray, List.getElem_cons_succ, List.getElem_cons_zero, Act.put, List.setIfInBounds_toArray, List.set_cons_zero, List.set_cons_succ]
            refine reg_take (i := 2) (v := ?_) rfl (by kernel_rfl) (by kernel_rfl) (by kernel_rfl) (fun _ _ _ h => h) (Or.inl ⟨by kernel_rfl, ?_⟩) hS ?_
            rotate_left
            · (intro w' hSw; go_simp <;> with_reducible rfl)
            try simp only [List.getElem_toArray, List.getElem_cons_succ, List.getElem_cons_zero, Act.put, List.setIfInBounds_toArray, List.set_cons_zero, List.set_cons_succ]
            refine reg_take (i := 3) (v := ?_) rfl (by kernel_rfl) (by kernel_rfl) (by kernel_rfl) (fun _ _ _ h => h) (Or.inl ⟨by kernel_rfl, ?_⟩) hS ?_
            rotate_left
            · (intro w' hSw; go_simp <;> with_reducible rfl)
            try simp only [List.getElem_toArray, List.getElem_cons_succ, List.getElem_cons_zero, Act.put, List.setIfInBounds_toArray, List.set_cons_zero, List.set_cons_succ]
            refine reg_take (i := 4) (v := ?_) rfl (by kernel_rfl) (by kernel_rfl) (by kernel_rfl) (fun _ _ _ h => h) (Or.inl ⟨by kernel_rfl, ?_⟩) hS ?_
            rotate_left
            · (intro w' hSw; go_simp <;> with_reducible rfl)
            try simp only [List.getElem_toArray, List.getElem_cons_succ, List.getElem_cons_zero, Act.put, List.setIfInBounds_toArray, List.set_cons_zero, List.set_cons_succ]
            refine reg_take (i := 5) (v := ?_) rfl (by kernel_rfl) (by kernel_rfl) (by kernel_rfl) (fun _ _ _ h => h) (Or.inl ⟨by kernel_rfl, ?_⟩) hS ?_
            rotate_left
            · (intro w' hSw; go_simp <;> with_reducible rfl)
            try simp only [List.getElem_toArray, List.getElem_cons_succ, List.getElem_cons_zero, Act.put, List.setIfInBounds_toArray, List.set_cons_zero, List.set_cons_succ]
            refine reg_take (i := 6) (v := ?_) rfl (by kernel_rfl) (by kernel_rfl) (by kernel_rfl) (fun _ _ _ h => h) (Or.inl ⟨by kernel_rfl, ?_⟩) hS ?_
            rotate_left
            · (intro w' hSw; go_simp <;> with_reducible rfl)
            try simp only [List.getElem_toArray, List.getElem_cons_succ, List.getElem_cons_zero, Act.put, List.setIfInBounds_toArray, List.set_cons_zero, List.set_cons_succ]
            refine reg_take (i := 7) (v := ?_) rfl (by kernel_rfl) (by kernel_rfl) (by kernel_rfl) (fun _ _ _ h => h) (Or.inl ⟨by kernel_rfl, ?_⟩) hS ?_
            rotate_left
            · (intro w' hSw; have u0 := hSw.1.own.cell 1 0 rfl rfl; go_simp <;> with_reducible rfl)
            try simp only [List.getElem_toArray, List.getElem_cons_succ, List.getElem_cons_zero, Act.put, List.setIfInBounds_toArray, List.set_cons_zero, List.set_cons_succ]
            refine reg_take (i := 8) (v := ?_) rfl (by kernel_rfl) (by kernel_rfl) (by kernel_rfl) (fun _ _ _ h => h) (Or.inl ⟨by kernel_rfl, ?_⟩) hS ?_
            rotate_left
            · (intro w' hSw; go_simp <;> with_reducible rfl)
            try simp only [List.getElem_toArray, List.getElem_cons_succ, List.getElem_cons_zero, Act.put, List.setIfInBounds_toArray, List.set_cons_zero, List.set_cons_succ]
            refine reg_take (i := 9) (v := ?_) rfl (by kernel_rfl) (by kernel_rfl) (by kernel_rfl) (fun _ _ _ h => h) (Or.inl ⟨by kernel_rfl, ?_⟩) hS ?_
            rotate_left
            · (intro w' hSw; go_simp <;> with_reducible rfl)
            try simp only [List.getElem_toArray, List.getElem_cons_succ, List.getElem_cons_zero, Act.put, List.setIfInBounds_toArray, List.set_cons_zero, List.set_cons_succ]
            refine reg_take (i := 10) (v := ?_) rfl (by kernel_rfl) (by kernel_rfl) (by kernel_rfl) (fun _ _ _ h => h) (Or.inl ⟨by kernel_rfl, ?_⟩) hS ?_
            rotate_left
            · (intro w' hSw; go_simp <;> with_reducible rfl)
            try simp only [List.getElem_toArray, List.getElem_cons_succ, List.getElem_cons_zero, Act.put, List.setIfInBounds_toArray, List.set_cons_zero, List.set_cons_succ]
            refine reg_take (i := 11) (v := ?_) rfl (by kernel_rfl) (by kernel_rfl) (by kernel_rfl) (fun _ _ _ h => h) (Or.inl ⟨by kernel_rfl, ?_⟩) hS ?_
            rotate_left
            · (intro w' hSw; go_simp <;> with_reducible rfl)
            try simp only [List.getElem_toArray, List.getElem_cons_succ, List.getElem_cons_zero, Act.put, List.setIfInBounds_toArray, List.set_cons_zero, List.set_cons_succ]
            refine reg_take (i := 12) (v := ?_) rfl (by kernel_rfl) (by kernel_rfl) (by kernel_rfl) (fun _ _ _ h => h) (Or.inl ⟨by kernel_rfl, ?_⟩) hS ?_
            rotate_left
            · (intro w' hSw; go_simp <;> with_reducible rfl)
            try simp only [List.getElem_toArray, List.getElem_cons_succ, List.getElem_cons_zero, Act.put, List.setIfInBounds_toArray, List.set_cons_zero, List.set_cons_succ]
            refine reg_take (i := 13) (v := ?_) rfl (by kernel_rfl) (by kernel_rfl) (by kernel_rfl) (fun _ _ _ h => h) (Or.inl ⟨by kernel_rfl, ?_⟩) hS ?_
            rotate_left
            · (intro w' hSw; have u1 := hSw.2; go_simp <;> with_reducible rfl)
            try simp only [List.getElem_toArray, List.getElem_cons_succ, List.getElem_cons_zero, Act.put, List.setIfInBounds_toArray, List.set_cons_zero, List.set_cons_succ]
            refine reg_take (i := 14) (v := .bool (leS s t)) rfl (by kernel_rfl) (by kernel_rfl) (by kernel_rfl) (fun _ _ _ h => h) (Or.inl ⟨by kernel_rfl, ?_⟩) hS ?_
            · (intro w' hSw; (go_simp <;> rfl))
            try simp only [List.getElem_toArray, List.getElem_cons_succ, List.getElem_cons_zero, Act.put, List.setIfInBounds_toArray, List.set_cons_zero, List.set_cons_succ]
            rw [HL.out]
            refine reg_take (i := 15) (v := ?_) rfl (by kernel_rfl) (by kernel_rfl) (by kernel_rfl) (fun _ _ _ h => h) (Or.inl ⟨by kernel_rfl, ?_⟩) hS ?_
            rotate_left
            · (intro w' hSw; go_simp <;> with_reducible rfl)
            try simp only [List.getElem_toArray, List.getElem_cons_succ, List.getElem_cons_zero, Act.put, List.setIfInBounds_toArray, List.set_cons_zero, List.set_cons_succ]
            refine reg_take (i := 16) (v := ?_) rfl (by kernel_rfl) (by kernel_rfl) (by kernel_rfl) (fun _ _ _ h => h) (Or.inl ⟨by kernel_rfl, ?_⟩) hS ?_
            rotate_left
            · (intro w' hSw; go_simp <;> with_reducible rfl)
            try simp only [List.getElem_toArray, List.getElem_cons_succ, List.getElem_cons_zero, Act.put, List.setIfInBounds_toArray, List.set_cons_zero, List.set_cons_succ]
            refine wpAnyH_done (by kernel_rfl) ?_ _
            try simp only [List.getElem_toArray, List.getElem_cons_succ, List.getElem_cons_zero]
            try simp only [List.getElem_toArray, List.getElem_cons_succ, List.getElem_cons_zero, Act.put, List.setIfInBounds_toArray, List.set_cons_zero, List.set_cons_succ]
            have HG := Lib.hid hS.1.own.bel
            clear hS
            go_wp2_with fail
            go_ret2
            exact .inr ⟨.inl HF.out, _, rfl, HG.out⟩
          | false =>
            have HO := Lib.hid (show namesOk nm (i + 1 + 1) = true by rw [namesOk_succ, HS.out.2.1]; unfold stepOk; rw [← HS.out.2.2.1]; show (true && (nameOk s && (false || !leS s (nm i)))) = true; rw [hle, HS.out.2.2.1, HNO.out]; rfl)
            obtain ⟨t, ht⟩ : ∃ t, t = nm i := ⟨_, rfl⟩
            rw [← ht] at hle
            have zt : w3.cell? ⟨b, off + i * 2, none⟩ = some (.string t) := by rw [ht]; exact (h3.own.bel.cell (by exact hbl)).trans (HC.out i (by omega)).1
            have H3 := Lib.hid (And.intro h3 zt)
            have HL := Lib.hid hle
            have km : ((i : Int) + 1 - 1) = (i : Int) := by omega
            have hik : (i : Int) < (k : Int) := by omega
            have kw : IntKind.i64.wrap (i : Int) = (i : Int) := IntWalk.i64_in _ (by omega)
            clear hn h3 zt ht hle
            go_upto_region 6 with (fail)
            have hS : (fun w' => DictS w [(y, 36, #[.string s, .slice (pa (i + 1)) (pn (i + 1)) (pc (i + 1))])] d m (i + 1 + 1) nm w' ∧ w'.cell? ⟨b, off + i * 2, none⟩ = some (.string t)) (w3.drew) := ⟨H3.out.1.call (Below.refl _ _).drew, H3.out.2⟩
            refine reg_start (fun w' => DictS w [(y, 36, #[.string s, .slice (pa (i + 1)) (pn (i + 1)) (pc (i + 1))])] d m (i + 1 + 1) nm w' ∧ w'.cell? ⟨b, off + i * 2, none⟩ = some (.string t)) (by kernel_rfl) hS ?_
            refine reg_take (i := 0) (v := ?_) rfl (by kernel_rfl) (by kernel_rfl) (by kernel_rfl) (fun _ _ _ h => h) (Or.inl ⟨by kernel_rfl, ?_⟩) hS ?_
            rotate_left
            · (intro w' hSw; go_simp <;> with_reducible rfl)
            try simp only [List.getElem_toArray, List.getElem_cons_succ, List.getElem_cons_zero, Act.put, List.setIfInBounds_toArray, List.set_cons_zero, List.set_cons_succ]
            refine reg_take (i := 1) (v := ?_) rfl (by kernel_rfl) (by kernel_rfl) (by kernel_rfl) (fun _ _ _ h => h) (Or.inl ⟨by kernel_rfl, ?_⟩) hS ?_
            rotate_left
            · (intro w' hSw; go_simp <;> with_reducible rfl)
            try simp only [List.getElem_toArray, List.getElem_cons_succ, List.getElem_cons_zero, Act.put, List.setIfInBounds_toArray, List.set_cons_zero, List.set_cons_succ]
            refine reg_take (i := 2) (v := ?_) rfl (by kernel_rfl) (by kernel_rfl) (by kernel_rfl) (fun _ _ _ h => h) (Or.inl ⟨by kernel_rfl, ?_⟩) hS ?_
            rotate_left
            · (intro w' hSw; go_simp <;> with_reducible rfl)
            try simp only [List.getElem_toArray, List.getElem_cons_succ, List.getElem_cons_zero, Act.put, List.setIfInBounds_toArray, List.set_cons_zero, List.set_cons_succ]
            refine reg_take (i := 3) (v := ?_) rfl (by kernel_rfl) (by kernel_rfl) (by kernel_rfl) (fun _ _ _ h => h) (Or.inl ⟨by kernel_rfl, ?_⟩) hS ?_
            rotate_left
            · (intro w' hSw; go_simp <;> with_reducible rfl)
            try simp only [List.getElem_toArray, List.getElem_cons_succ, List.getElem_cons_zero, Act.put, List.setIfInBounds_toArray, List.set_cons_zero, List.set_cons_succ]
            refine reg_take (i := 4) (v := ?_) rfl (by kernel_rfl) (by kernel_rfl) (by kernel_rfl) (fun _ _ _ h => h) (Or.inl ⟨by kernel_rfl, ?_⟩) hS ?_
            rotate_left
            · (intro w' hSw; go_simp <;> with_reducible rfl)
            try simp only [List.getElem_toArray, List.getElem_cons_succ, List.getElem_cons_zero, Act.put, List.setIfInBounds_toArray, List.set_cons_zero, List.set_cons_succ]
            refine reg_take (i := 5) (v := ?_) rfl (by kernel_rfl) (by kernel_rfl) (by kernel_rfl) (fun _ _ _ h => h) (Or.inl ⟨by kernel_rfl, ?_⟩) hS ?_
            rotate_left
            · (intro w' hSw; go_simp <;> with_reducible rfl)
            try simp only [List.getElem_toArray, List.getElem_cons_succ, List.getElem_cons_zero, Act.put, List.setIfInBounds_toArray, List.set_cons_zero, List.set_cons_succ]
            refine reg_take (i := 6) (v := ?_) rfl (by kernel_rfl) (by kernel_rfl) (by kernel_rfl) (fun _ _ _ h => h) (Or.inl ⟨by kernel_rfl, ?_⟩) hS ?_
            rotate_left
            · (intro w' hSw; go_simp <;> with_reducible rfl)
            try simp only [List.getElem_toArray, List.getElem_cons_succ, List.getElem_cons_zero, Act.put, List.setIfInBounds_toArray, List.set_cons_zero, List.set_cons_succ]
            refine reg_take (i := 7) (v := ?_) rfl (by kernel_rfl) (by kernel_rfl) (by kernel_rfl) (fun _ _ _ h => h) (Or.inl ⟨by kernel_rfl, ?_⟩) hS ?_
            rotate_left
            · (intro w' hSw; have u0 := hSw.1.own.cell 1 0 rfl rfl; go_simp <;> with_reducible rfl)
            try simp only [List.getElem_toArray, List.getElem_cons_succ, List.getElem_cons_zero, Act.put, List.setIfInBounds_toArray, List.set_cons_zero, List.set_cons_succ]
            refine reg_take (i := 8) (v := ?_) rfl (by kernel_rfl) (by kernel_rfl) (by kernel_rfl) (fun _ _ _ h => h) (Or.inl ⟨by kernel_rfl, ?_⟩) hS ?_
            rotate_left
            · (intro w' hSw; go_simp <;> with_reducible rfl)
            try simp only [List.getElem_toArray, List.getElem_cons_succ, List.getElem_cons_zero, Act.put, List.setIfInBounds_toArray, List.set_cons_zero, List.set_cons_succ]
            refine reg_take (i := 9) (v := ?_) rfl (by kernel_rfl) (by kernel_rfl) (by kernel_rfl) (fun _ _ _ h => h) (Or.inl ⟨by kernel_rfl, ?_⟩) hS ?_
            rotate_left
            · (intro w' hSw; go_simp <;> with_reducible rfl)
            try simp only [List.getElem_toArray, List.getElem_cons_succ, List.getElem_cons_zero, Act.put, List.setIfInBounds_toArray, List.set_cons_zero, List.set_cons_succ]
            refine reg_take (i := 10) (v := ?_) rfl (by kernel_rfl) (by kernel_rfl) (by kernel_rfl) (fun _ _ _ h => h) (Or.inl ⟨by kernel_rfl, ?_⟩) hS ?_
            rotate_left
            · (intro w' hSw; go_simp <;> with_reducible rfl)
            try simp only [List.getElem_toArray, List.getElem_cons_succ, List.getElem_cons_zero, Act.put, List.setIfInBounds_toArray, List.set_cons_zero, List.set_cons_succ]
            refine reg_take (i := 11) (v := ?_) rfl (by kernel_rfl) (by kernel_rfl) (by kernel_rfl) (fun _ _ _ h => h) (Or.inl ⟨by kernel_rfl, ?_⟩) hS ?_
            rotate_left
            · (intro w' hSw; go_simp <;> with_reducible rfl)
            try simp only [List.getElem_toArray, List.getElem_cons_succ, List.getElem_cons_zero, Act.put, List.setIfInBounds_toArray, List.set_cons_zero, List.set_cons_succ]
            refine reg_take (i := 12) (v := ?_) rfl (by kernel_rfl) (by kernel_rfl) (by kernel_rfl) (fun _ _ _ h => h) (Or.inl ⟨by kernel_rfl, ?_⟩) hS ?_
            rotate_left
            · (intro w' hSw; go_simp <;> with_reducible rfl)
            try simp only [List.getElem_toArray, List.getElem_cons_succ, List.getElem_cons_zero, Act.put, List.setIfInBounds_toArray, List.set_cons_zero, List.set_cons_succ]
            refine reg_take (i := 13) (v := ?_) rfl (by kernel_rfl) (by kernel_rfl) (by kernel_rfl) (fun _ _ _ h => h) (Or.inl ⟨by kernel_rfl, ?_⟩) hS ?_
            rotate_left
            · (intro w' hSw; have u1 := hSw.2; go_simp <;> with_reducible rfl)
            try simp only [List.getElem_toArray, List.getElem_cons_succ, List.getElem_cons_zero, Act.put, List.setIfInBounds_toArray, List.set_cons_zero, List.set_cons_succ]
            refine reg_take (i := 14) (v := .bool (leS s t)) rfl (by kernel_rfl) (by kernel_rfl) (by kernel_rfl) (fun _ _ _ h => h) (Or.inl ⟨by kernel_rfl, ?_⟩) hS ?_
            · (intro w' hSw; (go_simp <;> rfl))
            try simp only [List.getElem_toArray, List.getElem_cons_succ, List.getElem_cons_zero, Act.put, List.setIfInBounds_toArray, List.set_cons_zero, List.set_cons_succ]
            rw [HL.out]
            refine reg_take (i := 15) (v := ?_) rfl (by kernel_rfl) (by kernel_rfl) (by kernel_rfl) (fun _ _ _ h => h) (Or.inl ⟨by kernel_rfl, ?_⟩) hS ?_
            rotate_left
            · (intro w' hSw; go_simp <;> with_reducible rfl)
            try simp only [List.getElem_toArray, List.getElem_cons_succ, List.getElem_cons_zero, Act.put, List.setIfInBounds_toArray, List.set_cons_zero, List.set_cons_succ]
            refine reg_take (i := 16) (v := ?_) rfl (by kernel_rfl) (by kernel_rfl) (by kernel_rfl) (fun _ _ _ h => h) (Or.inl ⟨by kernel_rfl, ?_⟩) hS ?_
            rotate_left
            · (intro w' hSw; go_simp <;> with_reducible rfl)
            try simp only [List.getElem_toArray, List.getElem_cons_succ, List.getElem_cons_zero, Act.put, List.setIfInBounds_toArray, List.set_cons_zero, List.set_cons_succ]
            refine wpAnyH_done (by kernel_rfl) ?_ _
            try simp only [List.getElem_toArray, List.getElem_cons_succ, List.getElem_cons_zero]
            try simp only [List.getElem_toArray, List.getElem_cons_succ, List.getElem_cons_zero, Act.put, List.setIfInBounds_toArray, List.set_cons_zero, List.set_cons_succ]
            have HG := Lib.hid hS.1
            clear hS
            go_wp2_with fail
            go_roundw
            case rel => exact ⟨i + 1 + 1, by omega, by go_num, HO.out, HG.out.forget⟩
            case measure => simp [intOf] <;> omega
    · obtain rfl : j = k := by omega
      have HE := Lib.hid (And.intro hS hok)
      clear hS hok
      rcases Nat.eq_zero_or_pos j with h0 | h0
      · subst h0
        go_wp2_with fail
        go_ret2
        exact .inr ⟨.inr rfl, _, rfl, HE.out.1.own.bel⟩
      · have d1 : decide ((0 : Int) < (j : Int)) = true := by simp; omega
        go_wp2_with fail
        go_ret2
        exact .inl ⟨HE.out.2, h0, d, m, rfl, HE.out.1⟩
end Go.Proofs.Ytopbbicjbjmdnaa
