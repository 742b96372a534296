/-
  The contracts of tidemillref04's read, Read and Open. (Printed by mk.py.)
-/
import Derived.Test.YtdgedhamacpghaaFrmE
import Derived.Test.YtdgedhamacpghaaFrmR
import Derived.Deep.DeepCutAuto
namespace Go.Proofs.Ytdgedhamacpghaa
open Go.RowKit
set_option linter.unusedVariables false
set_option linter.unusedSimpArgs false
def rrE (ex : Bool) (bs : List Nat) : Int := if lenE bs = 0 then (if ex = true ∧ lenV bs ≠ bs.length then 11 else withE (bs.take (lenV bs))) else lenE bs
def rrK (ex : Bool) (bs : List Nat) : Nat := if rrE ex bs = 0 then withK (bs.take (lenV bs)) else 0
def rrI (ex : Bool) (bs : List Nat) : List Nat := if rrE ex bs = 0 then withI (bs.take (lenV bs)) else []
def rrN (ex : Bool) (bs : List Nat) : Nat := if rrE ex bs = 0 then lenV bs else 0
theorem rr_read (bs : List Nat) : rrE false bs = readE bs ∧ rrK false bs = readK bs ∧ rrI false bs = readI bs ∧ rrN false bs = readN bs := by
  have h : rrE false bs = readE bs := by
    unfold rrE readE
    split
    · rw [if_neg (by simp)]
    · rfl
  refine ⟨h, ?_, ?_, ?_⟩
  · unfold rrK readK; rw [h]
  · unfold rrI readI; rw [h]
  · unfold rrN readN; rw [h]
theorem rr_open (bs : List Nat) : rrE true bs = openE bs ∧ rrK true bs = openK bs ∧ rrI true bs = openI bs := by
  have h : rrE true bs = openE bs := by
    unfold rrE openE
    by_cases h1 : lenE bs = 0
    · rw [if_pos h1, if_pos h1]
      by_cases h2 : lenV bs = bs.length
      · rw [if_neg (fun h => h.2 h2), if_pos h2, h2, List.take_length]
      · rw [if_pos ⟨rfl, h2⟩, if_neg h2]
    · rw [if_neg h1, if_neg h1]
  refine ⟨h, ?_, ?_⟩
  · unfold rrK openK
    rw [h]
    by_cases h1 : openE bs = 0
    · rw [if_pos h1, if_pos h1]
      have : lenV bs = bs.length := by
        unfold openE at h1
        by_cases h2 : lenE bs = 0
        · rw [if_pos h2] at h1
          by_cases h3 : lenV bs = bs.length
          · exact h3
          · rw [if_neg h3] at h1; omega
        · rw [if_neg h2] at h1; exact absurd h1 h2
      rw [this, List.take_length]
    · rw [if_neg h1, if_neg h1]
  · unfold rrI openI
    rw [h]
    by_cases h1 : openE bs = 0
    · rw [if_pos h1, if_pos h1]
      have : lenV bs = bs.length := by
        unfold openE at h1
        by_cases h2 : lenE bs = 0
        · rw [if_pos h2] at h1
          by_cases h3 : lenV bs = bs.length
          · exact h3
          · rw [if_neg h3] at h1; omega
        · rw [if_neg h2] at h1; exact absurd h1 h2
      rw [this, List.take_length]
    · rw [if_neg h1, if_neg h1]
theorem rr_err {w w' : World} {ex : Bool} {bs : List Nat} {er : Int} (h : rrE ex bs = er) (h0 : er ≠ 0) (hk : Keeps (fun _ => False) w w') : ReadPost w (rrK ex bs) (rrI ex bs) (rrN ex bs) (rrE ex bs) (.returned (.tuple #[.int .u8 0, .slice none 0 0, .int .i64 0, .int .i64 er])) w' := by
  unfold rrK rrI rrN
  rw [h, if_neg h0, if_neg h0, if_neg h0]
  exact ⟨none, 0, rfl, ⟨rfl, .inl ⟨rfl, rfl⟩⟩, hk⟩
set_option maxRecDepth 100000 in
set_option maxHeartbeats 4000000 in
theorem rread_any (w : World) (ex : Bool) (A : Option Addr) (len c : Nat) (D : Nat → Prop) (bs : List Nat) (hl : bs.length = len) (hsl : Sl w D A len (byteC bs)) (hb : ∀ j, bs.getD j 0 < 256) (hlen : len ≤ 2097152) (hlc : len ≤ c) :
    Calls Try.prog 24 #[.slice A len c, .bool ex] w (ReadPost w (rrK ex bs) (rrI ex bs) (rrN ex bs) (rrE ex bs)) := by
  by_cases h9 : len < 9
  · have hE : lenE bs = 10 := by unfold lenE; rw [if_pos (by omega)]
    have hfin := rr_err (w := w) (w' := w) (ex := ex) (bs := bs) (er := 10) (by unfold rrE; rw [hE, if_neg (by omega)]) (by omega) (Keeps.refl _ _)
    have HF := Lib.hid hfin
    clear hfin hl hsl hb hE
    go_enter Try.func24, Try.ntmps24
    go_wp2_with fail
    exact bodyPost_ret (v := .tuple #[.int .u8 0, .slice none 0 0, .int .i64 0, .int .i64 10]) (by simp [results, Try.results24, go_sem]) rfl HF.out
  · obtain ⟨b, off, hA, -, hcell⟩ := hsl (by omega)
    subst hA
    have hs4 := sl_sub hsl 1 5 (by omega)
    have hb4 := sub_byte hb 1 5
    have hl4 := sub_length bs 1 5 (by omega)
    have hn4 : frameN bs < 4294967296 := by
      have := le_lt (l := (bs.take 5).drop 1) (fun x hx => mem_take_byte hb 5 x (List.mem_of_mem_drop hx))
      rw [hl4] at this
      exact this
    have h8 : le (((bs.take 5).drop 1).take 8) = frameN bs := by rw [List.take_of_length_le (by omega)]; rfl
    have hE : lenE bs = if 1048576 < frameN bs then 3 else if len < frameN bs + 9 then 10 else 0 := by unfold lenE; rw [hl, if_neg h9]
    have c0 : w.cell? ⟨b, off, none⟩ = some (.int .u8 (bs.getD 0 0 : Nat)) := hcell 0 (by omega)
    have HS := Lib.hid (And.intro hs4 (And.intro hb4 (And.intro hl4 (And.intro hn4 (And.intro h8 (And.intro hE (And.intro hl (And.intro hsl (And.intro hb c0)))))))))
    clear hs4 hb4 hl4 hn4 h8 hE hsl hb hl hcell c0
    have d9 : decide ((len : Int) < 9) = false := by simp; omega
    go_enter Try.func24, Try.ntmps24
    go_wp2_with fail
    refine (rlittle_any _ _ _ _ _ ((bs.take 5).drop 1) HS.out.2.2.1 HS.out.1 HS.out.2.1 (by omega)).mono ?_
    rintro e w1 ⟨rfl, rfl⟩
    obtain ⟨-, -, -, hn4, h8, hE, hl, hsl, hb, c0⟩ := HS.out
    rw [h8]
    have hNv : lenE bs = 0 → lenV bs = frameN bs + 9 := fun h => (lenE_zero h).1
    obtain ⟨n, hn⟩ : ∃ n, n = frameN bs := ⟨_, rfl⟩
    rw [← hn] at hn4 hE hNv
    rw [← hn]
    clear hn h8 d9
    by_cases h1 : 1048576 < n
    · have hE3 : lenE bs = 3 := by rw [hE, if_pos h1]
      have hfin := rr_err (w := w) (w' := w) (ex := ex) (bs := bs) (er := 3) (by unfold rrE; rw [hE3, if_neg (by omega)]) (by omega) (Keeps.refl _ _)
      have HF := Lib.hid hfin
      clear hfin hE hE3 hNv hsl hb c0 hl
      go_wp2_with fail
      exact bodyPost_ret (v := .tuple #[.int .u8 0, .slice none 0 0, .int .i64 0, .int .i64 3]) (by simp [results, Try.results24, go_sem]) rfl HF.out
    · by_cases h2 : len < n + 9
      · have hE3 : lenE bs = 10 := by rw [hE, if_neg h1, if_pos h2]
        have hfin := rr_err (w := w) (w' := w) (ex := ex) (bs := bs) (er := 10) (by unfold rrE; rw [hE3, if_neg (by omega)]) (by omega) (Keeps.refl _ _)
        have HF := Lib.hid hfin
        have d3 : decide ((len : Int) < (n : Int) + 9) = true := by simp; omega
        clear hfin hE hE3 hNv hsl hb c0 hl
        go_wp2_with fail
        exact bodyPost_ret (v := .tuple #[.int .u8 0, .slice none 0 0, .int .i64 0, .int .i64 10]) (by simp [results, Try.results24, go_sem]) rfl HF.out
      · have hE0 : lenE bs = 0 := by rw [hE, if_neg h1, if_neg h2]
        have hV := hNv hE0
        have d3 : decide ((len : Int) < (n : Int) + 9) = false := by simp; omega
        by_cases hx : ex = true ∧ len ≠ n + 9
        · obtain ⟨rfl, hne⟩ := hx
          have hfin := rr_err (w := w) (w' := w) (ex := true) (bs := bs) (er := 11) (by unfold rrE; rw [if_pos hE0, hV, hl, if_pos ⟨rfl, fun h => hne h.symm⟩]) (by omega) (Keeps.refl _ _)
          have HF := Lib.hid hfin
          have d4 : ((len : Int) != (n : Int) + 9) = true := by simp; omega
          clear hfin hE hE0 hNv hsl hb c0 hl hV hne
          go_wp2_with fail
          exact bodyPost_ret (v := .tuple #[.int .u8 0, .slice none 0 0, .int .i64 0, .int .i64 11]) (by simp [results, Try.results24, go_sem]) rfl HF.out
        · have hrE : rrE ex bs = withE (bs.take (n + 9)) := by
            unfold rrE
            rw [if_pos hE0, hV, hl, if_neg (fun h => hx ⟨h.1, fun h' => h.2 h'.symm⟩)]
          have hs1 := sl_sub hsl (n + 5) (n + 9) (by omega)
          have hs2 := sl_sub hsl 0 (n + 5) (by omega)
          have hs3 := sl_sub hsl 5 (n + 5) (by omega)
          have hb1 := sub_byte hb (n + 5) (n + 9)
          have hb2 := sub_byte hb 0 (n + 5)
          have hl1 := sub_length bs (n + 5) (n + 9) (by omega)
          have hl2 := sub_length bs 0 (n + 5) (by omega)
          have hl3 := sub_length bs 5 (n + 5) (by omega)
          rw [show n + 9 - (n + 5) = 4 by omega] at hs1 hl1
          rw [show n + 5 - 0 = n + 5 by omega] at hs2 hl2
          rw [show n + 5 - 5 = n by omega] at hs3 hl3
          rw [Nat.add_zero] at hs2
          have hlt : (bs.take (n + 9)).length = n + 9 := by rw [List.length_take]; omega
          have hsm : sumOf (bs.take (n + 9)) = le ((bs.take (n + 9)).drop (n + 5)) := by
            unfold sumOf
            rw [hlt, List.take_take, show min (n + 9) (n + 9) = n + 9 by omega, show n + 9 - 4 = n + 5 by omega]
          have h8 : le (((bs.take (n + 9)).drop (n + 5)).take 8) = sumOf (bs.take (n + 9)) := by rw [List.take_of_length_le (by omega), hsm]
          have hcr : crcS ((bs.take (n + 5)).drop 0) = crcS ((bs.take (n + 9)).take ((bs.take (n + 9)).length - 4)) := by
            rw [List.drop_zero, hlt, List.take_take, show min (n + 9 - 4) (n + 9) = n + 5 by omega]
          have hsu : sumOf (bs.take (n + 9)) < 4294967296 := by
            have := le_lt (l := (bs.take (n + 9)).drop (n + 5)) (fun x hx => mem_take_byte hb (n + 9) x (List.mem_of_mem_drop hx))
            rw [hl1] at this
            rw [hsm]
            exact this
          have hcu : crcS ((bs.take (n + 9)).take ((bs.take (n + 9)).length - 4)) < 4294967296 := crcS_lt (fun x hx => mem_take_byte hb (n + 9) x (List.mem_of_mem_take hx))
          have hI : ((bs.take (n + 9)).take ((bs.take (n + 9)).length - 4)).drop 5 = (bs.take (n + 5)).drop 5 := by rw [hlt, List.take_take, show min (n + 9 - 4) (n + 9) = n + 5 by omega]
          have hk0 : (bs.take (n + 9)).getD 0 0 = bs.getD 0 0 := by rw [List.getD_eq_getElem?_getD, List.getD_eq_getElem?_getD, List.getElem?_take_of_lt (by omega)]
          obtain ⟨T, hT⟩ : ∃ T, T = bs.take (n + 9) := ⟨_, rfl⟩
          rw [← hT] at h8 hcr hsu hcu hI hk0 hrE hsm
          obtain ⟨su, hsu'⟩ : ∃ su, su = sumOf T := ⟨_, rfl⟩
          obtain ⟨cr, hcr'⟩ : ∃ cr, cr = crcS (T.take (T.length - 4)) := ⟨_, rfl⟩
          obtain ⟨k0, hk0'⟩ : ∃ k0, k0 = bs.getD 0 0 := ⟨_, rfl⟩
          rw [← hk0'] at c0 hk0
          rw [← hsu'] at h8 hsu
          rw [← hcr'] at hcr hcu
          have hwE : withE T = if su = cr then 0 else 12 := by rw [hsu', hcr']; rfl
          have HT := Lib.hid (And.intro hs1 (And.intro hs2 (And.intro hs3 (And.intro h8 (And.intro hcr (And.intro hwE (And.intro hrE (And.intro hI hk0))))))))
          have HB := Lib.hid (And.intro hb1 (And.intro hb2 (And.intro hl1 (And.intro hl2 (And.intro hl3 (And.intro hV hT))))))
          have C0 := Lib.hid c0
          have hx' : (ex = true → len = n + 9) := fun h => by
            rcases Nat.lt_trichotomy len (n + 9) with h' | h' | h'
            · exact absurd ⟨h, by omega⟩ hx
            · exact h'
            · exact absurd ⟨h, by omega⟩ hx
          have HX := Lib.hid hx'
          have hnc : n + 9 ≤ c := by omega
          clear hs1 hs2 hs3 hb1 hb2 hl1 hl2 hl3 hlt hsm h8 hcr hI hk0 hrE hT hsu' hcr' hk0' hwE c0 hE hE0 hNv hsl hb hl hV hx hx'
          have j1 : IntKind.i64.wrap ((n : Int) + 5) = (n : Int) + 5 := IntWalk.i64_in _ (by omega)
          have j2 : IntKind.i64.wrap ((n : Int) + 9) = (n : Int) + 9 := IntWalk.i64_in _ (by omega)
          have j3 : (0 : Int) ≤ (n : Int) + 5 := by omega
          have j4 : ((n : Int) + 5).toNat = n + 5 := by omega
          have j5 : ((n : Int) + 9).toNat = n + 9 := by omega
          have j6 : (n : Int) + 5 ≤ (n : Int) + 9 := by omega
          have j7 : (n : Int) + 9 ≤ (c : Int) := by omega
          have j8 : (n : Int) + 5 ≤ (c : Int) := by omega
          have j9 : ¬ c = n + 5 := by omega
          have j10 : ¬ c = 5 := by omega
          have j11 : (5 : Int) ≤ (n : Int) + 5 := by omega
          have j12 : n + 9 - (n + 5) = 4 := by omega
          have j13 : n + 5 - 5 = n := by omega
          have hl0 : 0 < len := by omega
          have HJ := Lib.hid (And.intro j1 (And.intro j2 (And.intro j4 (And.intro j5 (And.intro j12 j13)))))
          clear j1 j2 j4 j5 j12 j13
          go_upto_region 8 with (fail)
          go_cut [30] (fun s30 wx => s30 = .bool false ∧ w = wx)
          case first =>
            cases ex with
            | true =>
              have h := HX.out rfl
              have d4 : ((len : Int) != (n : Int) + 9) = false := by simp; omega
              clear h
              go_wp2_with fail
              go_meet
              exact ⟨rfl, rfl⟩
            | false =>
              go_wp2_with fail
              go_meet
              exact ⟨rfl, rfl⟩
          case rest =>
            obtain ⟨rfl, rfl⟩ := hcut
            go_wp2_with fail
            obtain ⟨j1, j2, j4, j5, j12, j13⟩ := HJ.out
            have hS : (fun _ : World => True) (w.drew) := trivial
            refine reg_start (fun _ : World => True) (by kernel_rfl) hS ?_
            refine reg_take (i := 0) (v := ?_) rfl (by kernel_rfl) (by kernel_rfl) (by kernel_rfl) (fun _ _ _ h => h) (Or.inl ⟨by kernel_rfl, ?_⟩) hS ?_
            rotate_left
            · (intro w' hSw; go_simp <;> with_reducible rfl)
            try simp only [List.getElem_toArray, List.getElem_cons_succ, List.getElem_cons_zero, Act.put, List.setIfInBounds_toArray, List.set_cons_zero, List.set_cons_succ]
            refine reg_take (i := 1) (v := ?_) rfl (by kernel_rfl) (by kernel_rfl) (by kernel_rfl) (fun _ _ _ h => h) (Or.inl ⟨by kernel_rfl, ?_⟩) hS ?_
            rotate_left
            · (intro w' hSw; go_simp <;> with_reducible rfl)
            try simp only [List.getElem_toArray, List.getElem_cons_succ, List.getElem_cons_zero, Act.put, List.setIfInBounds_toArray, List.set_cons_zero, List.set_cons_succ]
            refine reg_take (i := 2) (v := ?_) rfl (by kernel_rfl) (by kernel_rfl) (by kernel_rfl) (fun _ _ _ h => h) (Or.inl ⟨by kernel_rfl, ?_⟩) hS ?_
            rotate_left
            · (intro w' hSw; go_simp <;> with_reducible rfl)
            try simp only [List.getElem_toArray, List.getElem_cons_succ, List.getElem_cons_zero, Act.put, List.setIfInBounds_toArray, List.set_cons_zero, List.set_cons_succ]
            refine reg_take (i := 3) (v := ?_) rfl (by kernel_rfl) (by kernel_rfl) (by kernel_rfl) (fun _ _ _ h => h) (Or.inl ⟨by kernel_rfl, ?_⟩) hS ?_
            rotate_left
            · (intro w' hSw; go_simp <;> with_reducible rfl)
            try simp only [List.getElem_toArray, List.getElem_cons_succ, List.getElem_cons_zero, Act.put, List.setIfInBounds_toArray, List.set_cons_zero, List.set_cons_succ]
            refine reg_take (i := 4) (v := ?_) rfl (by kernel_rfl) (by kernel_rfl) (by kernel_rfl) (fun _ _ _ h => h) (Or.inl ⟨by kernel_rfl, ?_⟩) hS ?_
            rotate_left
            · (intro w' hSw; go_simp <;> with_reducible rfl)
            try simp only [List.getElem_toArray, List.getElem_cons_succ, List.getElem_cons_zero, Act.put, List.setIfInBounds_toArray, List.set_cons_zero, List.set_cons_succ]
            refine reg_take (i := 5) (v := ?_) rfl (by kernel_rfl) (by kernel_rfl) (by kernel_rfl) (fun _ _ _ h => h) (Or.inl ⟨by kernel_rfl, ?_⟩) hS ?_
            rotate_left
            · (intro w' hSw; go_simp <;> with_reducible rfl)
            try simp only [List.getElem_toArray, List.getElem_cons_succ, List.getElem_cons_zero, Act.put, List.setIfInBounds_toArray, List.set_cons_zero, List.set_cons_succ]
            refine reg_take (i := 8) (v := ?_) rfl (by kernel_rfl) (by kernel_rfl) (by kernel_rfl) (fun _ _ _ h => h) (Or.inl ⟨by kernel_rfl, ?_⟩) hS ?_
            rotate_left
            · (intro w' hSw; go_simp <;> with_reducible rfl)
            try simp only [List.getElem_toArray, List.getElem_cons_succ, List.getElem_cons_zero, Act.put, List.setIfInBounds_toArray, List.set_cons_zero, List.set_cons_succ]
            refine reg_take (i := 9) (v := ?_) rfl (by kernel_rfl) (by kernel_rfl) (by kernel_rfl) (fun _ _ _ h => h) (Or.inl ⟨by kernel_rfl, ?_⟩) hS ?_
            rotate_left
            · (intro w' hSw; go_simp <;> with_reducible rfl)
            try simp only [List.getElem_toArray, List.getElem_cons_succ, List.getElem_cons_zero, Act.put, List.setIfInBounds_toArray, List.set_cons_zero, List.set_cons_succ]
            refine reg_take (i := 10) (v := ?_) rfl (by kernel_rfl) (by kernel_rfl) (by kernel_rfl) (fun _ _ _ h => h) (Or.inl ⟨by kernel_rfl, ?_⟩) hS ?_
            rotate_left
            · (intro w' hSw; go_simp <;> with_reducible rfl)
            try simp only [List.getElem_toArray, List.getElem_cons_succ, List.getElem_cons_zero, Act.put, List.setIfInBounds_toArray, List.set_cons_zero, List.set_cons_succ]
            refine reg_take (i := 11) (v := ?_) rfl (by kernel_rfl) (by kernel_rfl) (by kernel_rfl) (fun _ _ _ h => h) (Or.inl ⟨by kernel_rfl, ?_⟩) hS ?_
            rotate_left
            · (intro w' hSw; go_simp <;> with_reducible rfl)
            try simp only [List.getElem_toArray, List.getElem_cons_succ, List.getElem_cons_zero, Act.put, List.setIfInBounds_toArray, List.set_cons_zero, List.set_cons_succ]
            clear j1 j2 j4 j5 j12 j13
            refine reg_call (i := 6) rfl (by kernel_rfl) (fun K hK => ?_)
            have HK := Lib.hid hK
            clear hK
            go_simp
            refine (rlittle_any w.drew _ _ _ _ ((bs.take (n + 9)).drop (n + 5)) HB.out.2.2.1 (HT.out.1.keep (w' := w.drew) (fun _ _ _ => rfl)) HB.out.1 (by omega)).mono ?_
            rintro e w1 ⟨rfl, rfl⟩
            rw [← HB.out.2.2.2.2.2.2, HT.out.2.2.2.1]
            go_wp2_with fail
            refine HK.out.to (fun _ : World => True) (fun _ h => h) (trivial) ?_
            clear HK hS
            have hS : (fun _ : World => True) (w.drew) := trivial
            try simp only [List.getElem_toArray, List.getElem_cons_succ, List.getElem_cons_zero, Act.put, List.setIfInBounds_toArray, List.set_cons_zero, List.set_cons_succ]
            have euw : IntKind.u32.wrap (su : Int) = (su : Int) := by rw [IntKind.wrap_u32']; omega
            refine reg_take (i := 7) (v := ?_) rfl (by kernel_rfl) (by kernel_rfl) (by kernel_rfl) (fun _ _ _ h => h) (Or.inl ⟨by kernel_rfl, ?_⟩) hS ?_
            rotate_left
            · (intro w' hSw; go_simp <;> with_reducible rfl)
            try simp only [List.getElem_toArray, List.getElem_cons_succ, List.getElem_cons_zero, Act.put, List.setIfInBounds_toArray, List.set_cons_zero, List.set_cons_succ]
            clear euw
            refine reg_call (i := 12) rfl (by kernel_rfl) (fun K hK => ?_)
            have HK := Lib.hid hK
            clear hK
            go_simp
            refine (rsum_any w.drew _ _ _ _ ((bs.take (n + 5)).drop 0) HB.out.2.2.2.1 (HT.out.2.1.keep (w' := w.drew) (fun _ _ _ => rfl)) HB.out.2.1 (by omega)).mono ?_
            rintro e w2 ⟨rfl, rfl⟩
            rw [HT.out.2.2.2.2.1]
            go_wp2_with fail
            refine HK.out.to (fun _ : World => True) (fun _ h => h) (trivial) ?_
            clear HK hS
            have hS : (fun _ : World => True) (w.drew) := trivial
            try simp only [List.getElem_toArray, List.getElem_cons_succ, List.getElem_cons_zero, Act.put, List.setIfInBounds_toArray, List.set_cons_zero, List.set_cons_succ]
            refine reg_take (i := 13) (v := ?_) rfl (by kernel_rfl) (by kernel_rfl) (by kernel_rfl) (fun _ _ _ h => h) (Or.inl ⟨by kernel_rfl, ?_⟩) hS ?_
            rotate_left
            · (intro w' hSw; go_simp <;> with_reducible rfl)
            try simp only [List.getElem_toArray, List.getElem_cons_succ, List.getElem_cons_zero, Act.put, List.setIfInBounds_toArray, List.set_cons_zero, List.set_cons_succ]
            refine wpAnyH_done (by kernel_rfl) ?_ _
            try simp only [List.getElem_toArray, List.getElem_cons_succ, List.getElem_cons_zero]
            try simp only [List.getElem_toArray, List.getElem_cons_succ, List.getElem_cons_zero, Act.put, List.setIfInBounds_toArray, List.set_cons_zero, List.set_cons_succ]
            by_cases heq : su = cr
            · have hE0 : rrE ex bs = 0 := by rw [HT.out.2.2.2.2.2.2.1, HT.out.2.2.2.2.2.1, if_pos heq]
              have hwE0 : withE T = 0 := by rw [HT.out.2.2.2.2.2.1, if_pos heq]
              have hK0 : rrK ex bs = k0 := by
                unfold rrK
                rw [if_pos hE0, HB.out.2.2.2.2.2.1, ← HB.out.2.2.2.2.2.2]
                unfold withK
                rw [if_pos hwE0, HT.out.2.2.2.2.2.2.2.2]
              have hI0 : rrI ex bs = (bs.take (n + 5)).drop 5 := by
                unfold rrI
                rw [if_pos hE0, HB.out.2.2.2.2.2.1, ← HB.out.2.2.2.2.2.2]
                unfold withI
                rw [if_pos hwE0, HT.out.2.2.2.2.2.2.2.1]
              have hN0 : rrN ex bs = n + 9 := by unfold rrN; rw [if_pos hE0, HB.out.2.2.2.2.2.1]
              have HE := Lib.hid (And.intro hE0 (And.intro hK0 (And.intro hI0 hN0)))
              clear hE0 hK0 hI0 hN0 hwE0
              subst heq
              have d1 : ((su : Int) != (su : Int)) = false := by simp
              have d2 : ((su : Int) == (su : Int)) = true := by simp
              go_wp2_with fail
              clear d1 d2
              obtain ⟨w1, hw1⟩ : ∃ w1, w1 = w.drew := ⟨_, rfl⟩
              have k1 : Keeps (fun _ => False) w w1 := by rw [hw1]; exact (Keeps.refl _ w).drew
              have c1 : w1.cell? ⟨b, off, none⟩ = some (.int .u8 (k0 : Nat)) := by rw [hw1]; exact C0.out
              rw [← hw1]
              clear hw1
              have H1 := Lib.hid k1
              clear k1
              have hlt1 : b < w1.heap.size := World.block_lt_of_cell? w1 _ c1
              have sof : ∀ w', Keeps (fun _ => False) w1 w' → (fun w' : World => w'.cell? ⟨b, off, none⟩ = some (.int .u8 (k0 : Nat))) w' := fun w' hk => (World.cell?_of_block (w := w1) (hk.block b hlt1 (fun h => h))).trans c1
              have HSo := Lib.hid sof
              clear sof c1 hlt1
              have kd : Keeps (fun _ => False) w1 w1.drew := (Keeps.refl _ w1).drew
              obtain ⟨j1, j2, j4, j5, j12, j13⟩ := HJ.out
              have hS : (fun w' : World => w'.cell? ⟨b, off, none⟩ = some (.int .u8 (k0 : Nat))) (w1.drew) := HSo.out _ kd
              refine reg_start (fun w' : World => w'.cell? ⟨b, off, none⟩ = some (.int .u8 (k0 : Nat))) (by kernel_rfl) hS ?_
              refine reg_take (i := 0) (v := ?_) rfl (by kernel_rfl) (by kernel_rfl) (by kernel_rfl) (fun _ _ _ h => h) (Or.inl ⟨by kernel_rfl, ?_⟩) hS ?_
              rotate_left
              · (intro w' hSw; go_simp <;> with_reducible rfl)
              try simp only [List.getElem_toArray, List.getElem_cons_succ, List.getElem_cons_zero, Act.put, List.setIfInBounds_toArray, List.set_cons_zero, List.set_cons_succ]
              refine reg_take (i := 1) (v := ?_) rfl (by kernel_rfl) (by kernel_rfl) (by kernel_rfl) (fun _ _ _ h => h) (Or.inl ⟨by kernel_rfl, ?_⟩) hS ?_
              rotate_left
              · (intro w' hSw; go_simp <;> with_reducible rfl)
              try simp only [List.getElem_toArray, List.getElem_cons_succ, List.getElem_cons_zero, Act.put, List.setIfInBounds_toArray, List.set_cons_zero, List.set_cons_succ]
              refine reg_take (i := 2) (v := ?_) rfl (by kernel_rfl) (by kernel_rfl) (by kernel_rfl) (fun _ _ _ h => h) (Or.inl ⟨by kernel_rfl, ?_⟩) hS ?_
              rotate_left
              · (intro w' hSw; go_simp <;> with_reducible rfl)
              try simp only [List.getElem_toArray, List.getElem_cons_succ, List.getElem_cons_zero, Act.put, List.setIfInBounds_toArray, List.set_cons_zero, List.set_cons_succ]
              refine reg_take (i := 4) (v := ?_) rfl (by kernel_rfl) (by kernel_rfl) (by kernel_rfl) (fun _ _ _ h => h) (Or.inl ⟨by kernel_rfl, ?_⟩) hS ?_
              rotate_left
              · (intro w' hSw; go_simp <;> with_reducible rfl)
              try simp only [List.getElem_toArray, List.getElem_cons_succ, List.getElem_cons_zero, Act.put, List.setIfInBounds_toArray, List.set_cons_zero, List.set_cons_succ]
              refine reg_take (i := 5) (v := ?_) rfl (by kernel_rfl) (by kernel_rfl) (by kernel_rfl) (fun _ _ _ h => h) (Or.inl ⟨by kernel_rfl, ?_⟩) hS ?_
              rotate_left
              · (intro w' hSw; go_simp <;> with_reducible rfl)
              try simp only [List.getElem_toArray, List.getElem_cons_succ, List.getElem_cons_zero, Act.put, List.setIfInBounds_toArray, List.set_cons_zero, List.set_cons_succ]
              refine reg_take (i := 6) (v := ?_) rfl (by kernel_rfl) (by kernel_rfl) (by kernel_rfl) (fun _ _ _ h => h) (Or.inl ⟨by kernel_rfl, ?_⟩) hS ?_
              rotate_left
              · (intro w' hSw; go_simp <;> with_reducible rfl)
              try simp only [List.getElem_toArray, List.getElem_cons_succ, List.getElem_cons_zero, Act.put, List.setIfInBounds_toArray, List.set_cons_zero, List.set_cons_succ]
              refine reg_take (i := 7) (v := ?_) rfl (by kernel_rfl) (by kernel_rfl) (by kernel_rfl) (fun _ _ _ h => h) (Or.inl ⟨by kernel_rfl, ?_⟩) hS ?_
              rotate_left
              · (intro w' hSw; go_simp <;> with_reducible rfl)
              try simp only [List.getElem_toArray, List.getElem_cons_succ, List.getElem_cons_zero, Act.put, List.setIfInBounds_toArray, List.set_cons_zero, List.set_cons_succ]
              refine reg_take (i := 9) (v := ?_) rfl (by kernel_rfl) (by kernel_rfl) (by kernel_rfl) (fun _ _ _ h => h) (Or.inl ⟨by kernel_rfl, ?_⟩) hS ?_
              rotate_left
              · (intro w' hSw; go_simp <;> with_reducible rfl)
              try simp only [List.getElem_toArray, List.getElem_cons_succ, List.getElem_cons_zero, Act.put, List.setIfInBounds_toArray, List.set_cons_zero, List.set_cons_succ]
              refine reg_take (i := 10) (v := ?_) rfl (by kernel_rfl) (by kernel_rfl) (by kernel_rfl) (fun _ _ _ h => h) (Or.inl ⟨by kernel_rfl, ?_⟩) hS ?_
              rotate_left
              · (intro w' hSw; go_simp <;> with_reducible rfl)
              try simp only [List.getElem_toArray, List.getElem_cons_succ, List.getElem_cons_zero, Act.put, List.setIfInBounds_toArray, List.set_cons_zero, List.set_cons_succ]
              clear j1 j2 j4 j5 j12 j13
              refine reg_call (i := 3) rfl (by kernel_rfl) (fun K hK => ?_)
              have HK := Lib.hid hK
              clear hK
              go_simp
              go_wp2_with fail
              refine HK.out.to (fun w' : World => w'.cell? ⟨b, off, none⟩ = some (.int .u8 (k0 : Nat))) (fun _ h => h) (HSo.out _ (kd.alloc (.cells #[] 5))) ?_
              clear HK hS
              have hS : (fun w' : World => w'.cell? ⟨b, off, none⟩ = some (.int .u8 (k0 : Nat))) (w1.drew.alloc (.cells #[] 5)) := HSo.out _ (kd.alloc (.cells #[] 5))
              try simp only [List.getElem_toArray, List.getElem_cons_succ, List.getElem_cons_zero, Act.put, List.setIfInBounds_toArray, List.set_cons_zero, List.set_cons_succ]
              refine reg_call (i := 8) rfl (by kernel_rfl) (fun K hK => ?_)
              have HK := Lib.hid hK
              clear hK
              refine step_append_sl (f := byteC ((bs.take (n + 5)).drop 5)) (D := D) (base := w.heap.size) (n := 0) (xs := []) byteElem rfl (.tmp 48) (.tmp 52) rfl rfl rfl ?hown ?hsl ?h1 ?h63 ?hby ?hbase ?_
              case hown => exact own_lit0 w1.drew w.heap.size 5 H1.out.size
              case hsl => exact HT.out.2.2.1.keep (w' := w1.drew.alloc (.cells #[] 5)) (fun q _ hq => ((H1.out.drew).alloc (.cells #[] 5)).block q hq (fun h => h))
              case h1 => intro j _; rfl
              case h63 => unfold maxLen; omega
              case hby => omega
              case hbase => have := H1.out.size; simp; omega
              intro v3 w3 ho3 hg3 hx3
              clear hx3
              have hkk : Keeps (fun _ => False) w1 w3 := keeps_grown (w0 := w1) (kd.alloc (.cells #[] 5)) (own_lit0 w1.drew w1.heap.size 5 (Nat.le_refl _)) hg3
              have hkw : Keeps (fun _ => False) w w3 := H1.out.trans' hkk
              have ho3' : w3.ownsRow w.heap.size 5 1 v3 n (((bs.take (n + 5)).drop 5).map byteV) := by
                have := ho3
                rw [List.nil_append, Nat.zero_add, range_bytes HB.out.2.2.2.2.1] at this
                exact this
              obtain ⟨A3, c3, hv3, -, -⟩ := own_form ho3'
              subst hv3
              have hfin : ReadPost w (rrK ex bs) (rrI ex bs) (rrN ex bs) (rrE ex bs) (.returned (.tuple #[.int .u8 (k0 : Nat), .slice A3 n c3, .int .i64 ((n : Int) + 9), .int .i64 0])) w3 := by
                obtain ⟨h1, h2, h3, h4⟩ := HE.out
                refine ⟨A3, c3, ?_, ?_, hkw⟩
                · rw [h1, h2, h3, h4, HB.out.2.2.2.2.1]; rfl
                · rw [h3, HB.out.2.2.2.2.1]; exact ho3'
              have H3 := Lib.hid (And.intro hkk hfin)
              clear ho3 ho3' hg3 hkk hkw hfin
              refine HK.out.to (fun w' : World => w'.cell? ⟨b, off, none⟩ = some (.int .u8 (k0 : Nat))) (fun _ h => h) (HSo.out _ H3.out.1) ?_
              clear HK hS
              have hS : (fun w' : World => w'.cell? ⟨b, off, none⟩ = some (.int .u8 (k0 : Nat))) (w3) := HSo.out _ H3.out.1
              try simp only [List.getElem_toArray, List.getElem_cons_succ, List.getElem_cons_zero, Act.put, List.setIfInBounds_toArray, List.set_cons_zero, List.set_cons_succ]
              refine reg_take (i := 11) (v := ?_) rfl (by kernel_rfl) (by kernel_rfl) (by kernel_rfl) (fun _ _ _ h => h) (Or.inl ⟨by kernel_rfl, ?_⟩) hS ?_
              rotate_left
              · (intro w' hSw; go_simp <;> with_reducible rfl)
              try simp only [List.getElem_toArray, List.getElem_cons_succ, List.getElem_cons_zero, Act.put, List.setIfInBounds_toArray, List.set_cons_zero, List.set_cons_succ]
              refine reg_take (i := 12) (v := ?_) rfl (by kernel_rfl) (by kernel_rfl) (by kernel_rfl) (fun _ _ _ h => h) (Or.inl ⟨by kernel_rfl, ?_⟩) hS ?_
              rotate_left
              · (intro w' hSw; go_simp <;> with_reducible rfl)
              try simp only [List.getElem_toArray, List.getElem_cons_succ, List.getElem_cons_zero, Act.put, List.setIfInBounds_toArray, List.set_cons_zero, List.set_cons_succ]
              refine reg_take (i := 13) (v := ?_) rfl (by kernel_rfl) (by kernel_rfl) (by kernel_rfl) (fun _ _ _ h => h) (Or.inl ⟨by kernel_rfl, ?_⟩) hS ?_
              rotate_left
              · (intro w' hSw; go_simp <;> with_reducible rfl)
              try simp only [List.getElem_toArray, List.getElem_cons_succ, List.getElem_cons_zero, Act.put, List.setIfInBounds_toArray, List.set_cons_zero, List.set_cons_succ]
              refine reg_take (i := 14) (v := ?_) rfl (by kernel_rfl) (by kernel_rfl) (by kernel_rfl) (fun _ _ _ h => h) (Or.inl ⟨by kernel_rfl, ?_⟩) hS ?_
              rotate_left
              · (intro w' hSw; go_simp <;> with_reducible rfl)
              try simp only [List.getElem_toArray, List.getElem_cons_succ, List.getElem_cons_zero, Act.put, List.setIfInBounds_toArray, List.set_cons_zero, List.set_cons_succ]
              refine wpAnyH_done (by kernel_rfl) ?_ _
              try simp only [List.getElem_toArray, List.getElem_cons_succ, List.getElem_cons_zero]
              try simp only [List.getElem_toArray, List.getElem_cons_succ, List.getElem_cons_zero, Act.put, List.setIfInBounds_toArray, List.set_cons_zero, List.set_cons_succ]
              go_wp2_with fail
              exact bodyPost_ret (v := .tuple #[.int .u8 (k0 : Nat), .slice A3 n c3, .int .i64 ((n : Int) + 9), .int .i64 0]) (by simp [results, Try.results24, go_sem]) rfl H3.out.2
            · have hE0 : rrE ex bs = 12 := by rw [HT.out.2.2.2.2.2.2.1, HT.out.2.2.2.2.2.1, if_neg heq]
              have hfin := rr_err (w := w) (w' := w.drew) (ex := ex) (bs := bs) (er := 12) hE0 (by omega) ((Keeps.refl _ w).drew)
              have HF := Lib.hid hfin
              have d1 : ((su : Int) != (cr : Int)) = true := by simp; omega
              have d2 : ((su : Int) == (cr : Int)) = false := by simp; omega
              clear hE0 hfin heq
              go_wp2_with fail
              exact bodyPost_ret (v := .tuple #[.int .u8 0, .slice none 0 0, .int .i64 0, .int .i64 12]) (by simp [results, Try.results24, go_sem]) rfl HF.out
end Go.Proofs.Ytdgedhamacpghaa
