/-
  The walk of the law XorvalTurns. (Printed by genXorvalTurns.py.)
-/
import Derived.Test.YtllmdgbaidkmfaaXorvalSameW
import Derived.Test.YtllmdgbaidkmfaaReg
import Derived.Test.YtllmdgbaidkmfaaU64s
namespace Go.Proofs.Ytllmdgbaidkmfaa
open Go.RowKit
set_option linter.unusedVariables false
set_option linter.unusedSimpArgs false
theorem xor_turn (a b s : Nat) : (a ^^^ s) ^^^ (b ^^^ s) = a ^^^ b := by
  rw [Nat.xor_assoc, Nat.xor_comm b s, ← Nat.xor_assoc s s b, Nat.xor_self, Nat.zero_xor]
/-- The bits behind the first value's. -/
def xencR (f : Nat → Nat) : Nat → List Nat
  | 0 => []
  | 1 => []
  | k + 2 => xencR f (k + 1) ++ xbits (xwin f (k + 1)) (f (k + 1) ^^^ f k)
theorem xencTo_split (f : Nat → Nat) (k : Nat) : xencTo f (k + 1) = bitsTo (f 0) 64 64 ++ xencR f (k + 1) := by
  induction k with
  | zero => simp [xencTo, xencR]
  | succ k ih =>
    show xencTo f (k + 1) ++ _ = bitsTo (f 0) 64 64 ++ (xencR f (k + 1) ++ _)
    rw [ih, List.append_assoc]
theorem xwin_turn (f : Nat → Nat) (s : Nat) (k : Nat) : xwin (fun j => f j ^^^ s) k = xwin f k := by
  induction k with
  | zero => rfl
  | succ k ih =>
    match k with
    | 0 => rfl
    | k + 1 =>
      show nextW (xwin (fun j => f j ^^^ s) (k + 1)) ((f (k + 1) ^^^ s) ^^^ (f k ^^^ s)) = _
      rw [ih, xor_turn]
      rfl
theorem xencR_turn (f : Nat → Nat) (s : Nat) (k : Nat) : xencR (fun j => f j ^^^ s) k = xencR f k := by
  induction k with
  | zero => rfl
  | succ k ih =>
    match k with
    | 0 => rfl
    | k + 1 =>
      show xencR (fun j => f j ^^^ s) (k + 1) ++ xbits (xwin (fun j => f j ^^^ s) (k + 1)) ((f (k + 1) ^^^ s) ^^^ (f k ^^^ s)) = xencR f (k + 1) ++ _
      rw [ih, xor_turn, xwin_turn]
theorem getD_append_right' (X R : List Nat) (i : Nat) : (X ++ R).getD (X.length + i) 0 = R.getD i 0 := by
  rw [List.getD_eq_getElem?_getD, List.getD_eq_getElem?_getD, List.getElem?_append_right (by omega)]
  congr 2
  omega
theorem byteAt_append64 (X R : List Nat) (h : X.length = 64) (j : Nat) : byteAt (X ++ R) (j + 8) = byteAt R j := by
  have e : ∀ i, (X ++ R).getD (8 * (j + 8) + i) 0 = R.getD (8 * j + i) 0 := fun i => by
    have := getD_append_right' X R (8 * j + i)
    rw [h] at this
    rw [← this]
    congr 1
    omega
  unfold byteAt
  have e0 := e 0
  simp only [Nat.add_zero] at e0
  rw [e0, e 1, e 2, e 3, e 4, e 5, e 6, e 7]
theorem pack_drop (X R : List Nat) (h : X.length = 64) : (pack (X ++ R)).drop 8 = pack R := by
  apply List.ext_getElem?
  intro j
  rw [List.getElem?_drop]
  have hl1 : (pack (X ++ R)).length = 8 + (pack R).length := by rw [pack_length, pack_length, List.length_append, h]; omega
  rcases Nat.lt_or_ge j (pack R).length with hj | hj
  · have h1 := pack_getD (X ++ R) (8 + j)
    have h2 := pack_getD R j
    rw [List.getD_eq_getElem?_getD, List.getElem?_eq_getElem (by omega)] at h1 h2
    rw [List.getElem?_eq_getElem (by omega), List.getElem?_eq_getElem hj]
    simp at h1 h2
    rw [h1, h2, Nat.add_comm, byteAt_append64 X R h]
  · rw [List.getElem?_eq_none (by omega), List.getElem?_eq_none hj]
theorem sl_drop {w : World} {base c n g : Nat} {bs : List Nat} (ho : w.ownsRow base 5 1 (.slice (some ⟨g, 0, none⟩) n c) n (bs.map byteV)) (hl : bs.length = n) : Sl w (fun k => k = g) (some ⟨g, 8, none⟩) (n - 8) (byteC (bs.drop 8)) := by
  intro hn
  refine ⟨g, 8, rfl, rfl, fun j hj => ?_⟩
  rw [ho.cellAt (8 + j) (by omega), List.getElem?_map, List.getElem?_eq_getElem (by omega)]
  unfold byteC byteV
  rw [List.getD_eq_getElem?_getD, List.getElem?_drop, List.getElem?_eq_getElem (by omega)]
  rfl
set_option maxRecDepth 100000 in
set_option maxHeartbeats 4000000 in
theorem xorvalTurns_walk (a0 : Option Addr) (len0 cap0 : Nat) (z0 : List Int) (a1 : Int) (w : World) (w0 : IsRow .u64 w a0 len0 cap0 z0) (w1 : (Lit.int .u64 a1).wf = true) :
    Calls Try.prog 5 #[.slice a0 len0 cap0, .int .u64 a1] w fun e w' => e = .returned (.bool true) ∧ Below w.heap.size w w' := by
  obtain ⟨n, hn⟩ : ∃ n, n = min len0 300 := ⟨_, rfl⟩
  obtain ⟨f, hfb, hfs⟩ := w0.u64s n (by omega)
  have l0 := w0.le
  have b1 := wf_u64 w1
  obtain ⟨d, rfl⟩ : ∃ d : Nat, a1 = (d : Int) := ⟨a1.toNat, by omega⟩
  have hd : d < 18446744073709551616 := by omega
  clear w0 w1
  obtain ⟨l0a, l0b, -⟩ := l0
  have HF := Lib.hid (And.intro hfb (And.intro hfs (And.intro hd hn)))
  have hn3 : n ≤ 300 := by omega
  clear hfb hfs b1 hn hd
  go_enter Try.func5, Try.ntmps5
  go_upto_if 13 with (fail)
  go_cut [0] (fun s0 wx => s0 = .slice a0 n cap0 ∧ w = wx)
  case first =>
    by_cases h : 300 < len0
    · obtain ⟨b, off, ha, -, -⟩ := HF.out.2.1 (by have := HF.out.2.2.2; omega)
      subst ha
      go_wp2_with fail
      go_meet
      have : n = 300 := by have := HF.out.2.2.2; omega
      subst this
      exact ⟨rfl, rfl⟩
    · go_wp2_with fail
      go_meet
      have : n = len0 := by have := HF.out.2.2.2; omega
      subst this
      exact ⟨rfl, rfl⟩
  case rest =>
    obtain ⟨rfl, rfl⟩ := hcut
    go_wp2_with fail
    go_loopw [5, 6] (fun v i wr => ∃ k : Nat, k ≤ n ∧ i = .int .i64 k ∧ wr.ownsRow w.heap.size 30 1 v k ((List.range k).map fun j => Value.int .u64 ((f j ^^^ d : Nat) : Int)) ∧ Below w.heap.size w wr)
      (fun _ i _ => n - (intOf i).toNat)
    case atStart => exact ⟨0, Nat.zero_le _, rfl, ⟨by simp, .inl ⟨rfl, rfl⟩⟩, Below.refl _ _⟩
    case round =>
      obtain ⟨k, hk, rfl, hor, hbr⟩ := hrel
      have HO := Lib.hid (And.intro hor hbr)
      clear hor hbr
      by_cases hlt : k < n
      · obtain ⟨b, off, ha, -, hcell⟩ := (HF.out.2.1.below HO.out.2 (fun _ hq _ => hq)) (by omega)
        have ck : wr.cell? ⟨b, off + k, none⟩ = some (.int .u64 (f k : Nat)) := hcell k hlt
        subst ha
        have e3 := u64_xor_nat (f k) d (HF.out.1 k) HF.out.2.2.1
        obtain ⟨t, ht⟩ : ∃ t, t = f k ^^^ d := ⟨_, rfl⟩
        obtain ⟨u, hu⟩ : ∃ u, u = f k := ⟨_, rfl⟩
        rw [← ht, ← hu] at e3
        rw [← hu] at ck
        have HT := Lib.hid ht
        clear ht hcell hu
        go_wp2_with (at_builtin; refine wpList_append_sl (f := fun _ => .int .u64 (t : Nat)) (D := fun k => k = wr.heap.size) (base := w.heap.size) (n := k) (xs := (List.range k).map fun j => Value.int .u64 ((f j ^^^ d : Nat) : Int)) u64Elem rfl (.tmp 22) (.tmp 29) rfl rfl rfl ?hown ?hsl ?h1 ?h63 ?hby ?hbase ?_)
        case hown => exact HO.out.1.alloc _
        case hsl => first | exact sl_one _ _ _ | (rw [e3]; exact sl_one _ _ _)
        case h1 => intro j _; rfl
        case h63 => unfold maxLen; omega
        case hby => omega
        case hbase => have := HO.out.2.size; simp; omega
        intro v1 w1 hown1 hg1 hat1
        have hb1 : Below w.heap.size w w1 := (HO.out.2.alloc HO.out.2.size _).grown hg1 (by have := HO.out.2.size; simp; omega) (fun q hq => (HO.out.1.lt q hq).1)
        have H1 := Lib.hid (And.intro hown1 hb1)
        clear hown1 hg1 hat1 hb1 e3 ck
        go_wp2_with fail
        go_roundw
        case rel =>
          refine ⟨k + 1, by omega, by go_num, ?_, H1.out.2⟩
          rw [List.range_succ, List.map_append]
          have := H1.out.1
          rw [HT.out] at this
          exact this
        case measure => simp [intOf]; omega
      · obtain rfl : k = n := by omega
        obtain ⟨A1, c1, hv1, -, -⟩ := own_form HO.out.1
        rw [hv1]
        have ho1 := HO.out.1
        rw [hv1] at ho1
        have hsl0 := HF.out.2.1.below HO.out.2 (fun _ hq _ => hq)
        have H2 := Lib.hid (And.intro ho1 (And.intro HO.out.2 hsl0))
        clear ho1 hv1 HO hsl0
        go_wp2_with fail
        refine (xencode_any _ _ _ _ _ f H2.out.2.2 HF.out.1 (by omega)).mono ?_
        rintro e w2 ⟨A2, c2, rfl, ho2, hk2⟩
        have ho12 := own_keeps H2.out.1 hk2 (fun _ _ h => h)
        have H3 := Lib.hid (And.intro (sl_of_words ho12) (And.intro ho2 (H2.out.2.1.trans (hk2.to_below.mono H2.out.2.1.size))))
        clear ho2 hk2 ho12
        go_wp2_with fail
        refine (xencode_any _ _ _ _ _ (fun j => f j ^^^ d) H3.out.1 (fun j => xor_lt (HF.out.1 j) HF.out.2.2.1) (by omega)).mono ?_
        rintro e w3 ⟨A3, c3, rfl, ho3, hk3⟩
        have ho23 := own_keeps H3.out.2.1 hk3 (fun _ _ h => h)
        have hb3 := H3.out.2.2.trans (hk3.to_below.mono H3.out.2.2.size)
        rcases Nat.eq_zero_or_pos k with hk0 | hk0
        · subst hk0
          have H4 := Lib.hid hb3
          have p1 : (pack (xencTo f 0)).length = 0 := by simp [xencTo, pack]
          have p2 : (pack (xencTo (fun j => f j ^^^ d) 0)).length = 0 := by simp [xencTo, pack]
          rw [p2]
          rw [p1]
          clear ho3 hk3 ho23 hb3 p1 p2
          go_wp2_with fail
          go_quiet (fail)
          go_wp2_with fail
          go_ret
          exact ⟨rfl, ⟨H4.out.os, H4.out.tape, H4.out.output, H4.out.size, H4.out.block⟩⟩
        · obtain ⟨j, rfl⟩ : ∃ j, k = j + 1 := ⟨k - 1, by omega⟩
          rw [xencTo_split] at ho3
          rw [xencTo_split (fun j => f j ^^^ d)]
          rw [xencTo_split f] at ho23
          rw [xencTo_split f]
          rw [xencR_turn] at ho3
          rw [xencR_turn]
          obtain ⟨R, hR⟩ : ∃ R, R = xencR f (j + 1) := ⟨_, rfl⟩
          rw [← hR] at ho3 ho23
          rw [← hR]
          obtain ⟨X, hX⟩ : ∃ X, X = bitsTo (f 0) 64 64 := ⟨_, rfl⟩
          obtain ⟨Y, hY⟩ : ∃ Y, Y = bitsTo (f 0 ^^^ d) 64 64 := ⟨_, rfl⟩
          have hXl : X.length = 64 := by rw [hX, bitsTo_length]
          have hYl : Y.length = 64 := by rw [hY, bitsTo_length]
          rw [← hX] at ho23
          rw [← hY] at ho3
          rw [← hX, ← hY]
          have hpX := pack_length (X ++ R)
          have hpY := pack_length (Y ++ R)
          rw [List.length_append, hXl] at hpX
          rw [List.length_append, hYl] at hpY
          have hdX := pack_drop X R hXl
          have hdY := pack_drop Y R hYl
          have hpR := pack_length R
          obtain ⟨PX, hPX⟩ : ∃ PX, PX = pack (X ++ R) := ⟨_, rfl⟩
          obtain ⟨PY, hPY⟩ : ∃ PY, PY = pack (Y ++ R) := ⟨_, rfl⟩
          rw [← hPX] at ho23 hpX hdX
          rw [← hPY] at ho3 hpY hdY
          rw [← hPX, ← hPY]
          obtain ⟨m, hm⟩ : ∃ m, m = PX.length := ⟨_, rfl⟩
          have hm' : PY.length = m := by omega
          rw [← hm] at ho23
          rw [hm'] at ho3
          rw [hm', ← hm]
          have hm8 : 8 ≤ m := by omega
          have hRl : (pack R).length = m - 8 := by omega
          obtain ⟨A2', c2', e2', hc2, hA2⟩ := own_form ho23
          obtain ⟨A3', c3', e3', hc3, hA3⟩ := own_form ho3
          obtain ⟨g2, e2, -, -⟩ := hA2 (by omega)
          obtain ⟨g3, e3, -, -⟩ := hA3 (by omega)
          obtain ⟨rfl, rfl⟩ : A2 = A2' ∧ c2 = c2' := by simpa using e2'
          obtain ⟨rfl, rfl⟩ : A3 = A3' ∧ c3 = c3' := by simpa using e3'
          rw [e2] at ho23
          rw [e3] at ho3
          rw [e2, e3]
          have s2 := sl_drop ho23 hm.symm
          have s3 := sl_drop ho3 hm'
          rw [hdX] at s2
          rw [hdY] at s3
          have H4 := Lib.hid (And.intro hb3 (And.intro s2 (And.intro s3 hRl)))
          clear ho3 hk3 ho23 hb3 hR hX hY hXl hYl hpX hpY hdX hdY hpR hPX hPY hm hm' hRl hA2 hA3 e2 e3 e2' e3' s2 s3
          have hnl : (0 : Int) < ((j + 1 : Nat) : Int) := by omega
          have d8 : decide ((m : Int) < 8) = false := by simp; omega
          have hm8i : (8 : Int) ≤ (m : Int) := by omega
          go_upto_region 12 with (fail)
          by_cases h2 : c2 = 8
          · by_cases h3 : c3 = 8
            · subst h2
              have hm88 : m = 8 := by omega
              subst hm88
              subst h3
              have hS : (fun w' : World => Sl w' (fun k => k = g2) (some ⟨g2, 0, none⟩) 0 (byteC (pack R)) ∧ Sl w' (fun k => k = g3) (some ⟨g3, 0, none⟩) 0 (byteC (pack R))) w3.drew := ⟨(fun h => absurd h (by omega)), (fun h => absurd h (by omega))⟩
              refine reg_start (fun w' : World => Sl w' (fun k => k = g2) (some ⟨g2, 0, none⟩) 0 (byteC (pack R)) ∧ Sl w' (fun k => k = g3) (some ⟨g3, 0, none⟩) 0 (byteC (pack R))) (by kernel_rfl) hS ?_
              refine reg_take (i := 0) (v := ?_) rfl (by kernel_rfl) (by kernel_rfl) (by kernel_rfl) (fun _ _ _ h => h) (Or.inl ⟨by kernel_rfl, ?_⟩) hS ?_
              rotate_left
              · (intro w' hSw; go_simp <;> with_reducible rfl)
              try simp only [Act.put, List.setIfInBounds_toArray, List.set_cons_zero, List.set_cons_succ]
              refine reg_take (i := 1) (v := ?_) rfl (by kernel_rfl) (by kernel_rfl) (by kernel_rfl) (fun _ _ _ h => h) (Or.inl ⟨by kernel_rfl, ?_⟩) hS ?_
              rotate_left
              · (intro w' hSw; go_simp <;> with_reducible rfl)
              try simp only [Act.put, List.setIfInBounds_toArray, List.set_cons_zero, List.set_cons_succ]
              refine reg_take (i := 2) (v := ?_) rfl (by kernel_rfl) (by kernel_rfl) (by kernel_rfl) (fun _ _ _ h => h) (Or.inl ⟨by kernel_rfl, ?_⟩) hS ?_
              rotate_left
              · (intro w' hSw; go_simp <;> with_reducible rfl)
              try simp only [Act.put, List.setIfInBounds_toArray, List.set_cons_zero, List.set_cons_succ]
              refine reg_take (i := 3) (v := ?_) rfl (by kernel_rfl) (by kernel_rfl) (by kernel_rfl) (fun _ _ _ h => h) (Or.inl ⟨by kernel_rfl, ?_⟩) hS ?_
              rotate_left
              · (intro w' hSw; go_simp <;> with_reducible rfl)
              try simp only [Act.put, List.setIfInBounds_toArray, List.set_cons_zero, List.set_cons_succ]
              refine reg_take (i := 4) (v := ?_) rfl (by kernel_rfl) (by kernel_rfl) (by kernel_rfl) (fun _ _ _ h => h) (Or.inl ⟨by kernel_rfl, ?_⟩) hS ?_
              rotate_left
              · (intro w' hSw; go_simp <;> with_reducible rfl)
              try simp only [Act.put, List.setIfInBounds_toArray, List.set_cons_zero, List.set_cons_succ]
              refine reg_take (i := 5) (v := ?_) rfl (by kernel_rfl) (by kernel_rfl) (by kernel_rfl) (fun _ _ _ h => h) (Or.inl ⟨by kernel_rfl, ?_⟩) hS ?_
              rotate_left
              · (intro w' hSw; go_simp <;> with_reducible rfl)
              try simp only [Act.put, List.setIfInBounds_toArray, List.set_cons_zero, List.set_cons_succ]
              refine reg_take (i := 6) (v := ?_) rfl (by kernel_rfl) (by kernel_rfl) (by kernel_rfl) (fun _ _ _ h => h) (Or.inl ⟨by kernel_rfl, ?_⟩) hS ?_
              rotate_left
              · (intro w' hSw; have hc := fun c => conv_sl (P := Try.prog) (bs := pack R) (len := 0) (c := c) 23 5 9 Try.underlying23 Try.underlying5 Try.underlying9 H4.out.2.2.2 hSw.1; go_simp <;> with_reducible rfl)
              try simp only [Act.put, List.setIfInBounds_toArray, List.set_cons_zero, List.set_cons_succ]
              refine reg_take (i := 7) (v := ?_) rfl (by kernel_rfl) (by kernel_rfl) (by kernel_rfl) (fun _ _ _ h => h) (Or.inl ⟨by kernel_rfl, ?_⟩) hS ?_
              rotate_left
              · (intro w' hSw; go_simp <;> with_reducible rfl)
              try simp only [Act.put, List.setIfInBounds_toArray, List.set_cons_zero, List.set_cons_succ]
              refine reg_take (i := 8) (v := ?_) rfl (by kernel_rfl) (by kernel_rfl) (by kernel_rfl) (fun _ _ _ h => h) (Or.inl ⟨by kernel_rfl, ?_⟩) hS ?_
              rotate_left
              · (intro w' hSw; go_simp <;> with_reducible rfl)
              try simp only [Act.put, List.setIfInBounds_toArray, List.set_cons_zero, List.set_cons_succ]
              refine reg_take (i := 9) (v := ?_) rfl (by kernel_rfl) (by kernel_rfl) (by kernel_rfl) (fun _ _ _ h => h) (Or.inl ⟨by kernel_rfl, ?_⟩) hS ?_
              rotate_left
              · (intro w' hSw; have hc := fun c => conv_sl (P := Try.prog) (bs := pack R) (len := 0) (c := c) 23 5 9 Try.underlying23 Try.underlying5 Try.underlying9 H4.out.2.2.2 hSw.2; go_simp <;> with_reducible rfl)
              try simp only [Act.put, List.setIfInBounds_toArray, List.set_cons_zero, List.set_cons_succ]
              refine reg_take (i := 10) (v := ?_) rfl (by kernel_rfl) (by kernel_rfl) (by kernel_rfl) (fun _ _ _ h => h) (Or.inl ⟨by kernel_rfl, ?_⟩) hS ?_
              rotate_left
              · (intro w' hSw; go_simp <;> with_reducible rfl)
              try simp only [Act.put, List.setIfInBounds_toArray, List.set_cons_zero, List.set_cons_succ]
              refine reg_take (i := 11) (v := ?_) rfl (by kernel_rfl) (by kernel_rfl) (by kernel_rfl) (fun _ _ _ h => h) (Or.inl ⟨by kernel_rfl, ?_⟩) hS ?_
              rotate_left
              · (intro w' hSw; go_simp <;> with_reducible rfl)
              try simp only [Act.put, List.setIfInBounds_toArray, List.set_cons_zero, List.set_cons_succ]
              refine reg_take (i := 12) (v := ?_) rfl (by kernel_rfl) (by kernel_rfl) (by kernel_rfl) (fun _ _ _ h => h) (Or.inl ⟨by kernel_rfl, ?_⟩) hS ?_
              rotate_left
              · (intro w' hSw; go_simp <;> with_reducible rfl)
              try simp only [Act.put, List.setIfInBounds_toArray, List.set_cons_zero, List.set_cons_succ]
              refine wpAnyH_done (by kernel_rfl) ?_ _
              go_wp2_with fail
              go_ret
              exact ⟨rfl, H4.out.1.drew⟩
            · subst h2
              have hm88 : m = 8 := by omega
              subst hm88
              have hS : (fun w' : World => Sl w' (fun k => k = g2) (some ⟨g2, 0, none⟩) 0 (byteC (pack R)) ∧ Sl w' (fun k => k = g3) (some ⟨g3, 8, none⟩) 0 (byteC (pack R))) w3.drew := ⟨(fun h => absurd h (by omega)), (fun h => absurd h (by omega))⟩
              refine reg_start (fun w' : World => Sl w' (fun k => k = g2) (some ⟨g2, 0, none⟩) 0 (byteC (pack R)) ∧ Sl w' (fun k => k = g3) (some ⟨g3, 8, none⟩) 0 (byteC (pack R))) (by kernel_rfl) hS ?_
              refine reg_take (i := 0) (v := ?_) rfl (by kernel_rfl) (by kernel_rfl) (by kernel_rfl) (fun _ _ _ h => h) (Or.inl ⟨by kernel_rfl, ?_⟩) hS ?_
              rotate_left
              · (intro w' hSw; go_simp <;> with_reducible rfl)
              try simp only [Act.put, List.setIfInBounds_toArray, List.set_cons_zero, List.set_cons_succ]
              refine reg_take (i := 1) (v := ?_) rfl (by kernel_rfl) (by kernel_rfl) (by kernel_rfl) (fun _ _ _ h => h) (Or.inl ⟨by kernel_rfl, ?_⟩) hS ?_
              rotate_left
              · (intro w' hSw; go_simp <;> with_reducible rfl)
              try simp only [Act.put, List.setIfInBounds_toArray, List.set_cons_zero, List.set_cons_succ]
              refine reg_take (i := 2) (v := ?_) rfl (by kernel_rfl) (by kernel_rfl) (by kernel_rfl) (fun _ _ _ h => h) (Or.inl ⟨by kernel_rfl, ?_⟩) hS ?_
              rotate_left
              · (intro w' hSw; go_simp <;> with_reducible rfl)
              try simp only [Act.put, List.setIfInBounds_toArray, List.set_cons_zero, List.set_cons_succ]
              refine reg_take (i := 3) (v := ?_) rfl (by kernel_rfl) (by kernel_rfl) (by kernel_rfl) (fun _ _ _ h => h) (Or.inl ⟨by kernel_rfl, ?_⟩) hS ?_
              rotate_left
              · (intro w' hSw; go_simp <;> with_reducible rfl)
              try simp only [Act.put, List.setIfInBounds_toArray, List.set_cons_zero, List.set_cons_succ]
              refine reg_take (i := 4) (v := ?_) rfl (by kernel_rfl) (by kernel_rfl) (by kernel_rfl) (fun _ _ _ h => h) (Or.inl ⟨by kernel_rfl, ?_⟩) hS ?_
              rotate_left
              · (intro w' hSw; go_simp <;> with_reducible rfl)
              try simp only [Act.put, List.setIfInBounds_toArray, List.set_cons_zero, List.set_cons_succ]
              refine reg_take (i := 5) (v := ?_) rfl (by kernel_rfl) (by kernel_rfl) (by kernel_rfl) (fun _ _ _ h => h) (Or.inl ⟨by kernel_rfl, ?_⟩) hS ?_
              rotate_left
              · (intro w' hSw; go_simp <;> with_reducible rfl)
              try simp only [Act.put, List.setIfInBounds_toArray, List.set_cons_zero, List.set_cons_succ]
              refine reg_take (i := 6) (v := ?_) rfl (by kernel_rfl) (by kernel_rfl) (by kernel_rfl) (fun _ _ _ h => h) (Or.inl ⟨by kernel_rfl, ?_⟩) hS ?_
              rotate_left
              · (intro w' hSw; have hc := fun c => conv_sl (P := Try.prog) (bs := pack R) (len := 0) (c := c) 23 5 9 Try.underlying23 Try.underlying5 Try.underlying9 H4.out.2.2.2 hSw.1; go_simp <;> with_reducible rfl)
              try simp only [Act.put, List.setIfInBounds_toArray, List.set_cons_zero, List.set_cons_succ]
              refine reg_take (i := 7) (v := ?_) rfl (by kernel_rfl) (by kernel_rfl) (by kernel_rfl) (fun _ _ _ h => h) (Or.inl ⟨by kernel_rfl, ?_⟩) hS ?_
              rotate_left
              · (intro w' hSw; go_simp <;> with_reducible rfl)
              try simp only [Act.put, List.setIfInBounds_toArray, List.set_cons_zero, List.set_cons_succ]
              refine reg_take (i := 8) (v := ?_) rfl (by kernel_rfl) (by kernel_rfl) (by kernel_rfl) (fun _ _ _ h => h) (Or.inl ⟨by kernel_rfl, ?_⟩) hS ?_
              rotate_left
              · (intro w' hSw; go_simp <;> with_reducible rfl)
              try simp only [Act.put, List.setIfInBounds_toArray, List.set_cons_zero, List.set_cons_succ]
              refine reg_take (i := 9) (v := ?_) rfl (by kernel_rfl) (by kernel_rfl) (by kernel_rfl) (fun _ _ _ h => h) (Or.inl ⟨by kernel_rfl, ?_⟩) hS ?_
              rotate_left
              · (intro w' hSw; have hc := fun c => conv_sl (P := Try.prog) (bs := pack R) (len := 0) (c := c) 23 5 9 Try.underlying23 Try.underlying5 Try.underlying9 H4.out.2.2.2 hSw.2; go_simp <;> with_reducible rfl)
              try simp only [Act.put, List.setIfInBounds_toArray, List.set_cons_zero, List.set_cons_succ]
              refine reg_take (i := 10) (v := ?_) rfl (by kernel_rfl) (by kernel_rfl) (by kernel_rfl) (fun _ _ _ h => h) (Or.inl ⟨by kernel_rfl, ?_⟩) hS ?_
              rotate_left
              · (intro w' hSw; go_simp <;> with_reducible rfl)
              try simp only [Act.put, List.setIfInBounds_toArray, List.set_cons_zero, List.set_cons_succ]
              refine reg_take (i := 11) (v := ?_) rfl (by kernel_rfl) (by kernel_rfl) (by kernel_rfl) (fun _ _ _ h => h) (Or.inl ⟨by kernel_rfl, ?_⟩) hS ?_
              rotate_left
              · (intro w' hSw; go_simp <;> with_reducible rfl)
              try simp only [Act.put, List.setIfInBounds_toArray, List.set_cons_zero, List.set_cons_succ]
              refine reg_take (i := 12) (v := ?_) rfl (by kernel_rfl) (by kernel_rfl) (by kernel_rfl) (fun _ _ _ h => h) (Or.inl ⟨by kernel_rfl, ?_⟩) hS ?_
              rotate_left
              · (intro w' hSw; go_simp <;> with_reducible rfl)
              try simp only [Act.put, List.setIfInBounds_toArray, List.set_cons_zero, List.set_cons_succ]
              refine wpAnyH_done (by kernel_rfl) ?_ _
              go_wp2_with fail
              go_ret
              exact ⟨rfl, H4.out.1.drew⟩
          · by_cases h3 : c3 = 8
            · subst h3
              have hm88 : m = 8 := by omega
              subst hm88
              have hS : (fun w' : World => Sl w' (fun k => k = g2) (some ⟨g2, 8, none⟩) 0 (byteC (pack R)) ∧ Sl w' (fun k => k = g3) (some ⟨g3, 0, none⟩) 0 (byteC (pack R))) w3.drew := ⟨(fun h => absurd h (by omega)), (fun h => absurd h (by omega))⟩
              refine reg_start (fun w' : World => Sl w' (fun k => k = g2) (some ⟨g2, 8, none⟩) 0 (byteC (pack R)) ∧ Sl w' (fun k => k = g3) (some ⟨g3, 0, none⟩) 0 (byteC (pack R))) (by kernel_rfl) hS ?_
              refine reg_take (i := 0) (v := ?_) rfl (by kernel_rfl) (by kernel_rfl) (by kernel_rfl) (fun _ _ _ h => h) (Or.inl ⟨by kernel_rfl, ?_⟩) hS ?_
              rotate_left
              · (intro w' hSw; go_simp <;> with_reducible rfl)
              try simp only [Act.put, List.setIfInBounds_toArray, List.set_cons_zero, List.set_cons_succ]
              refine reg_take (i := 1) (v := ?_) rfl (by kernel_rfl) (by kernel_rfl) (by kernel_rfl) (fun _ _ _ h => h) (Or.inl ⟨by kernel_rfl, ?_⟩) hS ?_
              rotate_left
              · (intro w' hSw; go_simp <;> with_reducible rfl)
              try simp only [Act.put, List.setIfInBounds_toArray, List.set_cons_zero, List.set_cons_succ]
              refine reg_take (i := 2) (v := ?_) rfl (by kernel_rfl) (by kernel_rfl) (by kernel_rfl) (fun _ _ _ h => h) (Or.inl ⟨by kernel_rfl, ?_⟩) hS ?_
              rotate_left
              · (intro w' hSw; go_simp <;> with_reducible rfl)
              try simp only [Act.put, List.setIfInBounds_toArray, List.set_cons_zero, List.set_cons_succ]
              refine reg_take (i := 3) (v := ?_) rfl (by kernel_rfl) (by kernel_rfl) (by kernel_rfl) (fun _ _ _ h => h) (Or.inl ⟨by kernel_rfl, ?_⟩) hS ?_
              rotate_left
              · (intro w' hSw; go_simp <;> with_reducible rfl)
              try simp only [Act.put, List.setIfInBounds_toArray, List.set_cons_zero, List.set_cons_succ]
              refine reg_take (i := 4) (v := ?_) rfl (by kernel_rfl) (by kernel_rfl) (by kernel_rfl) (fun _ _ _ h => h) (Or.inl ⟨by kernel_rfl, ?_⟩) hS ?_
              rotate_left
              · (intro w' hSw; go_simp <;> with_reducible rfl)
              try simp only [Act.put, List.setIfInBounds_toArray, List.set_cons_zero, List.set_cons_succ]
              refine reg_take (i := 5) (v := ?_) rfl (by kernel_rfl) (by kernel_rfl) (by kernel_rfl) (fun _ _ _ h => h) (Or.inl ⟨by kernel_rfl, ?_⟩) hS ?_
              rotate_left
              · (intro w' hSw; go_simp <;> with_reducible rfl)
              try simp only [Act.put, List.setIfInBounds_toArray, List.set_cons_zero, List.set_cons_succ]
              refine reg_take (i := 6) (v := ?_) rfl (by kernel_rfl) (by kernel_rfl) (by kernel_rfl) (fun _ _ _ h => h) (Or.inl ⟨by kernel_rfl, ?_⟩) hS ?_
              rotate_left
              · (intro w' hSw; have hc := fun c => conv_sl (P := Try.prog) (bs := pack R) (len := 0) (c := c) 23 5 9 Try.underlying23 Try.underlying5 Try.underlying9 H4.out.2.2.2 hSw.1; go_simp <;> with_reducible rfl)
              try simp only [Act.put, List.setIfInBounds_toArray, List.set_cons_zero, List.set_cons_succ]
              refine reg_take (i := 7) (v := ?_) rfl (by kernel_rfl) (by kernel_rfl) (by kernel_rfl) (fun _ _ _ h => h) (Or.inl ⟨by kernel_rfl, ?_⟩) hS ?_
              rotate_left
              · (intro w' hSw; go_simp <;> with_reducible rfl)
              try simp only [Act.put, List.setIfInBounds_toArray, List.set_cons_zero, List.set_cons_succ]
              refine reg_take (i := 8) (v := ?_) rfl (by kernel_rfl) (by kernel_rfl) (by kernel_rfl) (fun _ _ _ h => h) (Or.inl ⟨by kernel_rfl, ?_⟩) hS ?_
              rotate_left
              · (intro w' hSw; go_simp <;> with_reducible rfl)
              try simp only [Act.put, List.setIfInBounds_toArray, List.set_cons_zero, List.set_cons_succ]
              refine reg_take (i := 9) (v := ?_) rfl (by kernel_rfl) (by kernel_rfl) (by kernel_rfl) (fun _ _ _ h => h) (Or.inl ⟨by kernel_rfl, ?_⟩) hS ?_
              rotate_left
              · (intro w' hSw; have hc := fun c => conv_sl (P := Try.prog) (bs := pack R) (len := 0) (c := c) 23 5 9 Try.underlying23 Try.underlying5 Try.underlying9 H4.out.2.2.2 hSw.2; go_simp <;> with_reducible rfl)
              try simp only [Act.put, List.setIfInBounds_toArray, List.set_cons_zero, List.set_cons_succ]
              refine reg_take (i := 10) (v := ?_) rfl (by kernel_rfl) (by kernel_rfl) (by kernel_rfl) (fun _ _ _ h => h) (Or.inl ⟨by kernel_rfl, ?_⟩) hS ?_
              rotate_left
              · (intro w' hSw; go_simp <;> with_reducible rfl)
              try simp only [Act.put, List.setIfInBounds_toArray, List.set_cons_zero, List.set_cons_succ]
              refine reg_take (i := 11) (v := ?_) rfl (by kernel_rfl) (by kernel_rfl) (by kernel_rfl) (fun _ _ _ h => h) (Or.inl ⟨by kernel_rfl, ?_⟩) hS ?_
              rotate_left
              · (intro w' hSw; go_simp <;> with_reducible rfl)
              try simp only [Act.put, List.setIfInBounds_toArray, List.set_cons_zero, List.set_cons_succ]
              refine reg_take (i := 12) (v := ?_) rfl (by kernel_rfl) (by kernel_rfl) (by kernel_rfl) (fun _ _ _ h => h) (Or.inl ⟨by kernel_rfl, ?_⟩) hS ?_
              rotate_left
              · (intro w' hSw; go_simp <;> with_reducible rfl)
              try simp only [Act.put, List.setIfInBounds_toArray, List.set_cons_zero, List.set_cons_succ]
              refine wpAnyH_done (by kernel_rfl) ?_ _
              go_wp2_with fail
              go_ret
              exact ⟨rfl, H4.out.1.drew⟩
            · have hS : (fun w' : World => Sl w' (fun k => k = g2) (some ⟨g2, 8, none⟩) (m - 8) (byteC (pack R)) ∧ Sl w' (fun k => k = g3) (some ⟨g3, 8, none⟩) (m - 8) (byteC (pack R))) w3.drew := ⟨H4.out.2.1, H4.out.2.2.1⟩
              refine reg_start (fun w' : World => Sl w' (fun k => k = g2) (some ⟨g2, 8, none⟩) (m - 8) (byteC (pack R)) ∧ Sl w' (fun k => k = g3) (some ⟨g3, 8, none⟩) (m - 8) (byteC (pack R))) (by kernel_rfl) hS ?_
              refine reg_take (i := 0) (v := ?_) rfl (by kernel_rfl) (by kernel_rfl) (by kernel_rfl) (fun _ _ _ h => h) (Or.inl ⟨by kernel_rfl, ?_⟩) hS ?_
              rotate_left
              · (intro w' hSw; go_simp <;> with_reducible rfl)
              try simp only [Act.put, List.setIfInBounds_toArray, List.set_cons_zero, List.set_cons_succ]
              refine reg_take (i := 1) (v := ?_) rfl (by kernel_rfl) (by kernel_rfl) (by kernel_rfl) (fun _ _ _ h => h) (Or.inl ⟨by kernel_rfl, ?_⟩) hS ?_
              rotate_left
              · (intro w' hSw; go_simp <;> with_reducible rfl)
              try simp only [Act.put, List.setIfInBounds_toArray, List.set_cons_zero, List.set_cons_succ]
              refine reg_take (i := 2) (v := ?_) rfl (by kernel_rfl) (by kernel_rfl) (by kernel_rfl) (fun _ _ _ h => h) (Or.inl ⟨by kernel_rfl, ?_⟩) hS ?_
              rotate_left
              · (intro w' hSw; go_simp <;> with_reducible rfl)
              try simp only [Act.put, List.setIfInBounds_toArray, List.set_cons_zero, List.set_cons_succ]
              refine reg_take (i := 3) (v := ?_) rfl (by kernel_rfl) (by kernel_rfl) (by kernel_rfl) (fun _ _ _ h => h) (Or.inl ⟨by kernel_rfl, ?_⟩) hS ?_
              rotate_left
              · (intro w' hSw; go_simp <;> with_reducible rfl)
              try simp only [Act.put, List.setIfInBounds_toArray, List.set_cons_zero, List.set_cons_succ]
              refine reg_take (i := 4) (v := ?_) rfl (by kernel_rfl) (by kernel_rfl) (by kernel_rfl) (fun _ _ _ h => h) (Or.inl ⟨by kernel_rfl, ?_⟩) hS ?_
              rotate_left
              · (intro w' hSw; go_simp <;> with_reducible rfl)
              try simp only [Act.put, List.setIfInBounds_toArray, List.set_cons_zero, List.set_cons_succ]
              refine reg_take (i := 5) (v := ?_) rfl (by kernel_rfl) (by kernel_rfl) (by kernel_rfl) (fun _ _ _ h => h) (Or.inl ⟨by kernel_rfl, ?_⟩) hS ?_
              rotate_left
              · (intro w' hSw; go_simp <;> with_reducible rfl)
              try simp only [Act.put, List.setIfInBounds_toArray, List.set_cons_zero, List.set_cons_succ]
              refine reg_take (i := 6) (v := ?_) rfl (by kernel_rfl) (by kernel_rfl) (by kernel_rfl) (fun _ _ _ h => h) (Or.inl ⟨by kernel_rfl, ?_⟩) hS ?_
              rotate_left
              · (intro w' hSw; have hc := fun c => conv_sl (P := Try.prog) (bs := pack R) (len := (m - 8)) (c := c) 23 5 9 Try.underlying23 Try.underlying5 Try.underlying9 H4.out.2.2.2 hSw.1; go_simp <;> with_reducible rfl)
              try simp only [Act.put, List.setIfInBounds_toArray, List.set_cons_zero, List.set_cons_succ]
              refine reg_take (i := 7) (v := ?_) rfl (by kernel_rfl) (by kernel_rfl) (by kernel_rfl) (fun _ _ _ h => h) (Or.inl ⟨by kernel_rfl, ?_⟩) hS ?_
              rotate_left
              · (intro w' hSw; go_simp <;> with_reducible rfl)
              try simp only [Act.put, List.setIfInBounds_toArray, List.set_cons_zero, List.set_cons_succ]
              refine reg_take (i := 8) (v := ?_) rfl (by kernel_rfl) (by kernel_rfl) (by kernel_rfl) (fun _ _ _ h => h) (Or.inl ⟨by kernel_rfl, ?_⟩) hS ?_
              rotate_left
              · (intro w' hSw; go_simp <;> with_reducible rfl)
              try simp only [Act.put, List.setIfInBounds_toArray, List.set_cons_zero, List.set_cons_succ]
              refine reg_take (i := 9) (v := ?_) rfl (by kernel_rfl) (by kernel_rfl) (by kernel_rfl) (fun _ _ _ h => h) (Or.inl ⟨by kernel_rfl, ?_⟩) hS ?_
              rotate_left
              · (intro w' hSw; have hc := fun c => conv_sl (P := Try.prog) (bs := pack R) (len := (m - 8)) (c := c) 23 5 9 Try.underlying23 Try.underlying5 Try.underlying9 H4.out.2.2.2 hSw.2; go_simp <;> with_reducible rfl)
              try simp only [Act.put, List.setIfInBounds_toArray, List.set_cons_zero, List.set_cons_succ]
              refine reg_take (i := 10) (v := ?_) rfl (by kernel_rfl) (by kernel_rfl) (by kernel_rfl) (fun _ _ _ h => h) (Or.inl ⟨by kernel_rfl, ?_⟩) hS ?_
              rotate_left
              · (intro w' hSw; go_simp <;> with_reducible rfl)
              try simp only [Act.put, List.setIfInBounds_toArray, List.set_cons_zero, List.set_cons_succ]
              refine reg_take (i := 11) (v := ?_) rfl (by kernel_rfl) (by kernel_rfl) (by kernel_rfl) (fun _ _ _ h => h) (Or.inl ⟨by kernel_rfl, ?_⟩) hS ?_
              rotate_left
              · (intro w' hSw; go_simp <;> with_reducible rfl)
              try simp only [Act.put, List.setIfInBounds_toArray, List.set_cons_zero, List.set_cons_succ]
              refine reg_take (i := 12) (v := ?_) rfl (by kernel_rfl) (by kernel_rfl) (by kernel_rfl) (fun _ _ _ h => h) (Or.inl ⟨by kernel_rfl, ?_⟩) hS ?_
              rotate_left
              · (intro w' hSw; go_simp <;> with_reducible rfl)
              try simp only [Act.put, List.setIfInBounds_toArray, List.set_cons_zero, List.set_cons_succ]
              refine wpAnyH_done (by kernel_rfl) ?_ _
              go_wp2_with fail
              go_ret
              exact ⟨rfl, H4.out.1.drew⟩
end Go.Proofs.Ytllmdgbaidkmfaa
