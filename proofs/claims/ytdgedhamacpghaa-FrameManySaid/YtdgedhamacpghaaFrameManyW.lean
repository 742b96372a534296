/-
  The walk of the law FrameMany. (Printed by mk.py.)
-/
import Derived.Test.YtdgedhamacpghaaFrameSumsW
import Derived.Test.YtdgedhamacpghaaFrmP
import Derived.Test.YtdgedhamacpghaaRowsB
import Derived.Test.YtdgedhamacpghaaReg
import Derived.Deep.CutBlock
namespace Go.Proofs.Ytdgedhamacpghaa
open Go.RowKit
set_option linter.unusedVariables false
set_option linter.unusedSimpArgs false
def manyN (L : Nat → Nat) : Nat → Nat
  | 0 => 0
  | i + 1 => manyN L i + (if L i ≤ 100 then 1 else 0)
def manyB (kind : Nat) (L : Nat → Nat) (B : Nat → List Nat) : Nat → List Nat
  | 0 => []
  | i + 1 => manyB kind L B i ++ (if L i ≤ 100 then sealL ((kind + manyN L i) % 256) (B i) else [])
theorem manyN_le (L : Nat → Nat) (i : Nat) : manyN L i ≤ i := by
  induction i with
  | zero => exact Nat.le_refl _
  | succ i ih => unfold manyN; split <;> omega
theorem manyB_pre (kind : Nat) (L : Nat → Nat) (B : Nat → List Nat) (i n : Nat) (h : i ≤ n) : ∃ M, manyB kind L B n = manyB kind L B i ++ M := by
  obtain ⟨m, rfl⟩ : ∃ m, n = i + m := ⟨n - i, by omega⟩
  clear h
  induction m with
  | zero => exact ⟨[], by simp⟩
  | succ m ih =>
    obtain ⟨M, hM⟩ := ih
    refine ⟨M ++ (if L (i + m) ≤ 100 then sealL ((kind + manyN L (i + m)) % 256) (B (i + m)) else []), ?_⟩
    show manyB kind L B (i + m) ++ _ = _
    rw [hM, List.append_assoc]
    rfl
theorem manyB_len (kind : Nat) (L : Nat → Nat) (B : Nat → List Nat) (n : Nat) (hB : ∀ j, j < n → (B j).length = L j) (i : Nat) (hi : i ≤ n) : (manyB kind L B i).length ≤ 109 * i := by
  induction i with
  | zero => exact Nat.le_refl _
  | succ i ih =>
    have := ih (by omega)
    unfold manyB
    rw [List.length_append]
    split
    · rw [sealL_length, hB i (by omega)]; omega
    · simp; omega
theorem manyB_byte (kind : Nat) (L : Nat → Nat) (B : Nat → List Nat) (n : Nat) (hB : ∀ j, j < n → ∀ i, (B j).getD i 0 < 256) (i : Nat) (hi : i ≤ n) : ∀ b ∈ manyB kind L B i, b < 256 := by
  induction i with
  | zero => intro b hb; simp [manyB] at hb
  | succ i ih =>
    intro b hb
    unfold manyB at hb
    rcases List.mem_append.1 hb with h | h
    · exact ih (by omega) b h
    · split at h
      · exact sealL_byte (Nat.mod_lt _ (by omega)) (hB i (by omega)) b h
      · simp at h
theorem seal_fit (w : World) (z : Int) (kind : Nat) (A : Option Addr) (len c : Nat) (D : Nat → Prop) (bs : List Nat) (hz : z = (kind : Nat)) (hl : bs.length = len) (hsl : Sl w D A len (byteC bs)) (hb : ∀ j, bs.getD j 0 < 256) (hk : kind < 256) (hlen : len ≤ 1048576) :
    Calls Try.prog 8 #[.int .u8 z, .slice A len c] w (BytesPost w (sealL kind bs) 0) := by
  subst hz
  exact seal_ok w kind A len c D bs hl hsl hb hk hlen
theorem sl_tail {w : World} {D : Nat → Prop} {g n at_ : Nat} {F : List Nat} (hn : F.length = n) (h : Sl w D (some ⟨g, 0, none⟩) n (byteC F)) : Sl w D (some ⟨g, at_, none⟩) (n - at_) (byteC (F.drop at_)) := by
  have := sl_sub h at_ n (Nat.le_refl _)
  rw [Nat.zero_add, List.take_of_length_le (by omega)] at this
  exact this
/-- What region 18 reads. -/
def MR (b o : Nat) (R : Option Addr × Nat × Nat) (A : Option Addr) (n c : Nat) (s : ByteArray) (w : World) : Prop :=
  w.cell? ⟨b, o, none⟩ = some (.slice R.1 R.2.1 R.2.2) ∧ (convert 22 9 (.slice A n c)).run Try.prog w = .ok (.string s) w ∧ (convert 22 9 (.slice R.1 R.2.1 R.2.2)).run Try.prog w = .ok (.string s) w
set_option maxRecDepth 100000 in
set_option maxHeartbeats 8000000 in
theorem frameMany_walk (a0 : Option Addr) (len0 cap0 : Nat) (R : Nat → Option Addr × Nat × Nat) (B : Nat → List Nat) (a1 : Int) (w : World) (w0 : IsRows w a0 len0 cap0 R B) (w1 : (Lit.int .u8 a1).wf = true) :
    Calls Try.prog 5 #[.slice a0 len0 cap0, .int .u8 a1] w fun e w' => e = .returned (.bool true) ∧ Below w.heap.size w w' := by
  obtain ⟨kind, hkind, rfl⟩ := wf_u8' w1
  obtain ⟨N, hN⟩ : ∃ N, N = min len0 20 := ⟨_, rfl⟩
  have hle := w0.le
  obtain ⟨L, hL⟩ : ∃ L : Nat → Nat, L = fun j => (R j).2.1 := ⟨_, rfl⟩
  have hlen : ∀ j, j < N → (B j).length = L j := fun j hj => by rw [hL]; exact (w0.row j (by omega)).1
  have hbyte : ∀ j, j < N → ∀ i, (B j).getD i 0 < 256 := fun j hj => (w0.row j (by omega)).2.2.2.1
  have HF := Lib.hid (And.intro w0 (And.intro hlen (And.intro hbyte (And.intro hL hN))))
  have hN20 : N ≤ 20 := by omega
  have hNl : N ≤ len0 := by omega
  have hN2 : N < 20 → N = len0 := by omega
  have HN2 := Lib.hid hN2
  have hl63 : len0 ≤ 9223372036854775807 := by omega
  clear w0 w1 hlen hbyte hL hN hle hN2
  go_enter Try.func5, Try.ntmps5
  go_upto_block 0 with (fail)
  go_cut [5, 6] (fun v c wx => c = .int .i64 (manyN L N : Nat) ∧ wx.ownsRow w.heap.size 5 1 v (manyB kind L B N).length ((manyB kind L B N).map byteV) ∧ Keeps (fun _ => False) w wx)
  case first =>
    go_wp2_with fail
    go_loopw [5, 6, 7] (fun v c i wr => ∃ k : Nat, k ≤ N ∧ i = .int .i64 k ∧ c = .int .i64 (manyN L k : Nat) ∧ wr.ownsRow w.heap.size 5 1 v (manyB kind L B k).length ((manyB kind L B k).map byteV) ∧ Keeps (fun _ => False) w wr)
      (fun _ _ i _ => N - (intOf i).toNat)
    case atStart => exact ⟨0, Nat.zero_le _, rfl, rfl, ⟨rfl, .inl ⟨rfl, rfl⟩⟩, Keeps.refl _ _⟩
    case round =>
      obtain ⟨k, hk, rfl, rfl, hor, hkr⟩ := hrel
      by_cases hlt : k < N
      · obtain ⟨b, off, ha, hbl, hcell⟩ := HF.out.1.at_ (by omega)
        subst ha
        have ck : wr.cell? ⟨b, off + k, none⟩ = some (.slice (R k).1 (R k).2.1 (R k).2.2) := (World.cell?_of_block (w := w) (hkr.block b hbl (fun h => h))).trans (hcell k (by omega))
        obtain ⟨r1, r2, r3, r4, r5⟩ := HF.out.1.row k (by omega)
        have hLk : L k = (R k).2.1 := by rw [HF.out.2.2.2.1]
        have hcn : manyN L (k + 1) = manyN L k + (if L k ≤ 100 then 1 else 0) := rfl
        have hbn : manyB kind L B (k + 1) = manyB kind L B k ++ (if L k ≤ 100 then sealL ((kind + manyN L k) % 256) (B k) else []) := rfl
        have hml := manyB_len kind L B N HF.out.2.1 k hk
        have hcl := manyN_le L k
        obtain ⟨cn, hcnn⟩ : ∃ c, c = manyN L k := ⟨_, rfl⟩
        rw [← hcnn] at hcn hbn hcl
        rw [← hcnn]
        generalize hRk : R k = Rk at ck r1 r2 r3 r5 hLk
        obtain ⟨Ak, Lk, Ck⟩ := Rk
        simp only [] at ck r1 r2 r3 r5 hLk
        rw [hLk] at hcn hbn
        have HK := Lib.hid (And.intro hor (And.intro hkr (And.intro r1 (And.intro r4 (And.intro r5 (And.intro hcn (And.intro hbn hml)))))))
        clear hor hkr r1 r4 r5 hcn hbn hml hcell hcnn hRk hLk hbl
        have hk1 : (k : Int) < (len0 : Int) := by omega
        have hk2 : (k : Int) < 20 := by omega
        have hkk : k < len0 := by omega
        by_cases h100 : Lk ≤ 100
        · have d1 : decide ((100 : Int) < (Lk : Int)) = false := by simp; omega
          go_wp2_with fail
          refine (seal_fit _ _ ((kind + cn) % 256) _ _ _ _ (B k) (by first | omega | (simp only [IntKind.wrap_u8']; omega)) HK.out.2.2.1 (HK.out.2.2.2.2.1.keep (w' := wr) (fun q _ hq => HK.out.2.1.block q hq (fun h => h))) HK.out.2.2.2.1 (by omega) (by omega)).mono ?_
          rintro e w3 ⟨A3, c3, rfl, ho3, hk3⟩
          have hsl3 : (sealL ((kind + cn) % 256) (B k)).length = Lk + 9 := by rw [sealL_length, HK.out.2.2.1]
          obtain ⟨T, hT⟩ : ∃ T, T = sealL ((kind + cn) % 256) (B k) := ⟨_, rfl⟩
          rw [← hT] at ho3 hsl3
          rw [← hT]
          obtain ⟨m, hm⟩ : ∃ m, m = T.length := ⟨_, rfl⟩
          rw [← hm] at ho3 hsl3
          rw [← hm]
          have o3 := own_keeps HK.out.1 hk3 (fun _ _ h => h)
          have k3 := HK.out.2.1.trans' hk3
          have H3 := Lib.hid (And.intro ho3 (And.intro o3 (And.intro k3 (And.intro hT (And.intro hm hsl3)))))
          have hm109 : m ≤ 109 := by omega
          clear ho3 hk3 o3 k3 hT hm hsl3 d1 ck
          obtain ⟨q, hq⟩ : ∃ q, q = (manyB kind L B k).length := ⟨_, rfl⟩
          have hq20 : q ≤ 2180 := by have := HK.out.2.2.2.2.2.2.2; omega
          have HQ := Lib.hid hq
          clear hq
          go_wp2_with (at_builtin; refine wpList_append_sl (f := byteC T) (D := fun k => (Value.slice A3 m c3).ownBlock = some k) (base := w.heap.size) (n := q) (xs := (manyB kind L B k).map byteV) byteElem rfl (.tmp 51) (.tmp 52) rfl rfl rfl ?hown ?hsl ?h1 ?h63 ?hby ?hbase ?_)
          case hown => rw [HQ.out]; exact H3.out.2.1
          case hsl => exact own_sl H3.out.2.2.2.2.1.symm H3.out.1
          case h1 => intro j _; rfl
          case h63 => unfold maxLen; omega
          case hby => omega
          case hbase => exact H3.out.2.2.1.size
          intro v4 w4 ho4 hg4 hx4
          clear hx4
          have k4 := keeps_grown H3.out.2.2.1 H3.out.2.1 hg4
          rw [range_bytes H3.out.2.2.2.2.1.symm, ← List.map_append] at ho4
          have hbn := HK.out.2.2.2.2.2.2.1
          rw [if_pos h100, ← H3.out.2.2.2.1] at hbn
          have hln : q + m = (manyB kind L B (k + 1)).length := by rw [hbn, List.length_append, HQ.out, H3.out.2.2.2.2.1]
          rw [← hbn, hln] at ho4
          have H4 := Lib.hid (And.intro ho4 k4)
          clear ho4 hg4 k4 hbn hln
          go_wp2_with fail
          go_roundw
          case rel =>
            refine ⟨k + 1, by omega, by go_num, ?_, H4.out.1, H4.out.2⟩
            rw [HK.out.2.2.2.2.2.1, if_pos h100]
            rfl
          case measure => simp [intOf]; omega
        · have d1 : decide ((100 : Int) < (Lk : Int)) = true := by simp; omega
          go_wp2_with fail
          go_roundw
          case rel =>
            obtain ⟨hor, hkr, -, -, -, hcn, hbn, -⟩ := HK.out
            rw [if_neg h100] at hcn hbn
            rw [List.append_nil] at hbn
            refine ⟨k + 1, by omega, by go_num, by rw [hcn]; rfl, by rw [hbn]; exact hor, hkr⟩
          case measure => simp [intOf]; omega
      · have hkN : k = N := by omega
        subst hkN
        have HK := Lib.hid (And.intro hor hkr)
        clear hor hkr
        by_cases h1 : k < len0
        · have h2 : ¬ k < 20 := fun h => by have := HN2.out h; omega
          go_wp2_with fail
          go_meet
          exact ⟨rfl, HK.out.1, HK.out.2⟩
        · go_wp2_with fail
          go_meet
          exact ⟨rfl, HK.out.1, HK.out.2⟩
  case rest =>
    obtain ⟨rfl, hor, hkr⟩ := hcut
    have hml := manyB_len kind L B N HF.out.2.1 N (Nat.le_refl _)
    have hmb := manyB_byte kind L B N HF.out.2.2.1 N (Nat.le_refl _)
    obtain ⟨F, hFF⟩ : ∃ F, F = manyB kind L B N := ⟨_, rfl⟩
    rw [← hFF] at hor hml hmb
    obtain ⟨n, hn⟩ : ∃ n, n = F.length := ⟨_, rfl⟩
    rw [← hn] at hor hml
    obtain ⟨Av, cv, hv, hcv, hAv⟩ := own_form hor
    subst hv
    have hcl := manyN_le L N
    obtain ⟨cn, hcnn⟩ : ∃ c, c = manyN L N := ⟨_, rfl⟩
    rw [← hcnn] at hcl
    rw [← hcnn]
    have HG := Lib.hid (And.intro hor (And.intro hkr (And.intro hFF (And.intro hn (And.intro hmb (And.intro hcnn hAv))))))
    have hn2 : n ≤ 2180 := by omega
    clear hor hkr hFF hn hmb hcnn hAv hml
    go_upto_block 2 with (fail)
    go_cut [10, 11] (fun s10 s11 wx => s10 = .int .i64 (n : Nat) ∧ s11 = .int .i64 (cn : Nat) ∧ Keeps (fun _ => False) w wx ∧ wx.ownsRow w.heap.size 5 1 (.slice Av n cv) n (F.map byteV))
    case first =>
      go_wp2_with fail
      go_loopw [10, 11, 12] (fun at_ c i wr => ∃ k : Nat, k ≤ N ∧ i = .int .i64 k ∧ at_ = .int .i64 ((manyB kind L B k).length : Nat) ∧ c = .int .i64 (manyN L k : Nat) ∧ wr.ownsRow w.heap.size 5 1 (.slice Av n cv) n (F.map byteV) ∧ Keeps (fun _ => False) w wr)
        (fun _ _ i _ => N - (intOf i).toNat)
      case atStart => exact ⟨0, Nat.zero_le _, rfl, rfl, rfl, HG.out.1, HG.out.2.1⟩
      case round =>
        obtain ⟨k, hk, rfl, rfl, rfl, hor, hkr⟩ := hrel
        by_cases hlt : k < N
        · obtain ⟨b, off, ha, hbl, hcell⟩ := HF.out.1.at_ (by omega)
          subst ha
          have ck : wr.cell? ⟨b, off + k, none⟩ = some (.slice (R k).1 (R k).2.1 (R k).2.2) := (World.cell?_of_block (w := w) (hkr.block b hbl (fun h => h))).trans (hcell k (by omega))
          obtain ⟨r1, r2, r3, r4, r5⟩ := HF.out.1.row k (by omega)
          have hLk : L k = (R k).2.1 := by rw [HF.out.2.2.2.1]
          have hcn : manyN L (k + 1) = manyN L k + (if L k ≤ 100 then 1 else 0) := rfl
          have hbn : manyB kind L B (k + 1) = manyB kind L B k ++ (if L k ≤ 100 then sealL ((kind + manyN L k) % 256) (B k) else []) := rfl
          have hcl2 := manyN_le L k
          obtain ⟨M, hM⟩ := manyB_pre kind L B (k + 1) N hlt
          rw [← HG.out.2.2.1] at hM
          obtain ⟨kn, hkn⟩ : ∃ c, c = manyN L k := ⟨_, rfl⟩
          rw [← hkn] at hcn hbn hcl2
          rw [← hkn]
          obtain ⟨q, hq⟩ : ∃ q, q = (manyB kind L B k).length := ⟨_, rfl⟩
          rw [← hq]
          generalize hRk : R k = Rk at ck r1 r2 r3 r5 hLk
          obtain ⟨Ak, Lk, Ck⟩ := Rk
          simp only [] at ck r1 r2 r3 r5 hLk
          rw [hLk] at hcn hbn
          have hqn : q ≤ n := by
            have h1 := HG.out.2.2.2.1
            rw [hM, hbn, List.length_append, List.length_append] at h1
            omega
          have HK := Lib.hid (And.intro hor (And.intro hkr (And.intro r1 (And.intro r4 (And.intro r5 (And.intro hcn (And.intro hbn (And.intro hM hq))))))))
          clear hor hkr r1 r4 r5 hcn hbn hcell hkn hRk hLk hM hq
          have hk1 : (k : Int) < (len0 : Int) := by omega
          have hk2 : (k : Int) < 20 := by omega
          have hkk : k < len0 := by omega
          by_cases h100 : Lk ≤ 100
          · have d1 : decide ((100 : Int) < (Lk : Int)) = false := by simp; omega
            obtain ⟨kd, hkd⟩ : ∃ kd, kd = (kind + kn) % 256 := ⟨_, rfl⟩
            have hdrop : F.drop q = sealL kd (B k) ++ M := by
              obtain ⟨-, -, -, -, -, -, hbn, hM, hq⟩ := HK.out
              rw [hM, hbn, if_pos h100, hq, List.append_assoc, ← hkd]
              exact List.drop_left
            have hrd := read_seal (kind := kd) (bs := B k) M (by omega) HK.out.2.2.2.1 (by have := HK.out.2.2.1; omega)
            rw [← hdrop, HK.out.2.2.1] at hrd
            have hlq : n = q + (Lk + 9) + M.length := by
              obtain ⟨-, -, r1, -, -, -, hbn, hM, hq⟩ := HK.out
              have h1 := HG.out.2.2.2.1
              rw [hM, hbn, if_pos h100, List.length_append, List.length_append, sealL_length, r1, ← hq] at h1
              omega
            have hq9 : q + Lk + 9 ≤ n := by omega
            obtain ⟨g, hg, -, hgl⟩ := HG.out.2.2.2.2.2.2 (by omega)
            have hkd256 : kd < 256 := by omega
            have HD := Lib.hid (And.intro hdrop (And.intro hrd (And.intro hlq hkd)))
            clear hdrop hrd hlq hkd
            subst hg
            have hsl : Sl wr (fun k => (Value.slice (some ⟨g, 0, none⟩) n cv).ownBlock = some k) (some ⟨g, q, none⟩) (n - q) (byteC (F.drop q)) := sl_tail HG.out.2.2.2.1.symm (own_sl HG.out.2.2.2.1.symm HK.out.1)
            have hls : (F.drop q).length = n - q := by rw [List.length_drop, ← HG.out.2.2.2.1]
            have hbs : ∀ j, (F.drop q).getD j 0 < 256 := getD_of_mem (fun x hx => HG.out.2.2.2.2.1 x (List.mem_of_mem_drop hx))
            have HSL := Lib.hid (And.intro hsl (And.intro hls hbs))
            clear hsl hls hbs
            have i1 : (0 : Int) ≤ (q : Int) := by omega
            have i2 : (q : Int) ≤ (n : Int) := by omega
            have i3 : ((q : Int)).toNat = q := by omega
            have i4 : ¬ cv = q := by omega
            have CK := Lib.hid ck
            go_wp2_with fail
            refine (read_any _ _ _ _ _ (F.drop q) HSL.out.2.1 HSL.out.1 HSL.out.2.2 (by omega) (by omega)).mono ?_
            rintro e w3 ⟨A3, c3, rfl, ho3, hk3⟩
            obtain ⟨t1, t2, t3, t4⟩ := HD.out.2.1
            rw [t3, HK.out.2.2.1] at ho3
            rw [t1, t2, t3, t4, HK.out.2.2.1]
            have k3 := HK.out.2.1.trans' hk3
            have o3 := own_keeps HK.out.1 hk3 (fun _ _ h => h)
            have ck3 : w3.cell? ⟨b, off + k, none⟩ = some (.slice Ak Lk Ck) := (World.cell?_of_block (w := wr) (hk3.block b (World.block_lt_of_cell? wr _ CK.out) (fun h => h))).trans CK.out
            have v1 := conv_own (P := Try.prog) (c := c3) 22 5 9 Try.underlying22 Try.underlying5 Try.underlying9 HK.out.2.2.1 (w := w3.drew) ho3
            have v2 := conv_sl (P := Try.prog) (c := Ck) 22 5 9 Try.underlying22 Try.underlying5 Try.underlying9 HK.out.2.2.1 (HK.out.2.2.2.2.1.keep (w' := w3.drew) (fun q _ hq => k3.block q hq (fun h => h)))
            have hMR : MR b (off + k) (Ak, Lk, Ck) A3 Lk c3 (strB (B k)) w3.drew := ⟨ck3, v1, v2⟩
            have H3 := Lib.hid (And.intro k3 (And.intro o3 hMR))
            clear ho3 hk3 k3 o3 ck3 v1 v2 hMR t1 t2 t3 t4 ck d1 i3
            have ek : (((kind : Int) + (kn : Int)) % 256) = (kd : Int) := by have := HD.out.2.2.2; omega
            have ek2 : IntKind.u8.wrap (kn : Int) = (kn : Int) := by rw [IntKind.wrap_u8']; omega
            have ek3 : IntKind.u8.wrap ((kind : Int) + (kn : Int)) = (kd : Int) := by rw [IntKind.wrap_u8']; exact ek
            have el : IntKind.i64.wrap ((Lk : Int) + 9) = (Lk : Int) + 9 := IntWalk.i64_in _ (by omega)
            have i5 : ((k : Int)).toNat = k := by omega
            have i6 : (0 : Int) ≤ (k : Int) := by omega
            go_wp2_with fail
            have hS : (MR b (off + k) (Ak, Lk, Ck) A3 Lk c3 (strB (B k))) (w3.drew) := H3.out.2.2
            refine reg_start (MR b (off + k) (Ak, Lk, Ck) A3 Lk c3 (strB (B k))) (by kernel_rfl) hS ?_
            refine reg_take (i := 0) (v := ?_) rfl (by kernel_rfl) (by kernel_rfl) (by kernel_rfl) (fun _ _ _ h => h) (Or.inl ⟨by kernel_rfl, ?_⟩) hS ?_
            rotate_left
            · (intro w' hSw; obtain ⟨x0, x1, x2⟩ := hSw; go_simp <;> with_reducible rfl)
            try simp only [List.getElem_toArray, List.getElem_cons_succ, List.getElem_cons_zero, Act.put, List.setIfInBounds_toArray, List.set_cons_zero, List.set_cons_succ]
            refine reg_take (i := 1) (v := ?_) rfl (by kernel_rfl) (by kernel_rfl) (by kernel_rfl) (fun _ _ _ h => h) (Or.inl ⟨by kernel_rfl, ?_⟩) hS ?_
            rotate_left
            · (intro w' hSw; obtain ⟨x0, x1, x2⟩ := hSw; go_simp <;> with_reducible rfl)
            try simp only [List.getElem_toArray, List.getElem_cons_succ, List.getElem_cons_zero, Act.put, List.setIfInBounds_toArray, List.set_cons_zero, List.set_cons_succ]
            refine reg_take (i := 2) (v := ?_) rfl (by kernel_rfl) (by kernel_rfl) (by kernel_rfl) (fun _ _ _ h => h) (Or.inl ⟨by kernel_rfl, ?_⟩) hS ?_
            rotate_left
            · (intro w' hSw; obtain ⟨x0, x1, x2⟩ := hSw; go_simp <;> with_reducible rfl)
            try simp only [List.getElem_toArray, List.getElem_cons_succ, List.getElem_cons_zero, Act.put, List.setIfInBounds_toArray, List.set_cons_zero, List.set_cons_succ]
            refine reg_take (i := 3) (v := ?_) rfl (by kernel_rfl) (by kernel_rfl) (by kernel_rfl) (fun _ _ _ h => h) (Or.inl ⟨by kernel_rfl, ?_⟩) hS ?_
            rotate_left
            · (intro w' hSw; obtain ⟨x0, x1, x2⟩ := hSw; go_simp <;> with_reducible rfl)
            try simp only [List.getElem_toArray, List.getElem_cons_succ, List.getElem_cons_zero, Act.put, List.setIfInBounds_toArray, List.set_cons_zero, List.set_cons_succ]
            refine reg_take (i := 4) (v := ?_) rfl (by kernel_rfl) (by kernel_rfl) (by kernel_rfl) (fun _ _ _ h => h) (Or.inl ⟨by kernel_rfl, ?_⟩) hS ?_
            rotate_left
            · (intro w' hSw; obtain ⟨x0, x1, x2⟩ := hSw; go_simp <;> with_reducible rfl)
            try simp only [List.getElem_toArray, List.getElem_cons_succ, List.getElem_cons_zero, Act.put, List.setIfInBounds_toArray, List.set_cons_zero, List.set_cons_succ]
            refine reg_take (i := 5) (v := ?_) rfl (by kernel_rfl) (by kernel_rfl) (by kernel_rfl) (fun _ _ _ h => h) (Or.inl ⟨by kernel_rfl, ?_⟩) hS ?_
            rotate_left
            · (intro w' hSw; obtain ⟨x0, x1, x2⟩ := hSw; go_simp <;> with_reducible rfl)
            try simp only [List.getElem_toArray, List.getElem_cons_succ, List.getElem_cons_zero, Act.put, List.setIfInBounds_toArray, List.set_cons_zero, List.set_cons_succ]
            refine reg_take (i := 6) (v := ?_) rfl (by kernel_rfl) (by kernel_rfl) (by kernel_rfl) (fun _ _ _ h => h) (Or.inl ⟨by kernel_rfl, ?_⟩) hS ?_
            rotate_left
            · (intro w' hSw; obtain ⟨x0, x1, x2⟩ := hSw; go_simp <;> with_reducible rfl)
            try simp only [List.getElem_toArray, List.getElem_cons_succ, List.getElem_cons_zero, Act.put, List.setIfInBounds_toArray, List.set_cons_zero, List.set_cons_succ]
            refine reg_take (i := 7) (v := ?_) rfl (by kernel_rfl) (by kernel_rfl) (by kernel_rfl) (fun _ _ _ h => h) (Or.inl ⟨by kernel_rfl, ?_⟩) hS ?_
            rotate_left
            · (intro w' hSw; obtain ⟨x0, x1, x2⟩ := hSw; go_simp <;> with_reducible rfl)
            try simp only [List.getElem_toArray, List.getElem_cons_succ, List.getElem_cons_zero, Act.put, List.setIfInBounds_toArray, List.set_cons_zero, List.set_cons_succ]
            refine reg_take (i := 8) (v := ?_) rfl (by kernel_rfl) (by kernel_rfl) (by kernel_rfl) (fun _ _ _ h => h) (Or.inl ⟨by kernel_rfl, ?_⟩) hS ?_
            rotate_left
            · (intro w' hSw; obtain ⟨x0, x1, x2⟩ := hSw; go_simp <;> with_reducible rfl)
            try simp only [List.getElem_toArray, List.getElem_cons_succ, List.getElem_cons_zero, Act.put, List.setIfInBounds_toArray, List.set_cons_zero, List.set_cons_succ]
            refine reg_take (i := 9) (v := ?_) rfl (by kernel_rfl) (by kernel_rfl) (by kernel_rfl) (fun _ _ _ h => h) (Or.inl ⟨by kernel_rfl, ?_⟩) hS ?_
            rotate_left
            · (intro w' hSw; obtain ⟨x0, x1, x2⟩ := hSw; go_simp <;> with_reducible rfl)
            try simp only [List.getElem_toArray, List.getElem_cons_succ, List.getElem_cons_zero, Act.put, List.setIfInBounds_toArray, List.set_cons_zero, List.set_cons_succ]
            refine reg_take (i := 10) (v := ?_) rfl (by kernel_rfl) (by kernel_rfl) (by kernel_rfl) (fun _ _ _ h => h) (Or.inl ⟨by kernel_rfl, ?_⟩) hS ?_
            rotate_left
            · (intro w' hSw; obtain ⟨x0, x1, x2⟩ := hSw; go_simp <;> with_reducible rfl)
            try simp only [List.getElem_toArray, List.getElem_cons_succ, List.getElem_cons_zero, Act.put, List.setIfInBounds_toArray, List.set_cons_zero, List.set_cons_succ]
            refine reg_take (i := 11) (v := ?_) rfl (by kernel_rfl) (by kernel_rfl) (by kernel_rfl) (fun _ _ _ h => h) (Or.inl ⟨by kernel_rfl, ?_⟩) hS ?_
            rotate_left
            · (intro w' hSw; obtain ⟨x0, x1, x2⟩ := hSw; go_simp <;> with_reducible rfl)
            try simp only [List.getElem_toArray, List.getElem_cons_succ, List.getElem_cons_zero, Act.put, List.setIfInBounds_toArray, List.set_cons_zero, List.set_cons_succ]
            refine reg_take (i := 12) (v := ?_) rfl (by kernel_rfl) (by kernel_rfl) (by kernel_rfl) (fun _ _ _ h => h) (Or.inl ⟨by kernel_rfl, ?_⟩) hS ?_
            rotate_left
            · (intro w' hSw; obtain ⟨x0, x1, x2⟩ := hSw; go_simp <;> with_reducible rfl)
            try simp only [List.getElem_toArray, List.getElem_cons_succ, List.getElem_cons_zero, Act.put, List.setIfInBounds_toArray, List.set_cons_zero, List.set_cons_succ]
            refine reg_take (i := 13) (v := ?_) rfl (by kernel_rfl) (by kernel_rfl) (by kernel_rfl) (fun _ _ _ h => h) (Or.inl ⟨by kernel_rfl, ?_⟩) hS ?_
            rotate_left
            · (intro w' hSw; obtain ⟨x0, x1, x2⟩ := hSw; go_simp <;> with_reducible rfl)
            try simp only [List.getElem_toArray, List.getElem_cons_succ, List.getElem_cons_zero, Act.put, List.setIfInBounds_toArray, List.set_cons_zero, List.set_cons_succ]
            refine reg_take (i := 14) (v := ?_) rfl (by kernel_rfl) (by kernel_rfl) (by kernel_rfl) (fun _ _ _ h => h) (Or.inl ⟨by kernel_rfl, ?_⟩) hS ?_
            rotate_left
            · (intro w' hSw; obtain ⟨x0, x1, x2⟩ := hSw; go_simp <;> with_reducible rfl)
            try simp only [List.getElem_toArray, List.getElem_cons_succ, List.getElem_cons_zero, Act.put, List.setIfInBounds_toArray, List.set_cons_zero, List.set_cons_succ]
            refine reg_take (i := 15) (v := ?_) rfl (by kernel_rfl) (by kernel_rfl) (by kernel_rfl) (fun _ _ _ h => h) (Or.inl ⟨by kernel_rfl, ?_⟩) hS ?_
            rotate_left
            · (intro w' hSw; obtain ⟨x0, x1, x2⟩ := hSw; go_simp <;> with_reducible rfl)
            try simp only [List.getElem_toArray, List.getElem_cons_succ, List.getElem_cons_zero, Act.put, List.setIfInBounds_toArray, List.set_cons_zero, List.set_cons_succ]
            refine reg_take (i := 16) (v := ?_) rfl (by kernel_rfl) (by kernel_rfl) (by kernel_rfl) (fun _ _ _ h => h) (Or.inl ⟨by kernel_rfl, ?_⟩) hS ?_
            rotate_left
            · (intro w' hSw; obtain ⟨x0, x1, x2⟩ := hSw; go_simp <;> with_reducible rfl)
            try simp only [List.getElem_toArray, List.getElem_cons_succ, List.getElem_cons_zero, Act.put, List.setIfInBounds_toArray, List.set_cons_zero, List.set_cons_succ]
            refine reg_take (i := 17) (v := ?_) rfl (by kernel_rfl) (by kernel_rfl) (by kernel_rfl) (fun _ _ _ h => h) (Or.inl ⟨by kernel_rfl, ?_⟩) hS ?_
            rotate_left
            · (intro w' hSw; obtain ⟨x0, x1, x2⟩ := hSw; go_simp <;> with_reducible rfl)
            try simp only [List.getElem_toArray, List.getElem_cons_succ, List.getElem_cons_zero, Act.put, List.setIfInBounds_toArray, List.set_cons_zero, List.set_cons_succ]
            refine reg_take (i := 18) (v := ?_) rfl (by kernel_rfl) (by kernel_rfl) (by kernel_rfl) (fun _ _ _ h => h) (Or.inl ⟨by kernel_rfl, ?_⟩) hS ?_
            rotate_left
            · (intro w' hSw; obtain ⟨x0, x1, x2⟩ := hSw; go_simp <;> with_reducible rfl)
            try simp only [List.getElem_toArray, List.getElem_cons_succ, List.getElem_cons_zero, Act.put, List.setIfInBounds_toArray, List.set_cons_zero, List.set_cons_succ]
            refine reg_take (i := 19) (v := ?_) rfl (by kernel_rfl) (by kernel_rfl) (by kernel_rfl) (fun _ _ _ h => h) (Or.inl ⟨by kernel_rfl, ?_⟩) hS ?_
            rotate_left
            · (intro w' hSw; obtain ⟨x0, x1, x2⟩ := hSw; go_simp <;> with_reducible rfl)
            try simp only [List.getElem_toArray, List.getElem_cons_succ, List.getElem_cons_zero, Act.put, List.setIfInBounds_toArray, List.set_cons_zero, List.set_cons_succ]
            refine reg_take (i := 20) (v := ?_) rfl (by kernel_rfl) (by kernel_rfl) (by kernel_rfl) (fun _ _ _ h => h) (Or.inl ⟨by kernel_rfl, ?_⟩) hS ?_
            rotate_left
            · (intro w' hSw; obtain ⟨x0, x1, x2⟩ := hSw; go_simp <;> with_reducible rfl)
            try simp only [List.getElem_toArray, List.getElem_cons_succ, List.getElem_cons_zero, Act.put, List.setIfInBounds_toArray, List.set_cons_zero, List.set_cons_succ]
            refine reg_take (i := 21) (v := ?_) rfl (by kernel_rfl) (by kernel_rfl) (by kernel_rfl) (fun _ _ _ h => h) (Or.inl ⟨by kernel_rfl, ?_⟩) hS ?_
            rotate_left
            · (intro w' hSw; obtain ⟨x0, x1, x2⟩ := hSw; go_simp <;> with_reducible rfl)
            try simp only [List.getElem_toArray, List.getElem_cons_succ, List.getElem_cons_zero, Act.put, List.setIfInBounds_toArray, List.set_cons_zero, List.set_cons_succ]
            refine reg_take (i := 22) (v := ?_) rfl (by kernel_rfl) (by kernel_rfl) (by kernel_rfl) (fun _ _ _ h => h) (Or.inl ⟨by kernel_rfl, ?_⟩) hS ?_
            rotate_left
            · (intro w' hSw; obtain ⟨x0, x1, x2⟩ := hSw; go_simp <;> with_reducible rfl)
            try simp only [List.getElem_toArray, List.getElem_cons_succ, List.getElem_cons_zero, Act.put, List.setIfInBounds_toArray, List.set_cons_zero, List.set_cons_succ]
            refine reg_take (i := 23) (v := ?_) rfl (by kernel_rfl) (by kernel_rfl) (by kernel_rfl) (fun _ _ _ h => h) (Or.inl ⟨by kernel_rfl, ?_⟩) hS ?_
            rotate_left
            · (intro w' hSw; obtain ⟨x0, x1, x2⟩ := hSw; go_simp <;> with_reducible rfl)
            try simp only [List.getElem_toArray, List.getElem_cons_succ, List.getElem_cons_zero, Act.put, List.setIfInBounds_toArray, List.set_cons_zero, List.set_cons_succ]
            refine reg_take (i := 24) (v := ?_) rfl (by kernel_rfl) (by kernel_rfl) (by kernel_rfl) (fun _ _ _ h => h) (Or.inl ⟨by kernel_rfl, ?_⟩) hS ?_
            rotate_left
            · (intro w' hSw; obtain ⟨x0, x1, x2⟩ := hSw; go_simp <;> with_reducible rfl)
            try simp only [List.getElem_toArray, List.getElem_cons_succ, List.getElem_cons_zero, Act.put, List.setIfInBounds_toArray, List.set_cons_zero, List.set_cons_succ]
            refine reg_take (i := 25) (v := ?_) rfl (by kernel_rfl) (by kernel_rfl) (by kernel_rfl) (fun _ _ _ h => h) (Or.inl ⟨by kernel_rfl, ?_⟩) hS ?_
            rotate_left
            · (intro w' hSw; obtain ⟨x0, x1, x2⟩ := hSw; go_simp <;> with_reducible rfl)
            try simp only [List.getElem_toArray, List.getElem_cons_succ, List.getElem_cons_zero, Act.put, List.setIfInBounds_toArray, List.set_cons_zero, List.set_cons_succ]
            refine reg_take (i := 26) (v := ?_) rfl (by kernel_rfl) (by kernel_rfl) (by kernel_rfl) (fun _ _ _ h => h) (Or.inl ⟨by kernel_rfl, ?_⟩) hS ?_
            rotate_left
            · (intro w' hSw; obtain ⟨x0, x1, x2⟩ := hSw; go_simp <;> with_reducible rfl)
            try simp only [List.getElem_toArray, List.getElem_cons_succ, List.getElem_cons_zero, Act.put, List.setIfInBounds_toArray, List.set_cons_zero, List.set_cons_succ]
            refine reg_take (i := 27) (v := ?_) rfl (by kernel_rfl) (by kernel_rfl) (by kernel_rfl) (fun _ _ _ h => h) (Or.inl ⟨by kernel_rfl, ?_⟩) hS ?_
            rotate_left
            · (intro w' hSw; obtain ⟨x0, x1, x2⟩ := hSw; go_simp <;> with_reducible rfl)
            try simp only [List.getElem_toArray, List.getElem_cons_succ, List.getElem_cons_zero, Act.put, List.setIfInBounds_toArray, List.set_cons_zero, List.set_cons_succ]
            refine reg_take (i := 28) (v := ?_) rfl (by kernel_rfl) (by kernel_rfl) (by kernel_rfl) (fun _ _ _ h => h) (Or.inl ⟨by kernel_rfl, ?_⟩) hS ?_
            rotate_left
            · (intro w' hSw; obtain ⟨x0, x1, x2⟩ := hSw; go_simp <;> with_reducible rfl)
            try simp only [List.getElem_toArray, List.getElem_cons_succ, List.getElem_cons_zero, Act.put, List.setIfInBounds_toArray, List.set_cons_zero, List.set_cons_succ]
            refine reg_take (i := 29) (v := ?_) rfl (by kernel_rfl) (by kernel_rfl) (by kernel_rfl) (fun _ _ _ h => h) (Or.inl ⟨by kernel_rfl, ?_⟩) hS ?_
            rotate_left
            · (intro w' hSw; obtain ⟨x0, x1, x2⟩ := hSw; go_simp <;> with_reducible rfl)
            try simp only [List.getElem_toArray, List.getElem_cons_succ, List.getElem_cons_zero, Act.put, List.setIfInBounds_toArray, List.set_cons_zero, List.set_cons_succ]
            refine wpAnyH_done (by kernel_rfl) ?_ _
            try simp only [List.getElem_toArray, List.getElem_cons_succ, List.getElem_cons_zero]
            try simp only [List.getElem_toArray, List.getElem_cons_succ, List.getElem_cons_zero, Act.put, List.setIfInBounds_toArray, List.set_cons_zero, List.set_cons_succ]
            clear ek ek2 ek3 el i5
            go_wp2_with fail
            go_roundw
            case rel =>
              obtain ⟨-, -, r1, -, -, hcn, hbn, -, hq⟩ := HK.out
              rw [if_pos h100] at hcn hbn
              refine ⟨k + 1, by omega, by go_num, ?_, ?_, H3.out.2.1, H3.out.1.drew⟩
              · rw [hbn, List.length_append, sealL_length, r1, ← hq]
                congr 1
              · rw [hcn]
                rfl
            case measure => simp [intOf]; omega
          · have d1 : decide ((100 : Int) < (Lk : Int)) = true := by simp; omega
            go_wp2_with fail
            go_roundw
            case rel =>
              obtain ⟨hor, hkr, -, -, -, hcn, hbn, -, hq⟩ := HK.out
              rw [if_neg h100] at hcn hbn
              rw [List.append_nil] at hbn
              refine ⟨k + 1, by omega, by go_num, by rw [hbn, ← hq], by rw [hcn]; rfl, hor, hkr⟩
            case measure => simp [intOf]; omega
        · have hkN : k = N := by omega
          subst hkN
          have hq : (manyB kind L B k).length = n := by rw [← HG.out.2.2.1, HG.out.2.2.2.1]
          rw [hq, ← HG.out.2.2.2.2.2.1]
          have HK := Lib.hid (And.intro hor hkr)
          clear hor hkr hq
          by_cases h1 : k < len0
          · have h2 : ¬ k < 20 := fun h => by have := HN2.out h; omega
            go_wp2_with fail
            go_meet
            exact ⟨rfl, rfl, HK.out.2, HK.out.1⟩
          · go_wp2_with fail
            go_meet
            exact ⟨rfl, rfl, HK.out.2, HK.out.1⟩
    case rest =>
      obtain ⟨rfl, rfl, hkr, hor⟩ := hcut
      have HK := Lib.hid hkr
      have hns : n - n = 0 := Nat.sub_self n
      have i1 : (0 : Int) ≤ (n : Int) := by omega
      have dn : ((n : Int) == (n : Int)) = true := by simp
      have dc : ((cn : Int) == (cn : Int)) = true := by simp
      rcases hor.2 with ⟨hv, h0⟩ | ⟨g, cap, cur, hv, -, -, hnc, -⟩
      · injection hv with q1 q2 q3
        subst q1
        subst q2
        subst q3
        clear hor hkr hns h0
        rw [show ((0 : Nat) : Int) = 0 from rfl]
        clear dn i1
        go_wp2_with fail
        refine (read_any _ _ _ _ (fun _ => False) [] rfl (Sl.nil _ _ _ _) (fun j => by simp) (by simp) (by simp)).mono ?_
        rintro e w3 ⟨A3, c3, rfl, ho3, hk3⟩
        rw [show readE [] = 10 from rfl, show readK [] = 0 from rfl, show readI [] = [] from rfl, show readN [] = 0 from rfl]
        have H3 := Lib.hid (HK.out.trans' hk3)
        clear ho3 hk3
        go_wp2_with fail
        go_ret
        exact ⟨rfl, H3.out.to_below⟩
      · injection hv with q1 q2 q3
        subst q1
        subst q3
        clear hor hkr q2
        by_cases hc : cv = n
        · have hcn : cv = n := hc
          clear hc
          subst hcn
          go_wp2_with fail
          refine (read_any _ _ _ _ (fun _ => False) [] rfl (Sl.nil _ _ _ _) (fun j => by simp) (by simp) (by simp)).mono ?_
          rintro e w3 ⟨A3, c3, rfl, ho3, hk3⟩
          rw [show readE [] = 10 from rfl, show readK [] = 0 from rfl, show readI [] = [] from rfl, show readN [] = 0 from rfl]
          have H3 := Lib.hid (HK.out.trans' hk3)
          clear ho3 hk3
          go_wp2_with fail
          go_ret
          exact ⟨rfl, H3.out.to_below⟩
        · have i3 : ¬ cv = n := hc
          clear hc
          go_wp2_with fail
          refine (read_any _ _ _ _ (fun _ => False) [] rfl (Sl.nil _ _ _ _) (fun j => by simp) (by simp) (by simp)).mono ?_
          rintro e w3 ⟨A3, c3, rfl, ho3, hk3⟩
          rw [show readE [] = 10 from rfl, show readK [] = 0 from rfl, show readI [] = [] from rfl, show readN [] = 0 from rfl]
          have H3 := Lib.hid (HK.out.trans' hk3)
          clear ho3 hk3
          go_wp2_with fail
          go_ret
          exact ⟨rfl, H3.out.to_below⟩
end Go.Proofs.Ytdgedhamacpghaa
