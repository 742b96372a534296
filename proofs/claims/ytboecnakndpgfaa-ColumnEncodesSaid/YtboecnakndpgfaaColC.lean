/-
  A column's block, plainly; what the encoders ask and give, for rows.
-/
import Derived.Test.YtboecnakndpgfaaColA
import Derived.Test.YtboecnakndpgfaaColB
import Derived.Test.YtboecnakndpgfaaLat
import Derived.Test.YtboecnakndpgfaaConv
import Derived.Test.YtboecnakndpgfaaFrmC
import Derived.Test.YtboecnakndpgfaaDeltaE
import Derived.Test.YtboecnakndpgfaaXorE
namespace Go.Proofs.Ytboecnakndpgfaa
open Go.RowKit
set_option linter.unusedVariables false
set_option linter.unusedSimpArgs false
def tOf (f : Nat → Pt) (n j : Nat) : Int := if j < n then (f j).t else 0
def sOf (f : Nat → Pt) (n j : Nat) : Int := if j < n then (f j).s else 0
def vOf (f : Nat → Pt) (n j : Nat) : Nat := if j < n then (IntKind.u64.wrap (f j).v).toNat else 0
/-- The three parts of a column. -/
def partA (f : Nat → Pt) (n : Nat) : Nat → List Nat
  | 0 => pack (D.encTo (tOf f n) n)
  | 1 => pack (X.xencTo (vOf f n) n)
  | _ => pack (D.encTo (sOf f n) n)
def colUp (f : Nat → Pt) (n : Nat) : Nat → List Nat
  | 0 => V.vput n
  | j + 1 => colUp f n j ++ V.vput (partA f n j).length ++ partA f n j
def colL (f : Nat → Pt) (n : Nat) : List Nat × Int := if colV f n = true then (F.sealL 3 (colUp f n 3), 0) else ([], 2)
theorem u64_lt (v : Int) : (IntKind.u64.wrap v).toNat < 18446744073709551616 := by rw [IntKind.wrap_u64]; omega
theorem vOf_lt (f : Nat → Pt) (n j : Nat) : vOf f n j < 18446744073709551616 := by
  unfold vOf
  split
  · exact u64_lt _
  · omega
theorem partA_byte (f : Nat → Pt) (n j : Nat) : ∀ i, (partA f n j).getD i 0 < 256 := by
  intro i
  match j with
  | 0 => show (pack _).getD i 0 < 256; rw [pack_getD]; exact byteAt_lt (D.encTo_bit _ _) i
  | 1 => show (pack _).getD i 0 < 256; rw [pack_getD]; exact byteAt_lt (X.xencTo_bit _ _) i
  | j + 2 => show (pack _).getD i 0 < 256; rw [pack_getD]; exact byteAt_lt (D.encTo_bit _ _) i
theorem partA_len (f : Nat → Pt) (n j : Nat) (hn : n ≤ 4096) : (partA f n j).length ≤ 40000 := by
  match j with
  | 0 => show (pack _).length ≤ _; rw [pack_length]; have := D.encTo_len (tOf f n) n; omega
  | 1 => show (pack _).length ≤ _; rw [pack_length]; have := X.xencTo_len (vOf f n) n; omega
  | j + 2 => show (pack _).length ≤ _; rw [pack_length]; have := D.encTo_len (sOf f n) n; omega
theorem vput_getD (u : Nat) : ∀ i, (V.vput u).getD i 0 < 256 := V.getD_all_lt (V.vput_byte u)
theorem colUp_byte (f : Nat → Pt) (n : Nat) : ∀ j i, (colUp f n j).getD i 0 < 256
  | 0 => vput_getD n
  | j + 1 => V.getD_app_lt (V.getD_app_lt (colUp_byte f n j) (vput_getD _)) (partA_byte f n j)
theorem colUp_len (f : Nat → Pt) (n : Nat) (hn : n ≤ 4096) : ∀ j, (colUp f n j).length ≤ 10 + j * 40010
  | 0 => by have := V.vput_len10 (u := n) (by omega); show (V.vput n).length ≤ _; omega
  | j + 1 => by
    have h1 := colUp_len f n hn j
    have h2 := partA_len f n j hn
    have h3 := V.vput_len10 (u := (partA f n j).length) (by omega)
    show (colUp f n j ++ V.vput (partA f n j).length ++ partA f n j).length ≤ _
    rw [List.length_append, List.length_append]
    omega
theorem colOk_range {f : Nat → Pt} {n : Nat} (h : colV f n = true) (j : Nat) (hj : j < n) : -9223372036854775808 ≤ (f j).t ∧ (f j).t ≤ 9223372036854775807 ∧ -9223372036854775808 ≤ (f j).s ∧ (f j).s ≤ 9223372036854775807 := by
  have ha := (colV_spec h).1
  have hl : ∀ m, m < n → -1152921504606846977 ≤ colT f m := by
    intro m
    induction m with
    | zero => intro _; exact Int.le_refl _
    | succ m ih =>
      intro hm
      have h4 := (colOk_iff f m).1 (colAll_at n ha m (by omega))
      have := ih (by omega)
      show _ ≤ (f m).t
      omega
  have h4 := (colOk_iff f j).1 (colAll_at n ha j hj)
  have := hl j hj
  omega
theorem tOf_range {f : Nat → Pt} {n : Nat} (h : colV f n = true) (j : Nat) : -9223372036854775808 ≤ tOf f n j ∧ tOf f n j ≤ 9223372036854775807 := by
  unfold tOf
  split
  · rename_i hj; have := colOk_range h j hj; omega
  · omega
theorem sOf_range {f : Nat → Pt} {n : Nat} (h : colV f n = true) (j : Nat) : -9223372036854775808 ≤ sOf f n j ∧ sOf f n j ≤ 9223372036854775807 := by
  unfold sOf
  split
  · rename_i hj; have := colOk_range h j hj; omega
  · omega
/-- The cells of the three rows: times, values, numbers. -/
def colC (f : Nat → Pt) (c : Fin 3) (j : Nat) : Value :=
  match c with
  | 0 => .int .i64 (f j).t
  | 1 => .int .u64 (IntKind.u64.wrap (f j).v)
  | 2 => .int .i64 (f j).s
def colRow (f : Nat → Pt) (k : Nat) (c : Fin 3) : List Value := (List.range k).map (colC f c)
theorem colRow_len (f : Nat → Pt) (k : Nat) (c : Fin 3) : (colRow f k c).length = k := by simp [colRow]
theorem colRow_succ (f : Nat → Pt) (k : Nat) (c : Fin 3) : colRow f (k + 1) c = colRow f k c ++ [colC f c k] := by unfold colRow; rw [List.range_succ, List.map_append]; rfl
def cE (c : Fin 3) : TypeId := match c with | 0 => 3 | 1 => 34 | 2 => 3
def cT (c : Fin 3) : TypeId := match c with | 0 => 32 | 1 => 33 | 2 => 32
def cZ (c : Fin 3) : Value := match c with | 0 => .int .i64 0 | 1 => .int .u64 0 | 2 => .int .i64 0
theorem cElem (c : Fin 3) : Elem1 Try.prog (cT c) (cE c) (cZ c) 8 :=
  match c with
  | 0 => Elem1.mk' Try.underlying32 rfl (by kernel_rfl)
  | 1 => Elem1.mk' Try.underlying33 rfl (by kernel_rfl)
  | 2 => Elem1.mk' Try.underlying32 rfl (by kernel_rfl)
theorem map_sl {w : World} {base : Nat} {e : TypeId} {n c : Nat} {A : Option Addr} {g g' : Nat → Value} (ho : w.ownsRow base e 1 (.slice A n c) n ((List.range n).map g)) (h : ∀ j, j < n → g j = g' j) : Sl w (fun k => (Value.slice A n c).ownBlock = some k) A n g' := by
  refine Sl.of_own ho ?_
  intro j u hu
  rw [List.getElem?_map] at hu
  rcases Nat.lt_or_ge j n with hj | hj
  · rw [List.getElem?_range hj] at hu
    rw [← h j hj]
    simpa using hu.symm
  · rw [List.getElem?_eq_none (by simpa using hj)] at hu
    cases hu
theorem txt_strB {bs : List Nat} (h : ∀ j, bs.getD j 0 < 256) : V.txt (strB bs) = bs := by
  unfold V.txt strB
  simp only [List.map_map]
  conv => rhs; rw [← List.map_id bs]
  apply List.map_congr_left
  intro b hb
  have : b < 256 := F.mem_byte h b hb
  simp
  omega
theorem strB_size (bs : List Nat) : (strB bs).size = bs.length := by simp [strB, ByteArray.size]
/-- What stands behind the rows of the first n points. -/
structure Rows3 (w0 w : World) (f : Nat → Pt) (n : Nat) (v : Fin 3 → Value) : Prop where
  r : R3 cE w0 w w0.heap.size v (colRow f n)
theorem r3_sl {w0 w : World} {x n : Nat} {v : Fin 3 → Value} {f : Nat → Pt} (h : R3 cE w0 w x v (colRow f n)) (c : Fin 3) : ∃ A cap, v c = .slice A n cap ∧ n ≤ cap ∧ ∀ g', (∀ j, j < n → colC f c j = g' j) → Sl w (fun k => k < w.heap.size) A n g' := by
  have ho := h.own c
  rw [colRow_len] at ho
  obtain ⟨A, cap, hv, hc, -⟩ := own_form ho
  rw [hv] at ho
  refine ⟨A, cap, hv, hc, fun g' hg => (map_sl ho hg).mono (fun k hk => (ho.lt k hk).2)⟩
theorem col_t {f : Nat → Pt} {n j : Nat} (h : j < n) : colC f 0 j = .int .i64 (tOf f n j) := by unfold tOf; rw [if_pos h]; rfl
theorem col_s {f : Nat → Pt} {n j : Nat} (h : j < n) : colC f 2 j = .int .i64 (sOf f n j) := by unfold sOf; rw [if_pos h]; rfl
theorem col_v {f : Nat → Pt} {n j : Nat} (h : j < n) : colC f 1 j = .int .u64 (vOf f n j : Nat) := by
  unfold vOf; rw [if_pos h]
  show Value.int .u64 _ = _
  congr 1
  rw [IntKind.wrap_u64]; omega
/-- A part that an encoder has given. -/
structure PartIs (w0 w : World) (A : Option Addr) (c : Nat) (bs : List Nat) : Prop where
  own : w.ownsRow w0.heap.size 5 1 (.slice A bs.length c) bs.length (bs.map byteV)
theorem PartIs.keeps {w0 w w' : World} {A : Option Addr} {c : Nat} {bs : List Nat} (h : PartIs w0 w A c bs) (hk : Keeps (fun _ => False) w w') : PartIs w0 w' A c bs := ⟨own_keeps h.own hk (fun _ _ h => h)⟩
theorem PartIs.sl {w0 w : World} {A : Option Addr} {c : Nat} {bs : List Nat} (h : PartIs w0 w A c bs) : Sl w (fun k => k < w.heap.size) A bs.length (byteC bs) := V.ow_sl h.own
/-- The bytes laid so far. -/
def InIs (w0 w : World) (v : Value) (bs : List Nat) : Prop := w.ownsRow w0.heap.size 5 1 v bs.length (bs.map byteV)
theorem InIs.keeps {w0 w w' : World} {v : Value} {bs : List Nat} (h : InIs w0 w v bs) (hk : Keeps (fun _ => False) w w') : InIs w0 w' v bs := own_keeps h hk (fun _ _ h => h)
theorem InIs.form {w0 w : World} {v : Value} {bs : List Nat} (h : InIs w0 w v bs) : ∃ A c, v = .slice A bs.length c ∧ bs.length ≤ c ∧ Sl w (fun k => k < w.heap.size) A bs.length (byteC bs) := by
  unfold InIs at h
  obtain ⟨A, c, rfl, hc, -⟩ := own_form h
  exact ⟨A, c, rfl, hc, V.ow_sl h⟩
theorem col_up (f : Nat → Pt) (n j : Nat) : colUp f n j ++ V.vput (strB (partA f n j)).size ++ V.txt (strB (partA f n j)) = colUp f n (j + 1) := by
  rw [strB_size, txt_strB (partA_byte f n j)]; rfl
theorem col_bad {w w' : World} {f : Nat → Pt} {n : Nat} (h : colV f n = false) (hk : Keeps (fun _ => False) w w') : F.BytesPost w (colL f n).1 (colL f n).2 (.returned (.tuple #[.slice none 0 0, .int .i64 2])) w' := by
  unfold colL
  rw [h]
  exact ⟨none, 0, rfl, ⟨rfl, .inl ⟨rfl, rfl⟩⟩, hk⟩
theorem col_good {w w1 w' : World} {f : Nat → Pt} {n : Nat} {e : Ending} (h : colV f n = true) (hk : Keeps (fun _ => False) w w1) (hp : F.BytesPost w1 (F.sealL 3 (colUp f n 3)) 0 e w') : F.BytesPost w (colL f n).1 (colL f n).2 e w' := by
  unfold colL
  rw [h]
  obtain ⟨A, c, h1, h2, h3⟩ := hp
  exact ⟨A, c, h1, own_base h2 hk.size, hk.trans' h3⟩
end Go.Proofs.Ytboecnakndpgfaa
