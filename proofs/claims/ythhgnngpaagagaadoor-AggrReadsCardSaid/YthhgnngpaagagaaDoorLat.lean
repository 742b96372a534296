/-
  Slices and rows in later worlds.
-/
import Derived.Test.YthhgnngpaagagaaDoorVarB
import Derived.Test.YthhgnngpaagagaaDoorReg
import Derived.Test.YthhgnngpaagagaaDoorConv
namespace Go.Proofs.YthhgnngpaagagaaDoor
open Go.RowKit
theorem sl_later {w w' : World} {A : Option Addr} {n : Nat} {f : Nat → Value} (h : Sl w (fun k => k < w.heap.size) A n f) (hb : Below w.heap.size w w') : Sl w' (fun k => k < w'.heap.size) A n f :=
  (h.below hb (fun _ hk _ => hk)).mono (fun _ hk => Nat.lt_of_lt_of_le hk hb.size)
theorem own_later {w w' : World} {base : Nat} {e : TypeId} {v : Value} {n : Nat} {xs : List Value} (h : w.ownsRow base e 1 v n xs) (hb : Below w.heap.size w w') : w'.ownsRow base e 1 v n xs :=
  own_keeps (S := fun _ => False) h (Keeps.of_below hb) (fun _ _ h => h)
theorem below_join {w w1 w2 : World} (h : Below w.heap.size w w1) (k : Below w1.heap.size w1 w2) : Below w.heap.size w w2 := h.trans (k.mono h.size)
theorem wrap_u64_range (n : Int) : 0 ≤ IntKind.u64.wrap n ∧ IntKind.u64.wrap n < 18446744073709551616 := by rw [IntKind.wrap_u64]; omega
/-- A row of the call's own as a slice. -/
theorem ow_sl {w : World} {base : Nat} {A : Option Addr} {n c : Nat} {bs : List Nat} (h : w.ownsRow base 5 1 (.slice A n c) n (bs.map byteV)) : Sl w (fun k => k < w.heap.size) A n (byteC bs) := by
  have h1 : Sl w (fun k => (Value.slice A n c).ownBlock = some k) A n (byteC bs) := by
    refine Sl.of_own h ?_
    intro j u hu
    rw [List.getElem?_map] at hu
    cases hb : bs[j]? with
    | none => rw [hb] at hu; cases hu
    | some b =>
      rw [hb] at hu
      simp at hu
      unfold byteC
      rw [List.getD_eq_getElem?_getD, hb, ← hu]
      rfl
  refine h1.mono fun k hk => ?_
  exact (h.lt k hk).2
theorem own_cap {w : World} {base : Nat} {e : TypeId} {size n m c : Nat} {A : Option Addr} {xs : List Value} (h : w.ownsRow base e size (.slice A n c) m xs) : n ≤ c ∧ c ≤ 9223372036854775807 := by
  rcases h.2 with ⟨h1, _⟩ | ⟨g, cap, cur, h1, _, _, h2, h3, _⟩
  · injection h1 with _ h1 h2; omega
  · injection h1 with _ h4 h5; subst h4 h5; unfold maxLen at h3; omega
theorem own_len {w : World} {base : Nat} {e : TypeId} {v : Value} {n : Nat} {xs : List Value} {A : Option Addr} {m c : Nat} (h : w.ownsRow base e 1 v n xs) (hv : v = .slice A m c) : m = n := by
  obtain ⟨A', c', e', _⟩ := own_form h
  rw [hv] at e'
  injection e'
theorem lat_lit0 (w : World) (base : Nat) (e : TypeId) (hb : base ≤ w.heap.size) : (w.alloc (.cells #[] e)).ownsRow base e 1 (.slice (some ⟨w.heap.size, 0, none⟩) 0 0) 0 [] :=
  World.ownsRow_made w #[] 0 hb (by unfold maxLen; omega) rfl
theorem lat_grown {w0 w w' : World} {e : TypeId} {n : Nat} {v : Value} {xs : List Value} (hk : Below w0.heap.size w0 w) (ho : w.ownsRow w0.heap.size e 1 v n xs) (hg : w.grownBy w' v.ownBlock) : Below w0.heap.size w0 w' :=
  hk.grown hg hk.size (fun k hk' => (ho.lt k hk').1)
theorem lat_text (s : ByteArray) : strB (txt s) = s := by
  unfold strB txt
  rw [List.map_map]
  have : (s.data.toList.map ((fun b => UInt8.ofNat b) ∘ UInt8.toNat)) = s.data.toList := by
    conv => rhs; rw [← List.map_id s.data.toList]
    apply List.map_congr_left
    intro x _
    simp
  rw [this]
/-- A block of bytes as a slice. -/
theorem blk_sl {w : World} {g : Nat} {t : TypeId} {bs : List Nat} (h : Blk w g t (bs.map byteV).toArray) : Sl w (fun k => k < w.heap.size) (some ⟨g, 0, none⟩) bs.length (byteC bs) := fun _ => by
  refine ⟨g, 0, rfl, h.lt, fun j hj => ?_⟩
  rw [h.cell (0 + j), Nat.zero_add]
  simp only [List.getElem?_toArray, List.getElem?_map, List.getElem?_eq_getElem hj]
  unfold byteC byteV
  rw [List.getD_eq_getElem?_getD, List.getElem?_eq_getElem hj]
  rfl
theorem getD_take_lt {l : List Nat} (h : ∀ j, l.getD j 0 < 256) (m : Nat) : ∀ j, (l.take m).getD j 0 < 256 := fun j => by
  rw [List.getD_eq_getElem?_getD, List.getElem?_take]
  have := h j
  rw [List.getD_eq_getElem?_getD] at this
  split
  · exact this
  · simp
theorem getD_drop_lt {l : List Nat} (h : ∀ j, l.getD j 0 < 256) (m : Nat) : ∀ j, (l.drop m).getD j 0 < 256 := fun j => by
  rw [List.getD_eq_getElem?_getD, List.getElem?_drop]
  have := h (m + j)
  rw [List.getD_eq_getElem?_getD] at this
  exact this
theorem getD_app_lt {l m : List Nat} (h : ∀ j, l.getD j 0 < 256) (h' : ∀ j, m.getD j 0 < 256) : ∀ j, (l ++ m).getD j 0 < 256 := fun j => by
  rw [List.getD_eq_getElem?_getD, List.getElem?_append]
  have h1 := h j
  have h2 := h' (j - l.length)
  rw [List.getD_eq_getElem?_getD] at h1 h2
  split
  · exact h1
  · exact h2
theorem getD_all_lt {l : List Nat} (h : ∀ b ∈ l, b < 256) : ∀ j, l.getD j 0 < 256 := fun j => by
  rw [List.getD_eq_getElem?_getD]
  cases hj : l[j]? with
  | none => simp
  | some b => simpa using h b (List.mem_of_getElem? hj)
theorem sl_take_list {w : World} {D : Nat → Prop} {A : Option Addr} {n m : Nat} {bs : List Nat} (h : Sl w D A n (byteC bs)) (hm : m ≤ n) : Sl w D A m (byteC (bs.take m)) := by
  refine (h.take hm).congr fun j hj => ?_
  unfold byteC
  rw [List.getD_eq_getElem?_getD, List.getD_eq_getElem?_getD, List.getElem?_take_of_lt hj]
theorem sl_drop_list {w : World} {D : Nat → Prop} {b off n m : Nat} {bs : List Nat} (h : Sl w D (some ⟨b, off, none⟩) n (byteC bs)) (hm : m ≤ n) : Sl w D (some ⟨b, off + m, none⟩) (n - m) (byteC (bs.drop m)) := fun hn => by
  obtain ⟨b', off', e, hD, hc⟩ := h (by omega)
  simp only [Option.some.injEq, Addr.mk.injEq] at e
  obtain ⟨rfl, rfl, -⟩ := e
  refine ⟨b, _, rfl, hD, fun j hj => ?_⟩
  have := hc (m + j) (by omega)
  rw [show off + (m + j) = off + m + j by omega] at this
  rw [this]
  unfold byteC
  rw [List.getD_eq_getElem?_getD, List.getD_eq_getElem?_getD, List.getElem?_drop]
/-- 'b[n:]' of bytes, whatever room is behind. -/
theorem slice_from {P : Program} (t e : TypeId) (ht : P.underlying t = some (.slice e)) (hs : ∀ w : World, (sizeOf e).run P w = .ok 1 w) (A : Option Addr) (len c n : Nat) (hn : n ≤ len) (hlc : len ≤ c) :
    ∃ A', (∀ w : World, (Instr.slice t (.slice A len c) (some (.int .i64 (n : Nat))) none none).run P w = .ok (.slice A' (len - n) (c - n)) w) ∧
      (∀ (w : World) (D : Nat → Prop) (l : List Nat), Sl w D A len (byteC l) → Sl w D A' (len - n) (byteC (l.drop n))) := by
  have he : P.elem t = e := by simp [Program.elem, ht]
  have ht' : P.underlying t = some (.slice (P.elem t)) := by rw [he]; exact ht
  refine ⟨if c = n then A else A.map (·.add (n * 1)), fun w => ?_, fun w D l h => ?_⟩
  · rw [run_slice_l w t A len c ht' .i64 (n : Nat) (by omega) (by omega), he, hs]
    simp [Result.andThen, sliced]
  · intro hlt
    rw [if_neg (by omega)]
    obtain ⟨b, off, rfl, -, -⟩ := h (by omega)
    have := sl_drop_list h hn hlt
    rw [show (some (⟨b, off, none⟩ : Addr)).map (·.add (n * 1)) = some ⟨b, off + n, none⟩ by simp [Addr.add]]
    exact this
end Go.Proofs.YthhgnngpaagagaaDoor
