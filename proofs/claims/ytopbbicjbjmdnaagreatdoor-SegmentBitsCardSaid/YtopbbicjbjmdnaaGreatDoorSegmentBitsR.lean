/-
  Proved: bits that are turned, at most 32 side by side in one frame, make the file corrupt, or change no point, for all few parts, places and bits.
  No condition beyond those of the given row. (The frame follows the kit's proof-skeleton; the walk is the text SegmentBitsW of this claim.)
-/
import Derived.Test.YtopbbicjbjmdnaaGreatDoorJ15
import Derived.Test.YtopbbicjbjmdnaaGreatDoorJ17
import Derived.Test.YtopbbicjbjmdnaaGreatDoorJ14
import Derived.Test.YtopbbicjbjmdnaaGreatDoorJ16
import Derived.Test.YtopbbicjbjmdnaaGreatDoorJ13
import Derived.Laws.OwnMore
import Derived.Laws.BitsAllLaws
import Derived.Laws.BitsLemmas
import Derived.Test.YtopbbicjbjmdnaaGreatDoorCards
import Derived.Test.YtopbbicjbjmdnaaGreatDoorTie
import Derived.WalkKit
import Derived.ProofKit
import Derived.OpenShut
import Derived.ShutString
import Derived.ChangeOld
import Derived.Below
import Derived.SizedLaws
import Derived.ChangeVars
import Derived.Lib.SmallJoins
import Derived.LaidLaws
import Derived.LaidHandle
import Derived.Stop.Joined
import Derived.Deep.DeepHandedRow
namespace Go.Proofs.YtopbbicjbjmdnaaGreatDoor
open Go.RowKit Go.Maps
set_option maxRecDepth 100000
set_option linter.unusedVariables false
set_option linter.unusedSimpArgs false
def spNm : Nat → ByteArray := fun _ => ⟨#[97]⟩
def spPf : Nat → Nat → Pt := fun _ _ => ⟨1, 0, 0⟩
def spPn : Nat → Nat := fun _ => 1
theorem sp_v : (namesOk spNm 1 && (decide (0 < 1) && sV spPf spPn 1)) = true := by kernel_rfl
theorem sp_ok : ∀ j i, PtOk (spPf j i) := fun j i => ⟨by unfold I64 spPf; simp, by unfold I64 spPf; simp, by unfold I64 spPf; simp⟩
theorem sp_few : fewN spNm spPn 1 1 < 2500 := by decide
theorem sp_small : Small spNm spPf spPn 1 := few_small sp_ok sp_few
theorem sp_file : (sB spNm spPf spPn 1).2 = 0 ∧ Built spNm spPf spPn 1 ∧ FileIs (sB spNm spPf spPn 1).1 (sO spPf spPn 1) spNm spPf spPn 1 := sB_good sp_small (few_fits sp_ok sp_few) sp_v
theorem sp_f : (sF spNm spPf spPn 1 1).length = 8 := by kernel_rfl
theorem sp_o : (sO spPf spPn 1).length = 37 := by kernel_rfl
theorem sp_l : (sB spNm spPf spPn 1).1.length = 67 := by
  have h := sp_file.2.2.fl
  rw [h, F.sealL_length, sp_f, sp_o]
/-- The one part in two new blocks. -/
theorem sp_at (w : World) : PartsAt ((w.alloc (.cells #[.int .i64 1, .int .i64 0, .int .i64 0] 30)).alloc (.cells #[.string ⟨#[97]⟩, .slice (some ⟨w.heap.size, 0, none⟩) 1 1] 33)) (some ⟨w.heap.size + 1, 0, none⟩) 1 spNm (fun _ => some ⟨w.heap.size, 0, none⟩) spPn (fun _ => 1) spPf := by
  have hs : SlP (w.alloc (.cells #[.int .i64 1, .int .i64 0, .int .i64 0] 30)) (fun q => q < (w.alloc (.cells #[.int .i64 1, .int .i64 0, .int .i64 0] 30)).heap.size) (some ⟨w.heap.size, 0, none⟩) 1 (fun _ => ⟨1, 0, 0⟩) := slp_in (slp_one w 30 ⟨1, 0, 0⟩)
  have := part_one (c := 1) (s := ⟨#[97]⟩) hs (Nat.le_refl _) (by omega) (fun i => sp_ok 0 i) (by show 1 ≤ _; omega)
  rw [show (w.alloc (.cells #[.int .i64 1, .int .i64 0, .int .i64 0] 30)).heap.size = w.heap.size + 1 by simp] at this
  exact this
end Go.Proofs.YtopbbicjbjmdnaaGreatDoor
namespace Go.Proofs.YtopbbicjbjmdnaaGreatDoor
open Go.RowKit Go.Maps
set_option maxRecDepth 100000
set_option linter.unusedVariables false
set_option linter.unusedSimpArgs false
theorem preG_more {α : Type} {g s : Nat → List α} (h : ∀ i, g (i + 1) = g i ++ s i) (i : Nat) : ∀ d, ∃ r, g (i + d) = g i ++ r
  | 0 => ⟨[], by simp⟩
  | d + 1 => by
    obtain ⟨r, hr⟩ := preG_more h i d
    exact ⟨r ++ s (i + d), by rw [show i + (d + 1) = (i + d) + 1 by omega, h, hr, List.append_assoc]⟩
theorem preG_le {α : Type} {g s : Nat → List α} (h : ∀ i, g (i + 1) = g i ++ s i) {i k : Nat} (hi : i ≤ k) : ∃ r, g k = g i ++ r := by
  obtain ⟨r, hr⟩ := preG_more h i (k - i)
  exact ⟨r, by rw [← hr, show i + (k - i) = k by omega]⟩
/-- A file's frames of blocks. -/
def bFr (f : Nat → Pt) (n : Nat) : Nat → List (List Nat)
  | 0 => []
  | m + 1 => bFr f n m ++ [(colL (shiftP f (1024 * m)) (blkN n (1024 * m))).1]
def sFr (pf : Nat → Nat → Pt) (pn : Nat → Nat) : Nat → List (List Nat)
  | 0 => []
  | i + 1 => sFr pf pn i ++ bFr (pf i) (pn i) (nbl (pn i))
theorem bFr_flat (f : Nat → Pt) (n : Nat) : ∀ m, (bFr f n m).flatten = bO f n m
  | 0 => rfl
  | m + 1 => by
    show (bFr f n m ++ [_]).flatten = _
    rw [List.flatten_append, bFr_flat f n m, bO_succ]
    simp
theorem sFr_flat (pf : Nat → Nat → Pt) (pn : Nat → Nat) : ∀ i, (sFr pf pn i).flatten = sO pf pn i
  | 0 => rfl
  | i + 1 => by
    show (sFr pf pn i ++ _).flatten = _
    rw [List.flatten_append, sFr_flat pf pn i, bFr_flat, sO_succ]
/-- A frame: a kind and few bytes, sealed. -/
def IsFr (l : List Nat) : Prop := ∃ kd bs, kd < 256 ∧ bs.length ≤ 1048576 ∧ (∀ x ∈ bs, x < 256) ∧ l = F.sealL kd bs
theorem enc_fr {b : List Nat} {f : Nat → Pt} {n : Nat} (h : IsEnc b f n) : IsFr b := by
  have h1 := (enc_len h).2
  rw [← h.2, F.sealL_length] at h1
  refine ⟨3, colUp f n 3, by omega, by omega, fun x hx => ?_, h.2.symm⟩
  obtain ⟨j, hj⟩ := List.mem_iff_getElem?.1 hx
  have h2 := colUp_byte f n 3 j
  rw [List.getD_eq_getElem?_getD, hj] at h2
  exact h2
theorem bFr_fr {f : Nat → Pt} {n : Nat} (hv : bV f n (nbl n) = true) : ∀ m, m ≤ nbl n → ∀ x ∈ bFr f n m, IsFr x
  | 0, _, x, hx => by simp [bFr] at hx
  | m + 1, hm, x, hx => by
    rcases List.mem_append.1 (show x ∈ bFr f n m ++ [_] from hx) with h1 | h1
    · exact bFr_fr hv m (by omega) x h1
    · obtain rfl := List.mem_singleton.1 h1
      exact enc_fr (bk_enc (bk_ok hv hm))
theorem sFr_fr {nm : Nat → ByteArray} {pf : Nat → Nat → Pt} {pn : Nat → Nat} {k : Nat} (hB : Built nm pf pn k) : ∀ i, i ≤ k → ∀ x ∈ sFr pf pn i, IsFr x
  | 0, _, x, hx => by simp [sFr] at hx
  | i + 1, hi, x, hx => by
    rcases List.mem_append.1 (show x ∈ sFr pf pn i ++ _ from hx) with h1 | h1
    · exact sFr_fr hB i (by omega) x h1
    · exact bFr_fr (hB.bv (by omega)) _ (Nat.le_refl _) x h1
/-- A frame's length stands behind its kind. -/
theorem fr_len {l : List Nat} (h : IsFr l) : 9 ≤ l.length ∧ (∀ x ∈ l, x < 256) ∧ F.openE l = 0 ∧ l.length = 9 + l.getD 1 0 + l.getD 2 0 * 256 + l.getD 3 0 * 65536 := by
  obtain ⟨kd, bs, hk, hl, hb, rfl⟩ := h
  have hgb : ∀ j, bs.getD j 0 < 256 := V.getD_all_lt hb
  refine ⟨by rw [F.sealL_length]; omega, F.sealL_byte hk hgb, (F.open_seal hk hgb hl).1, ?_⟩
  rw [F.sealL_length]
  have e1 : (F.sealL kd bs).getD 1 0 = bs.length % 256 := rfl
  have e2 : (F.sealL kd bs).getD 2 0 = bs.length / 256 % 256 := rfl
  have e3 : (F.sealL kd bs).getD 3 0 = bs.length / 65536 % 256 := rfl
  rw [e1, e2, e3]
  omega
/-- A list of frames, cut at one of them. -/
theorem fr_cut {fs : List (List Nat)} {q : Nat} (hq : q < fs.length) : fs.flatten = (fs.take q).flatten ++ (fs[q] ++ (fs.drop (q + 1)).flatten) ∧ (fs.take (q + 1)).flatten = (fs.take q).flatten ++ fs[q] := by
  refine ⟨?_, ?_⟩
  · have h := List.take_append_drop q fs
    rw [List.drop_eq_getElem_cons hq] at h
    rw [← List.flatten_cons, ← List.flatten_append, h]
  · rw [List.take_succ_eq_append_getElem hq, List.flatten_append]
    simp
theorem fr_mono (fs : List (List Nat)) {a b : Nat} (h : a ≤ b) : (fs.take a).flatten.length ≤ (fs.take b).flatten.length := by
  have e : fs.take a = (fs.take b).take a := by rw [List.take_take, Nat.min_eq_left h]
  rw [e]
  have h2 := congrArg List.flatten (List.take_append_drop a (fs.take b))
  rw [List.flatten_append] at h2
  rw [← h2, List.length_append]
  omega
theorem getD_mid {a b c : List Nat} {j : Nat} (hj : j < b.length) : (a ++ (b ++ c)).getD (a.length + j) 0 = b.getD j 0 := by
  rw [List.getD_eq_getElem?_getD, List.getD_eq_getElem?_getD, List.getElem?_append_right (by omega), Nat.add_sub_cancel_left, List.getElem?_append_left hj]
theorem set_mid {a b c : List Nat} {j : Nat} (hj : j < b.length) (v : Nat) : (a ++ (b ++ c)).set (a.length + j) v = a ++ (b.set j v ++ c) := by
  rw [List.set_append_right _ _ (by omega), Nat.add_sub_cancel_left, List.set_append_left _ _ hj]
/-- Bits turned in the middle. -/
theorem flip_mid {a b c : List Nat} {p x : Nat} : ∀ i, p + i ≤ 8 * b.length → F.flipL (a ++ (b ++ c)) (8 * a.length + p) x i = a ++ (F.flipL b p x i ++ c)
  | 0, _ => rfl
  | i + 1, h => by
    have ih := flip_mid (a := a) (c := c) (x := x) i (by omega : p + i ≤ 8 * b.length)
    have hl := F.flipL_length b p x i
    have e1 : (8 * a.length + p + i) / 8 = a.length + (p + i) / 8 := by omega
    have e2 : (8 * a.length + p + i) % 8 = (p + i) % 8 := by omega
    show (if x / 2 ^ i % 2 = 1 then (F.flipL (a ++ (b ++ c)) (8 * a.length + p) x i).set ((8 * a.length + p + i) / 8) ((F.flipL (a ++ (b ++ c)) (8 * a.length + p) x i).getD ((8 * a.length + p + i) / 8) 0 ^^^ 2 ^ ((8 * a.length + p + i) % 8)) else F.flipL (a ++ (b ++ c)) (8 * a.length + p) x i) = a ++ ((if x / 2 ^ i % 2 = 1 then (F.flipL b p x i).set ((p + i) / 8) ((F.flipL b p x i).getD ((p + i) / 8) 0 ^^^ 2 ^ ((p + i) % 8)) else F.flipL b p x i) ++ c)
    rw [ih, e1, e2]
    by_cases hx : x / 2 ^ i % 2 = 1
    · rw [if_pos hx, if_pos hx, getD_mid (by rw [hl]; omega), set_mid (by rw [hl]; omega)]
    · rw [if_neg hx, if_neg hx]
/-- A slice that lies ahead of, or behind, what is turned. -/
theorem slice_left {a b c : List Nat} {x y : Nat} (h : x + y ≤ a.length) : ((a ++ (b ++ c)).drop x).take y = (a.drop x).take y := by
  rw [List.drop_append_of_le_length (by omega), List.take_append_of_le_length (by rw [List.length_drop]; omega)]
theorem slice_right {a b b' c : List Nat} {x y : Nat} (hl : b'.length = b.length) (h : a.length + b.length ≤ x) : ((a ++ (b' ++ c)).drop x).take y = ((a ++ (b ++ c)).drop x).take y := by
  have e : ∀ b : List Nat, a.length + b.length ≤ x → (a ++ (b ++ c)).drop x = c.drop (x - (a.length + b.length)) := fun b hb => by
    rw [← List.append_assoc, List.drop_append, List.drop_eq_nil_of_le (by rw [List.length_append]; omega), List.nil_append, List.length_append]
  rw [e b h, e b' (by omega), hl]
/-- Where a part's block stands among the frames. -/
theorem bk_idx (pf : Nat → Nat → Pt) (pn : Nat → Nat) {k i m : Nat} (hi : i < k) (hm : m < nbl (pn i)) : ∃ x, ∃ hx : x < (sFr pf pn k).length, ((sFr pf pn k).take x).flatten.length = (bkOf pf pn i m).a ∧ (sFr pf pn k)[x] = (colL (shiftP (pf i) (1024 * m)) (blkN (pn i) (1024 * m))).1 := by
  obtain ⟨r1, h1⟩ := preG_le (g := sFr pf pn) (s := fun i => bFr (pf i) (pn i) (nbl (pn i))) (fun _ => rfl) (show i + 1 ≤ k from hi)
  obtain ⟨r2, h2⟩ := preG_le (g := bFr (pf i) (pn i)) (s := fun m => [(colL (shiftP (pf i) (1024 * m)) (blkN (pn i) (1024 * m))).1]) (fun _ => rfl) (show m + 1 ≤ nbl (pn i) from hm)
  have e : sFr pf pn k = (sFr pf pn i ++ bFr (pf i) (pn i) m) ++ ((colL (shiftP (pf i) (1024 * m)) (blkN (pn i) (1024 * m))).1 :: (r2 ++ r1)) := by
    rw [h1]
    show sFr pf pn i ++ bFr (pf i) (pn i) (nbl (pn i)) ++ r1 = _
    rw [h2]
    show sFr pf pn i ++ (bFr (pf i) (pn i) m ++ [_] ++ r2) ++ r1 = _
    simp only [List.append_assoc, List.cons_append, List.nil_append]
  have hx : (sFr pf pn i ++ bFr (pf i) (pn i) m).length < (sFr pf pn k).length := by rw [e]; simp only [List.length_append, List.length_cons]; omega
  refine ⟨_, hx, ?_, ?_⟩
  · rw [e, List.take_left, List.flatten_append, sFr_flat, bFr_flat, List.length_append]
    rfl
  · have h3 : (sFr pf pn k)[(sFr pf pn i ++ bFr (pf i) (pn i) m).length]? = some (colL (shiftP (pf i) (1024 * m)) (blkN (pn i) (1024 * m))).1 := by
      rw [e, List.getElem?_append_right (Nat.le_refl _), Nat.sub_self]
      rfl
    rw [List.getElem?_eq_getElem hx] at h3
    exact Option.some.inj h3
/-- The foot cannot be read. -/
def FootBad (T : List Nat) : Prop := (∃ last, T.length = last + 13 ∧ F.openE (T.drop last) ≠ 0) ∨ (∃ last q, EndIs T last q ∧ F.openE ((T.drop (last - q)).take q) ≠ 0)
/-- What a file is, of which bits of one frame are turned. -/
def Turned (T : List Nat) (y : Nat) (nm : Nat → ByteArray) (pf : Nat → Nat → Pt) (pn : Nat → Nat) (k : Nat) : Prop :=
  (∃ O, FileIs T O nm pf pn k ∧ ∀ i, i < k → ∀ m, m < nbl (pn i) → IsEnc (blkB O (bkOf pf pn i m)) (shiftP (pf i) (1024 * m)) (blkN (pn i) (1024 * m)) ∨ (y ≠ 0 ∧ NotEnc (blkB O (bkOf pf pn i m)))) ∨ (y ≠ 0 ∧ FootBad T)
/-- All frames of a file. -/
def allFr (nm : Nat → ByteArray) (pf : Nat → Nat → Pt) (pn : Nat → Nat) (k : Nat) : List (List Nat) := sFr pf pn k ++ [F.sealL 5 (sF nm pf pn k k), F.sealL 6 (four (F.sealL 5 (sF nm pf pn k k)).length)]
theorem allFr_flat {L : List Nat} {nm : Nat → ByteArray} {pf : Nat → Nat → Pt} {pn : Nat → Nat} {k : Nat} (h : FileIs L (sO pf pn k) nm pf pn k) : (allFr nm pf pn k).flatten = L := by
  unfold allFr
  rw [List.flatten_append, sFr_flat, h.eq]
  simp
theorem allFr_fr {L : List Nat} {nm : Nat → ByteArray} {pf : Nat → Nat → Pt} {pn : Nat → Nat} {k : Nat} (h : FileIs L (sO pf pn k) nm pf pn k) (hB : Built nm pf pn k) : ∀ x ∈ allFr nm pf pn k, IsFr x := fun x hx => by
  have h1 := h.fl
  have h2 := h.len
  have h3 := F.sealL_length 5 (sF nm pf pn k k)
  rcases List.mem_append.1 hx with hx | hx
  · exact sFr_fr hB k (Nat.le_refl _) x hx
  · simp only [List.mem_cons, List.not_mem_nil, or_false] at hx
    rcases hx with rfl | rfl
    · exact ⟨5, _, by omega, by omega, sF_byte nm pf pn k k, rfl⟩
    · exact ⟨6, _, by omega, by show 4 ≤ _; omega, four_byte _, rfl⟩
theorem turned_any {L : List Nat} {nm : Nat → ByteArray} {pf : Nat → Nat → Pt} {pn : Nat → Nat} {k : Nat} (h : FileIs L (sO pf pn k) nm pf pn k) (hB : Built nm pf pn k) {q p bb i : Nat} (hq : q < (allFr nm pf pn k).length) (hp : 8 * ((allFr nm pf pn k).take q).flatten.length ≤ p) (hpi : p + i ≤ 8 * ((allFr nm pf pn k).take (q + 1)).flatten.length) (hi : i ≤ 32) :
    Turned (F.flipL L p bb i) (bb % 2 ^ i) nm pf pn k := by
  by_cases hy : bb % 2 ^ i = 0
  · rw [F.flipL_same L p bb i hy]
    exact .inl ⟨_, h, fun j hj m hm => .inl (good_enc hB hj hm)⟩
  · obtain ⟨c1, c2⟩ := fr_cut hq
    have hfr := fr_len (allFr_fr h hB _ (List.getElem_mem hq))
    obtain ⟨pre, hpre⟩ : ∃ pre, pre = ((allFr nm pf pn k).take q).flatten := ⟨_, rfl⟩
    obtain ⟨fr, hfre⟩ : ∃ fr, fr = (allFr nm pf pn k)[q] := ⟨_, rfl⟩
    obtain ⟨post, hpost⟩ : ∃ post, post = ((allFr nm pf pn k).drop (q + 1)).flatten := ⟨_, rfl⟩
    rw [c2, ← hpre, ← hfre, List.length_append] at hpi
    rw [← hpre] at hp
    rw [allFr_flat h, ← hpre, ← hfre, ← hpost] at c1
    rw [← hfre] at hfr
    obtain ⟨p0, hp0⟩ : ∃ p0, p = 8 * pre.length + p0 := ⟨p - 8 * pre.length, by omega⟩
    have hT : F.flipL L p bb i = pre ++ (F.flipL fr p0 bb i ++ post) := by rw [c1, hp0]; exact flip_mid i (by omega)
    have hbad : F.openE (F.flipL fr p0 bb i) ≠ 0 := F.flip_open hfr.2.1 hi (by omega) hfr.2.2.1 hy
    have hfl := F.flipL_length fr p0 bb i
    have hfb := F.flipL_byte hfr.2.1 p0 bb i
    obtain ⟨fr', hfr'⟩ : ∃ fr', fr' = F.flipL fr p0 bb i := ⟨_, rfl⟩
    rw [← hfr'] at hT hbad hfl hfb
    rw [hT]
    have hal : (allFr nm pf pn k).length = (sFr pf pn k).length + 2 := by unfold allFr; rw [List.length_append]; rfl
    have hLl : (pre ++ (fr' ++ post)).length = L.length := by rw [c1]; simp only [List.length_append]; omega
    have hfll := h.fl
    rcases Nat.lt_or_ge q (sFr pf pn k).length with h1 | h1
    · -- a block's frame
      have et : (allFr nm pf pn k).take q = (sFr pf pn k).take q := by unfold allFr; rw [List.take_append_of_le_length (by omega)]
      have eg : fr = (sFr pf pn k)[q] := by
        have h3 : (allFr nm pf pn k)[q]? = (sFr pf pn k)[q]? := by unfold allFr; rw [List.getElem?_append_left h1]
        rw [List.getElem?_eq_getElem hq, List.getElem?_eq_getElem h1] at h3
        rw [hfre]; exact Option.some.inj h3
      obtain ⟨d1, d2⟩ := fr_cut h1
      rw [sFr_flat, ← et, ← hpre, ← eg] at d1
      obtain ⟨post0, hpost0⟩ : ∃ post0, post0 = ((sFr pf pn k).drop (q + 1)).flatten := ⟨_, rfl⟩
      rw [← hpost0] at d1
      have hpp : post = post0 ++ (F.sealL 5 (sF nm pf pn k k) ++ F.sealL 6 (four (F.sealL 5 (sF nm pf pn k k)).length)) := by
        have e1 := c1
        rw [h.eq, d1] at e1
        simp only [List.append_assoc] at e1
        exact (List.append_cancel_left (List.append_cancel_left e1)).symm
      refine .inl ⟨pre ++ (fr' ++ post0), ⟨?_, ?_, ?_, by rw [hLl]; exact h.len⟩, fun j hj m hm => ?_⟩
      · rw [hpp]; simp only [List.append_assoc]
      · rw [d1]; simp only [List.length_append]; omega
      · have hO := sO_byte pf pn k
        rw [d1] at hO
        exact mem_app (fun x hx => hO x (List.mem_append_left _ hx)) (mem_app hfb (fun x hx => hO x (List.mem_append_right _ (List.mem_append_right _ hx))))
      · obtain ⟨x, hx, x1, x2⟩ := bk_idx pf pn hj hm
        have hg := good_enc hB hj hm
        have hb : (bkOf pf pn j m).b = ((sFr pf pn k)[x]).length := by rw [x2]; rfl
        have hpl : pre.length = ((sFr pf pn k).take q).flatten.length := by rw [hpre, et]
        have hpl2 : pre.length + fr.length = ((sFr pf pn k).take (q + 1)).flatten.length := by rw [d2, List.length_append, ← et, ← hpre, ← eg]
        have hx2 : ((sFr pf pn k).take (x + 1)).flatten.length = (bkOf pf pn j m).a + (bkOf pf pn j m).b := by rw [(fr_cut hx).2, List.length_append, x1, hb]
        unfold blkB at hg ⊢
        rcases Nat.lt_trichotomy x q with hlt | heq | hgt
        · have h3 := fr_mono (sFr pf pn k) (show x + 1 ≤ q by omega)
          rw [d1, slice_left (by omega)] at hg
          rw [slice_left (by omega)]
          exact .inl hg
        · subst heq
          right
          refine ⟨hy, ?_⟩
          have e1 : (bkOf pf pn j m).a = pre.length := by rw [← x1, hpl]
          have e2 : (bkOf pf pn j m).b = fr'.length := by rw [hb, ← eg, hfl]
          rw [e1, e2, List.drop_left, List.take_left]
          exact not_open hbad
        · have h3 := fr_mono (sFr pf pn k) (show q + 1 ≤ x by omega)
          rw [slice_right (b := fr) hfl (by omega), ← d1]
          exact .inl hg
    · refine .inr ⟨hy, ?_⟩
      rcases (show q = (sFr pf pn k).length ∨ q = (sFr pf pn k).length + 1 by omega) with h2 | h2
      · -- the foot
        have epre : pre = sO pf pn k := by
          rw [hpre, h2]; unfold allFr; rw [List.take_left, sFr_flat]
        have efr : fr = F.sealL 5 (sF nm pf pn k k) := by
          have h3 : (allFr nm pf pn k)[q]? = some (F.sealL 5 (sF nm pf pn k k)) := by
            unfold allFr
            rw [List.getElem?_append_right (by omega), h2, Nat.sub_self]; rfl
          rw [List.getElem?_eq_getElem hq] at h3
          rw [hfre]; exact Option.some.inj h3
        have epost : post = F.sealL 6 (four (F.sealL 5 (sF nm pf pn k k)).length) := by
          have e1 := c1
          rw [h.eq, epre, efr, List.append_assoc] at e1
          exact (List.append_cancel_left (List.append_cancel_left e1)).symm
        have hd : (pre ++ (fr' ++ post)).drop ((sO pf pn k).length + fr'.length) = F.sealL 6 (four (F.sealL 5 (sF nm pf pn k k)).length) := by
          rw [← List.append_assoc, epre, ← List.length_append, List.drop_left, epost]
        obtain ⟨o1, o2, o3⟩ := F.open_seal (kind := 6) (bs := four (F.sealL 5 (sF nm pf pn k k)).length) (by omega) (V.getD_all_lt (four_byte _)) (by show 4 ≤ _; omega)
        right
        refine ⟨(sO pf pn k).length + fr'.length, fr'.length, ⟨?_, ?_, ?_, ?_, ?_, by omega⟩, ?_⟩
        · rw [hLl, hfll, ← efr, hfl]
        · rw [hd]; exact o1
        · rw [hd]; exact o2
        · rw [hd, o3, hfl, efr]
        · have := h.len; rw [hfll, ← efr] at this; omega
        · rw [Nat.add_sub_cancel, epre, List.drop_left, List.take_left]
          exact hbad
      · -- the end
        left
        have epost : post = [] := by
          rw [hpost, List.drop_eq_nil_of_le (by omega)]; rfl
        have efr : fr = F.sealL 6 (four (F.sealL 5 (sF nm pf pn k k)).length) := by
          have h3 : (allFr nm pf pn k)[q]? = some (F.sealL 6 (four (F.sealL 5 (sF nm pf pn k k)).length)) := by
            unfold allFr
            rw [List.getElem?_append_right (by omega), h2, show (sFr pf pn k).length + 1 - (sFr pf pn k).length = 1 by omega]; rfl
          rw [List.getElem?_eq_getElem hq] at h3
          rw [hfre]; exact Option.some.inj h3
        have h13 : fr'.length = 13 := by rw [hfl, efr, F.sealL_length]; rfl
        rw [epost, List.append_nil]
        exact ⟨pre.length, by rw [List.length_append, h13], by rw [List.drop_left]; exact hbad⟩
end Go.Proofs.YtopbbicjbjmdnaaGreatDoor
namespace Go.Proofs.YtopbbicjbjmdnaaGreatDoor
open Go.RowKit Go.Maps
set_option maxRecDepth 100000
set_option linter.unusedVariables false
set_option linter.unusedSimpArgs false
theorem not_false_n (w : World) : (Op.unary .not (.bool false)).run Tryz.prog w = .ok (.bool true) w := by kernel_rfl
set_option maxHeartbeats 400000 in
theorem open_no (w : World) (A : Option Addr) (len c : Nat) (T : List Nat) (hT : FootBad T) (hl : T.length = len) (hsl : Sl w (fun q => q < w.heap.size) A len (byteC T)) (hb : ∀ j, T.getD j 0 < 256) (h20 : len ≤ 1048576) (hlc : len ≤ c) (hcm : c ≤ 9223372036854775807) (hv : V.HErr w) :
    Calls Tryz.prog 9 #[.slice A len c] w fun e w' => e = .returned (.tuple #[.pointer none, .int .i64 24]) ∧ Below w.heap.size w w' := by
  have hfoot : Calls Tryz.prog 22 #[.slice A len c] w (FootNo w) := by
    rcases hT with ⟨last, h1, h2⟩ | ⟨last, q, h1, h2⟩
    · exact foot_end w A len c last _ T hl hsl hb (by rw [← hl]; exact h1) h20 hlc hcm h2
    · exact (foot_any w A len c last q _ T h1 hl hsl hb h20 hlc hcm).mono fun e w' h => h.2 h2
  have HF := Lib.hid (And.intro hfoot hv)
  clear hfoot hT hl hsl hb hv
  have nf := not_false_n
  go_enter Tryz.func9, Tryz.ntmps9
  go_wp2_with fail
  refine HF.out.1.mono ?_
  rintro e w1 ⟨A1, c1, x, rfl, hb1⟩
  have H1 := Lib.hid hb1
  clear hb1
  go_wp2_with fail
  refine (sRead_nil w1 A1 c1 (HF.out.2.below H1.out)).mono ?_
  rintro e w2 ⟨rfl, hb2⟩
  have H2 := Lib.hid (H1.out.trans (hb2.mono H1.out.size))
  clear hb2
  go_wp2_with fail
  go_ret2
  exact ⟨rfl, H2.out⟩
end Go.Proofs.YtopbbicjbjmdnaaGreatDoor
namespace Go.Proofs.YtopbbicjbjmdnaaGreatDoor
open Go.RowKit Go.Maps
set_option maxRecDepth 100000
set_option linter.unusedVariables false
set_option linter.unusedSimpArgs false
theorem not_f_t (w : World) : (Op.unary .not (.bool false)).run Tryz.prog w = .ok (.bool true) w := by kernel_rfl
theorem not_t_t (w : World) : (Op.unary .not (.bool true)).run Tryz.prog w = .ok (.bool false) w := by kernel_rfl
theorem sptr_nil_t (w : World) : (binOp .eql 35 (.pointer none) (.pointer none)).run Tryz.prog w = .ok (.bool true) w := by kernel_rfl
theorem wf_u32s {z : Int} (h : (Lit.int .u32 z).wf = true) : ∃ k : Nat, k < 4294967296 ∧ z = (k : Int) := by
  simp [Lit.wf, IntKind.min, IntKind.max, IntKind.signed, IntKind.bits] at h
  exact ⟨z.toNat, by omega, by omega⟩
theorem pow_castS (s : Nat) : ((2 : Int) ^ s) = ((2 ^ s : Nat) : Int) := by simp
theorem and_one_u32s (x s : Nat) (hx : x < 4294967296) : bits .and .u32 ((x : Int) / 2 ^ s) 1 = ((x / 2 ^ s % 2 : Nat) : Int) := by
  have h1 : x / 2 ^ s < 4294967296 := Nat.lt_of_le_of_lt (Nat.div_le_self _ _) hx
  rw [pow_castS, show (x : Int) / ((2 ^ s : Nat) : Int) = ((x / 2 ^ s : Nat) : Int) from rfl, show (1 : Int) = ((1 : Nat) : Int) from rfl, u32_and_nat _ _ h1 (by omega), nat_mask1]
theorem selL_whole_t {f : Nat → Pt} {n : Nat} (h : bV f n (nbl n) = true) : selL f (-4611686018427387904) 4611686018427387904 n = (List.range n).map f := selL_all n fun j hj => by
  have := part_range h hj
  unfold inS
  rw [Bool.and_eq_true, decide_eq_true_eq, decide_eq_true_eq]
  omega
theorem getD_range_t {f : Nat → Pt} {n j : Nat} (h : j < n) : ((List.range n).map f).getD j ⟨0, 0, 0⟩ = f j := by
  rw [List.getD_eq_getElem?_getD, List.getElem?_map, List.getElem?_range h]
  rfl
set_option maxHeartbeats 1000000 in
theorem segmentBits_walk (a : Option Addr) (k c : Nat) (nm : Nat → ByteArray) (pa : Nat → Option Addr) (pn pc : Nat → Nat) (pf : Nat → Nat → Pt) (at_ by_ : Int) (w : World) (h : PartsAt w a k nm pa pn pc pf) (w1 : (Lit.int .i64 at_).wf = true) (w2 : (Lit.int .u32 by_).wf = true) (hr : Reach nm pn k) (hv : V.HErr w) :
    Calls Tryz.prog 3 #[.slice a k c, .int .i64 at_, .int .u32 by_] w fun e w' => e = .returned (.bool true) ∧ Below w.heap.size w w' := by
  obtain ⟨bb, hb32, rfl⟩ := wf_u32s w2
  have HV := Lib.hid hv
  have H0 := Lib.hid (And.intro h hr)
  clear h hr hv w1 w2
  go_enter Tryz.func3, Tryz.ntmps3
  have nf := not_f_t
  have nt := not_t_t
  go_wp2_with fail
  refine (few_any w a k c nm pa pn pc pf H0.out.1 H0.out.2).mono ?_
  rintro e w1 ⟨rfl, hb1⟩
  cases hf : decide (fewN nm pn k k < 2500) with
  | false =>
    have HB := Lib.hid hb1
    clear hf hb1
    go_wp2_with fail
    go_ret
    exact ⟨rfl, HB.out⟩
  | true =>
    have hfew := of_decide_eq_true hf
    have hs := few_small (pf := pf) H0.out.1.ok hfew
    have hfit := few_fits (pf := pf) H0.out.1.ok hfew
    have HB := Lib.hid (And.intro hb1 (H0.out.1.below hb1))
    have hk4 := hs.kb
    have HSm := Lib.hid (And.intro hs hfit)
    clear hf hb1 hs hfit hfew
    go_wp2_with fail
    refine (build_any w1 a k c nm pa pn pc pf HB.out.2 HSm.out.1).mono ?_
    rintro e w2 ⟨v2, rfl, ho2, hb2⟩
    rcases sB_cases HSm.out.1 HSm.out.2 with hno | ⟨hg0, hBt, hFl⟩
    · rw [hno] at ho2 ⊢
      obtain ⟨A2, c2, hv2, -, -⟩ := own_form ho2
      subst hv2
      have H2 := Lib.hid (HB.out.1.trans (hb2.mono HB.out.1.size))
      clear ho2 hb2 hno
      go_wp2_with fail
      have hal : Below w2.heap.size w2 ((w2.alloc (.cells #[.int .i64 1, .int .i64 0, .int .i64 0] 30)).alloc (.cells #[.string ⟨#[97]⟩, .slice (some ⟨w2.heap.size, 0, none⟩) 1 1] 33)) := ((Below.refl _ _).alloc (Nat.le_refl _) _).alloc (by simp) _
      have hP := build_any _ _ 1 1 spNm _ spPn _ spPf (sp_at w2) sp_small
      have HAL := Lib.hid hal
      clear hal
      refine hP.mono ?_
      clear hP
      rintro e w5 ⟨v5, rfl, ho5, hb5⟩
      rw [sp_file.1]
      rw [sp_l] at ho5
      obtain ⟨A5, c5, hv5, -, -⟩ := own_form ho5
      subst hv5
      have H5 := Lib.hid (H2.out.trans ((HAL.out.trans (hb5.mono HAL.out.size)).mono H2.out.size))
      clear ho5 hb5
      go_wp2_with fail
      go_ret
      exact ⟨rfl, H5.out⟩
    · rw [hg0]
      obtain ⟨L, hL⟩ : ∃ L, L = (sB nm pf pn k).1 := ⟨_, rfl⟩
      rw [← hL] at ho2 hFl
      obtain ⟨ll, hll⟩ : ∃ ll, ll = L.length := ⟨_, rfl⟩
      rw [← hll] at ho2
      have hll0 : 22 ≤ ll ∧ ll ≤ 1048576 := by have h1 := hFl.fl; have h2 := hFl.len; have h3 := F.sealL_length 5 (sF nm pf pn k k); omega
      obtain ⟨A2, c2, hv2, -, hA2⟩ := own_form ho2
      subst hv2
      obtain ⟨gA, rfl, hgA, hgl⟩ := hA2 (by omega)
      have hcap2 := V.own_cap ho2
      have hw2 := HB.out.1.trans (hb2.mono HB.out.1.size)
      have hLb := hFl.byte
      have H2 := Lib.hid (And.intro hw2 (And.intro (own_base ho2 HB.out.1.size) (And.intro hBt (And.intro hFl (And.intro (show w.heap.size ≤ gA from Nat.le_trans HB.out.1.size hgA) (And.intro hLb (And.intro hll.symm hcap2)))))))
      obtain ⟨r, p, hr, hr1, hr2, hp, hpL⟩ := mod_in at_ (8 * ll) (by omega)
      rw [show ((8 * ll : Nat) : Int) = 8 * (ll : Int) by omega] at hr hr1 hr2 hp
      have e4 : ((8 * (ll : Int)) == 0) = false := by simp; omega
      have e5 : ¬ 8 * (ll : Int) = 0 := by omega
      have e6 : ((ll : Int) == 0) = false := by simp; omega
      obtain ⟨fs, hfs⟩ : ∃ fs, fs = allFr nm pf pn k := ⟨_, rfl⟩
      have hff : fs.flatten = L := by rw [hfs]; exact allFr_flat hFl
      have hfr : ∀ x ∈ fs, IsFr x := by rw [hfs]; exact allFr_fr hFl hBt
      have HFr := Lib.hid (And.intro hff (And.intro hfr hfs))
      clear ho2 hb2 hcap2 hw2 hBt hFl hL hll hg0 hA2 hgl hgA hLb hff hfr hfs
      go_wp2_with fail
      clear e4 e5 e6 hr hr1 hr2 hp
      go_loopw [12] (fun ev wr => ∃ q, q ≤ fs.length ∧ ev = .int .i64 ((fs.take q).flatten.length : Nat) ∧ (q = 0 ∨ 8 * (fs.take (q - 1)).flatten.length ≤ p) ∧ Below w2.heap.size w2 wr) (fun ev _ => ll - (intOf ev).toNat)
      case atStart => exact ⟨0, by omega, rfl, .inl rfl, Below.refl _ _⟩
      case round =>
        obtain ⟨q, hq, rfl, hqp, hbq⟩ := hrel
        obtain ⟨en, hen⟩ : ∃ en, en = (fs.take q).flatten.length := ⟨_, rfl⟩
        rw [← hen]
        have henl : en ≤ ll := by
          have h1 := fr_mono fs hq
          rw [List.take_length, HFr.out.1, H2.out.2.2.2.2.2.2.1, ← hen] at h1
          exact h1
        by_cases hgo : 8 * en ≤ p
        · have hql : q < fs.length := by
            rcases Nat.lt_or_ge q fs.length with h1 | h1
            · exact h1
            · exfalso
              rw [List.take_of_length_le h1, HFr.out.1, H2.out.2.2.2.2.2.2.1] at hen
              omega
          obtain ⟨c1, c2'⟩ := fr_cut hql
          have hfl := fr_len (HFr.out.2.1 _ (List.getElem_mem hql))
          obtain ⟨fr, hfre⟩ : ∃ fr, fr = fs[q] := ⟨_, rfl⟩
          rw [← hfre] at c1 c2' hfl
          obtain ⟨n1, hn1⟩ : ∃ n1, n1 = fr.length := ⟨_, rfl⟩
          rw [← hn1] at hfl
          have hnx : (fs.take (q + 1)).flatten.length = en + n1 := by rw [c2', List.length_append, ← hen, ← hn1]
          have hnl : en + n1 ≤ ll := by
            have h1 := fr_mono fs (show q + 1 ≤ fs.length by omega)
            rw [List.take_length, HFr.out.1, H2.out.2.2.2.2.2.2.1, hnx] at h1
            exact h1
          have hcell : ∀ j, j < n1 → w2.cell? ⟨gA, en + j, none⟩ = some (.int .u8 ((fr.getD j 0 : Nat) : Int)) := fun j hj => by
            have h1 := V.ow_sl H2.out.2.1
            obtain ⟨b', o', e', -, hc⟩ := h1 (by omega)
            simp only [Option.some.injEq, Addr.mk.injEq] at e'
            obtain ⟨rfl, rfl, -⟩ := e'
            have h2 := hc (en + j) (by omega)
            rw [Nat.zero_add] at h2
            rw [h2]
            unfold byteC
            rw [← HFr.out.1, c1, hen, getD_mid (by omega)]
          obtain ⟨b1, hb1⟩ : ∃ b1, b1 = fr.getD 1 0 := ⟨_, rfl⟩
          obtain ⟨b2, hb2⟩ : ∃ b2, b2 = fr.getD 2 0 := ⟨_, rfl⟩
          obtain ⟨b3, hb3⟩ : ∃ b3, b3 = fr.getD 3 0 := ⟨_, rfl⟩
          have q1 : wr.cell? ⟨gA, en + 1, none⟩ = some (.int .u8 (b1 : Nat)) := by rw [hb1]; exact (hbq.cell (by exact World.block_lt_of_cell? w2 _ (hcell 1 (by omega)))).trans (hcell 1 (by omega))
          have q2 : wr.cell? ⟨gA, en + 2, none⟩ = some (.int .u8 (b2 : Nat)) := by rw [hb2]; exact (hbq.cell (by exact World.block_lt_of_cell? w2 _ (hcell 2 (by omega)))).trans (hcell 2 (by omega))
          have q3 : wr.cell? ⟨gA, en + 3, none⟩ = some (.int .u8 (b3 : Nat)) := by rw [hb3]; exact (hbq.cell (by exact World.block_lt_of_cell? w2 _ (hcell 3 (by omega)))).trans (hcell 3 (by omega))
          have l1 : b1 < 256 := by rw [hb1]; exact V.getD_all_lt hfl.2.1 1
          have l2 : b2 < 256 := by rw [hb2]; exact V.getD_all_lt hfl.2.1 2
          have l3 : b3 < 256 := by rw [hb3]; exact V.getD_all_lt hfl.2.1 3
          have hlong : n1 = 9 + b1 + b2 * 256 + b3 * 65536 := by rw [hb1, hb2, hb3]; exact hfl.2.2.2
          have hn9 := hfl.1
          have HQ := Lib.hid (And.intro hen (And.intro hqp (And.intro hbq (And.intro hnx (And.intro (And.intro q1 (And.intro q2 q3)) hlong)))))
          clear hen hqp hbq hnx hcell hb1 hb2 hb3 hfl c1 c2' hfre hn1 q1 q2 q3 hlong
          have hgo' : (en : Int) * 8 ≤ (p : Int) := by omega
          have d0 : decide ((en : Int) * 8 ≤ (p : Int)) = true := by simp; omega
          obtain ⟨e1, he1⟩ : ∃ e1, e1 = en + 1 := ⟨_, rfl⟩
          obtain ⟨e2, he2⟩ : ∃ e2, e2 = en + 2 := ⟨_, rfl⟩
          obtain ⟨e3, he3⟩ : ∃ e3, e3 = en + 3 := ⟨_, rfl⟩
          have kw1 : IntKind.i64.wrap ((en : Int) + 1) = (e1 : Int) := by rw [IntWalk.i64_in _ (by omega)]; omega
          have kw2 : IntKind.i64.wrap ((en : Int) + 2) = (e2 : Int) := by rw [IntWalk.i64_in _ (by omega)]; omega
          have kw3 : IntKind.i64.wrap ((en : Int) + 3) = (e3 : Int) := by rw [IntWalk.i64_in _ (by omega)]; omega
          have i1 : (e1 : Int) < (ll : Int) := by omega
          have i2 : (e2 : Int) < (ll : Int) := by omega
          have i3 : (e3 : Int) < (ll : Int) := by omega
          have HQ2 := HQ.out.2.2.2.2.1
          rw [← he1, ← he2, ← he3] at HQ2
          have HQ3 := Lib.hid HQ2
          clear HQ2 he1 he2 he3
          go_upto_region 13 with (fail)
          have hS : (fun wx => wx = wr.drew) wr.drew := rfl
          have hS : (fun wx => wx = wr.drew) (wr.drew) := hS
          refine reg_start (fun wx => wx = wr.drew) (by kernel_rfl) hS ?_
          refine reg_take (i := 0) (v := ?_) rfl (by kernel_rfl) (by kernel_rfl) (by kernel_rfl) (fun _ _ _ h => h) (Or.inl ⟨by kernel_rfl, ?_⟩) hS ?_
          rotate_left
          · (intro w' hSw; obtain rfl := hSw; have u1 : wr.drew.cell? ⟨gA, e1, none⟩ = some (.int .u8 (b1 : Nat)) := HQ3.out.1; have u2 : wr.drew.cell? ⟨gA, e2, none⟩ = some (.int .u8 (b2 : Nat)) := HQ3.out.2.1; have u3 : wr.drew.cell? ⟨gA, e3, none⟩ = some (.int .u8 (b3 : Nat)) := HQ3.out.2.2; go_simp <;> with_reducible rfl)
          try simp only [List.getElem_toArray, List.getElem_cons_succ, List.getElem_cons_zero, Act.put, List.setIfInBounds_toArray, List.set_cons_zero, List.set_cons_succ]
          refine reg_take (i := 1) (v := ?_) rfl (by kernel_rfl) (by kernel_rfl) (by kernel_rfl) (fun _ _ _ h => h) (Or.inl ⟨by kernel_rfl, ?_⟩) hS ?_
          rotate_left
          · (intro w' hSw; obtain rfl := hSw; have u1 : wr.drew.cell? ⟨gA, e1, none⟩ = some (.int .u8 (b1 : Nat)) := HQ3.out.1; have u2 : wr.drew.cell? ⟨gA, e2, none⟩ = some (.int .u8 (b2 : Nat)) := HQ3.out.2.1; have u3 : wr.drew.cell? ⟨gA, e3, none⟩ = some (.int .u8 (b3 : Nat)) := HQ3.out.2.2; go_simp <;> with_reducible rfl)
          try simp only [List.getElem_toArray, List.getElem_cons_succ, List.getElem_cons_zero, Act.put, List.setIfInBounds_toArray, List.set_cons_zero, List.set_cons_succ]
          refine reg_take (i := 2) (v := ?_) rfl (by kernel_rfl) (by kernel_rfl) (by kernel_rfl) (fun _ _ _ h => h) (Or.inl ⟨by kernel_rfl, ?_⟩) hS ?_
          rotate_left
          · (intro w' hSw; obtain rfl := hSw; have u1 : wr.drew.cell? ⟨gA, e1, none⟩ = some (.int .u8 (b1 : Nat)) := HQ3.out.1; have u2 : wr.drew.cell? ⟨gA, e2, none⟩ = some (.int .u8 (b2 : Nat)) := HQ3.out.2.1; have u3 : wr.drew.cell? ⟨gA, e3, none⟩ = some (.int .u8 (b3 : Nat)) := HQ3.out.2.2; go_simp <;> with_reducible rfl)
          try simp only [List.getElem_toArray, List.getElem_cons_succ, List.getElem_cons_zero, Act.put, List.setIfInBounds_toArray, List.set_cons_zero, List.set_cons_succ]
          refine reg_take (i := 3) (v := ?_) rfl (by kernel_rfl) (by kernel_rfl) (by kernel_rfl) (fun _ _ _ h => h) (Or.inl ⟨by kernel_rfl, ?_⟩) hS ?_
          rotate_left
          · (intro w' hSw; obtain rfl := hSw; have u1 : wr.drew.cell? ⟨gA, e1, none⟩ = some (.int .u8 (b1 : Nat)) := HQ3.out.1; have u2 : wr.drew.cell? ⟨gA, e2, none⟩ = some (.int .u8 (b2 : Nat)) := HQ3.out.2.1; have u3 : wr.drew.cell? ⟨gA, e3, none⟩ = some (.int .u8 (b3 : Nat)) := HQ3.out.2.2; go_simp <;> with_reducible rfl)
          try simp only [List.getElem_toArray, List.getElem_cons_succ, List.getElem_cons_zero, Act.put, List.setIfInBounds_toArray, List.set_cons_zero, List.set_cons_succ]
          refine reg_take (i := 4) (v := ?_) rfl (by kernel_rfl) (by kernel_rfl) (by kernel_rfl) (fun _ _ _ h => h) (Or.inl ⟨by kernel_rfl, ?_⟩) hS ?_
          rotate_left
          · (intro w' hSw; obtain rfl := hSw; have u1 : wr.drew.cell? ⟨gA, e1, none⟩ = some (.int .u8 (b1 : Nat)) := HQ3.out.1; have u2 : wr.drew.cell? ⟨gA, e2, none⟩ = some (.int .u8 (b2 : Nat)) := HQ3.out.2.1; have u3 : wr.drew.cell? ⟨gA, e3, none⟩ = some (.int .u8 (b3 : Nat)) := HQ3.out.2.2; go_simp <;> with_reducible rfl)
          try simp only [List.getElem_toArray, List.getElem_cons_succ, List.getElem_cons_zero, Act.put, List.setIfInBounds_toArray, List.set_cons_zero, List.set_cons_succ]
          refine reg_take (i := 5) (v := ?_) rfl (by kernel_rfl) (by kernel_rfl) (by kernel_rfl) (fun _ _ _ h => h) (Or.inl ⟨by kernel_rfl, ?_⟩) hS ?_
          rotate_left
          · (intro w' hSw; obtain rfl := hSw; have u1 : wr.drew.cell? ⟨gA, e1, none⟩ = some (.int .u8 (b1 : Nat)) := HQ3.out.1; have u2 : wr.drew.cell? ⟨gA, e2, none⟩ = some (.int .u8 (b2 : Nat)) := HQ3.out.2.1; have u3 : wr.drew.cell? ⟨gA, e3, none⟩ = some (.int .u8 (b3 : Nat)) := HQ3.out.2.2; go_simp <;> with_reducible rfl)
          try simp only [List.getElem_toArray, List.getElem_cons_succ, List.getElem_cons_zero, Act.put, List.setIfInBounds_toArray, List.set_cons_zero, List.set_cons_succ]
          refine reg_take (i := 6) (v := ?_) rfl (by kernel_rfl) (by kernel_rfl) (by kernel_rfl) (fun _ _ _ h => h) (Or.inl ⟨by kernel_rfl, ?_⟩) hS ?_
          rotate_left
          · (intro w' hSw; obtain rfl := hSw; have u1 : wr.drew.cell? ⟨gA, e1, none⟩ = some (.int .u8 (b1 : Nat)) := HQ3.out.1; have u2 : wr.drew.cell? ⟨gA, e2, none⟩ = some (.int .u8 (b2 : Nat)) := HQ3.out.2.1; have u3 : wr.drew.cell? ⟨gA, e3, none⟩ = some (.int .u8 (b3 : Nat)) := HQ3.out.2.2; go_simp <;> with_reducible rfl)
          try simp only [List.getElem_toArray, List.getElem_cons_succ, List.getElem_cons_zero, Act.put, List.setIfInBounds_toArray, List.set_cons_zero, List.set_cons_succ]
          refine reg_take (i := 7) (v := ?_) rfl (by kernel_rfl) (by kernel_rfl) (by kernel_rfl) (fun _ _ _ h => h) (Or.inl ⟨by kernel_rfl, ?_⟩) hS ?_
          rotate_left
          · (intro w' hSw; obtain rfl := hSw; have u1 : wr.drew.cell? ⟨gA, e1, none⟩ = some (.int .u8 (b1 : Nat)) := HQ3.out.1; have u2 : wr.drew.cell? ⟨gA, e2, none⟩ = some (.int .u8 (b2 : Nat)) := HQ3.out.2.1; have u3 : wr.drew.cell? ⟨gA, e3, none⟩ = some (.int .u8 (b3 : Nat)) := HQ3.out.2.2; go_simp <;> with_reducible rfl)
          try simp only [List.getElem_toArray, List.getElem_cons_succ, List.getElem_cons_zero, Act.put, List.setIfInBounds_toArray, List.set_cons_zero, List.set_cons_succ]
          refine reg_take (i := 8) (v := ?_) rfl (by kernel_rfl) (by kernel_rfl) (by kernel_rfl) (fun _ _ _ h => h) (Or.inl ⟨by kernel_rfl, ?_⟩) hS ?_
          rotate_left
          · (intro w' hSw; obtain rfl := hSw; have u1 : wr.drew.cell? ⟨gA, e1, none⟩ = some (.int .u8 (b1 : Nat)) := HQ3.out.1; have u2 : wr.drew.cell? ⟨gA, e2, none⟩ = some (.int .u8 (b2 : Nat)) := HQ3.out.2.1; have u3 : wr.drew.cell? ⟨gA, e3, none⟩ = some (.int .u8 (b3 : Nat)) := HQ3.out.2.2; go_simp <;> with_reducible rfl)
          try simp only [List.getElem_toArray, List.getElem_cons_succ, List.getElem_cons_zero, Act.put, List.setIfInBounds_toArray, List.set_cons_zero, List.set_cons_succ]
          refine reg_take (i := 9) (v := ?_) rfl (by kernel_rfl) (by kernel_rfl) (by kernel_rfl) (fun _ _ _ h => h) (Or.inl ⟨by kernel_rfl, ?_⟩) hS ?_
          rotate_left
          · (intro w' hSw; obtain rfl := hSw; have u1 : wr.drew.cell? ⟨gA, e1, none⟩ = some (.int .u8 (b1 : Nat)) := HQ3.out.1; have u2 : wr.drew.cell? ⟨gA, e2, none⟩ = some (.int .u8 (b2 : Nat)) := HQ3.out.2.1; have u3 : wr.drew.cell? ⟨gA, e3, none⟩ = some (.int .u8 (b3 : Nat)) := HQ3.out.2.2; go_simp <;> with_reducible rfl)
          try simp only [List.getElem_toArray, List.getElem_cons_succ, List.getElem_cons_zero, Act.put, List.setIfInBounds_toArray, List.set_cons_zero, List.set_cons_succ]
          refine reg_take (i := 10) (v := ?_) rfl (by kernel_rfl) (by kernel_rfl) (by kernel_rfl) (fun _ _ _ h => h) (Or.inl ⟨by kernel_rfl, ?_⟩) hS ?_
          rotate_left
          · (intro w' hSw; obtain rfl := hSw; have u1 : wr.drew.cell? ⟨gA, e1, none⟩ = some (.int .u8 (b1 : Nat)) := HQ3.out.1; have u2 : wr.drew.cell? ⟨gA, e2, none⟩ = some (.int .u8 (b2 : Nat)) := HQ3.out.2.1; have u3 : wr.drew.cell? ⟨gA, e3, none⟩ = some (.int .u8 (b3 : Nat)) := HQ3.out.2.2; go_simp <;> with_reducible rfl)
          try simp only [List.getElem_toArray, List.getElem_cons_succ, List.getElem_cons_zero, Act.put, List.setIfInBounds_toArray, List.set_cons_zero, List.set_cons_succ]
          refine reg_take (i := 11) (v := ?_) rfl (by kernel_rfl) (by kernel_rfl) (by kernel_rfl) (fun _ _ _ h => h) (Or.inl ⟨by kernel_rfl, ?_⟩) hS ?_
          rotate_left
          · (intro w' hSw; obtain rfl := hSw; have u1 : wr.drew.cell? ⟨gA, e1, none⟩ = some (.int .u8 (b1 : Nat)) := HQ3.out.1; have u2 : wr.drew.cell? ⟨gA, e2, none⟩ = some (.int .u8 (b2 : Nat)) := HQ3.out.2.1; have u3 : wr.drew.cell? ⟨gA, e3, none⟩ = some (.int .u8 (b3 : Nat)) := HQ3.out.2.2; go_simp <;> with_reducible rfl)
          try simp only [List.getElem_toArray, List.getElem_cons_succ, List.getElem_cons_zero, Act.put, List.setIfInBounds_toArray, List.set_cons_zero, List.set_cons_succ]
          refine reg_take (i := 12) (v := ?_) rfl (by kernel_rfl) (by kernel_rfl) (by kernel_rfl) (fun _ _ _ h => h) (Or.inl ⟨by kernel_rfl, ?_⟩) hS ?_
          rotate_left
          · (intro w' hSw; obtain rfl := hSw; have u1 : wr.drew.cell? ⟨gA, e1, none⟩ = some (.int .u8 (b1 : Nat)) := HQ3.out.1; have u2 : wr.drew.cell? ⟨gA, e2, none⟩ = some (.int .u8 (b2 : Nat)) := HQ3.out.2.1; have u3 : wr.drew.cell? ⟨gA, e3, none⟩ = some (.int .u8 (b3 : Nat)) := HQ3.out.2.2; go_simp <;> with_reducible rfl)
          try simp only [List.getElem_toArray, List.getElem_cons_succ, List.getElem_cons_zero, Act.put, List.setIfInBounds_toArray, List.set_cons_zero, List.set_cons_succ]
          refine reg_take (i := 13) (v := ?_) rfl (by kernel_rfl) (by kernel_rfl) (by kernel_rfl) (fun _ _ _ h => h) (Or.inl ⟨by kernel_rfl, ?_⟩) hS ?_
          rotate_left
          · (intro w' hSw; obtain rfl := hSw; have u1 : wr.drew.cell? ⟨gA, e1, none⟩ = some (.int .u8 (b1 : Nat)) := HQ3.out.1; have u2 : wr.drew.cell? ⟨gA, e2, none⟩ = some (.int .u8 (b2 : Nat)) := HQ3.out.2.1; have u3 : wr.drew.cell? ⟨gA, e3, none⟩ = some (.int .u8 (b3 : Nat)) := HQ3.out.2.2; go_simp <;> with_reducible rfl)
          try simp only [List.getElem_toArray, List.getElem_cons_succ, List.getElem_cons_zero, Act.put, List.setIfInBounds_toArray, List.set_cons_zero, List.set_cons_succ]
          refine reg_take (i := 14) (v := ?_) rfl (by kernel_rfl) (by kernel_rfl) (by kernel_rfl) (fun _ _ _ h => h) (Or.inl ⟨by kernel_rfl, ?_⟩) hS ?_
          rotate_left
          · (intro w' hSw; obtain rfl := hSw; have u1 : wr.drew.cell? ⟨gA, e1, none⟩ = some (.int .u8 (b1 : Nat)) := HQ3.out.1; have u2 : wr.drew.cell? ⟨gA, e2, none⟩ = some (.int .u8 (b2 : Nat)) := HQ3.out.2.1; have u3 : wr.drew.cell? ⟨gA, e3, none⟩ = some (.int .u8 (b3 : Nat)) := HQ3.out.2.2; go_simp <;> with_reducible rfl)
          try simp only [List.getElem_toArray, List.getElem_cons_succ, List.getElem_cons_zero, Act.put, List.setIfInBounds_toArray, List.set_cons_zero, List.set_cons_succ]
          refine reg_take (i := 15) (v := ?_) rfl (by kernel_rfl) (by kernel_rfl) (by kernel_rfl) (fun _ _ _ h => h) (Or.inl ⟨by kernel_rfl, ?_⟩) hS ?_
          rotate_left
          · (intro w' hSw; obtain rfl := hSw; have u1 : wr.drew.cell? ⟨gA, e1, none⟩ = some (.int .u8 (b1 : Nat)) := HQ3.out.1; have u2 : wr.drew.cell? ⟨gA, e2, none⟩ = some (.int .u8 (b2 : Nat)) := HQ3.out.2.1; have u3 : wr.drew.cell? ⟨gA, e3, none⟩ = some (.int .u8 (b3 : Nat)) := HQ3.out.2.2; go_simp <;> with_reducible rfl)
          try simp only [List.getElem_toArray, List.getElem_cons_succ, List.getElem_cons_zero, Act.put, List.setIfInBounds_toArray, List.set_cons_zero, List.set_cons_succ]
          refine reg_take (i := 16) (v := ?_) rfl (by kernel_rfl) (by kernel_rfl) (by kernel_rfl) (fun _ _ _ h => h) (Or.inl ⟨by kernel_rfl, ?_⟩) hS ?_
          rotate_left
          · (intro w' hSw; obtain rfl := hSw; have u1 : wr.drew.cell? ⟨gA, e1, none⟩ = some (.int .u8 (b1 : Nat)) := HQ3.out.1; have u2 : wr.drew.cell? ⟨gA, e2, none⟩ = some (.int .u8 (b2 : Nat)) := HQ3.out.2.1; have u3 : wr.drew.cell? ⟨gA, e3, none⟩ = some (.int .u8 (b3 : Nat)) := HQ3.out.2.2; go_simp <;> with_reducible rfl)
          try simp only [List.getElem_toArray, List.getElem_cons_succ, List.getElem_cons_zero, Act.put, List.setIfInBounds_toArray, List.set_cons_zero, List.set_cons_succ]
          refine reg_take (i := 17) (v := ?_) rfl (by kernel_rfl) (by kernel_rfl) (by kernel_rfl) (fun _ _ _ h => h) (Or.inl ⟨by kernel_rfl, ?_⟩) hS ?_
          rotate_left
          · (intro w' hSw; obtain rfl := hSw; have u1 : wr.drew.cell? ⟨gA, e1, none⟩ = some (.int .u8 (b1 : Nat)) := HQ3.out.1; have u2 : wr.drew.cell? ⟨gA, e2, none⟩ = some (.int .u8 (b2 : Nat)) := HQ3.out.2.1; have u3 : wr.drew.cell? ⟨gA, e3, none⟩ = some (.int .u8 (b3 : Nat)) := HQ3.out.2.2; go_simp <;> with_reducible rfl)
          try simp only [List.getElem_toArray, List.getElem_cons_succ, List.getElem_cons_zero, Act.put, List.setIfInBounds_toArray, List.set_cons_zero, List.set_cons_succ]
          refine reg_take (i := 18) (v := ?_) rfl (by kernel_rfl) (by kernel_rfl) (by kernel_rfl) (fun _ _ _ h => h) (Or.inl ⟨by kernel_rfl, ?_⟩) hS ?_
          rotate_left
          · (intro w' hSw; obtain rfl := hSw; have u1 : wr.drew.cell? ⟨gA, e1, none⟩ = some (.int .u8 (b1 : Nat)) := HQ3.out.1; have u2 : wr.drew.cell? ⟨gA, e2, none⟩ = some (.int .u8 (b2 : Nat)) := HQ3.out.2.1; have u3 : wr.drew.cell? ⟨gA, e3, none⟩ = some (.int .u8 (b3 : Nat)) := HQ3.out.2.2; go_simp <;> with_reducible rfl)
          try simp only [List.getElem_toArray, List.getElem_cons_succ, List.getElem_cons_zero, Act.put, List.setIfInBounds_toArray, List.set_cons_zero, List.set_cons_succ]
          refine reg_take (i := 19) (v := ?_) rfl (by kernel_rfl) (by kernel_rfl) (by kernel_rfl) (fun _ _ _ h => h) (Or.inl ⟨by kernel_rfl, ?_⟩) hS ?_
          rotate_left
          · (intro w' hSw; obtain rfl := hSw; have u1 : wr.drew.cell? ⟨gA, e1, none⟩ = some (.int .u8 (b1 : Nat)) := HQ3.out.1; have u2 : wr.drew.cell? ⟨gA, e2, none⟩ = some (.int .u8 (b2 : Nat)) := HQ3.out.2.1; have u3 : wr.drew.cell? ⟨gA, e3, none⟩ = some (.int .u8 (b3 : Nat)) := HQ3.out.2.2; go_simp <;> with_reducible rfl)
          try simp only [List.getElem_toArray, List.getElem_cons_succ, List.getElem_cons_zero, Act.put, List.setIfInBounds_toArray, List.set_cons_zero, List.set_cons_succ]
          refine reg_take (i := 20) (v := ?_) rfl (by kernel_rfl) (by kernel_rfl) (by kernel_rfl) (fun _ _ _ h => h) (Or.inl ⟨by kernel_rfl, ?_⟩) hS ?_
          rotate_left
          · (intro w' hSw; obtain rfl := hSw; have u1 : wr.drew.cell? ⟨gA, e1, none⟩ = some (.int .u8 (b1 : Nat)) := HQ3.out.1; have u2 : wr.drew.cell? ⟨gA, e2, none⟩ = some (.int .u8 (b2 : Nat)) := HQ3.out.2.1; have u3 : wr.drew.cell? ⟨gA, e3, none⟩ = some (.int .u8 (b3 : Nat)) := HQ3.out.2.2; go_simp <;> with_reducible rfl)
          try simp only [List.getElem_toArray, List.getElem_cons_succ, List.getElem_cons_zero, Act.put, List.setIfInBounds_toArray, List.set_cons_zero, List.set_cons_succ]
          refine reg_take (i := 21) (v := ?_) rfl (by kernel_rfl) (by kernel_rfl) (by kernel_rfl) (fun _ _ _ h => h) (Or.inl ⟨by kernel_rfl, ?_⟩) hS ?_
          rotate_left
          · (intro w' hSw; obtain rfl := hSw; have u1 : wr.drew.cell? ⟨gA, e1, none⟩ = some (.int .u8 (b1 : Nat)) := HQ3.out.1; have u2 : wr.drew.cell? ⟨gA, e2, none⟩ = some (.int .u8 (b2 : Nat)) := HQ3.out.2.1; have u3 : wr.drew.cell? ⟨gA, e3, none⟩ = some (.int .u8 (b3 : Nat)) := HQ3.out.2.2; go_simp <;> with_reducible rfl)
          try simp only [List.getElem_toArray, List.getElem_cons_succ, List.getElem_cons_zero, Act.put, List.setIfInBounds_toArray, List.set_cons_zero, List.set_cons_succ]
          refine reg_take (i := 22) (v := ?_) rfl (by kernel_rfl) (by kernel_rfl) (by kernel_rfl) (fun _ _ _ h => h) (Or.inl ⟨by kernel_rfl, ?_⟩) hS ?_
          rotate_left
          · (intro w' hSw; obtain rfl := hSw; have u1 : wr.drew.cell? ⟨gA, e1, none⟩ = some (.int .u8 (b1 : Nat)) := HQ3.out.1; have u2 : wr.drew.cell? ⟨gA, e2, none⟩ = some (.int .u8 (b2 : Nat)) := HQ3.out.2.1; have u3 : wr.drew.cell? ⟨gA, e3, none⟩ = some (.int .u8 (b3 : Nat)) := HQ3.out.2.2; go_simp <;> with_reducible rfl)
          try simp only [List.getElem_toArray, List.getElem_cons_succ, List.getElem_cons_zero, Act.put, List.setIfInBounds_toArray, List.set_cons_zero, List.set_cons_succ]
          refine reg_take (i := 23) (v := ?_) rfl (by kernel_rfl) (by kernel_rfl) (by kernel_rfl) (fun _ _ _ h => h) (Or.inl ⟨by kernel_rfl, ?_⟩) hS ?_
          rotate_left
          · (intro w' hSw; obtain rfl := hSw; have u1 : wr.drew.cell? ⟨gA, e1, none⟩ = some (.int .u8 (b1 : Nat)) := HQ3.out.1; have u2 : wr.drew.cell? ⟨gA, e2, none⟩ = some (.int .u8 (b2 : Nat)) := HQ3.out.2.1; have u3 : wr.drew.cell? ⟨gA, e3, none⟩ = some (.int .u8 (b3 : Nat)) := HQ3.out.2.2; go_simp <;> with_reducible rfl)
          try simp only [List.getElem_toArray, List.getElem_cons_succ, List.getElem_cons_zero, Act.put, List.setIfInBounds_toArray, List.set_cons_zero, List.set_cons_succ]
          refine wpAnyH_done (by kernel_rfl) ?_ _
          try simp only [List.getElem_toArray, List.getElem_cons_succ, List.getElem_cons_zero]
          try simp only [List.getElem_toArray, List.getElem_cons_succ, List.getElem_cons_zero, Act.put, List.setIfInBounds_toArray, List.set_cons_zero, List.set_cons_succ]
          clear hS kw1 kw2 kw3 i1 i2 i3
          have hLg : IntKind.i64.wrap (IntKind.i64.wrap (IntKind.i64.wrap (9 + IntKind.i64.wrap (b1 : Int)) + IntKind.i64.wrap (IntKind.i64.wrap (b2 : Int) * 256)) + IntKind.i64.wrap (IntKind.i64.wrap (b3 : Int) * 65536)) = (n1 : Int) := by
            have h6 := HQ.out.2.2.2.2.2
            rw [IntWalk.i64_in (b1 : Int) (by omega), IntWalk.i64_in (b2 : Int) (by omega), IntWalk.i64_in (b3 : Int) (by omega), IntWalk.i64_in (9 + (b1 : Int)) (by omega), IntWalk.i64_in ((b2 : Int) * 256) (by omega), IntWalk.i64_in ((b3 : Int) * 65536) (by omega), IntWalk.i64_in (9 + (b1 : Int) + (b2 : Int) * 256) (by omega), IntWalk.i64_in _ (by omega)]
            omega
          rw [hLg]
          clear hLg d0 hgo'
          have ka : IntKind.i64.wrap ((en : Int) + (n1 : Int)) = ((en + n1 : Nat) : Int) := by rw [IntWalk.i64_in _ (by omega)]; omega
          go_wp2_with fail
          go_roundw
          case rel => exact ⟨q + 1, by omega, by rw [HQ.out.2.2.2.1, Int.natCast_add], .inr (by rw [Nat.add_sub_cancel, ← HQ.out.1]; exact hgo), HQ.out.2.2.1.drew⟩
          case measure => simp [intOf] <;> omega
        · have hq1 : 1 ≤ q := by
            rcases Nat.eq_zero_or_pos q with h0 | h0
            · subst h0
              have e0 : en = 0 := hen
              omega
            · exact h0
          have hq0 := hqp.resolve_left (by omega)
          have hqn : q - 1 < fs.length := by omega
          have hT : ∀ i, i ≤ 32 → p + i ≤ 8 * en → Turned (F.flipL L p bb i) (bb % 2 ^ i) nm pf pn k := fun i hi hpi => by
            have h1 := hqn
            have h2 := hq0
            rw [hen, show q = q - 1 + 1 by omega] at hpi
            rw [HFr.out.2.2] at h1 h2 hpi
            exact turned_any H2.out.2.2.2.1 H2.out.2.2.1 h1 h2 hpi hi
          have hgt : p < 8 * en := by omega
          have hrow0 := V.own_later H2.out.2.1 hbq
          have HT := Lib.hid (And.intro hT (And.intro hbq hrow0))
          clear hT hbq hrow0 hqp hq0 hqn hen
          have d0 : decide ((en : Int) * 8 ≤ (p : Int)) = false := by simp; omega
          go_wp2_with fail
          clear d0
          go_loopw [14] (fun iv wq => ∃ x : Nat, x ≤ 32 ∧ p + x ≤ 8 * en ∧ iv = .int .i64 (x : Nat) ∧ wq.ownsRow w.heap.size 5 1 (.slice (some ⟨gA, 0, none⟩) ll c2) ll ((F.flipL L p bb x).map V.byteV) ∧ Below w.heap.size w wq) (fun iv _ => 32 - (intOf iv).toNat)
          case atStart => exact ⟨0, by omega, by omega, rfl, HT.out.2.2, H2.out.1.trans (HT.out.2.1.mono H2.out.1.size)⟩
          case round =>
            obtain ⟨x, hx32, hpx, rfl, hor, hkr⟩ := hrel
            by_cases hgo2 : x < 32 ∧ p + x < 8 * en
            · obtain ⟨hxx, hpx2⟩ := hgo2
              obtain ⟨sx, hsx⟩ : ∃ sx, sx = p + x := ⟨_, rfl⟩
              obtain ⟨qx, hqx⟩ : ∃ qx, qx = sx / 8 := ⟨_, rfl⟩
              obtain ⟨rx, hrx⟩ : ∃ rx, rx = sx % 8 := ⟨_, rfl⟩
              have hqm : qx < ll := by omega
              have hr8 : rx < 8 := by omega
              have hfl := F.flipL_length L p bb x
              rw [H2.out.2.2.2.2.2.2.1] at hfl
              have hfb := F.flipL_byte H2.out.2.2.2.2.2.1 p bb x
              obtain ⟨T, hTe⟩ : ∃ T, T = F.flipL L p bb x := ⟨_, rfl⟩
              rw [← hTe] at hor hfl hfb
              obtain ⟨xb, hxb⟩ : ∃ xb, xb = T.getD qx 0 := ⟨_, rfl⟩
              have hxbb : xb < 256 := by rw [hxb]; exact F.getD_of_mem hfb qx
              have ck : wr.cell? ⟨gA, qx, none⟩ = some (.int .u8 (xb : Nat)) := by
                rw [hor.cellAt qx (by omega), List.getElem?_map, List.getElem?_eq_getElem (by omega), hxb, List.getD_eq_getElem?_getD, List.getElem?_eq_getElem (by omega)]
                rfl
              have fk := hor.frozenAt qx
              have hst := (hor.stored qx (V.byteV (xb ^^^ 2 ^ rx))).1
              have hrow : (T.map V.byteV).set qx (V.byteV (xb ^^^ 2 ^ rx)) = (T.set qx (xb ^^^ 2 ^ rx)).map V.byteV := by rw [List.map_set]
              rw [hrow] at hst
              have hks := hkr.setCell (p := ⟨gA, qx, none⟩) H2.out.2.2.2.2.1 (V.byteV (xb ^^^ 2 ^ rx))
              have hfs : F.flipL L p bb (x + 1) = if bb / 2 ^ x % 2 = 1 then T.set qx (xb ^^^ 2 ^ rx) else T := by
                rw [hxb, hTe, hrx, hqx, hsx]; rfl
              have e5 : (p : Int) + (x : Int) = (sx : Int) := by omega
              have e6 : (sx : Int) / 8 = (qx : Int) := by omega
              have e7 : (sx : Int) % 8 = (rx : Int) := by omega
              have e8 := and_one_u32s bb x hb32
              have hbt : bb / 2 ^ x % 2 < 2 := Nat.mod_lt _ (by omega)
              obtain ⟨bt, hbtt⟩ : ∃ bt, bt = bb / 2 ^ x % 2 := ⟨_, rfl⟩
              rw [← hbtt] at e8 hbt hfs
              have hsm : sx < 8 * en := by omega
              have HK := Lib.hid (And.intro hor (And.intro hkr (And.intro hst (And.intro hks hfs))))
              clear hor hkr hst hks hfs hTe hfl hfb hxb hqx hrx hrow hbtt hsx
              have d1 : decide ((sx : Int) < 8 * (en : Int)) = true := by simp; omega
              rcases (show bt = 0 ∨ bt = 1 by omega) with hb0 | hb0
              · subst hb0
                rw [show ((0 : Nat) : Int) = 0 from rfl] at e8
                go_wp2_with fail
                clear e5 e6 e7 e8
                go_roundw
                case rel =>
                  obtain ⟨hor, hkr, hst, hks, hfs⟩ := HK.out
                  rw [if_neg (by omega)] at hfs
                  exact ⟨x + 1, by omega, by omega, by go_num, by rw [hfs]; exact hor, hkr⟩
                case measure => simp [intOf]; omega
              · subst hb0
                rw [show ((1 : Nat) : Int) = 1 from rfl] at e8
                go_wp2_with fail
                clear e5 e6 e7 e8
                go_roundw
                case rel =>
                  obtain ⟨hor, hkr, hst, hks, hfs⟩ := HK.out
                  rw [if_pos (by trivial)] at hfs
                  have h28 : (2 : Nat) ^ rx ≤ 2 ^ 7 := Nat.pow_le_pow_right (by omega) (by omega)
                  have ex : bits .xor .u8 (xb : Int) (2 ^ rx % 256) = ((xb ^^^ 2 ^ rx : Nat) : Int) := by
                    rw [pow_castS]
                    generalize (2 : Nat) ^ rx = t at h28 ⊢
                    rw [show (t : Int) % 256 = (t : Int) by omega, u8_xor_nat _ _ hxbb (by omega)]
                  rw [ex]
                  exact ⟨x + 1, by omega, by omega, by go_num, by rw [hfs]; exact hst, hks⟩
                case measure => simp [intOf]; omega
            · have hfl := F.flipL_length L p bb x
              rw [H2.out.2.2.2.2.2.2.1] at hfl
              have hfb := F.flipL_byte H2.out.2.2.2.2.2.1 p bb x
              have hTu := HT.out.1 x hx32 hpx
              obtain ⟨T, hTe⟩ : ∃ T, T = F.flipL L p bb x := ⟨_, rfl⟩
              rw [← hTe] at hor hfl hfb hTu
              obtain ⟨y, hy⟩ : ∃ y, y = bb % 2 ^ x := ⟨_, rfl⟩
              rw [← hy] at hTu
              have hy0 : y ≠ 0 → bb ≠ 0 := fun h h0 => h (by rw [hy, h0]; simp)
              have hs9 := V.ow_sl hor
              have HK := Lib.hid (And.intro hs9 (And.intro hkr (And.intro hfl (And.intro (getD_of hfb) (And.intro hTu (And.intro hy0 (HV.out.below hkr)))))))
              clear hor hkr hfl hfb hTe hy hTu hy0 hs9
              by_cases hx3 : x < 32
              · have hpm : p + x = 8 * en := by omega
                have d1 : decide ((p : Int) + (x : Int) < 8 * (en : Int)) = false := by simp; omega
                clear hpm hgo2
                rcases HK.out.2.2.2.2.1 with ⟨O, hFlO, hG⟩ | ⟨hy, hBad⟩
                · have hopen := open_ok wr (some ⟨gA, 0, none⟩) ll c2 T O nm pf pn k hFlO H2.out.2.2.1 HK.out.2.2.1 HK.out.1 H2.out.2.2.2.2.2.2.2.1 H2.out.2.2.2.2.2.2.2.2 HK.out.2.2.2.2.2.2
                  have hO20 : O.length ≤ 1048576 := by have h1 := hFlO.fl; have h2 := hFlO.len; omega
                  have HO := Lib.hid (And.intro hopen (And.intro hFlO (And.intro hO20 hG)))
                  clear hopen hFlO hO20 hG
                  go_wp2_with fail
                  refine HO.out.1.mono ?_
                  rintro e w3 ⟨ps, M, o, Ab, cb, cn, VS, rfl, hseg, hb3⟩
                  have H3 := Lib.hid (And.intro hseg (HK.out.2.1.trans (hb3.mono HK.out.2.1.size)))
                  clear hseg hb3
                  go_wp2_with fail
                  go_loopw [16] (fun iv wq => ∃ i, i ≤ k ∧ iv = .int .i64 (i : Nat) ∧ Below w3.heap.size w3 wq) (fun iv _ => k - (intOf iv).toNat)
                  case atStart => exact ⟨0, by omega, rfl, Below.refl _ _⟩
                  case round =>
                    obtain ⟨i, hi, rfl, hb⟩ := hrel
                    by_cases hlt : i < k
                    · have hik : (i : Int) < (k : Int) := by omega
                      have hw := H3.out.2.trans (hb.mono H3.out.2.size)
                      have hPa := H0.out.1.below hw
                      obtain ⟨b, off, hA, hbl, hcell⟩ := hPa.row (by omega)
                      subst hA
                      obtain ⟨nx, hnx⟩ : ∃ nx, nx = nm i := ⟨_, rfl⟩
                      obtain ⟨n, hn⟩ : ∃ n, n = pn i := ⟨_, rfl⟩
                      obtain ⟨f, hfe⟩ : ∃ f, f = pf i := ⟨_, rfl⟩
                      have c0 : wr.cell? ⟨b, off + i * 2, none⟩ = some (.string nx) := by rw [hnx]; exact (hcell i hlt).1
                      have c1 : ∀ wz, Below wr.heap.size wr wz → wz.cell? ⟨b, off + i * 2 + 1, none⟩ = some (.slice (pa i) n (pc i)) := fun wz hz => by rw [hn]; exact (hz.cell (by exact hbl)).trans (hcell i hlt).2
                      have hn4 : n ≤ 4096 := by rw [hn]; exact H2.out.2.2.1.pb i hlt
                      have hwh : selL f (-4611686018427387904) 4611686018427387904 n = (List.range n).map f := by rw [hn, hfe]; exact selL_whole_t (H2.out.2.2.1.bv hlt)
                      have hpts : Calls Tryz.prog 10 #[.pointer (some ⟨ps, 0, none⟩), .string nx, .int .i64 (-4611686018427387904), .int .i64 4611686018427387904] wr (SPtsPost wr ((List.range n).map f) (y ≠ 0)) := by
                        have h1 := spoints_any wr ps O nm pf pn k M o Ab cb cn VS (H3.out.1.below hb) H2.out.2.2.1 HO.out.2.1.ob HO.out.2.2.1 HO.out.2.1.ol H0.out.1.ok i hlt (fun m hm => (HO.out.2.2.2 i hlt m hm).imp id And.right) (-4611686018427387904) 4611686018427387904 (HV.out.below hw)
                        rw [← hfe, ← hn, hwh, ← hnx] at h1
                        refine h1.mono ?_
                        rintro e w' ⟨hb', hc | ⟨⟨m, hm, hN⟩, he⟩⟩
                        · exact ⟨hb', .inl hc⟩
                        · rcases HO.out.2.2.2 i hlt m (by rw [← hn]; exact hm) with h2 | ⟨h2, -⟩
                          · exact absurd h2 (hN _ _)
                          · exact ⟨hb', .inr ⟨h2, he⟩⟩
                      have hslp : SlP wr (fun q => q < wr.heap.size) (pa i) n f := by rw [hn, hfe]; exact hPa.pts i hlt
                      have HI := Lib.hid (And.intro hb (And.intro hpts (And.intro hslp c1)))
                      clear hb hpts hslp c1 hnx hn hfe hwh hcell hPa hw
                      go_wp2_with fail
                      refine HI.out.2.1.mono ?_
                      rintro e w4 ⟨hb4, (⟨v4, rfl, hr4⟩ | ⟨hyb, rfl⟩)⟩
                      · obtain ⟨A4, c4, hv4, -⟩ := hr4.form
                        subst hv4
                        have hl4 : ((List.range n).map f).length = n := by simp
                        have hsl4 := hr4.sl
                        rw [hl4] at hsl4 ⊢
                        have e : sameL (fun i => ((List.range n).map f).getD i ⟨0, 0, 0⟩) f n n = true := sameL_of rfl fun i hi => getD_range_t hi
                        have hsame := same_any A4 (pa i) n n c4 (pc i) _ _ _ _ w4 hsl4 (HI.out.2.2.1.below hb4) (by omega) (by omega)
                        rw [e] at hsame
                        have u1 := HI.out.2.2.2 w4 hb4
                        have H4 := Lib.hid (And.intro hsame (HI.out.1.trans (hb4.mono HI.out.1.size)))
                        clear hr4 hb4 hl4 hsl4 hsame e
                        go_wp2_with fail
                        refine H4.out.1.mono ?_
                        rintro e w5 ⟨rfl, hb5⟩
                        have H5 := Lib.hid (H4.out.2.trans (hb5.mono H4.out.2.size))
                        clear hb5 u1
                        go_wp2_with fail
                        go_roundw
                        case rel => exact ⟨i + 1, by omega, by go_num, H5.out⟩
                        case measure => simp [intOf] <;> omega
                      · have hbb := HK.out.2.2.2.2.2.1 hyb
                        have e9 : ((bb : Int) == 0) = false := by simp; omega
                        have H4 := Lib.hid (HI.out.1.trans (hb4.mono HI.out.1.size))
                        clear hb4 hyb
                        go_wp2_with fail
                        go_roundw
                        case rel => exact ⟨i + 1, by omega, by go_num, H4.out⟩
                        case measure => simp [intOf] <;> omega
                    · have HF := Lib.hid (H3.out.2.trans (hb.mono H3.out.2.size))
                      clear hb
                      go_wp2_with fail
                      go_ret
                      exact ⟨rfl, HF.out⟩
                · have hbb := HK.out.2.2.2.2.2.1 hy
                  have e9 : ((bb : Int) == 0) = false := by simp; omega
                  have hopen := open_no wr (some ⟨gA, 0, none⟩) ll c2 T hBad HK.out.2.2.1 HK.out.1 HK.out.2.2.2.1 hll0.2 H2.out.2.2.2.2.2.2.2.1 H2.out.2.2.2.2.2.2.2.2 HK.out.2.2.2.2.2.2
                  have HO := Lib.hid hopen
                  clear hopen hBad hy
                  have e10 : ((bb : Int) != 0) = true := by simp; omega
                  have HE := Lib.hid e10
                  clear e10
                  have e10 := HE.out
                  have qnil := sptr_nil_t
                  go_wp2_with fail
                  refine HO.out.mono ?_
                  rintro e w3 ⟨rfl, hb3⟩
                  have H3 := Lib.hid (HK.out.2.1.trans (hb3.mono HK.out.2.1.size))
                  clear hb3
                  go_wp2_with fail
                  go_ret
                  exact ⟨rfl, H3.out⟩
              · clear hgo2
                rcases HK.out.2.2.2.2.1 with ⟨O, hFlO, hG⟩ | ⟨hy, hBad⟩
                · have hopen := open_ok wr (some ⟨gA, 0, none⟩) ll c2 T O nm pf pn k hFlO H2.out.2.2.1 HK.out.2.2.1 HK.out.1 H2.out.2.2.2.2.2.2.2.1 H2.out.2.2.2.2.2.2.2.2 HK.out.2.2.2.2.2.2
                  have hO20 : O.length ≤ 1048576 := by have h1 := hFlO.fl; have h2 := hFlO.len; omega
                  have HO := Lib.hid (And.intro hopen (And.intro hFlO (And.intro hO20 hG)))
                  clear hopen hFlO hO20 hG
                  go_wp2_with fail
                  refine HO.out.1.mono ?_
                  rintro e w3 ⟨ps, M, o, Ab, cb, cn, VS, rfl, hseg, hb3⟩
                  have H3 := Lib.hid (And.intro hseg (HK.out.2.1.trans (hb3.mono HK.out.2.1.size)))
                  clear hseg hb3
                  go_wp2_with fail
                  go_loopw [16] (fun iv wq => ∃ i, i ≤ k ∧ iv = .int .i64 (i : Nat) ∧ Below w3.heap.size w3 wq) (fun iv _ => k - (intOf iv).toNat)
                  case atStart => exact ⟨0, by omega, rfl, Below.refl _ _⟩
                  case round =>
                    obtain ⟨i, hi, rfl, hb⟩ := hrel
                    by_cases hlt : i < k
                    · have hik : (i : Int) < (k : Int) := by omega
                      have hw := H3.out.2.trans (hb.mono H3.out.2.size)
                      have hPa := H0.out.1.below hw
                      obtain ⟨b, off, hA, hbl, hcell⟩ := hPa.row (by omega)
                      subst hA
                      obtain ⟨nx, hnx⟩ : ∃ nx, nx = nm i := ⟨_, rfl⟩
                      obtain ⟨n, hn⟩ : ∃ n, n = pn i := ⟨_, rfl⟩
                      obtain ⟨f, hfe⟩ : ∃ f, f = pf i := ⟨_, rfl⟩
                      have c0 : wr.cell? ⟨b, off + i * 2, none⟩ = some (.string nx) := by rw [hnx]; exact (hcell i hlt).1
                      have c1 : ∀ wz, Below wr.heap.size wr wz → wz.cell? ⟨b, off + i * 2 + 1, none⟩ = some (.slice (pa i) n (pc i)) := fun wz hz => by rw [hn]; exact (hz.cell (by exact hbl)).trans (hcell i hlt).2
                      have hn4 : n ≤ 4096 := by rw [hn]; exact H2.out.2.2.1.pb i hlt
                      have hwh : selL f (-4611686018427387904) 4611686018427387904 n = (List.range n).map f := by rw [hn, hfe]; exact selL_whole_t (H2.out.2.2.1.bv hlt)
                      have hpts : Calls Tryz.prog 10 #[.pointer (some ⟨ps, 0, none⟩), .string nx, .int .i64 (-4611686018427387904), .int .i64 4611686018427387904] wr (SPtsPost wr ((List.range n).map f) (y ≠ 0)) := by
                        have h1 := spoints_any wr ps O nm pf pn k M o Ab cb cn VS (H3.out.1.below hb) H2.out.2.2.1 HO.out.2.1.ob HO.out.2.2.1 HO.out.2.1.ol H0.out.1.ok i hlt (fun m hm => (HO.out.2.2.2 i hlt m hm).imp id And.right) (-4611686018427387904) 4611686018427387904 (HV.out.below hw)
                        rw [← hfe, ← hn, hwh, ← hnx] at h1
                        refine h1.mono ?_
                        rintro e w' ⟨hb', hc | ⟨⟨m, hm, hN⟩, he⟩⟩
                        · exact ⟨hb', .inl hc⟩
                        · rcases HO.out.2.2.2 i hlt m (by rw [← hn]; exact hm) with h2 | ⟨h2, -⟩
                          · exact absurd h2 (hN _ _)
                          · exact ⟨hb', .inr ⟨h2, he⟩⟩
                      have hslp : SlP wr (fun q => q < wr.heap.size) (pa i) n f := by rw [hn, hfe]; exact hPa.pts i hlt
                      have HI := Lib.hid (And.intro hb (And.intro hpts (And.intro hslp c1)))
                      clear hb hpts hslp c1 hnx hn hfe hwh hcell hPa hw
                      go_wp2_with fail
                      refine HI.out.2.1.mono ?_
                      rintro e w4 ⟨hb4, (⟨v4, rfl, hr4⟩ | ⟨hyb, rfl⟩)⟩
                      · obtain ⟨A4, c4, hv4, -⟩ := hr4.form
                        subst hv4
                        have hl4 : ((List.range n).map f).length = n := by simp
                        have hsl4 := hr4.sl
                        rw [hl4] at hsl4 ⊢
                        have e : sameL (fun i => ((List.range n).map f).getD i ⟨0, 0, 0⟩) f n n = true := sameL_of rfl fun i hi => getD_range_t hi
                        have hsame := same_any A4 (pa i) n n c4 (pc i) _ _ _ _ w4 hsl4 (HI.out.2.2.1.below hb4) (by omega) (by omega)
                        rw [e] at hsame
                        have u1 := HI.out.2.2.2 w4 hb4
                        have H4 := Lib.hid (And.intro hsame (HI.out.1.trans (hb4.mono HI.out.1.size)))
                        clear hr4 hb4 hl4 hsl4 hsame e
                        go_wp2_with fail
                        refine H4.out.1.mono ?_
                        rintro e w5 ⟨rfl, hb5⟩
                        have H5 := Lib.hid (H4.out.2.trans (hb5.mono H4.out.2.size))
                        clear hb5 u1
                        go_wp2_with fail
                        go_roundw
                        case rel => exact ⟨i + 1, by omega, by go_num, H5.out⟩
                        case measure => simp [intOf] <;> omega
                      · have hbb := HK.out.2.2.2.2.2.1 hyb
                        have e9 : ((bb : Int) == 0) = false := by simp; omega
                        have H4 := Lib.hid (HI.out.1.trans (hb4.mono HI.out.1.size))
                        clear hb4 hyb
                        go_wp2_with fail
                        go_roundw
                        case rel => exact ⟨i + 1, by omega, by go_num, H4.out⟩
                        case measure => simp [intOf] <;> omega
                    · have HF := Lib.hid (H3.out.2.trans (hb.mono H3.out.2.size))
                      clear hb
                      go_wp2_with fail
                      go_ret
                      exact ⟨rfl, HF.out⟩
                · have hbb := HK.out.2.2.2.2.2.1 hy
                  have e9 : ((bb : Int) == 0) = false := by simp; omega
                  have hopen := open_no wr (some ⟨gA, 0, none⟩) ll c2 T hBad HK.out.2.2.1 HK.out.1 HK.out.2.2.2.1 hll0.2 H2.out.2.2.2.2.2.2.2.1 H2.out.2.2.2.2.2.2.2.2 HK.out.2.2.2.2.2.2
                  have HO := Lib.hid hopen
                  clear hopen hBad hy
                  have e10 : ((bb : Int) != 0) = true := by simp; omega
                  have HE := Lib.hid e10
                  clear e10
                  have e10 := HE.out
                  have qnil := sptr_nil_t
                  go_wp2_with fail
                  refine HO.out.mono ?_
                  rintro e w3 ⟨rfl, hb3⟩
                  have H3 := Lib.hid (HK.out.2.1.trans (hb3.mono HK.out.2.1.size))
                  clear hb3
                  go_wp2_with fail
                  go_ret
                  exact ⟨rfl, H3.out⟩
end Go.Proofs.YtopbbicjbjmdnaaGreatDoor
namespace Go.Proofs.YtopbbicjbjmdnaaGreatDoor.segmentBits
open Go.ChangeShapes Go.WideShapes Go.ChangeAt Go.RowKit
open Go.ChangeMaps (open_string shut_string)
set_option linter.unusedVariables false

theorem own : ownKnob Tryz.prog.godebug = none := by kernel_rfl
theorem laidOut : laidOutB Tryz.prog = true := by kernel_rfl

theorem errAt : Tryz.prog.globalNamed "errors.errorType" = some 0 := by kernel_rfl
theorem rtAt : (Tryz.prog.cutTypes.find? (·.1 == "internal/reflectlite.rtype")).map (·.2) = some 131 := by kernel_rfl
theorem oneRow : ((List.range Tryz.prog.types.size).filter fun t => Tryz.prog.rowNamed t [101, 114, 114, 111, 114]) = [69] := by kernel_rfl
/-- What the row's list gives: the variable's one cell. -/
theorem herr {W : World} (h : laidMetH Tryz.prog Rows.segmentBitsRow.laid W) : V.HErr W := by
  have h' : laidMet Tryz.prog [] W ∧ handlesMet Tryz.prog Rows.segmentBitsRow.laid W := h
  obtain ⟨name, u, ty, e1, e2, e3, e4, e5⟩ := h'.2 _ (List.mem_singleton.2 rfl)
  have en : name = [101, 114, 114, 111, 114] := (Option.some.inj e1).symm
  subst en
  obtain rfl := Option.some.inj (rtAt.symm.trans e2)
  have hm : ty ∈ (List.range Tryz.prog.types.size).filter fun t => Tryz.prog.rowNamed t [101, 114, 114, 111, 114] := List.mem_filter.2 ⟨List.mem_range.2 e3, e4⟩
  rw [oneRow] at hm
  obtain rfl := List.mem_singleton.1 hm
  have hh : typeHandle Tryz.prog 69 = .pointer (some ⟨2, 69, none⟩) := by kernel_rfl
  rw [hh] at e5
  have := World.var?_cell errAt e5 0
  simpa [V.HErr] using this
/-- A world that meets the condition: the settled one, the variable's cell laid. -/
noncomputable def laidWorld (os : Os) : World :=
  let w0 := World.holding Tryz.prog os ⟨#[], #[], []⟩
  { w0 with heap := w0.heap.modify 0 fun
      | .cells _ t frozen => .cells #[.iface 131 (.agg #[.pointer (some ⟨2, 69, none⟩)])] t frozen
      | o => o }
theorem laid_met (os : Os) (args : Array Value) : laidMetH Tryz.prog Rows.segmentBitsRow.laid ((laidWorld os).forCall (fun _ _ => 0) ⟨#[], args, []⟩).memory :=
  laidMetH_of_parts (laidMet_nil _ _) (by kernel_rfl)
theorem reads (os : Os) {H : Type} (enc : TypeId × Value → H) : ∃ places, DataW.whole enc Tryz.prog ((laidWorld os).forCall (fun _ _ => 0) ⟨#[], #[.slice none 0 0, .int .i64 0, .int .u32 0], []⟩).memory Tryz.f3.params.toList Rows.segmentBitsSpec.vars false #[.slice none 0 0, .int .i64 0, .int .u32 0].toList 8 = some ([.nil, .lit (.int .i64 0), .lit (.int .u32 0)], [], places) :=
  ⟨[], by kernel_rfl⟩

set_option maxRecDepth 100000 in
theorem lifted (os : Os) (started : os.Started) (H : Type) (enc : TypeId × Value → H) (F : Stop.Interp) :
    ReturnsInHanded {} Tryz.checked os 3 .any ((OpenSpec.ofChange Rows.segmentBitsSpec).preRow enc Tryz.prog Tryz.f3 Rows.segmentBitsRow.domain false Rows.segmentBitsRow.laid) (((OpenSpec.ofChange Rows.segmentBitsSpec).at F).post enc Tryz.prog Tryz.f3 false true false false) := by
  obtain ⟨places, hx⟩ := reads os enc
  refine returnsInHanded_of_row (C := Tryz.checked) (s := OpenSpec.ofChange Rows.segmentBitsSpec) own started (by kernel_rfl) Tryz.func3
    (witness_row_at (enc := enc) (C := Tryz.checked) false (laidWorld os) #[.slice none 0 0, .int .i64 0, .int .u32 0] rfl (by kernel_rfl) (by kernel_rfl) (by kernel_rfl)
      (OpenSpec.preRow_of_cond 8 hx (by kernel_rfl) (fun k hk => by cases hk) (by kernel_rfl) (laid_met os _))) ?_
  intro W base args ds gs before hval0 hW hcnd _ hsz0 hL _ _
  have hErr := herr hL
  have hval : ∀ (j : Nat) t v, Tryz.f3.params[j]? = some t → args[j]? = some v → Value.okWide Tryz.prog W .any base t v := hval0
  have hW' := hW
  obtain ⟨p, q, hA0, hV, rfl, hfz, hnd⟩ := hW
  have hA : DataW.TrodAll enc Tryz.prog W 0 (fun _ => true) true Tryz.f3.params.toList args.toList ds p := hA0
  have hsz : (DataW.weightsEach Tryz.prog (Tryz.f3.params.toList ++ Rows.segmentBitsSpec.plain.varTypes Tryz.prog) (ds ++ gs)).all (· ≤ reachBytes) = true := hsz0
  rw [Tryz.params3] at hA hval hsz
  obtain ⟨v0, vs0, d0, ds0, p0, q0, hargs, rfl, rfl, h0, r0⟩ := trodAll_cons hA
  obtain ⟨v1, vs1, d1, ds1, p1, q1, rfl, rfl, rfl, h1, r1⟩ := trodAll_cons r0
  obtain ⟨v2, vs2, d2, ds2, p2, q2, rfl, rfl, rfl, h2, r2⟩ := trodAll_cons r1
  obtain ⟨rfl, rfl, rfl⟩ := trodAll_nil r2
  obtain rfl : args = #[v0, v1, v2] := by cases args; simp_all
  obtain ⟨rfl, rfl⟩ := trodVars_none hV
  obtain ⟨a0, len0, cap0, rfl⟩ := okWide_slice Tryz.underlying22 (hval 0 22 v0 rfl rfl)
  have k0 := h0
  have lt0 : ∀ x ∈ p0, x.block < W.heap.size := by obtain ⟨m, hm⟩ := k0; exact DataW.trod_lt m _ _ _ hm
  obtain ⟨nm0, pa0, pn0, pc0, pf0, w0, s0⟩ : ∃ nm pa pn pc pf, PartsAt W a0 len0 nm pa pn pc pf ∧ Reach nm pn len0 := by
    obtain ⟨fuel, hf⟩ := h0
    exact open_parts hf (fun n hn => of_decide_eq_true (List.all_eq_true.1 hsz n (DataW.weights_mem_each (j := 0) (t := 22) rfl rfl n hn)))
  obtain ⟨a1, rfl, rfl, rfl, w1⟩ := open_int Tryz.underlying3 (hval 1 3 v1 rfl rfl) h1
  obtain ⟨a2, rfl, rfl, rfl, w2⟩ := open_int Tryz.underlying23 (hval 2 23 v2 rfl rfl) h2
  clear hA0 hval0
  refine (segmentBits_walk a0 len0 cap0 nm0 pa0 pn0 pc0 pf0 a1 a2 W w0 w1 w2 s0 hErr).mono fun e W' ⟨he, bel⟩ => ?_
  subst he
  exact ⟨_, rfl, _, _, _, [], _, [], hW', trodAll_mk1 (shut_bool Tryz.underlying4 _), (trodAll_cons_mk (Below.trod laidOut (by kernel_rfl) (of_decide_eq_true (by kernel_rfl)) k0 bel lt0) (trodAll_cons_mk (shut_int Tryz.underlying3 w1) (trodAll_cons_mk (shut_int Tryz.underlying23 w2) trodAll_mk0))), rfl, bel.frame _, fun h => by cases h⟩

theorem said : Rows.SegmentBitsSaid :=
  OpenClaim.holds_of_cond 3 Tryz.f3 rfl rfl rfl rfl rfl rfl rfl ⟨rfl, rfl, rfl, rfl, rfl⟩ rfl rfl rfl rfl rfl (by kernel_rfl) Tryz.func3 (by kernel_rfl)
    (of_decide_eq_true (by kernel_rfl)) (by unfold Func.isWrapper; first | (rw [if_pos (by decide +kernel)]; kernel_rfl) | (rw [if_neg (by decide +kernel)]; exact ⟨rfl, rfl⟩))
    (fun os started H enc _ F => by rw [OpenClaim.pre_eq_preRow]; exact lifted os started H enc F)

/-- No parameter wants a stand-in; the program's own looks are off: what the card asks. -/
theorem plainArgs (f : FuncId) (fn : Func) (hf : Tryz.pinned.checked.prog.funcNamed "tidemill/tidemilllaw14.SegmentBits" = some f) (hfn : Tryz.pinned.checked.prog.funcs[f]? = some fn) :
    true = Tryz.pinned.checked.prog.looks [] ∧ ∀ (j : Nat) t, fn.params[j]? = some t → Tryz.pinned.checked.prog.wantsStandIn t = false := by
  obtain rfl : f = 3 := Option.some.inj ((show Tryz.prog.funcNamed "tidemill/tidemilllaw14.SegmentBits" = some 3 by kernel_rfl).symm.trans hf) |>.symm
  obtain rfl : fn = Tryz.f3 := (Option.some.inj (Tryz.func3.symm.trans hfn)).symm
  refine ⟨by kernel_rfl, fun j t ht => ?_⟩
  rw [Tryz.params3] at ht
  have hall : ([22, 3, 23] : List TypeId).all (fun t => Tryz.prog.wantsStandIn t == false) = true := by kernel_rfl
  have hm : t ∈ ([22, 3, 23] : List TypeId) := by simpa using Array.mem_of_getElem? ht
  have hr : Tryz.prog.wantsStandIn t = false := by simpa using List.all_eq_true.1 hall t hm
  exact hr

theorem proved : Rows.SegmentBitsCardSaid :=
  Claim7.holds_tied_plain_at .later [] _ _ _ _ said (fun _ h => by cases h) (by kernel_rfl) (fun _ h => by cases h) segmentBits_row_tie rfl ⟨rfl, rfl⟩ (by kernel_rfl) rfl plainArgs (by kernel_rfl)
#print axioms proved
end Go.Proofs.YtopbbicjbjmdnaaGreatDoor.segmentBits
