/-
  The contract of bits.Writer's Bytes.
-/
import Derived.Test.YtboecnakndpgfaaBitsPut
namespace Go.Proofs.Ytboecnakndpgfaa
open Go.RowKit
theorem row_whole {w : World} {base : Nat} {e : TypeId} {g n : Nat} {xs : List Value} (h : w.ownsRow base e 1 (.slice (some ⟨g, 0, none⟩) n n) n xs) : w.heap[g]? = some (.cells xs.toArray e (0, 0)) := by
  rcases h.2 with ⟨h', _⟩ | ⟨g', cap, cur, h', _, hg, _, _, hs, ht⟩
  · simp at h'
  · simp only [Value.slice.injEq, Option.some.injEq, Addr.mk.injEq, and_true, true_and] at h'
    obtain ⟨rfl, rfl⟩ := h'
    rw [← ht, List.take_of_length_le (by simp; omega)]
    simpa using hg
theorem splice_all {α : Type} (l cs : List α) (h : l.length = cs.length) : splice l 0 cs = cs := by
  unfold splice
  rw [List.drop_of_length_le (by omega)]
  simp

def BytesPost (w : World) (bs : List Nat) (e : Ending) (w' : World) : Prop :=
  ∃ A c, e = .returned (.slice A bs.length c) ∧ w'.ownsRow w.heap.size 5 1 (.slice A bs.length c) bs.length (bs.map byteV) ∧ Keeps (fun _ => False) w w'

set_option maxHeartbeats 800000 in
theorem bytes_wr (w : World) (a : Nat) (g : Option Nat) (L : List Nat) (h : Wr w a g L) :
    Calls Try.prog 23 #[.pointer (some ⟨a, 0, none⟩)] w (BytesPost w (pack L)) := by
  have HH := Lib.hid h
  have hlen := h.len
  have hpl := pack_length L
  obtain ⟨n, hn⟩ : ∃ n, n = (pack L).length := ⟨_, rfl⟩
  have hn20 : n ≤ 1048577 := by omega
  obtain ⟨_, _, v, hv, hb, ho⟩ := h
  rw [← hn] at ho
  obtain ⟨A, c, rfl, hnc, hA⟩ := own_form ho
  have c1 := hb.cell 1
  simp only [List.getElem?_toArray, List.getElem?_cons_succ, List.getElem?_cons_zero] at c1
  have HB := Lib.hid hb
  have HO := Lib.hid ho
  have HN := Lib.hid hn
  have HA := Lib.hid hA
  clear hb ho hn hpl hv hA
  obtain ⟨ht, -, i, hi, hz, hs1, hby⟩ := byteElem
  have HI := Lib.hid (And.intro hs1 hby)
  go_enter Try.func23, Try.ntmps23
  go_wp2_with fail
  refine (none_wr _ _ _ _ HH.out).mono ?_
  rintro e w' ⟨rfl, rfl⟩
  go_wp2_with (at_make; refine wpList_make_full _ rfl (.tmp 10) (.tmp 10) 23 rfl w.heap.size 5 i (.int .u8 0) 1 ht hi hz HI.out.1 .i64 .i64 n n n rfl rfl rfl rfl ?hb1 ?hb2 ?hb3 ?_)
  case hb1 => rw [HI.out.2]; omega
  case hb2 => unfold maxLen; omega
  case hb3 => exact Nat.le_refl _
  intro w1 ho1 hg1
  have hk1 : Keeps (fun _ => False) w w1 := (Keeps.refl _ w).grown hg1 (fun _ h => by cases h)
  have hb1 := HB.out.keeps hk1 (fun h => h)
  have ho2 := own_keeps HO.out hk1 (fun _ _ h => h)
  have c11 := hb1.cell 1
  simp only [List.getElem?_toArray, List.getElem?_cons_succ, List.getElem?_cons_zero] at c11
  have hw1 := row_whole ho1
  obtain ⟨cs, hcs⟩ : ∃ cs, cs = (pack L).map byteV := ⟨_, rfl⟩
  have hcl : cs.length = n := by rw [hcs, List.length_map]; exact HN.out.symm
  obtain ⟨zs, hzs⟩ : ∃ zs, zs = (madeCells #[Value.int .u8 0] n).toList := ⟨_, rfl⟩
  have hzl : zs.length = n := by have := ho1.1; rw [hzs]; omega
  rw [← hzs] at hw1
  have HW := Lib.hid (And.intro hw1 (And.intro hcs (And.intro hcl hzl)))
  have H1 := Lib.hid (And.intro ho2 hk1)
  have c1c := c1
  clear hw1 hcs hcl hzl hzs ho1 hg1 hb1 ho2 hk1 c1
  go_wp2_with (with_reducible refine wpList_copy_splice rfl (.tmp 12) (.tmp 16) 23 23 rfl 5 ht ?hsz _ _ _ _ _ _ rfl rfl w.heap.size 0 zs 5 HW.out.1 cs ?hn ?hpos ?hfit ?hone w.heap.size w ?hbel ?hBg ?_)
  case hsz => kernel_rfl
  case hn => rw [HW.out.2.2.1]; exact (Nat.min_self n).symm
  case hpos =>
    intro hp
    obtain ⟨gg, hgg, -, -⟩ := HA.out (by rw [HW.out.2.2.1] at hp; exact hp)
    refine ⟨⟨gg, 0, none⟩, hgg, fun j u hu => ?_⟩
    have hh := H1.out.1.cells (g := gg) (by rw [hgg]; rfl) j u
    rw [← HW.out.2.1] at hh
    exact hh hu
  case hfit => have := HW.out.2.2; omega
  case hone =>
    intro u hu
    rw [HW.out.2.1, List.mem_map] at hu
    obtain ⟨x, -, rfl⟩ := hu
    rfl
  case hbel => exact H1.out.2.to_below
  case hBg => exact Nat.le_refl _
  intro w2 hw2 hbel2
  go_wp2_with fail
  go_ret
  obtain ⟨hw1, hcs, hcl, hzl⟩ := HW.out
  have hw2' := hw2.out
  rw [splice_all zs cs (by omega)] at hw2'
  refine ⟨some ⟨w.heap.size, 0, none⟩, n, by rw [HN.out]; rfl, ⟨by simp, .inr ⟨w.heap.size, n, cs.toArray, by rw [← HN.out], Nat.le_refl _, hw2', ?_, ?_, ?_, ?_⟩⟩, Keeps.of_below hbel2⟩
  · rw [← HN.out]; exact Nat.le_refl _
  · unfold maxLen; omega
  · simp; omega
  · show List.take ((pack L).length * 1) cs = (pack L).map byteV
    have := HN.out
    rw [← hcs, List.take_of_length_le (by omega)]
end Go.Proofs.Ytboecnakndpgfaa
