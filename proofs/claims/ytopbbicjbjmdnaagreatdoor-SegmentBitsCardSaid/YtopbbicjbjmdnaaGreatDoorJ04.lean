/-
  Texts of this proof, joined: BitsPut, BitsBy, BitsRr, PackB, BitsPiecesW, Delta, DeltaB, DeltaE, XorPl, XorWord.
-/
import Derived.Test.YtopbbicjbjmdnaaGreatDoorJ03
import Derived.Laws.CopyOwn
import Derived.Test.YtopbbicjbjmdnaaGreatDoorJ01
import Derived.Test.YtopbbicjbjmdnaaGreatDoorJ02
import Derived.Below
import Derived.Laws.BitsAllLaws
import Derived.Laws.BitsLemmas
import Derived.Test.YtopbbicjbjmdnaaGreatDoorRows
import Derived.WalkKit
import Derived.WalkSpells
import Derived.WalkLawsBesides
import Derived.Outline
import Derived.Lib.Hide
namespace Go.Proofs.YtopbbicjbjmdnaaGreatDoor
set_option maxRecDepth 100000
open Go.RowKit
theorem func_nil_wr (w : World) (a : Nat) : (binOp .eql 152 (.func (.func 73) #[.pointer (some ⟨a, 0, none⟩)] #[]) .nilFunc).run Tryz.prog w = .ok (.bool false) w := by kernel_rfl
set_option maxHeartbeats 400000 in
theorem none_wr (w : World) (a : Nat) (g : Option Nat) (L : List Nat) (h : Wr w a g L) :
    Calls Tryz.prog 74 #[.pointer (some ⟨a, 0, none⟩)] w fun e w' => e = .returned (.bool false) ∧ w = w' := by
  obtain ⟨v, hv, hblk, hown⟩ := h.blk
  have c0 := hblk.cell 0
  simp [oneOf] at c0
  clear hv hblk hown h
  have hfn := fun w => func_nil_wr w a
  go_enter Tryz.func74, Tryz.ntmps74
  go_wp2
  go_ret
  exact ⟨rfl, rfl⟩

set_option maxHeartbeats 400000 in
theorem at_any (w : World) (p : Nat) (i : Nat) (v : Nat) (hv : v < 18446744073709551616) (h : Blk w p 54 #[.int .u64 v]) (hi : i < 64) :
    Calls Tryz.prog 75 #[.int .i64 i, .pointer (some ⟨p, 0, none⟩)] w fun e w' => e = .returned (.int .u64 (v / 2 ^ i % 2 : Nat)) ∧ w' = w := by
  have c0 := h.cell 0
  simp at c0
  clear h
  go_enter Tryz.func75, Tryz.ntmps75
  go_wp2
  go_ret
  exact ⟨ret_int (and_one_u64' v i hv), rfl⟩

theorem Wr.keeps {S : Nat → Prop} {w w' : World} {a : Nat} {g : Option Nat} {L : List Nat} (h : Wr w a g L) (hk : Keeps S w w') (ha : ¬ S a) (hg : ∀ k, g = some k → ¬ S k) : Wr w' a g L := by
  obtain ⟨h1, h2, v, hv, hb, ho⟩ := h
  exact ⟨h1, h2, v, hv, hb.keeps hk ha, own_keeps ho hk (fun k hk => hg k (by rw [← hv, hk]))⟩
theorem Wr.drewN {w : World} {a : Nat} {g : Option Nat} {L : List Nat} (h : Wr w a g L) (n : Nat) : Wr (w.drewN n) a g L := by
  obtain ⟨h1, h2, v, hv, hb, ho⟩ := h
  exact ⟨h1, h2, v, hv, hb, ho⟩
theorem Wr.ne {w : World} {a p : Nat} {g : Option Nat} {L : List Nat} {t : TypeId} {cs : Array Value} (h : Wr w a g L) (hp : Blk w p t cs) (h1 : 154 ≠ t) (h2 : 5 ≠ t) : p ≠ a ∧ some p ≠ g := by
  obtain ⟨_, _, v, hv, hb, ho⟩ := h
  exact ⟨fun e => hb.ne hp h1 e.symm, fun e => own_ne ho hp h2 (by rw [hv, e])⟩
theorem Wr.lt {w : World} {a : Nat} {g : Option Nat} {L : List Nat} (h : Wr w a g L) : a < w.heap.size := by
  obtain ⟨_, _, v, hv, hb, ho⟩ := h
  exact hb.lt
theorem Wr.glt {w : World} {a k : Nat} {L : List Nat} (h : Wr w a (some k) L) : k < w.heap.size := by
  obtain ⟨_, _, v, hv, hb, ho⟩ := h
  exact (ho.lt k hv).2
/-- The writer's bytes lie where they lay, or in new memory. -/
def Moved (w : World) (g g' : Option Nat) : Prop := g' = g ∨ ∃ k, g' = some k ∧ w.heap.size ≤ k
theorem Moved.refl (w : World) (g : Option Nat) : Moved w g g := .inl rfl
theorem Moved.trans {w w1 : World} {g g1 g2 : Option Nat} (h : Moved w g g1) (hs : w.heap.size ≤ w1.heap.size) (k : Moved w1 g1 g2) : Moved w g g2 := by
  rcases k with rfl | ⟨x, rfl, hx⟩
  · exact h
  · exact .inr ⟨x, rfl, by omega⟩
def PutPost (w : World) (a : Nat) (g : Option Nat) (L' : List Nat) (r : Int) (e : Ending) (w' : World) : Prop :=
  e = .returned (.int .i64 r) ∧ ∃ g', Wr w' a g' L' ∧ Keeps (fun k => k = a ∨ some k = g) w w' ∧ Moved w g g'

set_option maxHeartbeats 400000 in
theorem put_arg (w : World) (a : Nat) (g : Option Nat) (L : List Nat) (v n : Int) (h : Wr w a g L) (hn : n < 0 ∨ 64 < n) :
    Calls Tryz.prog 52 #[.pointer (some ⟨a, 0, none⟩), .int .u64 v, .int .i64 n] w (PutPost w a g L 2) := by
  have h1 : Wr (w.alloc (.cells #[.int .u64 v] 54)) a g L := h.keeps (S := fun _ => False) ((Keeps.refl _ _).alloc _) (fun h => h) (fun _ _ h => h)
  rcases hn with hn | hn
  · go_enter Tryz.func52, Tryz.ntmps52
    go_wp2_with fail
    refine (none_wr _ _ _ _ h1).mono ?_
    rintro e w' ⟨rfl, rfl⟩
    go_wp2_with fail
    go_ret
    exact ⟨rfl, g, h1, (Keeps.refl _ _).alloc _, Moved.refl _ _⟩
  · have hn' : ¬ n < 0 := by omega
    go_enter Tryz.func52, Tryz.ntmps52
    go_wp2_with fail
    refine (none_wr _ _ _ _ h1).mono ?_
    rintro e w' ⟨rfl, rfl⟩
    go_wp2_with fail
    go_ret
    exact ⟨rfl, g, h1, (Keeps.refl _ _).alloc _, Moved.refl _ _⟩

set_option maxHeartbeats 400000 in
theorem put_big (w : World) (a : Nat) (g : Option Nat) (L : List Nat) (v n : Int) (h : Wr w a g L) (h0 : 0 ≤ n) (h64 : n ≤ 64) (hn : 8388608 - (L.length : Int) < n) :
    Calls Tryz.prog 52 #[.pointer (some ⟨a, 0, none⟩), .int .u64 v, .int .i64 n] w (PutPost w a g L 3) := by
  have h1 : Wr (w.alloc (.cells #[.int .u64 v] 54)) a g L := h.keeps (S := fun _ => False) ((Keeps.refl _ _).alloc _) (fun h => h) (fun _ _ h => h)
  have hlen := h.len
  obtain ⟨_, _, vv, -, hb, -⟩ := h1
  have c2 := hb.cell 2
  simp only [List.getElem?_toArray, List.getElem?_cons_succ, List.getElem?_cons_zero] at c2
  clear hb
  have h1 : Wr (w.alloc (.cells #[.int .u64 v] 54)) a g L := h.keeps (S := fun _ => False) ((Keeps.refl _ _).alloc _) (fun h => h) (fun _ _ h => h)
  go_enter Tryz.func52, Tryz.ntmps52
  go_wp2_with fail
  refine (none_wr _ _ _ _ h1).mono ?_
  rintro e w' ⟨rfl, rfl⟩
  go_wp2_with fail
  go_ret
  exact ⟨rfl, g, h1, (Keeps.refl _ _).alloc _, Moved.refl _ _⟩

set_option maxHeartbeats 800000 in
theorem put_ok (w : World) (a : Nat) (g : Option Nat) (L : List Nat) (v n : Nat) (h : Wr w a g L) (hv : v < 18446744073709551616) (h64 : n ≤ 64) (hn : (n : Int) ≤ 8388608 - (L.length : Int)) :
    Calls Tryz.prog 52 #[.pointer (some ⟨a, 0, none⟩), .int .u64 v, .int .i64 n] w (PutPost w a g (L ++ bitsTo v n n) 0) := by
  have h1 : Wr (w.alloc (.cells #[.int .u64 v] 54)) a g L := h.keeps (S := fun _ => False) ((Keeps.refl _ _).alloc _) (fun h => h) (fun _ _ h => h)
  have hlen := h.len
  obtain ⟨_, _, vv, -, hb, -⟩ := h1
  have c2 := hb.cell 2
  simp only [List.getElem?_toArray, List.getElem?_cons_succ, List.getElem?_cons_zero] at c2
  clear hb
  have h1 : Wr (w.alloc (.cells #[.int .u64 v] 54)) a g L := h.keeps (S := fun _ => False) ((Keeps.refl _ _).alloc _) (fun h => h) (fun _ _ h => h)
  have d1 : decide ((n : Int) < 0) = false := by simp
  have d2 : decide ((64 : Int) < n) = false := by simp; omega
  have d3 : decide (8388608 - (L.length : Int) < n) = false := by simp; omega
  go_enter Tryz.func52, Tryz.ntmps52
  go_wp2_with fail
  refine (none_wr _ _ _ _ h1).mono ?_
  rintro e w' ⟨rfl, rfl⟩
  go_wp2_with fail
  clear d1 d2 d3 c2
  go_loopw [8] (fun i wr => ∃ (k : Nat) (g' : Option Nat), k ≤ n ∧ i = .int .i64 ((n : Int) - 1 - k) ∧ Wr wr a g' (L ++ bitsTo v n k) ∧ Blk wr w.heap.size 54 #[.int .u64 v] ∧ Keeps (fun x => x = a ∨ some x = g) w wr ∧ Moved w g g')
    (fun i _ => (intOf i + 1).toNat)
  case atStart => exact ⟨0, g, by omega, by simp, by simpa [bitsTo_zero] using h1, Blk.fresh _ _ _, (Keeps.refl _ _).alloc _, Moved.refl _ _⟩
  case round =>
    obtain ⟨k, g', hk, rfl, hw, hbox, hkp, hmv⟩ := hrel
    clear h1
    by_cases hlt : k < n
    · obtain ⟨m, hm⟩ : ∃ m : Nat, (n : Int) - 1 - k = (m : Int) := ⟨n - 1 - k, by omega⟩
      rw [hm]
      have hm64 : m < 64 := by omega
      have HM := Lib.hid hm
      clear hm
      have HW := Lib.hid hw
      obtain ⟨_, _, vv, -, hb, -⟩ := hw
      have c0 := hb.cell 0
      simp [oneOf] at c0
      clear hb
      go_wp2_with fail
      go_still_tail 7, (by kernel_rfl)
      still_call (at_any wr.drew w.heap.size m v hv hbox.drew (by have := HM.out; omega))
      refine wpStill_nil ?_
      change wpList _ _ _ _ _ wr.drew
      go_wp2_with fail
      refine (one_any wr.drew a g' _ _ (HW.out.drewN 1) (Nat.mod_lt _ (by omega)) (by have := HM.out; rw [List.length_append, bitsTo_length]; omega)).mono ?_
      rintro e w1 ⟨rfl, g2, hw1, hk1, hm1⟩
      have hbox1 : Blk w1 w.heap.size 54 #[.int .u64 v] := hbox.drew.keeps hk1 (fun e => by
        have := Wr.ne HW.out hbox (by decide) (by decide)
        rcases e with e | e
        · exact this.1 e
        · exact this.2 e)
      have hkw : Keeps (fun x => x = a ∨ some x = g) w w1 := (hkp.drew).trans hk1 (fun x hx e => by
        rcases e with e | e
        · exact .inl e
        · rcases hmv with h | ⟨y, h, hy⟩
          · exact .inr (e.trans h)
          · rw [h] at e; injection e with e; omega)
      have hmv1 : Moved w g g2 := hmv.trans (show w.heap.size ≤ wr.drew.heap.size from hkp.size) hm1
      rw [show L ++ bitsTo v n k ++ [v / 2 ^ m % 2] = L ++ bitsTo v n (k + 1) from by rw [bitsTo_succ, List.append_assoc, show n - 1 - k = m from by have := HM.out; omega]] at hw1
      clear hk1 hm1 hbox c0 hkp hmv
      go_wp2_with fail
      go_roundw
      case rel => exact ⟨k + 1, g2, by omega, by have := HM.out; go_num, hw1, hbox1, hkw, hmv1⟩
      case measure => simp [intOf]
    · obtain rfl : k = n := by omega
      have e1 : (k : Int) - 1 - k = -1 := by omega
      rw [e1]
      go_wp2_with fail
      go_ret
      exact ⟨rfl, g', hw, hkp, hmv⟩

theorem put_any (w : World) (a : Nat) (g : Option Nat) (L : List Nat) (v n : Int) (h : Wr w a g L) (h0 : 0 ≤ v) (hv : v < 18446744073709551616) :
    Calls Tryz.prog 52 #[.pointer (some ⟨a, 0, none⟩), .int .u64 v, .int .i64 n] w (PutPost w a g (putL L v.toNat n) (putE L.length n)) := by
  obtain ⟨v, rfl⟩ := Int.eq_ofNat_of_zero_le h0
  by_cases h1 : 0 ≤ n ∧ n ≤ 64
  · by_cases h2 : n ≤ 8388608 - (L.length : Int)
    · obtain ⟨m, rfl⟩ := Int.eq_ofNat_of_zero_le h1.1
      have e1 : putE L.length m = 0 := by unfold putE; rw [if_pos h1, if_pos h2]
      have e2 : putL L (Int.toNat v) m = L ++ bitsTo v m m := by unfold putL; rw [if_pos ⟨h1.1, h1.2, h2⟩]; simp
      rw [e1, e2]
      exact put_ok w a g L v m h (by omega) (by omega) h2
    · have e1 : putE L.length n = 3 := by unfold putE; rw [if_pos h1, if_neg h2]
      have e2 : putL L (Int.toNat v) n = L := by unfold putL; rw [if_neg (by omega)]
      rw [e1, e2]
      exact put_big w a g L v n h h1.1 h1.2 (by omega)
  · have e1 : putE L.length n = 2 := by unfold putE; rw [if_neg h1]
    have e2 : putL L (Int.toNat v) n = L := by unfold putL; rw [if_neg (by omega)]
    rw [e1, e2]
    exact put_arg w a g L v n h (by omega)

end Go.Proofs.YtopbbicjbjmdnaaGreatDoor
namespace Go.Proofs.YtopbbicjbjmdnaaGreatDoor
set_option maxRecDepth 100000
open Go.RowKit
theorem row_whole {w : World} {base : Nat} {e : TypeId} {g n : Nat} {xs : List Value} (h : w.ownsRow base e 1 (.slice (some ⟨g, 0, none⟩) n n) n xs) : w.heap[g]? = some (.cells xs.toArray e (0, 0)) := by
  rcases h.2 with ⟨h', _⟩ | ⟨g', cap, cur, h', _, hg, _, _, hs, ht⟩
  · simp at h'
  · simp only [Value.slice.injEq, Option.some.injEq, Addr.mk.injEq, and_true, true_and] at h'
    obtain ⟨rfl, rfl⟩ := h'
    rw [← ht, List.take_of_length_le (by simp; omega)]
    simpa using hg
theorem splice_all {α : Type} (l cs : List α) (h : l.length = cs.length) : splice l 0 cs = cs := by
  unfold splice
  rw [List.drop_of_length_le (by omega)]
  simp

def BytesPost (w : World) (bs : List Nat) (e : Ending) (w' : World) : Prop :=
  ∃ A c, e = .returned (.slice A bs.length c) ∧ w'.ownsRow w.heap.size 5 1 (.slice A bs.length c) bs.length (bs.map byteV) ∧ Keeps (fun _ => False) w w'

set_option maxHeartbeats 800000 in
theorem bytes_wr (w : World) (a : Nat) (g : Option Nat) (L : List Nat) (h : Wr w a g L) :
    Calls Tryz.prog 55 #[.pointer (some ⟨a, 0, none⟩)] w (BytesPost w (pack L)) := by
  have HH := Lib.hid h
  have hlen := h.len
  have hpl := pack_length L
  obtain ⟨n, hn⟩ : ∃ n, n = (pack L).length := ⟨_, rfl⟩
  have hn20 : n ≤ 1048577 := by omega
  obtain ⟨_, _, v, hv, hb, ho⟩ := h
  rw [← hn] at ho
  obtain ⟨A, c, rfl, hnc, hA⟩ := own_form ho
  have c1 := hb.cell 1
  simp only [List.getElem?_toArray, List.getElem?_cons_succ, List.getElem?_cons_zero] at c1
  have HB := Lib.hid hb
  have HO := Lib.hid ho
  have HN := Lib.hid hn
  have HA := Lib.hid hA
  clear hb ho hn hpl hv hA
  obtain ⟨ht, -, i, hi, hz, hs1, hby⟩ := byteElem
  have HI := Lib.hid (And.intro hs1 hby)
  go_enter Tryz.func55, Tryz.ntmps55
  go_wp2_with fail
  refine (none_wr _ _ _ _ HH.out).mono ?_
  rintro e w' ⟨rfl, rfl⟩
  go_wp2_with (at_make; refine wpList_make_full _ rfl (.tmp 10) (.tmp 10) 25 rfl w.heap.size 5 i (.int .u8 0) 1 ht hi hz HI.out.1 .i64 .i64 n n n rfl rfl rfl rfl ?hb1 ?hb2 ?hb3 ?_)
  case hb1 => rw [HI.out.2]; omega
  case hb2 => unfold maxLen; omega
  case hb3 => exact Nat.le_refl _
  intro w1 ho1 hg1
  have hk1 : Keeps (fun _ => False) w w1 := (Keeps.refl _ w).grown hg1 (fun _ h => by cases h)
  have hb1 := HB.out.keeps hk1 (fun h => h)
  have ho2 := own_keeps HO.out hk1 (fun _ _ h => h)
  have c11 := hb1.cell 1
  simp only [List.getElem?_toArray, List.getElem?_cons_succ, List.getElem?_cons_zero] at c11
  have hw1 := row_whole ho1
  obtain ⟨cs, hcs⟩ : ∃ cs, cs = (pack L).map byteV := ⟨_, rfl⟩
  have hcl : cs.length = n := by rw [hcs, List.length_map]; exact HN.out.symm
  obtain ⟨zs, hzs⟩ : ∃ zs, zs = (madeCells #[Value.int .u8 0] n).toList := ⟨_, rfl⟩
  have hzl : zs.length = n := by have := ho1.1; rw [hzs]; omega
  rw [← hzs] at hw1
  have HW := Lib.hid (And.intro hw1 (And.intro hcs (And.intro hcl hzl)))
  have H1 := Lib.hid (And.intro ho2 hk1)
  have c1c := c1
  clear hw1 hcs hcl hzl hzs ho1 hg1 hb1 ho2 hk1 c1
  go_wp2_with (with_reducible refine wpList_copy_splice rfl (.tmp 12) (.tmp 16) 25 25 rfl 5 ht ?hsz _ _ _ _ _ _ rfl rfl w.heap.size 0 zs 5 HW.out.1 cs ?hn ?hpos ?hfit ?hone w.heap.size w ?hbel ?hBg ?_)
  case hsz => kernel_rfl
  case hn => rw [HW.out.2.2.1]; exact (Nat.min_self n).symm
  case hpos =>
    intro hp
    obtain ⟨gg, hgg, -, -⟩ := HA.out (by rw [HW.out.2.2.1] at hp; exact hp)
    refine ⟨⟨gg, 0, none⟩, hgg, fun j u hu => ?_⟩
    have hh := H1.out.1.cells (g := gg) (by rw [hgg]; rfl) j u
    rw [← HW.out.2.1] at hh
    exact hh hu
  case hfit => have := HW.out.2.2; omega
  case hone =>
    intro u hu
    rw [HW.out.2.1, List.mem_map] at hu
    obtain ⟨x, -, rfl⟩ := hu
    rfl
  case hbel => exact H1.out.2.to_below
  case hBg => exact Nat.le_refl _
  intro w2 hw2 hbel2
  go_wp2_with fail
  go_ret
  obtain ⟨hw1, hcs, hcl, hzl⟩ := HW.out
  have hw2' := hw2.out
  rw [splice_all zs cs (by omega)] at hw2'
  refine ⟨some ⟨w.heap.size, 0, none⟩, n, by rw [HN.out]; rfl, ⟨by simp, .inr ⟨w.heap.size, n, cs.toArray, by rw [← HN.out], Nat.le_refl _, hw2', ?_, ?_, ?_, ?_⟩⟩, Keeps.of_below hbel2⟩
  · rw [← HN.out]; exact Nat.le_refl _
  · unfold maxLen; omega
  · simp; omega
  · show List.take ((pack L).length * 1) cs = (pack L).map byteV
    have := HN.out
    rw [← hcs, List.take_of_length_le (by omega)]
end Go.Proofs.YtopbbicjbjmdnaaGreatDoor
namespace Go.Proofs.YtopbbicjbjmdnaaGreatDoor
open Go.RowKit
theorem Rd.drewN {w : World} {r : Nat} {D : Nat → Prop} {bs : List Nat} {a en : Nat} (h : Rd w r D bs a en) (k : Nat) : Rd (w.drewN k) r D bs a en := by
  obtain ⟨s1, s2, s3, s4, s5, A, c, s6, s7⟩ := h
  exact ⟨s1, s2, s3, s4, s5, A, c, s6, s7⟩
theorem Rd.keeps {S : Nat → Prop} {w w' : World} {r : Nat} {D : Nat → Prop} {bs : List Nat} {a en : Nat} (h : Rd w r D bs a en) (hk : Keeps S w w') (hr : ¬ S r) (hd : ∀ k, D k → ¬ S k) : Rd w' r D bs a en := by
  obtain ⟨s1, s2, s3, s4, s5, A, c, s6, s7⟩ := h
  exact ⟨s1, s2, s3, s4, s5, A, c, s6.keeps hk hr, s7.keeps hk hd⟩

theorem newReader_fit (w : World) (A : Option Addr) (len c : Nat) (D : Nat → Prop) (bs : List Nat) (n : Int) (hl : bs.length = len) (hsl : Sl w D A len (byteC bs)) (hbyte : ∀ j, bs.getD j 0 < 256) (hsm : len ≤ 1099511627776) (h0 : 0 ≤ n) (hn : n ≤ 8 * (len : Int)) :
    Calls Tryz.prog 83 #[.slice A len c, .int .i64 n] w (NewRdPost w bs n.toNat) := by
  subst hl
  obtain ⟨m, rfl⟩ := Int.eq_ofNat_of_zero_le h0
  exact newReader_ok w A c D bs m hsl hbyte hsm (by omega)
end Go.Proofs.YtopbbicjbjmdnaaGreatDoor
namespace Go.Proofs.YtopbbicjbjmdnaaGreatDoor
theorem bit_of_byte (b0 b1 b2 b3 b4 b5 b6 b7 r : Nat) (h0 : b0 < 2) (h1 : b1 < 2) (h2 : b2 < 2) (h3 : b3 < 2) (h4 : b4 < 2) (h5 : b5 < 2) (h6 : b6 < 2) (h7 : b7 < 2) (hr : r < 8) :
    (128 * b0 + 64 * b1 + 32 * b2 + 16 * b3 + 8 * b4 + 4 * b5 + 2 * b6 + b7) / 2 ^ (7 - r) % 2 = [b0, b1, b2, b3, b4, b5, b6, b7].getD r 0 := by
  rcases (show r = 0 ∨ r = 1 ∨ r = 2 ∨ r = 3 ∨ r = 4 ∨ r = 5 ∨ r = 6 ∨ r = 7 by omega) with h | h | h | h | h | h | h | h <;> subst h <;> simp <;> omega
theorem bitOf_pack {L : List Nat} (h : ∀ j, L.getD j 0 < 2) (i : Nat) : bitOf (pack L) i = L.getD i 0 := by
  unfold bitOf
  rw [pack_getD]
  unfold byteAt
  have hr : i % 8 < 8 := Nat.mod_lt _ (by omega)
  rw [bit_of_byte _ _ _ _ _ _ _ _ _ (h _) (h _) (h _) (h _) (h _) (h _) (h _) (h _) hr]
  have hd := Nat.div_add_mod i 8
  rcases (show i % 8 = 0 ∨ i % 8 = 1 ∨ i % 8 = 2 ∨ i % 8 = 3 ∨ i % 8 = 4 ∨ i % 8 = 5 ∨ i % 8 = 6 ∨ i % 8 = 7 by omega) with e | e | e | e | e | e | e | e <;> rw [e] at hd ⊢ <;> simp only [List.getD_cons_succ, List.getD_cons_zero] <;> congr 1
theorem gets_congr {bs : List Nat} {p u n : Nat} (h : ∀ j, j < n → bitOf bs (p + j) = u / 2 ^ (n - 1 - j) % 2) : ∀ k, k ≤ n → gets bs p k = u / 2 ^ (n - k) % 2 ^ k := by
  intro k
  induction k with
  | zero => intro _; simp [gets, Nat.mod_one]
  | succ k ih =>
    intro hk
    rw [gets, ih (by omega), h k (by omega)]
    rw [show n - 1 - k = n - (k + 1) by omega, show n - k = (n - (k + 1)) + 1 by omega, Nat.pow_succ 2 (n - (k + 1)), ← Nat.div_div_eq_div_mul]
    generalize u / 2 ^ (n - (k + 1)) = y
    rw [Nat.pow_succ, Nat.mul_comm (2 ^ k) 2, Nat.mod_mul]
    omega
theorem bitsTo_getD (v n k j : Nat) (h : j < k) : (bitsTo v n k).getD j 0 = v / 2 ^ (n - 1 - j) % 2 := by
  unfold bitsTo
  rw [List.getD_eq_getElem?_getD, List.getElem?_map, List.getElem?_range h]; rfl
theorem getD_append_right (L M : List Nat) (j : Nat) : (L ++ M).getD (L.length + j) 0 = M.getD j 0 := by
  rw [List.getD_eq_getElem?_getD, List.getD_eq_getElem?_getD, List.getElem?_append_right (by omega)]
  congr 2
  omega
theorem getD_append_left (L M : List Nat) (j : Nat) (h : j < L.length) : (L ++ M).getD j 0 = L.getD j 0 := by
  rw [List.getD_eq_getElem?_getD, List.getD_eq_getElem?_getD, List.getElem?_append_left h]
/-- What was put is got. -/
theorem gets_pack {L M : List Nat} {v n : Nat} (hL : ∀ j, L.getD j 0 < 2) (hM : ∀ j, M.getD j 0 < 2) : gets (pack (L ++ bitsTo v n n ++ M)) L.length n = v % 2 ^ n := by
  have hb : ∀ j, (L ++ bitsTo v n n ++ M).getD j 0 < 2 := bits_append (bits_append hL (bitsTo_bit v n n)) hM
  have := gets_congr (bs := pack (L ++ bitsTo v n n ++ M)) (p := L.length) (u := v) (n := n) (fun j hj => by
    rw [bitOf_pack hb, getD_append_left _ _ _ (by rw [List.length_append, bitsTo_length]; omega), getD_append_right, bitsTo_getD _ _ _ _ hj]) n (Nat.le_refl _)
  rw [this]
  simp
/-- A number in two pieces is the same bits as in one. -/
theorem bitsTo_split (v a b : Nat) : bitsTo v (a + b) (a + b) = bitsTo (v / 2 ^ b) a a ++ bitsTo v b b := by
  apply List.ext_getElem?
  intro j
  rcases Nat.lt_or_ge j (a + b) with hj | hj
  · rcases Nat.lt_or_ge j a with ha | ha
    · rw [List.getElem?_append_left (by rw [bitsTo_length]; exact ha)]
      unfold bitsTo
      rw [List.getElem?_map, List.getElem?_map, List.getElem?_range hj, List.getElem?_range ha]
      simp only [Option.map_some]
      rw [Nat.div_div_eq_div_mul, ← Nat.pow_add, show b + (a - 1 - j) = a + b - 1 - j by omega]
    · rw [List.getElem?_append_right (by rw [bitsTo_length]; exact ha), bitsTo_length]
      unfold bitsTo
      rw [List.getElem?_map, List.getElem?_map, List.getElem?_range hj, List.getElem?_range (show j - a < b by omega)]
      simp only [Option.map_some]
      rw [show b - 1 - (j - a) = a + b - 1 - j by omega]
  · rw [List.getElem?_eq_none (by rw [bitsTo_length]; exact hj), List.getElem?_eq_none (by rw [List.length_append, bitsTo_length, bitsTo_length]; exact hj)]
theorem and_mask_u64 (x a : Nat) (hx : x < 18446744073709551616) (ha : a < 64) : bits .and .u64 (x : Int) (((2 ^ a - 1 : Nat) : Int)) = ((x % 2 ^ a : Nat) : Int) := by
  have hp : 2 ^ a ≤ 2 ^ 63 := Nat.pow_le_pow_right (by omega) (by omega)
  rw [u64_and_nat _ _ hx (by omega), Nat.and_two_pow_sub_one_eq_mod]
theorem ofInt_mod (x : Int) : (BitVec.ofInt 64 x).toNat = (x % 18446744073709551616).toNat := by
  rw [BitVec.toNat_ofInt]; rfl
theorem and_31 (x : Int) : bits .and .i64 x 31 = (((x % 32).toNat : Nat) : Int) := by
  show IntKind.i64.wrap (((BitVec.ofInt 64 x) &&& (BitVec.ofInt 64 31)).toNat : Int) = _
  rw [BitVec.toNat_and, ofInt_mod, ofInt_mod]
  rw [show ((31 : Int) % 18446744073709551616).toNat = 2 ^ 5 - 1 by decide, Nat.and_two_pow_sub_one_eq_mod, IntKind.wrap_i64]
  omega
theorem and_127 (x : Int) : bits .and .i64 x 127 = (((x % 128).toNat : Nat) : Int) := by
  show IntKind.i64.wrap (((BitVec.ofInt 64 x) &&& (BitVec.ofInt 64 127)).toNat : Int) = _
  rw [BitVec.toNat_and, ofInt_mod, ofInt_mod]
  rw [show ((127 : Int) % 18446744073709551616).toNat = 2 ^ 7 - 1 by decide, Nat.and_two_pow_sub_one_eq_mod, IntKind.wrap_i64]
  omega
theorem and_511 (x : Int) : bits .and .i64 x 511 = (((x % 512).toNat : Nat) : Int) := by
  show IntKind.i64.wrap (((BitVec.ofInt 64 x) &&& (BitVec.ofInt 64 511)).toNat : Int) = _
  rw [BitVec.toNat_and, ofInt_mod, ofInt_mod]
  rw [show ((511 : Int) % 18446744073709551616).toNat = 2 ^ 9 - 1 by decide, Nat.and_two_pow_sub_one_eq_mod, IntKind.wrap_i64]
  omega
end Go.Proofs.YtopbbicjbjmdnaaGreatDoor
namespace Go.Proofs.YtopbbicjbjmdnaaGreatDoor
set_option maxRecDepth 100000
open Go.RowKit
set_option linter.unusedSimpArgs false
set_option linter.unusedVariables false
theorem put_fit (w : World) (a : Nat) (g : Option Nat) (L : List Nat) (v n : Int) (h : Wr w a g L) (h0 : 0 ≤ v) (hv : v < 18446744073709551616) (n0 : 0 ≤ n) (n64 : n ≤ 64) (hl : (L.length : Int) + 64 ≤ 8388608) :
    Calls Tryz.prog 52 #[.pointer (some ⟨a, 0, none⟩), .int .u64 v, .int .i64 n] w (PutPost w a g (L ++ bitsTo v.toNat n.toNat n.toNat) 0) := by
  obtain ⟨v, rfl⟩ := Int.eq_ofNat_of_zero_le h0
  obtain ⟨n, rfl⟩ := Int.eq_ofNat_of_zero_le n0
  exact put_ok w a g L v n h (by omega) (by omega) (by omega)
theorem and_mask_walk (x a : Nat) (hx : x < 18446744073709551616) (ha : a < 64) : bits .and .u64 (x : Int) (IntKind.u64.wrap (IntKind.u64.wrap ((2 : Int) ^ a) - 1)) = (x : Int) % 2 ^ a := by
  have hp : 2 ^ a ≤ 2 ^ 63 := Nat.pow_le_pow_right (by omega) (by omega)
  have h0 : 0 < 2 ^ a := Nat.pow_pos (by omega)
  have e : IntKind.u64.wrap (IntKind.u64.wrap ((2 : Int) ^ a) - 1) = ((2 ^ a - 1 : Nat) : Int) := by
    rw [pow_cast, IntKind.wrap_u64, IntKind.wrap_u64]
    omega
  rw [e, and_mask_u64 x a hx ha, pow_cast]
  rfl
theorem wr_wr {w w' : World} {x y : Nat} {g g' : Option Nat} {L M : List Nat} (hx : Wr w x g L) (hy : Wr w y g' M) (hxy : x ≠ y) (hg : ∀ k, g = some k → g' ≠ some k) (hk : Keeps (fun k => k = y ∨ some k = g') w w') : Wr w' x g L := by
  obtain ⟨h1, h2, v, hv, hb, ho⟩ := hx
  obtain ⟨_, _, v', hv', hb', ho'⟩ := hy
  refine Wr.keeps ⟨h1, h2, v, hv, hb, ho⟩ hk ?_ ?_
  · rintro (e | e)
    · exact hxy e
    · exact own_ne ho' hb (by decide) (hv'.trans e.symm)
  · rintro k hk' (e | e)
    · exact own_ne ho hb' (by decide) (by rw [hv, hk', e])
    · exact hg k hk' e.symm
theorem keeps_new {w0 w w' : World} {x : Nat} {g : Option Nat} (h : Keeps (fun _ => False) w0 w) (hk : Keeps (fun k => k = x ∨ some k = g) w w') (hx : w0.heap.size ≤ x) (hg : ∀ q, g = some q → w0.heap.size ≤ q) : Keeps (fun _ => False) w0 w' :=
  h.trans hk (fun k hk' e => by
    rcases e with e | e
    · omega
    · have := hg k e.symm; omega)
theorem moved_new {w0 w : World} {g g' : Option Nat} (hm : Moved w g g') (hs : w0.heap.size ≤ w.heap.size) (hg : ∀ q, g = some q → w0.heap.size ≤ q) : ∀ q, g' = some q → w0.heap.size ≤ q := by
  intro q hq
  rcases hm with h | ⟨k, h, hk⟩
  · exact hg q (h ▸ hq)
  · rw [hq] at h; injection h with h; omega
theorem moved_ne {w : World} {x : Nat} {g g1 g2 : Option Nat} {L : List Nat} (hx : Wr w x g L) (hm : Moved w g1 g2) (hg : ∀ k, g = some k → g1 ≠ some k) : ∀ k, g = some k → g2 ≠ some k := by
  intro k hk e
  rcases hm with h | ⟨q, h, hq⟩
  · exact hg k hk (h ▸ e)
  · rw [e] at h; injection h with h
    subst hk
    have := hx.glt
    omega
theorem sl_of_bytes {w : World} {base c n : Nat} {A : Option Addr} {bs : List Nat} (ho : w.ownsRow base 5 1 (.slice A n c) n (bs.map byteV)) : Sl w (fun k => base ≤ k ∧ k < w.heap.size) A n (byteC bs) := by
  refine (Sl.of_own (f := byteC bs) ho ?_).mono (fun k hk => ho.lt k hk)
  intro j u hu
  rw [List.getElem?_map] at hu
  cases hb : bs[j]? with
  | none => rw [hb] at hu; cases hu
  | some b =>
    rw [hb] at hu
    simp at hu
    unfold byteC
    rw [List.getD_eq_getElem?_getD, hb, ← hu]
    rfl

end Go.Proofs.YtopbbicjbjmdnaaGreatDoor
namespace Go.Proofs.YtopbbicjbjmdnaaGreatDoor.D
set_option maxRecDepth 100000
open Go.RowKit
set_option linter.unusedVariables false
/-- The class of a step of a step. -/
def cls (z : Nat) : Nat := if z = 0 then 0 else if z < 128 then 1 else if z < 4096 then 2 else if z < 4294967296 then 3 else 4
def wd (k : Nat) : Nat := [0, 7, 12, 32, 64].getD k 0
def ah (k : Nat) : Nat := min (k + 1) 4
theorem cls_le (z : Nat) : cls z ≤ 4 := by unfold cls; split; omega; split; omega; split; omega; split <;> omega
def widthsV : Value := .agg #[.int .i64 0, .int .i64 7, .int .i64 12, .int .i64 32, .int .i64 64]
theorem widths_at (k : Nat) (hk : k < 5) (w : World) : (Instr.index 156 (.agg #[.int .i64 0, .int .i64 7, .int .i64 12, .int .i64 32, .int .i64 64]) (.int .i64 (k : Nat))).run Tryz.prog w = .ok (.int .i64 (wd k : Nat)) w := by
  rcases (show k = 0 ∨ k = 1 ∨ k = 2 ∨ k = 3 ∨ k = 4 by omega) with rfl | rfl | rfl | rfl | rfl <;> kernel_rfl
set_option maxHeartbeats 400000 in
theorem widths_any (w : World) : Calls Tryz.prog 78 #[] w fun e w' => e = .returned widthsV ∧ Below w.heap.size w w' := by
  go_enter Tryz.func78, Tryz.ntmps78
  go_wp2
  exact bodyPost_ret (v := widthsV) (by simp [results, Tryz.results78, go_sem, widthsV]) rfl ⟨rfl, (Below.refl _ _).alloc (Nat.le_refl _) _⟩
set_option maxHeartbeats 400000 in
theorem ahead_any (k : Nat) (hk : k ≤ 4) (w : World) : Calls Tryz.prog 77 #[.int .i64 (k : Nat)] w fun e w' => e = .returned (.int .i64 (ah k : Nat)) ∧ w = w' := by
  rcases (show k = 0 ∨ k = 1 ∨ k = 2 ∨ k = 3 ∨ k = 4 by omega) with rfl | rfl | rfl | rfl | rfl
  all_goals
    go_enter Tryz.func77, Tryz.ntmps77
    go_wp2
    go_ret
    exact ⟨rfl, rfl⟩
set_option maxRecDepth 100000 in
set_option maxHeartbeats 800000 in
theorem classOf_any (z : Nat) (hz : z < 18446744073709551616) (w : World) :
    Calls Tryz.prog 76 #[.int .u64 (z : Nat)] w fun e w' => e = .returned (.int .i64 (cls z : Nat)) ∧ Below w.heap.size w w' := by
  have HZ := Lib.hid hz
  clear hz
  go_enter Tryz.func76, Tryz.ntmps76
  go_wp2_with fail
  refine (widths_any _).mono ?_
  rintro e w1 ⟨rfl, hb1⟩
  have HB := Lib.hid hb1
  clear hb1
  unfold widthsV
  go_wp2_with fail
  go_loop [6] (fun i => ∃ k : Nat, k ≤ 4 ∧ i = .int .i64 k ∧ (1 ≤ k → 1 ≤ z) ∧ (2 ≤ k → 128 ≤ z) ∧ (3 ≤ k → 4096 ≤ z) ∧ (4 ≤ k → 4294967296 ≤ z)) (fun i => 5 - (intOf i).toNat)
  case atStart => exact ⟨0, by omega, rfl, by omega, by omega, by omega, by omega⟩
  case round =>
    obtain ⟨k, hk, rfl, h1, h2, h3, h4⟩ := hrel
    rcases (show k = 0 ∨ k = 1 ∨ k = 2 ∨ k = 3 ∨ k = 4 by omega) with rfl | rfl | rfl | rfl | rfl
    · have ix : ∀ w, (Instr.index 156 (.agg #[.int .i64 0, .int .i64 7, .int .i64 12, .int .i64 32, .int .i64 64]) (.int .i64 0)).run Tryz.prog w = .ok (.int .i64 0) w := fun _ => by kernel_rfl
      by_cases hb : z < 1
      · have d1 : ((z : Int) / 1 == 0) = true := by simp; omega
        have d2 : ((z : Int) == 0) = decide (z = 0) := by by_cases h : z = 0 <;> simp [h]
        have d3 : z = 0 := by omega
        have d4 : decide (z = 0) = true := by simp [d3]
        have HD := Lib.hid d3
        clear d3
        go_wp2_with fail
        go_ret
        refine ⟨ret_int ?_, HB.out⟩
        have : cls z = 0 := by unfold cls; have := HD.out; repeat (first | rw [if_pos (by omega)] | rw [if_neg (by omega)])
        rw [this]; rfl
      · have d1 : ((z : Int) / 1 == 0) = false := by simp; omega
        have d2 : ((z : Int) == 0) = false := by simp; omega
        go_wp2_with fail
        go_round
        case rel => exact ⟨1, by omega, rfl, by omega, by omega, by omega, by omega⟩
        case measure => simp [intOf]
    · have ix : ∀ w, (Instr.index 156 (.agg #[.int .i64 0, .int .i64 7, .int .i64 12, .int .i64 32, .int .i64 64]) (.int .i64 1)).run Tryz.prog w = .ok (.int .i64 7) w := fun _ => by kernel_rfl
      by_cases hb : z < 128
      · have d1 : ((z : Int) / 128 == 0) = true := by simp; omega
        have d2 : ((z : Int) == 0) = decide (z = 0) := by by_cases h : z = 0 <;> simp [h]
        clear d2
        go_wp2_with fail
        go_ret
        refine ⟨ret_int ?_, HB.out⟩
        have : cls z = 1 := by unfold cls; repeat (first | rw [if_pos (by omega)] | rw [if_neg (by omega)])
        rw [this]; rfl
      · have d1 : ((z : Int) / 128 == 0) = false := by simp; omega
        skip
        go_wp2_with fail
        go_round
        case rel => exact ⟨2, by omega, rfl, by omega, by omega, by omega, by omega⟩
        case measure => simp [intOf]
    · have ix : ∀ w, (Instr.index 156 (.agg #[.int .i64 0, .int .i64 7, .int .i64 12, .int .i64 32, .int .i64 64]) (.int .i64 2)).run Tryz.prog w = .ok (.int .i64 12) w := fun _ => by kernel_rfl
      by_cases hb : z < 4096
      · have d1 : ((z : Int) / 4096 == 0) = true := by simp; omega
        have d2 : ((z : Int) == 0) = decide (z = 0) := by by_cases h : z = 0 <;> simp [h]
        clear d2
        go_wp2_with fail
        go_ret
        refine ⟨ret_int ?_, HB.out⟩
        have : cls z = 2 := by unfold cls; repeat (first | rw [if_pos (by omega)] | rw [if_neg (by omega)])
        rw [this]; rfl
      · have d1 : ((z : Int) / 4096 == 0) = false := by simp; omega
        skip
        go_wp2_with fail
        go_round
        case rel => exact ⟨3, by omega, rfl, by omega, by omega, by omega, by omega⟩
        case measure => simp [intOf]
    · have ix : ∀ w, (Instr.index 156 (.agg #[.int .i64 0, .int .i64 7, .int .i64 12, .int .i64 32, .int .i64 64]) (.int .i64 3)).run Tryz.prog w = .ok (.int .i64 32) w := fun _ => by kernel_rfl
      by_cases hb : z < 4294967296
      · have d1 : ((z : Int) / 4294967296 == 0) = true := by simp; omega
        have d2 : ((z : Int) == 0) = decide (z = 0) := by by_cases h : z = 0 <;> simp [h]
        clear d2
        go_wp2_with fail
        go_ret
        refine ⟨ret_int ?_, HB.out⟩
        have : cls z = 3 := by unfold cls; repeat (first | rw [if_pos (by omega)] | rw [if_neg (by omega)])
        rw [this]; rfl
      · have d1 : ((z : Int) / 4294967296 == 0) = false := by simp; omega
        skip
        go_wp2_with fail
        go_round
        case rel => exact ⟨4, by omega, rfl, by omega, by omega, by omega, by omega⟩
        case measure => simp [intOf]
    · have ix : ∀ w, (Instr.index 156 (.agg #[.int .i64 0, .int .i64 7, .int .i64 12, .int .i64 32, .int .i64 64]) (.int .i64 4)).run Tryz.prog w = .ok (.int .i64 64) w := fun _ => by kernel_rfl
      go_wp2_with fail
      go_ret
      refine ⟨ret_int ?_, HB.out⟩
      have : cls z = 4 := by unfold cls; repeat (first | rw [if_pos (by omega)] | rw [if_neg (by omega)])
      rw [this]; rfl
end Go.Proofs.YtopbbicjbjmdnaaGreatDoor.D
namespace Go.Proofs.YtopbbicjbjmdnaaGreatDoor.D
set_option maxRecDepth 100000
open Go.RowKit
set_option linter.unusedVariables false
set_option linter.unusedSimpArgs false
/-- A difference modulo 2^64. -/
def sub64 (a b : Int) : Int := (a - b + 9223372036854775808) % 18446744073709551616 - 9223372036854775808
theorem sub64_range (a b : Int) : -9223372036854775808 ≤ sub64 a b ∧ sub64 a b ≤ 9223372036854775807 := by unfold sub64; omega
set_option maxRecDepth 100000 in
set_option maxHeartbeats 400000 in
theorem sub_any (a b : Int) (w : World) (a0 : -9223372036854775808 ≤ a) (a1 : a ≤ 9223372036854775807) (b0 : -9223372036854775808 ≤ b) (b1 : b ≤ 9223372036854775807) :
    Calls Tryz.prog 53 #[.int .i64 a, .int .i64 b] w fun e w' => e = .returned (.int .i64 (sub64 a b)) ∧ w = w' := by
  have H := Lib.hid (And.intro a0 (And.intro a1 (And.intro b0 b1)))
  clear a0 a1 b0 b1
  go_enter Tryz.func53, Tryz.ntmps53
  go_wp2
  go_ret
  refine ⟨ret_int ?_, rfl⟩
  obtain ⟨a0, a1, b0, b1⟩ := H.out
  unfold sub64
  unfold wrap64
  simp only [IntKind.wrap_u64]
  omega
/-- The bits of a step of a step. -/
def mk (k : Nat) : Nat := 2 ^ ah k - 1 - (if k < 4 then 1 else 0)
def dbits (z : Nat) : List Nat := bitsTo (mk (cls z)) (ah (cls z)) (ah (cls z)) ++ bitsTo z (wd (cls z)) (wd (cls z))
theorem wd_le {k : Nat} (hk : k ≤ 4) : wd k ≤ 64 := by
  rcases (show k = 0 ∨ k = 1 ∨ k = 2 ∨ k = 3 ∨ k = 4 by omega) with rfl | rfl | rfl | rfl | rfl <;> decide
theorem dbits_length (z : Nat) : (dbits z).length = ah (cls z) + wd (cls z) := by unfold dbits; rw [List.length_append, bitsTo_length, bitsTo_length]
theorem dbits_le (z : Nat) : (dbits z).length ≤ 68 := by
  rw [dbits_length]
  have := wd_le (cls_le z)
  unfold ah; omega
def DPutPost (w : World) (a : Nat) (g : Option Nat) (L' : List Nat) (e : Ending) (w' : World) : Prop :=
  e = .returned (.tuple #[]) ∧ ∃ g', Wr w' a g' L' ∧ Keeps (fun k => k = a ∨ some k = g) w w' ∧ Moved w g g'
theorem keeps_two {w w1 w2 : World} {a : Nat} {g g1 : Option Nat} (h : Keeps (fun k => k = a ∨ some k = g) w w1) (hm : Moved w g g1) (k : Keeps (fun k => k = a ∨ some k = g1) w1 w2) : Keeps (fun k => k = a ∨ some k = g) w w2 :=
  h.trans k (fun x hx e => by
    rcases e with e | e
    · exact .inl e
    · rcases hm with h | ⟨q, h, hq⟩
      · exact .inr (h ▸ e)
      · rw [h] at e; injection e with e; omega)
set_option maxRecDepth 100000 in
set_option maxHeartbeats 800000 in
theorem dput_any (w : World) (a : Nat) (g : Option Nat) (L : List Nat) (z : Nat) (h : Wr w a g L) (hz : z < 18446744073709551616) (hl : L.length ≤ 4000000) :
    Calls Tryz.prog 54 #[.pointer (some ⟨a, 0, none⟩), .int .u64 (z : Nat)] w (DPutPost w a g (L ++ dbits z)) := by
  have HZ := Lib.hid (And.intro h hz)
  clear h hz
  go_enter Tryz.func54, Tryz.ntmps54
  go_wp2_with fail
  refine (classOf_any _ HZ.out.2 _).mono ?_
  rintro e w1 ⟨rfl, hb1⟩
  have hk := cls_le z
  obtain ⟨k, hkk⟩ : ∃ k, k = cls z := ⟨_, rfl⟩
  rw [← hkk] at hk
  rw [← hkk]
  have hx1 := HZ.out.1.keeps (S := fun _ => False) (Keeps.of_below hb1) (fun h => h) (fun _ _ h => h)
  have H1 := Lib.hid (And.intro hx1 (And.intro hb1 hkk))
  clear hx1 hb1 hkk
  have l1 : 1 ≤ ah k ∧ ah k ≤ 4 := by unfold ah; omega
  obtain ⟨A, hA⟩ : ∃ A, A = ah k := ⟨_, rfl⟩
  rw [← hA] at l1
  have hpw : (2 : Int) ^ A = ((2 ^ A : Nat) : Int) := pow_cast A
  have hpl : 2 ^ A ≤ 2 ^ 4 := Nat.pow_le_pow_right (by omega) l1.2
  have hp1 : 2 ^ 1 ≤ 2 ^ A := Nat.pow_le_pow_right (by omega) l1.1
  obtain ⟨m, hm⟩ : ∃ m, m = mk k := ⟨_, rfl⟩
  have hmv : m = 2 ^ A - 1 - (if k < 4 then 1 else 0) := by rw [hm]; unfold mk; rw [hA]
  have hm16 : m < 16 := by rw [hmv]; omega
  have e1 : IntKind.u64.wrap (IntKind.u64.wrap ((2 : Int) ^ A) - 1) = ((2 ^ A - 1 : Nat) : Int) := by
    rw [hpw, IntKind.wrap_u64, IntKind.wrap_u64]; omega
  have e2 : k < 4 → IntKind.u64.wrap (((2 ^ A - 1 : Nat) : Int) - 1) = (m : Int) := fun h => by
    rw [IntKind.wrap_u64, hmv, if_pos h]; omega
  have e3 : ¬ k < 4 → ((2 ^ A - 1 : Nat) : Int) = (m : Int) := fun h => by rw [hmv, if_neg h]; rfl
  obtain ⟨q, hq⟩ : ∃ q, q = 2 ^ A - 1 := ⟨_, rfl⟩
  rw [← hq] at e1 e2 e3
  have HM := Lib.hid (And.intro hA (And.intro hm (And.intro e2 e3)))
  clear hpw hpl hp1 hm hmv e2 e3 hq
  go_wp2_with fail
  refine (ahead_any k hk _).mono ?_
  rintro e w2 ⟨rfl, rfl⟩
  rw [← hA]
  clear hA
  go_upto_if 13 with (fail)
  go_cut [5] (fun s5 wx => s5 = .int .u64 (m : Nat) ∧ w1 = wx)
  case first =>
    by_cases hk4 : k < 4
    · have e2 := HM.out.2.2.1 hk4
      go_wp2_with fail
      go_meet
      exact ⟨rfl, rfl⟩
    · go_wp2_with fail
      go_meet
      rw [HM.out.2.2.2 hk4]
      exact ⟨rfl, rfl⟩
  case rest =>
    obtain ⟨rfl, rfl⟩ := hcut
    clear e1
    go_wp2_with fail
    refine (ahead_any k hk _).mono ?_
    rintro e w2 ⟨rfl, rfl⟩
    rw [← HM.out.1]
    go_wp2_with fail
    refine (put_fit _ _ _ _ _ _ H1.out.1 (by omega) (by omega) (by omega) (by omega) (by omega)).mono ?_
    rintro e w2 ⟨rfl, g2, hx2, hk2, hm2⟩
    rw [show ((m : Int)).toNat = m from rfl, show ((A : Int)).toNat = A from rfl] at hx2
    have hkw : Keeps (fun k => k = a ∨ some k = g) w w2 := (Keeps.of_below H1.out.2.1).trans' hk2
    have hmw : Moved w g g2 := by
      rcases hm2 with h | ⟨q', h, hq'⟩
      · exact .inl h
      · exact .inr ⟨q', h, Nat.le_trans H1.out.2.1.size hq'⟩
    have H2 := Lib.hid (And.intro hx2 (And.intro hkw hmw))
    clear hx2 hkw hmw hk2 hm2
    go_wp2_with fail
    refine (widths_any _).mono ?_
    rintro e w3 ⟨rfl, hb3⟩
    have hx3 := H2.out.1.keeps (S := fun _ => False) (Keeps.of_below hb3) (fun h => h) (fun _ _ h => h)
    have H3 := Lib.hid (And.intro hx3 hb3)
    clear hx3 hb3
    unfold widthsV
    have ix := fun w => widths_at k (by omega) w
    have l2 := wd_le hk
    go_wp2_with fail
    clear ix
    refine (put_fit _ _ _ _ _ _ H3.out.1 (by omega) (by have := HZ.out.2; omega) (by omega) (by omega) (by rw [List.length_append, bitsTo_length]; omega)).mono ?_
    rintro e w4 ⟨rfl, g4, hx4, hk4, hm4⟩
    rw [show ((z : Int)).toNat = z from rfl, show ((wd k : Int)).toNat = wd k from rfl] at hx4
    have hk24 : Keeps (fun k => k = a ∨ some k = g2) w2 w4 := (Keeps.of_below H3.out.2).trans' hk4
    have hm24 : Moved w2 g2 g4 := by
      rcases hm4 with h | ⟨q', h, hq'⟩
      · exact .inl h
      · exact .inr ⟨q', h, Nat.le_trans H3.out.2.size hq'⟩
    have hkw4 := keeps_two H2.out.2.1 H2.out.2.2 hk24
    have hmw4 := H2.out.2.2.trans H2.out.2.1.size hm24
    have H4 := Lib.hid (And.intro hx4 (And.intro hkw4 hmw4))
    clear hx4 hk4 hm4 hk24 hm24 hkw4 hmw4
    go_wp2_with fail
    go_end0
    refine ⟨rfl, g4, ?_, H4.out.2.1, H4.out.2.2⟩
    have e : L ++ dbits z = L ++ bitsTo m A A ++ bitsTo z (wd k) (wd k) := by
      unfold dbits
      rw [← H1.out.2.2, ← HM.out.1, ← HM.out.2.1, List.append_assoc]
    rw [e]
    exact H4.out.1
end Go.Proofs.YtopbbicjbjmdnaaGreatDoor.D
namespace Go.Proofs.YtopbbicjbjmdnaaGreatDoor.D
set_option maxRecDepth 100000
open Go.RowKit
set_option linter.unusedVariables false
set_option linter.unusedSimpArgs false
/-- The step behind k times; the bits of the first k. -/
def st (f : Nat → Int) : Nat → Int
  | 0 => 0
  | 1 => 0
  | k + 2 => sub64 (f (k + 1)) (f k)
def u64 (n : Int) : Nat := (n % 18446744073709551616).toNat
theorem u64_lt (n : Int) : u64 n < 18446744073709551616 := by unfold u64; omega
def encTo (f : Nat → Int) : Nat → List Nat
  | 0 => []
  | 1 => bitsTo (u64 (f 0)) 64 64
  | k + 2 => encTo f (k + 1) ++ dbits (zig (sub64 (sub64 (f (k + 1)) (f k)) (st f (k + 1))))
theorem st_range (f : Nat → Int) (k : Nat) : -9223372036854775808 ≤ st f k ∧ st f k ≤ 9223372036854775807 := by
  match k with
  | 0 => exact ⟨by show _ ≤ (0 : Int); omega, by show (0 : Int) ≤ _; omega⟩
  | 1 => exact ⟨by show _ ≤ (0 : Int); omega, by show (0 : Int) ≤ _; omega⟩
  | k + 2 => exact sub64_range _ _
theorem encTo_len (f : Nat → Int) (k : Nat) : (encTo f k).length ≤ 64 + 68 * k := by
  induction k with
  | zero => simp [encTo]
  | succ k ih =>
    match k with
    | 0 => unfold encTo; rw [bitsTo_length]; omega
    | k + 1 => unfold encTo; rw [List.length_append]; have := dbits_le (zig (sub64 (sub64 (f (k + 1)) (f k)) (st f (k + 1)))); omega
theorem dbits_bit (z : Nat) : ∀ j, (dbits z).getD j 0 < 2 := by unfold dbits; exact bits_append (bitsTo_bit _ _ _) (bitsTo_bit _ _ _)
theorem encTo_bit (f : Nat → Int) (k : Nat) : ∀ j, (encTo f k).getD j 0 < 2 := by
  induction k with
  | zero => intro j; simp [encTo]
  | succ k ih =>
    match k with
    | 0 => unfold encTo; exact bitsTo_bit _ _ _
    | k + 1 => unfold encTo; exact bits_append ih (dbits_bit _)
def EncPost (w : World) (bs : List Nat) (e : Ending) (w' : World) : Prop :=
  ∃ A c, e = .returned (.tuple #[.slice A bs.length c, .int .i64 0]) ∧ w'.ownsRow w.heap.size 5 1 (.slice A bs.length c) bs.length (bs.map byteV) ∧ Keeps (fun _ => False) w w'
set_option maxRecDepth 100000 in
set_option maxHeartbeats 1600000 in
theorem encode_any (w : World) (A : Option Addr) (len c : Nat) (D : Nat → Prop) (f : Nat → Int) (hsl : Sl w D A len (fun j => .int .i64 (f j))) (hf : ∀ j, -9223372036854775808 ≤ f j ∧ f j ≤ 9223372036854775807) (hlen : len ≤ 4096) :
    Calls Tryz.prog 37 #[.slice A len c] w (EncPost w (pack (encTo f len))) := by
  have HS := Lib.hid (And.intro hsl hf)
  clear hsl hf
  have d0 : decide ((4096 : Int) < len) = false := by simp; omega
  go_enter Tryz.func37, Tryz.ntmps37
  go_wp2_with fail
  refine (newWriter_any _).mono ?_
  rintro e w1 ⟨rfl, hx1, hk1⟩
  obtain ⟨x, hx⟩ : ∃ x, x = w.heap.size := ⟨_, rfl⟩
  rw [← hx] at hx1
  rw [← hx]
  have H1 := Lib.hid (And.intro hx1 (And.intro hk1 hx))
  have hxB : w.heap.size ≤ x := by omega
  clear hx1 hk1 hx d0
  go_wp2_with fail
  go_loopw [5, 15] (fun s i wr => ∃ (k : Nat) (g : Option Nat), k ≤ len ∧ i = .int .i64 k ∧ s = .int .i64 (st f k) ∧ Wr wr x g (encTo f k) ∧ Keeps (fun _ => False) w wr ∧ (∀ q, g = some q → w.heap.size ≤ q))
    (fun _ i _ => len - (intOf i).toNat)
  case atStart => exact ⟨0, none, Nat.zero_le _, rfl, rfl, H1.out.1, H1.out.2.1, fun _ h => by cases h⟩
  case round =>
    obtain ⟨k, g, hk, rfl, rfl, hxr, hkr, hgr⟩ := hrel
    by_cases hlt : k < len
    · obtain ⟨b, off, hA, hD, hcell⟩ := (HS.out.1.keep (w' := wr) (fun q _ hq => hkr.block q hq (fun h => h))) (by omega)
      have ck : wr.cell? ⟨b, off + k, none⟩ = some (.int .i64 (f k)) := hcell k hlt
      have hcp : 1 ≤ k → wr.cell? ⟨b, off + (k - 1), none⟩ = some (.int .i64 (f (k - 1))) := fun h => hcell (k - 1) (by omega)
      subst hA
      have HR := Lib.hid (And.intro hxr (And.intro hkr (And.intro hgr hcell)))
      clear hxr hkr hgr hcell
      have hlk := encTo_len f k
      rcases Nat.eq_zero_or_pos k with hk0 | hk0
      · subst hk0
        clear hcp
        have e1 : IntKind.u64.wrap (f 0) = (u64 (f 0) : Int) := by rw [IntKind.wrap_u64]; unfold u64; omega
        have hu := u64_lt (f 0)
        obtain ⟨u, hu'⟩ : ∃ u, u = u64 (f 0) := ⟨_, rfl⟩
        rw [← hu'] at e1 hu
        have HU := Lib.hid (And.intro hu hu')
        clear hu hu' hlk
        rw [show ((0 : Nat) : Int) = 0 from rfl]
        rw [Nat.add_zero] at ck
        go_wp2_with fail
        refine (put_fit _ _ _ _ _ _ HR.out.1 (by omega) (by have := HU.out.1; omega) (by omega) (by omega) (by simp [encTo])).mono ?_
        rintro e w2 ⟨rfl, g2, hx2, hk2, hm2⟩
        have H2 := Lib.hid (And.intro hx2 (And.intro (keeps_new HR.out.2.1 hk2 hxB HR.out.2.2.1) (moved_new (w0 := w) hm2 HR.out.2.1.size HR.out.2.2.1)))
        clear hx2 hk2 hm2 e1 ck
        go_wp2_with fail
        go_roundw
        case rel =>
          refine ⟨1, g2, by omega, rfl, rfl, ?_, H2.out.2.1, H2.out.2.2⟩
          have := H2.out.1
          rw [show ((u : Int)).toNat = u from rfl, show (64 : Int).toNat = 64 from rfl, HU.out.2] at this
          exact this
        case measure => simp [intOf]; omega
      · obtain ⟨j, rfl⟩ : ∃ j, k = j + 1 := ⟨k - 1, by omega⟩
        have cp := hcp (by omega)
        rw [show j + 1 - 1 = j by omega] at cp
        obtain ⟨r1, r2⟩ := HS.out.2 (j + 1)
        obtain ⟨r3, r4⟩ := HS.out.2 j
        obtain ⟨a, ha⟩ : ∃ a, a = f (j + 1) := ⟨_, rfl⟩
        obtain ⟨p, hp⟩ : ∃ p, p = f j := ⟨_, rfl⟩
        obtain ⟨s, hs⟩ : ∃ s, s = st f (j + 1) := ⟨_, rfl⟩
        rw [← ha] at ck r1 r2
        rw [← hp] at cp r3 r4
        rw [← hs]
        have hsr := st_range f (j + 1)
        rw [← hs] at hsr
        have HV := Lib.hid (And.intro ha (And.intro hp (And.intro hs (And.intro r1 (And.intro r2 (And.intro r3 (And.intro r4 hsr)))))))
        clear ha hp hs r1 r2 r3 r4 hsr hcp hk0
        go_wp2_with fail
        refine (sub_any _ _ _ HV.out.2.2.2.1 HV.out.2.2.2.2.1 HV.out.2.2.2.2.2.1 HV.out.2.2.2.2.2.2.1).mono ?_
        rintro e w2 ⟨rfl, rfl⟩
        obtain ⟨t, ht⟩ : ∃ t, t = sub64 a p := ⟨_, rfl⟩
        have htr := sub64_range a p
        rw [← ht] at htr
        rw [← ht]
        have HT := Lib.hid (And.intro ht htr)
        clear ht htr
        go_wp2_with fail
        refine (sub_any _ _ _ HT.out.2.1 HT.out.2.2 HV.out.2.2.2.2.2.2.2.1 HV.out.2.2.2.2.2.2.2.2).mono ?_
        rintro e w2 ⟨rfl, rfl⟩
        go_wp2_with fail
        refine (zig_any _ _ (sub64_range _ _).1 (sub64_range _ _).2).mono ?_
        rintro e w2 ⟨rfl, rfl⟩
        go_wp2_with fail
        refine (dput_any _ _ _ _ _ HR.out.1 (zig_lt (sub64_range _ _).1 (sub64_range _ _).2) (by omega)).mono ?_
        rintro e w2 ⟨rfl, g2, hx2, hk2, hm2⟩
        have H2 := Lib.hid (And.intro hx2 (And.intro (keeps_new HR.out.2.1 hk2 hxB HR.out.2.2.1) (moved_new (w0 := w) hm2 HR.out.2.1.size HR.out.2.2.1)))
        clear hx2 hk2 hm2 ck cp hlk
        go_wp2_with fail
        go_roundw
        case rel =>
          obtain ⟨ha, hp, hs, -⟩ := HV.out
          have ht := HT.out.1
          refine ⟨j + 2, g2, by omega, by go_num, ?_, ?_, H2.out.2.1, H2.out.2.2⟩
          · rw [ht, ha, hp]; rfl
          · have := H2.out.1
            rw [ht, ha, hp, hs] at this
            exact this
        case measure => simp [intOf]; omega
    · obtain rfl : k = len := by omega
      have HR := Lib.hid (And.intro hxr hkr)
      clear hxr hkr hgr
      go_wp2_with fail
      refine (bytes_wr _ _ _ _ HR.out.1).mono ?_
      rintro e w2 ⟨A2, c2, rfl, ho2, hk2⟩
      have H2 := Lib.hid (And.intro (own_base ho2 HR.out.2.size) (HR.out.2.trans' hk2))
      clear ho2 hk2
      go_wp2_with fail
      go_ret2
      exact ⟨A2, c2, rfl, H2.out.1, H2.out.2⟩
set_option maxHeartbeats 400000 in
theorem encode_big (w : World) (A : Option Addr) (len c : Nat) (hlen : 4096 < len) (hl : len ≤ 9223372036854775807) :
    Calls Tryz.prog 37 #[.slice A len c] w fun e w' => e = .returned (.tuple #[.slice none 0 0, .int .i64 3]) ∧ w = w' := by
  go_enter Tryz.func37, Tryz.ntmps37
  go_wp2
  go_ret2
  exact ⟨rfl, rfl⟩
end Go.Proofs.YtopbbicjbjmdnaaGreatDoor.D
namespace Go.Proofs.YtopbbicjbjmdnaaGreatDoor.X
/-- How many of 64 bits are 0 ahead of the first bit 1. -/
def lead (u : Nat) : Nat := if u = 0 then 64 else 63 - Nat.log2 u
/-- How many of n bits are 0 behind the last bit 1. -/
def trailF : Nat → Nat → Nat
  | 0, _ => 0
  | n + 1, u => if u % 2 = 0 then trailF n (u / 2) + 1 else 0
def trail (u : Nat) : Nat := trailF 64 u
theorem lead_spec {u : Nat} (h0 : 0 < u) (h : u < 18446744073709551616) : lead u ≤ 63 ∧ 2 ^ (63 - lead u) ≤ u ∧ u < 2 ^ (64 - lead u) := by
  have hl : Nat.log2 u < 64 := (Nat.log2_lt (by omega)).2 h
  have hu : lead u = 63 - Nat.log2 u := by unfold lead; rw [if_neg (by omega)]
  rw [hu]
  refine ⟨by omega, ?_, ?_⟩
  · rw [show 63 - (63 - Nat.log2 u) = Nat.log2 u by omega]; exact Nat.log2_self_le (by omega)
  · rw [show 64 - (63 - Nat.log2 u) = Nat.log2 u + 1 by omega]; exact Nat.lt_log2_self
theorem lead_uniq {u n : Nat} (hn : n ≤ 63) (h1 : 2 ^ (63 - n) ≤ u) (h2 : u < 2 ^ (64 - n)) : lead u = n := by
  have hp : 0 < 2 ^ (63 - n) := Nat.two_pow_pos _
  have h3 : Nat.log2 u < 64 - n := (Nat.log2_lt (by omega)).2 h2
  have h4 : ¬ Nat.log2 u < 63 - n := fun h => by have := (Nat.log2_lt (by omega)).1 h; omega
  unfold lead; rw [if_neg (by omega)]; omega
theorem lead_zero : lead 0 = 64 := rfl
theorem lead_pow {t : Nat} (h : t ≤ 63) : lead (2 ^ t) = 63 - t := by
  refine lead_uniq (by omega) ?_ ?_
  · rw [show 63 - (63 - t) = t by omega]; exact Nat.le_refl _
  · exact Nat.pow_lt_pow_right (by omega) (by omega)
theorem trailF_zero (n : Nat) : trailF n 0 = n := by
  induction n with
  | zero => rfl
  | succ n ih => simp [trailF, ih]
theorem trail_zero : trail 0 = 64 := trailF_zero 64
theorem trailF_spec (n : Nat) : ∀ u, 0 < u → u < 2 ^ n → trailF n u < n ∧ ∃ m, u = 2 ^ trailF n u * (2 * m + 1) := by
  induction n with
  | zero => intro u h0 h; simp at h; omega
  | succ n ih =>
    intro u h0 h
    rw [Nat.pow_succ] at h
    by_cases hu : u % 2 = 0
    · obtain ⟨h1, m, hm⟩ := ih (u / 2) (by omega) (by omega)
      have ht : trailF (n + 1) u = trailF n (u / 2) + 1 := by simp [trailF, hu]
      rw [ht]
      refine ⟨by omega, m, ?_⟩
      rw [Nat.pow_succ, Nat.mul_comm (2 ^ _) 2, Nat.mul_assoc, ← hm]; omega
    · have ht : trailF (n + 1) u = 0 := by simp [trailF, hu]
      rw [ht]
      exact ⟨by omega, u / 2, by omega⟩
theorem trail_spec {u : Nat} (h0 : 0 < u) (h : u < 18446744073709551616) : trail u ≤ 63 ∧ ∃ m, u = 2 ^ trail u * (2 * m + 1) := by
  obtain ⟨h1, h2⟩ := trailF_spec 64 u h0 h
  exact ⟨by unfold trail; omega, h2⟩
theorem odd_uniq (t : Nat) : ∀ s m k : Nat, 2 ^ t * (2 * m + 1) = 2 ^ s * (2 * k + 1) → t = s := by
  induction t with
  | zero =>
    intro s m k h
    cases s with
    | zero => rfl
    | succ s => rw [Nat.pow_succ, Nat.mul_comm (2 ^ s) 2, Nat.mul_assoc] at h; generalize 2 ^ s * (2 * k + 1) = z at h; simp at h; omega
  | succ t ih =>
    intro s m k h
    cases s with
    | zero => rw [Nat.pow_succ, Nat.mul_comm (2 ^ t) 2, Nat.mul_assoc] at h; generalize 2 ^ t * (2 * m + 1) = z at h; simp at h; omega
    | succ s =>
      rw [Nat.pow_succ, Nat.pow_succ, Nat.mul_comm (2 ^ s) 2, Nat.mul_comm (2 ^ t) 2, Nat.mul_assoc, Nat.mul_assoc] at h
      rw [ih s m k (by omega)]
theorem trail_uniq {u t m : Nat} (h : u < 18446744073709551616) (hm : u = 2 ^ t * (2 * m + 1)) : trail u = t := by
  have hp : 0 < 2 ^ t := Nat.two_pow_pos _
  have h0 : 0 < u := by rw [hm]; exact Nat.mul_pos hp (by omega)
  obtain ⟨_, k, hk⟩ := trail_spec h0 h
  exact odd_uniq _ _ k m (hk.symm.trans hm)
theorem window_le {u : Nat} (h0 : 0 < u) (h : u < 18446744073709551616) : lead u + trail u ≤ 63 := by
  obtain ⟨h1, h2, h3⟩ := lead_spec h0 h
  obtain ⟨h4, m, hm⟩ := trail_spec h0 h
  have h5 : 2 ^ trail u ≤ u := by
    calc 2 ^ trail u = 2 ^ trail u * 1 := by omega
      _ ≤ 2 ^ trail u * (2 * m + 1) := Nat.mul_le_mul_left _ (by omega)
      _ = u := hm.symm
  have h6 : trail u < 64 - lead u := (Nat.pow_lt_pow_iff_right (by omega : 1 < 2)).1 (Nat.lt_of_le_of_lt h5 h3)
  omega
theorem and_compl {n m : Nat} (h : m < 2 ^ n) : m &&& (2 ^ n - (m + 1)) = 0 := by
  apply Nat.eq_of_testBit_eq
  intro i
  rw [Nat.testBit_and, Nat.testBit_two_pow_sub_succ h, Nat.zero_testBit]
  cases Nat.testBit m i <;> simp
theorem odd_and (m k : Nat) : (2 * m + 1) &&& (2 * k + 1) = 2 * (m &&& k) + 1 := by
  apply Nat.eq_of_testBit_eq
  intro i
  cases i with
  | zero => simp [Nat.testBit_zero]
  | succ i => rw [Nat.testBit_and, Nat.testBit_succ, Nat.testBit_succ, Nat.testBit_succ, show (2 * m + 1) / 2 = m by omega, show (2 * k + 1) / 2 = k by omega, show (2 * (m &&& k) + 1) / 2 = m &&& k by omega, Nat.testBit_and]
/-- The lowest bit 1. -/
theorem low_bit {u : Nat} (h0 : 0 < u) (h : u < 18446744073709551616) : u &&& (18446744073709551616 - u) = 2 ^ trail u := by
  obtain ⟨h4, m, hm⟩ := trail_spec h0 h
  generalize trail u = t at h4 hm
  have hp : 0 < 2 ^ t := Nat.two_pow_pos _
  have h64 : 18446744073709551616 = 2 ^ t * (2 * 2 ^ (63 - t)) := by
    rw [show 2 * 2 ^ (63 - t) = 2 ^ (64 - t) by rw [← Nat.pow_succ']; congr 1; omega, ← Nat.pow_add, show t + (64 - t) = 64 by omega]
  have hm' : m < 2 ^ (63 - t) := by
    have h7 : 2 ^ t * (2 * m + 1) < 2 ^ t * (2 * 2 ^ (63 - t)) := by rw [← h64, ← hm]; exact h
    have := Nat.lt_of_mul_lt_mul_left h7
    omega
  have hk : 18446744073709551616 - u = 2 ^ t * (2 * (2 ^ (63 - t) - (m + 1)) + 1) := by
    rw [h64, hm, ← Nat.mul_sub]; congr 1; omega
  rw [hk, hm, Nat.mul_comm (2 ^ t), Nat.mul_comm (2 ^ t), ← Nat.shiftLeft_eq, ← Nat.shiftLeft_eq, ← Nat.shiftLeft_and_distrib, odd_and, and_compl hm', Nat.shiftLeft_eq]
  omega
end Go.Proofs.YtopbbicjbjmdnaaGreatDoor.X
namespace Go.Proofs.YtopbbicjbjmdnaaGreatDoor.X
open Go.RowKit
set_option linter.unusedVariables false
def stepsV : Value := .agg #[.int .i64 32, .int .i64 16, .int .i64 8, .int .i64 4, .int .i64 2, .int .i64 1]
def leadLo (k : Nat) : Nat := [1, 4294967296, 281474976710656, 72057594037927936, 1152921504606846976, 4611686018427387904, 9223372036854775808].getD k 0
def leadMost (k : Nat) : Nat := [0, 32, 48, 56, 60, 62, 63].getD k 0
theorem xret_int {a b : Int} (h : a = b) : Ending.returned (.int .i64 a) = .returned (.int .i64 b) := by rw [h]
set_option maxHeartbeats 400000 in
theorem steps_any (w : World) : Calls Tryz.prog 94 #[] w fun e w' => e = .returned stepsV ∧ Below w.heap.size w w' := by
  go_enter Tryz.func94, Tryz.ntmps94
  go_wp2
  exact bodyPost_ret (v := stepsV) (by simp [results, Tryz.results94, go_sem, stepsV]) rfl ⟨rfl, (Below.refl _ _).alloc (Nat.le_refl _) _⟩
set_option maxRecDepth 100000 in
set_option maxHeartbeats 800000 in
theorem wlead_any (u : Nat) (hu : u < 18446744073709551616) (w : World) :
    Calls Tryz.prog 79 #[.int .u64 (u : Nat)] w fun e w' => e = .returned (.int .i64 (lead u : Nat)) ∧ Below w.heap.size w w' := by
  by_cases h0 : u = 0
  · subst h0
    go_enter Tryz.func79, Tryz.ntmps79
    go_wp2
    go_ret
    exact ⟨rfl, Below.refl _ _⟩
  have HU := Lib.hid (And.intro hu h0)
  have d0 : ((u : Int) == 0) = false := by simp; omega
  clear hu h0
  go_enter Tryz.func79, Tryz.ntmps79
  go_wp2_with fail
  refine (steps_any _).mono ?_
  rintro e w1 ⟨rfl, hb1⟩
  have HB := Lib.hid hb1
  clear hb1
  unfold stepsV
  go_wp2_with fail
  go_loop [0, 3, 9] (fun a b i => ∃ k n v : Nat, k ≤ 6 ∧ a = .int .u64 (v : Nat) ∧ b = .int .i64 (n : Nat) ∧ i = .int .i64 (k : Nat) ∧ v = u * 2 ^ n ∧ v < 18446744073709551616 ∧ leadLo k ≤ v ∧ n ≤ leadMost k) (fun _ _ i => 6 - (intOf i).toNat)
  case atStart => exact ⟨0, 0, u, by omega, rfl, rfl, rfl, by omega, HU.out.1, by have := HU.out.2; show 1 ≤ u; omega, Nat.le_refl _⟩
  case round =>
    obtain ⟨k, n, v, hk, rfl, rfl, rfl, hv, hlt, hlo, hn⟩ := hrel
    have HV := Lib.hid hv
    clear hv
    rcases (show k = 0 ∨ k = 1 ∨ k = 2 ∨ k = 3 ∨ k = 4 ∨ k = 5 ∨ k = 6 by omega) with rfl | rfl | rfl | rfl | rfl | rfl | rfl
    · have hlo' : 1 ≤ v := hlo
      have hn' : n ≤ 0 := hn
      clear hlo hn
      have ix : ∀ w, (Instr.index 175 (.agg #[.int .i64 32, .int .i64 16, .int .i64 8, .int .i64 4, .int .i64 2, .int .i64 1]) (.int .i64 0)).run Tryz.prog w = .ok (.int .i64 32) w := fun _ => by kernel_rfl
      by_cases hb : v < 4294967296
      · have d1 : ((v : Int) / 4294967296 == 0) = true := by simp; omega
        go_wp2_with fail
        go_round
        case rel =>
          refine ⟨1, n + 32, v * 4294967296, by omega, by congr 1, ?_, rfl, ?_, by omega, by show 4294967296 ≤ v * 4294967296; omega, by show n + 32 ≤ 32; omega⟩
          · congr 1
          · rw [Nat.pow_add, ← Nat.mul_assoc, ← HV.out]
        case measure => simp [intOf]
      · have d1 : ((v : Int) / 4294967296 == 0) = false := by simp; omega
        go_wp2_with fail
        go_round
        case rel => exact ⟨1, n, v, by omega, rfl, rfl, rfl, HV.out, hlt, by show 4294967296 ≤ v; omega, by show n ≤ 32; omega⟩
        case measure => simp [intOf]
    · have hlo' : 4294967296 ≤ v := hlo
      have hn' : n ≤ 32 := hn
      clear hlo hn
      have ix : ∀ w, (Instr.index 175 (.agg #[.int .i64 32, .int .i64 16, .int .i64 8, .int .i64 4, .int .i64 2, .int .i64 1]) (.int .i64 1)).run Tryz.prog w = .ok (.int .i64 16) w := fun _ => by kernel_rfl
      by_cases hb : v < 281474976710656
      · have d1 : ((v : Int) / 281474976710656 == 0) = true := by simp; omega
        go_wp2_with fail
        go_round
        case rel =>
          refine ⟨2, n + 16, v * 65536, by omega, by congr 1, ?_, rfl, ?_, by omega, by show 281474976710656 ≤ v * 65536; omega, by show n + 16 ≤ 48; omega⟩
          · congr 1
          · rw [Nat.pow_add, ← Nat.mul_assoc, ← HV.out]
        case measure => simp [intOf]
      · have d1 : ((v : Int) / 281474976710656 == 0) = false := by simp; omega
        go_wp2_with fail
        go_round
        case rel => exact ⟨2, n, v, by omega, rfl, rfl, rfl, HV.out, hlt, by show 281474976710656 ≤ v; omega, by show n ≤ 48; omega⟩
        case measure => simp [intOf]
    · have hlo' : 281474976710656 ≤ v := hlo
      have hn' : n ≤ 48 := hn
      clear hlo hn
      have ix : ∀ w, (Instr.index 175 (.agg #[.int .i64 32, .int .i64 16, .int .i64 8, .int .i64 4, .int .i64 2, .int .i64 1]) (.int .i64 2)).run Tryz.prog w = .ok (.int .i64 8) w := fun _ => by kernel_rfl
      by_cases hb : v < 72057594037927936
      · have d1 : ((v : Int) / 72057594037927936 == 0) = true := by simp; omega
        go_wp2_with fail
        go_round
        case rel =>
          refine ⟨3, n + 8, v * 256, by omega, by congr 1, ?_, rfl, ?_, by omega, by show 72057594037927936 ≤ v * 256; omega, by show n + 8 ≤ 56; omega⟩
          · congr 1
          · rw [Nat.pow_add, ← Nat.mul_assoc, ← HV.out]
        case measure => simp [intOf]
      · have d1 : ((v : Int) / 72057594037927936 == 0) = false := by simp; omega
        go_wp2_with fail
        go_round
        case rel => exact ⟨3, n, v, by omega, rfl, rfl, rfl, HV.out, hlt, by show 72057594037927936 ≤ v; omega, by show n ≤ 56; omega⟩
        case measure => simp [intOf]
    · have hlo' : 72057594037927936 ≤ v := hlo
      have hn' : n ≤ 56 := hn
      clear hlo hn
      have ix : ∀ w, (Instr.index 175 (.agg #[.int .i64 32, .int .i64 16, .int .i64 8, .int .i64 4, .int .i64 2, .int .i64 1]) (.int .i64 3)).run Tryz.prog w = .ok (.int .i64 4) w := fun _ => by kernel_rfl
      by_cases hb : v < 1152921504606846976
      · have d1 : ((v : Int) / 1152921504606846976 == 0) = true := by simp; omega
        go_wp2_with fail
        go_round
        case rel =>
          refine ⟨4, n + 4, v * 16, by omega, by congr 1, ?_, rfl, ?_, by omega, by show 1152921504606846976 ≤ v * 16; omega, by show n + 4 ≤ 60; omega⟩
          · congr 1
          · rw [Nat.pow_add, ← Nat.mul_assoc, ← HV.out]
        case measure => simp [intOf]
      · have d1 : ((v : Int) / 1152921504606846976 == 0) = false := by simp; omega
        go_wp2_with fail
        go_round
        case rel => exact ⟨4, n, v, by omega, rfl, rfl, rfl, HV.out, hlt, by show 1152921504606846976 ≤ v; omega, by show n ≤ 60; omega⟩
        case measure => simp [intOf]
    · have hlo' : 1152921504606846976 ≤ v := hlo
      have hn' : n ≤ 60 := hn
      clear hlo hn
      have ix : ∀ w, (Instr.index 175 (.agg #[.int .i64 32, .int .i64 16, .int .i64 8, .int .i64 4, .int .i64 2, .int .i64 1]) (.int .i64 4)).run Tryz.prog w = .ok (.int .i64 2) w := fun _ => by kernel_rfl
      by_cases hb : v < 4611686018427387904
      · have d1 : ((v : Int) / 4611686018427387904 == 0) = true := by simp; omega
        go_wp2_with fail
        go_round
        case rel =>
          refine ⟨5, n + 2, v * 4, by omega, by congr 1, ?_, rfl, ?_, by omega, by show 4611686018427387904 ≤ v * 4; omega, by show n + 2 ≤ 62; omega⟩
          · congr 1
          · rw [Nat.pow_add, ← Nat.mul_assoc, ← HV.out]
        case measure => simp [intOf]
      · have d1 : ((v : Int) / 4611686018427387904 == 0) = false := by simp; omega
        go_wp2_with fail
        go_round
        case rel => exact ⟨5, n, v, by omega, rfl, rfl, rfl, HV.out, hlt, by show 4611686018427387904 ≤ v; omega, by show n ≤ 62; omega⟩
        case measure => simp [intOf]
    · have hlo' : 4611686018427387904 ≤ v := hlo
      have hn' : n ≤ 62 := hn
      clear hlo hn
      have ix : ∀ w, (Instr.index 175 (.agg #[.int .i64 32, .int .i64 16, .int .i64 8, .int .i64 4, .int .i64 2, .int .i64 1]) (.int .i64 5)).run Tryz.prog w = .ok (.int .i64 1) w := fun _ => by kernel_rfl
      by_cases hb : v < 9223372036854775808
      · have d1 : ((v : Int) / 9223372036854775808 == 0) = true := by simp; omega
        go_wp2_with fail
        go_round
        case rel =>
          refine ⟨6, n + 1, v * 2, by omega, by congr 1, ?_, rfl, ?_, by omega, by show 9223372036854775808 ≤ v * 2; omega, by show n + 1 ≤ 63; omega⟩
          · congr 1
          · rw [Nat.pow_add, ← Nat.mul_assoc, ← HV.out]
        case measure => simp [intOf]
      · have d1 : ((v : Int) / 9223372036854775808 == 0) = false := by simp; omega
        go_wp2_with fail
        go_round
        case rel => exact ⟨6, n, v, by omega, rfl, rfl, rfl, HV.out, hlt, by show 9223372036854775808 ≤ v; omega, by show n ≤ 63; omega⟩
        case measure => simp [intOf]
    · have hlo' : 9223372036854775808 ≤ v := hlo
      have hn' : n ≤ 63 := hn
      clear hlo hn
      go_wp2_with fail
      go_ret
      refine ⟨xret_int ?_, HB.out⟩
      have hv := HV.out
      have hp : 2 ^ (63 - n) * 2 ^ n = 9223372036854775808 := by rw [← Nat.pow_add, show 63 - n + n = 63 by omega]
      have hq : 2 ^ (64 - n) * 2 ^ n = 18446744073709551616 := by rw [← Nat.pow_add, show 64 - n + n = 64 by omega]
      have hpos : 0 < 2 ^ n := Nat.two_pow_pos n
      have : lead u = n := lead_uniq hn' (Nat.le_of_mul_le_mul_right (by rw [hp, ← hv]; exact hlo') hpos) (Nat.lt_of_mul_lt_mul_right (a := 2 ^ n) (by rw [hq, ← hv]; exact hlt))
      rw [this]
set_option maxRecDepth 100000 in
set_option maxHeartbeats 800000 in
theorem wtrail_any (u : Nat) (hu : u < 18446744073709551616) (w : World) :
    Calls Tryz.prog 80 #[.int .u64 (u : Nat)] w fun e w' => e = .returned (.int .i64 (trail u : Nat)) ∧ Below w.heap.size w w' := by
  by_cases h0 : u = 0
  · subst h0
    go_enter Tryz.func80, Tryz.ntmps80
    go_wp2
    go_ret
    exact ⟨rfl, Below.refl _ _⟩
  obtain ⟨ht, m, hm⟩ := trail_spec (by omega) hu
  clear hm
  have d0 : ((u : Int) == 0) = false := by simp; omega
  have hlow : bits .and .u64 (u : Int) (IntKind.u64.wrap (-(u : Int))) = ((2 ^ trail u : Nat) : Int) := by
    rw [IntKind.wrap_u64, show -(u : Int) % 18446744073709551616 = ((18446744073709551616 - u : Nat) : Int) by omega, u64_and_nat _ _ hu (by omega), low_bit (by omega) hu]
  have hc := wlead_any (2 ^ trail u) (show 2 ^ trail u < 2 ^ 64 from Nat.pow_lt_pow_right (by omega) (by omega))
  rw [lead_pow ht] at hc
  have HT := Lib.hid (And.intro hu h0)
  clear hu h0
  go_enter Tryz.func80, Tryz.ntmps80
  go_wp2_with fail
  rw [show ((2 : Int) ^ trail u) = ((2 ^ trail u : Nat) : Int) by simp]
  refine (hc _).mono ?_
  rintro e w1 ⟨rfl, hb1⟩
  have HB := Lib.hid hb1
  clear hb1
  go_wp2_with fail
  go_ret
  exact ⟨xret_int (by first | omega | (simp only [IntKind.wrap_i64]; omega)), HB.out⟩
end Go.Proofs.YtopbbicjbjmdnaaGreatDoor.X
