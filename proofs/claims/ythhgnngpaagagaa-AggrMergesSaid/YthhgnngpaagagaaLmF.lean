/-
  The contract of tidemillref08.All. (Printed by mk.py.)
-/
import Derived.Test.YthhgnngpaagagaaLmE
import Derived.Test.YthhgnngpaagagaaAgG
namespace Go.Proofs.Ythhgnngpaagagaa
open Go.RowKit
set_option linter.unusedVariables false
set_option linter.unusedSimpArgs false
def RAllPost (f : Nat → Pt) (n : Nat) (w : World) (e : Ending) (w' : World) : Prop := e = .returned (.tuple #[.agg #[.int .i64 (allA f n).n, .int .i64 (lim ((allA f n).s) 0), .int .i64 (lim ((allA f n).s) 1), .int .i64 (lim ((allA f n).s) 2), .int .i64 (lim ((allA f n).s) 3), .int .i64 (lim ((allA f n).s) 4), .int .i64 (lim ((allA f n).s) 5), .int .i64 (lim ((allA f n).s) 6), .int .i64 (lim ((allA f n).s) 7), .int .i64 (allA f n).lo, .int .i64 (allA f n).hi, .int .i64 (allA f n).f.t, .int .i64 (allA f n).f.v, .int .i64 (allA f n).f.s, .int .i64 (allA f n).l.t, .int .i64 (allA f n).l.v, .int .i64 (allA f n).l.s], .int .i64 0]) ∧ Below w.heap.size w w'
theorem rall_post {f : Nat → Pt} {n : Nat} {w w' : World} {v : Value} (hv : v = .tuple #[.agg #[.int .i64 (allA f n).n, .int .i64 (lim ((allA f n).s) 0), .int .i64 (lim ((allA f n).s) 1), .int .i64 (lim ((allA f n).s) 2), .int .i64 (lim ((allA f n).s) 3), .int .i64 (lim ((allA f n).s) 4), .int .i64 (lim ((allA f n).s) 5), .int .i64 (lim ((allA f n).s) 6), .int .i64 (lim ((allA f n).s) 7), .int .i64 (allA f n).lo, .int .i64 (allA f n).hi, .int .i64 (allA f n).f.t, .int .i64 (allA f n).f.v, .int .i64 (allA f n).f.s, .int .i64 (allA f n).l.t, .int .i64 (allA f n).l.v, .int .i64 (allA f n).l.s], .int .i64 0]) (hb : Below w.heap.size w w') : RAllPost f n w (.returned v) w' := by
  subst hv
  exact ⟨rfl, hb⟩
set_option maxRecDepth 100000 in
set_option maxHeartbeats 8000000 in
theorem rall_any (A : Option Addr) (n c : Nat) (f : Nat → Pt) (D : Nat → Prop) (w : World) (hsl : SlP w D A n f) (hf : ∀ j, PtOk (f j)) (hn : n ≤ 4294967296) :
    Calls Try.prog 13 #[.slice A n c] w (RAllPost f n w) := by
  obtain ⟨x, hx⟩ : ∃ x, x = w.heap.size := ⟨_, rfl⟩
  have o0 := (Own.own2 w hx 40 #[.int .i64 0, .int .i64 0, .int .i64 0, .int .i64 0, .int .i64 0, .int .i64 0, .int .i64 0, .int .i64 0, .int .i64 0, .int .i64 0, .int .i64 0, .int .i64 0, .int .i64 0, .int .i64 0, .int .i64 0, .int .i64 0, .int .i64 0] 40 #[.int .i64 0, .int .i64 0, .int .i64 0, .int .i64 0, .int .i64 0, .int .i64 0, .int .i64 0, .int .i64 0, .int .i64 0, .int .i64 0, .int .i64 0, .int .i64 0, .int .i64 0, .int .i64 0, .int .i64 0, .int .i64 0, .int .i64 0]).front 1 rfl
  have HO := Lib.hid (And.intro hx (And.intro o0 (And.intro hsl hf)))
  clear hx o0 hsl hf
  go_enter Try.func13, Try.ntmps13
  go_wp2_with fail
  rw [← HO.out.1]
  go_loopw [5] (fun i wr => ∃ (k : Nat) (a : Ag) (fa : Nat → Int), k ≤ n ∧ i = .int .i64 k ∧ a = allA f k ∧ (∀ j, fa j = lim a.s j) ∧ Own w [(x + 1, 40, #[.int .i64 a.n, .int .i64 (fa 0), .int .i64 (fa 1), .int .i64 (fa 2), .int .i64 (fa 3), .int .i64 (fa 4), .int .i64 (fa 5), .int .i64 (fa 6), .int .i64 (fa 7), .int .i64 a.lo, .int .i64 a.hi, .int .i64 a.f.t, .int .i64 a.f.v, .int .i64 a.f.s, .int .i64 a.l.t, .int .i64 a.l.v, .int .i64 a.l.s]), (x, 40, #[.int .i64 0, .int .i64 0, .int .i64 0, .int .i64 0, .int .i64 0, .int .i64 0, .int .i64 0, .int .i64 0, .int .i64 0, .int .i64 0, .int .i64 0, .int .i64 0, .int .i64 0, .int .i64 0, .int .i64 0, .int .i64 0, .int .i64 0])] wr) (fun i _ => n - (intOf i).toNat)
  case atStart => exact ⟨0, zeroA, fun _ => 0, Nat.zero_le _, rfl, rfl, fun j => (lim_zero j).symm, HO.out.2.1⟩
  case round =>
    obtain ⟨k, a, fa, hk, rfl, ha, hfa, hS⟩ := hrel
    by_cases hlt : k < n
    · have HR := Lib.hid (show mergeR a (ofA (f k)) = (allA f (k + 1), 0) by rw [ha]; exact allA_succ f HO.out.2.2.2 k (by omega))
      have HA := Lib.hid (And.intro (by rw [ha]; exact (allA_is f HO.out.2.2.2 k (by omega)).ok (by omega) : AgOk a) (HO.out.2.2.2 k))
      have hmg := rmerge_any a (ofA (f k)) HA.out.1 (ofA_ok HA.out.2)
      rw [← hfa 0, ← hfa 1, ← hfa 2, ← hfa 3, ← hfa 4, ← hfa 5, ← hfa 6, ← hfa 7] at hmg
      obtain ⟨b, off, rfl, -, hc⟩ := HO.out.2.2.1 (by omega)
      have hc := hc k hlt
      have HM := Lib.hid (And.intro hmg (And.intro ha hfa))
      generalize f k = p at hc HR HA HM
      have HC := Lib.hid (show ∀ w', Own w [(x + 1, 40, #[.int .i64 a.n, .int .i64 (fa 0), .int .i64 (fa 1), .int .i64 (fa 2), .int .i64 (fa 3), .int .i64 (fa 4), .int .i64 (fa 5), .int .i64 (fa 6), .int .i64 (fa 7), .int .i64 a.lo, .int .i64 a.hi, .int .i64 a.f.t, .int .i64 a.f.v, .int .i64 a.f.s, .int .i64 a.l.t, .int .i64 a.l.v, .int .i64 a.l.s]), (x, 40, #[.int .i64 0, .int .i64 0, .int .i64 0, .int .i64 0, .int .i64 0, .int .i64 0, .int .i64 0, .int .i64 0, .int .i64 0, .int .i64 0, .int .i64 0, .int .i64 0, .int .i64 0, .int .i64 0, .int .i64 0, .int .i64 0, .int .i64 0])] w' → w'.cell? ⟨b, off + k * 3, none⟩ = some (.int .i64 p.t) ∧ w'.cell? ⟨b, off + k * 3 + 1, none⟩ = some (.int .i64 p.v) ∧ w'.cell? ⟨b, off + k * 3 + 2, none⟩ = some (.int .i64 p.s) from fun w' hw =>
        have old : ∀ {q : Addr} {u : Value}, w.cell? q = some u → w'.cell? q = some u := fun {q u} h => (World.cell?_of_block (w := w) (a := q) (hw.bel.block q.block (World.block_lt_of_cell? w _ h))).trans h
        ⟨old hc.1, old hc.2.1, old hc.2.2⟩)
      clear hc hmg ha hfa
      have HS := Lib.hid hS
      clear hS
      go_upto_region 5 with (fail)
      go_cut [6, 7] from 16 to 24 (fun s6 s7 wx => ∃ (r : Ag) (fr : Nat → Int) (y : Nat), s6 = .pointer (some ⟨y, 0, none⟩) ∧ s7 = .int .i64 0 ∧ r = allA f (k + 1) ∧ (∀ j, fr j = lim r.s j) ∧ Own w [(y, 40, #[.int .i64 r.n, .int .i64 (fr 0), .int .i64 (fr 1), .int .i64 (fr 2), .int .i64 (fr 3), .int .i64 (fr 4), .int .i64 (fr 5), .int .i64 (fr 6), .int .i64 (fr 7), .int .i64 r.lo, .int .i64 r.hi, .int .i64 r.f.t, .int .i64 r.f.v, .int .i64 r.f.s, .int .i64 r.l.t, .int .i64 r.l.v, .int .i64 r.l.s]), (x + 1, 40, #[.int .i64 a.n, .int .i64 (fa 0), .int .i64 (fa 1), .int .i64 (fa 2), .int .i64 (fa 3), .int .i64 (fa 4), .int .i64 (fa 5), .int .i64 (fa 6), .int .i64 (fa 7), .int .i64 a.lo, .int .i64 a.hi, .int .i64 a.f.t, .int .i64 a.f.v, .int .i64 a.f.s, .int .i64 a.l.t, .int .i64 a.l.v, .int .i64 a.l.s]), (x, 40, #[.int .i64 0, .int .i64 0, .int .i64 0, .int .i64 0, .int .i64 0, .int .i64 0, .int .i64 0, .int .i64 0, .int .i64 0, .int .i64 0, .int .i64 0, .int .i64 0, .int .i64 0, .int .i64 0, .int .i64 0, .int .i64 0, .int .i64 0])] wx)
      case first =>
        have hS : (Own w [(x + 1, 40, #[.int .i64 a.n, .int .i64 (fa 0), .int .i64 (fa 1), .int .i64 (fa 2), .int .i64 (fa 3), .int .i64 (fa 4), .int .i64 (fa 5), .int .i64 (fa 6), .int .i64 (fa 7), .int .i64 a.lo, .int .i64 a.hi, .int .i64 a.f.t, .int .i64 a.f.v, .int .i64 a.f.s, .int .i64 a.l.t, .int .i64 a.l.v, .int .i64 a.l.s]), (x, 40, #[.int .i64 0, .int .i64 0, .int .i64 0, .int .i64 0, .int .i64 0, .int .i64 0, .int .i64 0, .int .i64 0, .int .i64 0, .int .i64 0, .int .i64 0, .int .i64 0, .int .i64 0, .int .i64 0, .int .i64 0, .int .i64 0, .int .i64 0])]) (wr.drew) := HS.out.drew
        refine reg_start (Own w [(x + 1, 40, #[.int .i64 a.n, .int .i64 (fa 0), .int .i64 (fa 1), .int .i64 (fa 2), .int .i64 (fa 3), .int .i64 (fa 4), .int .i64 (fa 5), .int .i64 (fa 6), .int .i64 (fa 7), .int .i64 a.lo, .int .i64 a.hi, .int .i64 a.f.t, .int .i64 a.f.v, .int .i64 a.f.s, .int .i64 a.l.t, .int .i64 a.l.v, .int .i64 a.l.s]), (x, 40, #[.int .i64 0, .int .i64 0, .int .i64 0, .int .i64 0, .int .i64 0, .int .i64 0, .int .i64 0, .int .i64 0, .int .i64 0, .int .i64 0, .int .i64 0, .int .i64 0, .int .i64 0, .int .i64 0, .int .i64 0, .int .i64 0, .int .i64 0])]) (by kernel_rfl) hS ?_
        refine reg_take (i := 0) (v := .agg [.int .i64 a.n, .int .i64 (fa 0), .int .i64 (fa 1), .int .i64 (fa 2), .int .i64 (fa 3), .int .i64 (fa 4), .int .i64 (fa 5), .int .i64 (fa 6), .int .i64 (fa 7), .int .i64 a.lo, .int .i64 a.hi, .int .i64 a.f.t, .int .i64 a.f.v, .int .i64 a.f.s, .int .i64 a.l.t, .int .i64 a.l.v, .int .i64 a.l.s].toArray) rfl (by kernel_rfl) (by kernel_rfl) (by kernel_rfl) (fun _ _ _ h => h) (yieldsIf_load_mid (by kernel_rfl) _ _ rfl (x + 1) 0 rfl [.int .i64 a.n, .int .i64 (fa 0), .int .i64 (fa 1), .int .i64 (fa 2), .int .i64 (fa 3), .int .i64 (fa 4), .int .i64 (fa 5), .int .i64 (fa 6), .int .i64 (fa 7), .int .i64 a.lo, .int .i64 a.hi, .int .i64 a.f.t, .int .i64 a.f.v, .int .i64 a.f.s, .int .i64 a.l.t, .int .i64 a.l.v, .int .i64 a.l.s] _ (fun w' h => range_blk (h.get 0 rfl) 0 17 _ rfl (fun j _ => by simp)) Try.underlying40 rfl (by kernel_rfl)) hS ?_
        try simp only [List.getElem_toArray, List.getElem_cons_succ, List.getElem_cons_zero, Act.put, List.setIfInBounds_toArray, List.set_cons_zero, List.set_cons_succ]
        refine reg_take (i := 1) (v := ?_) rfl (by kernel_rfl) (by kernel_rfl) (by kernel_rfl) (fun _ _ _ h => h) (Or.inl ⟨by kernel_rfl, ?_⟩) hS ?_
        rotate_left
        · (intro w' hSw; obtain ⟨t0, t1, t2⟩ := HC.out w' hSw; go_simp <;> with_reducible rfl)
        try simp only [List.getElem_toArray, List.getElem_cons_succ, List.getElem_cons_zero, Act.put, List.setIfInBounds_toArray, List.set_cons_zero, List.set_cons_succ]
        refine reg_take (i := 2) (v := ?_) rfl (by kernel_rfl) (by kernel_rfl) (by kernel_rfl) (fun _ _ _ h => h) (Or.inl ⟨by kernel_rfl, ?_⟩) hS ?_
        rotate_left
        · (intro w' hSw; obtain ⟨t0, t1, t2⟩ := HC.out w' hSw; go_simp <;> with_reducible rfl)
        try simp only [List.getElem_toArray, List.getElem_cons_succ, List.getElem_cons_zero, Act.put, List.setIfInBounds_toArray, List.set_cons_zero, List.set_cons_succ]
        refine reg_take (i := 3) (v := ?_) rfl (by kernel_rfl) (by kernel_rfl) (by kernel_rfl) (fun _ _ _ h => h) (Or.inl ⟨by kernel_rfl, ?_⟩) hS ?_
        rotate_left
        · (intro w' hSw; obtain ⟨t0, t1, t2⟩ := HC.out w' hSw; go_simp <;> with_reducible rfl)
        try simp only [List.getElem_toArray, List.getElem_cons_succ, List.getElem_cons_zero, Act.put, List.setIfInBounds_toArray, List.set_cons_zero, List.set_cons_succ]
        refine reg_take (i := 4) (v := ?_) rfl (by kernel_rfl) (by kernel_rfl) (by kernel_rfl) (fun _ _ _ h => h) (Or.inl ⟨by kernel_rfl, ?_⟩) hS ?_
        rotate_left
        · (intro w' hSw; obtain ⟨t0, t1, t2⟩ := HC.out w' hSw; go_simp <;> with_reducible rfl)
        try simp only [List.getElem_toArray, List.getElem_cons_succ, List.getElem_cons_zero, Act.put, List.setIfInBounds_toArray, List.set_cons_zero, List.set_cons_succ]
        generalize wr.drew = wd at hS ⊢
        have HD := Lib.hid hS
        refine reg_two (i := 5) (j := 10) rfl rfl (by kernel_rfl) (fun K hK => ?_) (fun K hK => ?_)
        · have HK := Lib.hid hK
          clear hK
          go_simp
          refine (rOf_any p HA.out.2.v _).mono ?_
          rintro e w3 ⟨rfl, h3⟩
          have H3 := Lib.hid (HD.out.call h3)
          clear h3
          go_wp2_with fail
          refine HK.out.to (Own w [(x + 1, 40, #[.int .i64 a.n, .int .i64 (fa 0), .int .i64 (fa 1), .int .i64 (fa 2), .int .i64 (fa 3), .int .i64 (fa 4), .int .i64 (fa 5), .int .i64 (fa 6), .int .i64 (fa 7), .int .i64 a.lo, .int .i64 a.hi, .int .i64 a.f.t, .int .i64 a.f.v, .int .i64 a.f.s, .int .i64 a.l.t, .int .i64 a.l.v, .int .i64 a.l.s]), (x, 40, #[.int .i64 0, .int .i64 0, .int .i64 0, .int .i64 0, .int .i64 0, .int .i64 0, .int .i64 0, .int .i64 0, .int .i64 0, .int .i64 0, .int .i64 0, .int .i64 0, .int .i64 0, .int .i64 0, .int .i64 0, .int .i64 0, .int .i64 0])]) (fun _ h => h) (H3.out) ?_
          clear HK hS
          have hS : (Own w [(x + 1, 40, #[.int .i64 a.n, .int .i64 (fa 0), .int .i64 (fa 1), .int .i64 (fa 2), .int .i64 (fa 3), .int .i64 (fa 4), .int .i64 (fa 5), .int .i64 (fa 6), .int .i64 (fa 7), .int .i64 a.lo, .int .i64 a.hi, .int .i64 a.f.t, .int .i64 a.f.v, .int .i64 a.f.s, .int .i64 a.l.t, .int .i64 a.l.v, .int .i64 a.l.s]), (x, 40, #[.int .i64 0, .int .i64 0, .int .i64 0, .int .i64 0, .int .i64 0, .int .i64 0, .int .i64 0, .int .i64 0, .int .i64 0, .int .i64 0, .int .i64 0, .int .i64 0, .int .i64 0, .int .i64 0, .int .i64 0, .int .i64 0, .int .i64 0])]) (w3) := H3.out
          try simp only [List.getElem_toArray, List.getElem_cons_succ, List.getElem_cons_zero, Act.put, List.setIfInBounds_toArray, List.set_cons_zero, List.set_cons_succ]
          refine reg_two (i := 6) (j := 10) rfl rfl (by kernel_rfl) (fun K hK => ?_) (fun K hK => ?_)
          · have HK := Lib.hid hK
            clear hK
            go_simp
            refine (HM.out.1 _).mono ?_
            rintro e w4 ⟨r, er, hr, rfl, h4⟩
            rw [HR.out] at hr
            injection hr with h1 h2
            subst h2
            have HRR := Lib.hid h1.symm
            clear h1
            generalize hfr : lim r.s = fr
            have HFR := Lib.hid hfr
            clear hfr
            have H4 := Lib.hid (H3.out.call h4)
            clear h4
            go_wp2_with fail
            refine HK.out.to (Own w [(x + 1, 40, #[.int .i64 a.n, .int .i64 (fa 0), .int .i64 (fa 1), .int .i64 (fa 2), .int .i64 (fa 3), .int .i64 (fa 4), .int .i64 (fa 5), .int .i64 (fa 6), .int .i64 (fa 7), .int .i64 a.lo, .int .i64 a.hi, .int .i64 a.f.t, .int .i64 a.f.v, .int .i64 a.f.s, .int .i64 a.l.t, .int .i64 a.l.v, .int .i64 a.l.s]), (x, 40, #[.int .i64 0, .int .i64 0, .int .i64 0, .int .i64 0, .int .i64 0, .int .i64 0, .int .i64 0, .int .i64 0, .int .i64 0, .int .i64 0, .int .i64 0, .int .i64 0, .int .i64 0, .int .i64 0, .int .i64 0, .int .i64 0, .int .i64 0])]) (fun _ h => h) (H4.out) ?_
            clear HK hS
            have hS : (Own w [(x + 1, 40, #[.int .i64 a.n, .int .i64 (fa 0), .int .i64 (fa 1), .int .i64 (fa 2), .int .i64 (fa 3), .int .i64 (fa 4), .int .i64 (fa 5), .int .i64 (fa 6), .int .i64 (fa 7), .int .i64 a.lo, .int .i64 a.hi, .int .i64 a.f.t, .int .i64 a.f.v, .int .i64 a.f.s, .int .i64 a.l.t, .int .i64 a.l.v, .int .i64 a.l.s]), (x, 40, #[.int .i64 0, .int .i64 0, .int .i64 0, .int .i64 0, .int .i64 0, .int .i64 0, .int .i64 0, .int .i64 0, .int .i64 0, .int .i64 0, .int .i64 0, .int .i64 0, .int .i64 0, .int .i64 0, .int .i64 0, .int .i64 0, .int .i64 0])]) (w4) := H4.out
            try simp only [List.getElem_toArray, List.getElem_cons_succ, List.getElem_cons_zero, Act.put, List.setIfInBounds_toArray, List.set_cons_zero, List.set_cons_succ]
            refine reg_take (i := 7) (v := ?_) rfl (by kernel_rfl) (by kernel_rfl) (by kernel_rfl) (fun _ _ _ h => h) (Or.inl ⟨by kernel_rfl, ?_⟩) hS ?_
            rotate_left
            · (intro w' hSw; go_simp <;> with_reducible rfl)
            try simp only [List.getElem_toArray, List.getElem_cons_succ, List.getElem_cons_zero, Act.put, List.setIfInBounds_toArray, List.set_cons_zero, List.set_cons_succ]
            refine reg_take (i := 8) (v := ?_) rfl (by kernel_rfl) (by kernel_rfl) (by kernel_rfl) (fun _ _ _ h => h) (Or.inl ⟨by kernel_rfl, ?_⟩) hS ?_
            rotate_left
            · (intro w' hSw; go_simp <;> with_reducible rfl)
            try simp only [List.getElem_toArray, List.getElem_cons_succ, List.getElem_cons_zero, Act.put, List.setIfInBounds_toArray, List.set_cons_zero, List.set_cons_succ]
            refine reg_take (i := 9) (v := ?_) rfl (by kernel_rfl) (by kernel_rfl) (by kernel_rfl) (fun _ _ _ h => h) (Or.inl ⟨by kernel_rfl, ?_⟩) hS ?_
            rotate_left
            · (intro w' hSw; go_simp <;> with_reducible rfl)
            try simp only [List.getElem_toArray, List.getElem_cons_succ, List.getElem_cons_zero, Act.put, List.setIfInBounds_toArray, List.set_cons_zero, List.set_cons_succ]
            have HAL := Lib.hid (H4.out.alloc rfl 40 #[.int .i64 0, .int .i64 0, .int .i64 0, .int .i64 0, .int .i64 0, .int .i64 0, .int .i64 0, .int .i64 0, .int .i64 0, .int .i64 0, .int .i64 0, .int .i64 0, .int .i64 0, .int .i64 0, .int .i64 0, .int .i64 0, .int .i64 0])
            refine reg_call (i := 10) rfl (by kernel_rfl) (fun K hK => ?_)
            have HK := Lib.hid hK
            clear hK
            go_simp
            go_wp2_with fail
            refine HK.out.to (Own w [(x + 1, 40, #[.int .i64 a.n, .int .i64 (fa 0), .int .i64 (fa 1), .int .i64 (fa 2), .int .i64 (fa 3), .int .i64 (fa 4), .int .i64 (fa 5), .int .i64 (fa 6), .int .i64 (fa 7), .int .i64 a.lo, .int .i64 a.hi, .int .i64 a.f.t, .int .i64 a.f.v, .int .i64 a.f.s, .int .i64 a.l.t, .int .i64 a.l.v, .int .i64 a.l.s]), (x, 40, #[.int .i64 0, .int .i64 0, .int .i64 0, .int .i64 0, .int .i64 0, .int .i64 0, .int .i64 0, .int .i64 0, .int .i64 0, .int .i64 0, .int .i64 0, .int .i64 0, .int .i64 0, .int .i64 0, .int .i64 0, .int .i64 0, .int .i64 0])]) (fun _ h => h) (HAL.out.take 2) ?_
            clear HK hS
            have hS : (Own w [(x + 1, 40, #[.int .i64 a.n, .int .i64 (fa 0), .int .i64 (fa 1), .int .i64 (fa 2), .int .i64 (fa 3), .int .i64 (fa 4), .int .i64 (fa 5), .int .i64 (fa 6), .int .i64 (fa 7), .int .i64 a.lo, .int .i64 a.hi, .int .i64 a.f.t, .int .i64 a.f.v, .int .i64 a.f.s, .int .i64 a.l.t, .int .i64 a.l.v, .int .i64 a.l.s]), (x, 40, #[.int .i64 0, .int .i64 0, .int .i64 0, .int .i64 0, .int .i64 0, .int .i64 0, .int .i64 0, .int .i64 0, .int .i64 0, .int .i64 0, .int .i64 0, .int .i64 0, .int .i64 0, .int .i64 0, .int .i64 0, .int .i64 0, .int .i64 0])]) (w4.alloc (.cells #[.int .i64 0, .int .i64 0, .int .i64 0, .int .i64 0, .int .i64 0, .int .i64 0, .int .i64 0, .int .i64 0, .int .i64 0, .int .i64 0, .int .i64 0, .int .i64 0, .int .i64 0, .int .i64 0, .int .i64 0, .int .i64 0, .int .i64 0] 40)) := HAL.out.take 2
            try simp only [List.getElem_toArray, List.getElem_cons_succ, List.getElem_cons_zero, Act.put, List.setIfInBounds_toArray, List.set_cons_zero, List.set_cons_succ]
            refine reg_call (i := 11) rfl (by kernel_rfl) (fun K hK => ?_)
            have HK := Lib.hid hK
            clear hK
            refine step_store_blk (HAL.out.get 2 rfl) 40 0 17 [.int .i64 r.n, .int .i64 (fr 0), .int .i64 (fr 1), .int .i64 (fr 2), .int .i64 (fr 3), .int .i64 (fr 4), .int .i64 (fr 5), .int .i64 (fr 6), .int .i64 (fr 7), .int .i64 r.lo, .int .i64 r.hi, .int .i64 r.f.t, .int .i64 r.f.v, .int .i64 r.f.s, .int .i64 r.l.t, .int .i64 r.l.v, .int .i64 r.l.s] rfl (by decide) (by kernel_rfl) (List.all_eq_true.1 rfl) rfl _ _ rfl rfl rfl ?_
            have HST := Lib.hid ((OwnR.of (n := 17) (HAL.out.front 2 rfl) rfl).put [.int .i64 r.n, .int .i64 (fr 0), .int .i64 (fr 1), .int .i64 (fr 2), .int .i64 (fr 3), .int .i64 (fr 4), .int .i64 (fr 5), .int .i64 (fr 6), .int .i64 (fr 7), .int .i64 r.lo, .int .i64 r.hi, .int .i64 r.f.t, .int .i64 r.f.v, .int .i64 r.f.s, .int .i64 r.l.t, .int .i64 r.l.v, .int .i64 r.l.s] rfl)
            refine HK.out.to (fun w' => Own w [(w4.heap.size, 40, #[.int .i64 r.n, .int .i64 (fr 0), .int .i64 (fr 1), .int .i64 (fr 2), .int .i64 (fr 3), .int .i64 (fr 4), .int .i64 (fr 5), .int .i64 (fr 6), .int .i64 (fr 7), .int .i64 r.lo, .int .i64 r.hi, .int .i64 r.f.t, .int .i64 r.f.v, .int .i64 r.f.s, .int .i64 r.l.t, .int .i64 r.l.v, .int .i64 r.l.s]), (x + 1, 40, #[.int .i64 a.n, .int .i64 (fa 0), .int .i64 (fa 1), .int .i64 (fa 2), .int .i64 (fa 3), .int .i64 (fa 4), .int .i64 (fa 5), .int .i64 (fa 6), .int .i64 (fa 7), .int .i64 a.lo, .int .i64 a.hi, .int .i64 a.f.t, .int .i64 a.f.v, .int .i64 a.f.s, .int .i64 a.l.t, .int .i64 a.l.v, .int .i64 a.l.s]), (x, 40, #[.int .i64 0, .int .i64 0, .int .i64 0, .int .i64 0, .int .i64 0, .int .i64 0, .int .i64 0, .int .i64 0, .int .i64 0, .int .i64 0, .int .i64 0, .int .i64 0, .int .i64 0, .int .i64 0, .int .i64 0, .int .i64 0, .int .i64 0])] w') (fun _ h => h.sub (List.Sublist.cons _ (List.Sublist.refl _))) (HST.out) ?_
            clear HK hS
            have hS : (fun w' => Own w [(w4.heap.size, 40, #[.int .i64 r.n, .int .i64 (fr 0), .int .i64 (fr 1), .int .i64 (fr 2), .int .i64 (fr 3), .int .i64 (fr 4), .int .i64 (fr 5), .int .i64 (fr 6), .int .i64 (fr 7), .int .i64 r.lo, .int .i64 r.hi, .int .i64 r.f.t, .int .i64 r.f.v, .int .i64 r.f.s, .int .i64 r.l.t, .int .i64 r.l.v, .int .i64 r.l.s]), (x + 1, 40, #[.int .i64 a.n, .int .i64 (fa 0), .int .i64 (fa 1), .int .i64 (fa 2), .int .i64 (fa 3), .int .i64 (fa 4), .int .i64 (fa 5), .int .i64 (fa 6), .int .i64 (fa 7), .int .i64 a.lo, .int .i64 a.hi, .int .i64 a.f.t, .int .i64 a.f.v, .int .i64 a.f.s, .int .i64 a.l.t, .int .i64 a.l.v, .int .i64 a.l.s]), (x, 40, #[.int .i64 0, .int .i64 0, .int .i64 0, .int .i64 0, .int .i64 0, .int .i64 0, .int .i64 0, .int .i64 0, .int .i64 0, .int .i64 0, .int .i64 0, .int .i64 0, .int .i64 0, .int .i64 0, .int .i64 0, .int .i64 0, .int .i64 0])] w') (setFrom (w4.alloc (.cells #[.int .i64 0, .int .i64 0, .int .i64 0, .int .i64 0, .int .i64 0, .int .i64 0, .int .i64 0, .int .i64 0, .int .i64 0, .int .i64 0, .int .i64 0, .int .i64 0, .int .i64 0, .int .i64 0, .int .i64 0, .int .i64 0, .int .i64 0] 40)) w4.heap.size 0 [.int .i64 r.n, .int .i64 (fr 0), .int .i64 (fr 1), .int .i64 (fr 2), .int .i64 (fr 3), .int .i64 (fr 4), .int .i64 (fr 5), .int .i64 (fr 6), .int .i64 (fr 7), .int .i64 r.lo, .int .i64 r.hi, .int .i64 r.f.t, .int .i64 r.f.v, .int .i64 r.f.s, .int .i64 r.l.t, .int .i64 r.l.v, .int .i64 r.l.s]) := HST.out
            try simp only [List.getElem_toArray, List.getElem_cons_succ, List.getElem_cons_zero, Act.put, List.setIfInBounds_toArray, List.set_cons_zero, List.set_cons_succ]
            refine reg_take (i := 12) (v := ?_) rfl (by kernel_rfl) (by kernel_rfl) (by kernel_rfl) (fun _ _ _ h => h) (Or.inl ⟨by kernel_rfl, ?_⟩) hS ?_
            rotate_left
            · (intro w' hSw; go_simp <;> with_reducible rfl)
            try simp only [List.getElem_toArray, List.getElem_cons_succ, List.getElem_cons_zero, Act.put, List.setIfInBounds_toArray, List.set_cons_zero, List.set_cons_succ]
            refine wpAnyH_done (by kernel_rfl) ?_ _
            try simp only [List.getElem_toArray, List.getElem_cons_succ, List.getElem_cons_zero]
            try simp only [List.getElem_toArray, List.getElem_cons_succ, List.getElem_cons_zero, Act.put, List.setIfInBounds_toArray, List.set_cons_zero, List.set_cons_succ]
            clear hS
            go_wp2_with fail
            go_meet
            exact ⟨r, fr, w4.heap.size, rfl, rfl, HRR.out, fun j => by rw [← HFR.out], HST.out⟩
          · have HK := Lib.hid hK
            clear hK
            go_simp
            obtain ⟨y, hy⟩ : ∃ y, y = w3.heap.size := ⟨_, rfl⟩
            have HAL := Lib.hid (H3.out.alloc hy 40 #[.int .i64 0, .int .i64 0, .int .i64 0, .int .i64 0, .int .i64 0, .int .i64 0, .int .i64 0, .int .i64 0, .int .i64 0, .int .i64 0, .int .i64 0, .int .i64 0, .int .i64 0, .int .i64 0, .int .i64 0, .int .i64 0, .int .i64 0])
            rw [← hy]
            clear hy
            go_wp2_with fail
            refine HK.out.to (Own w [(x + 1, 40, #[.int .i64 a.n, .int .i64 (fa 0), .int .i64 (fa 1), .int .i64 (fa 2), .int .i64 (fa 3), .int .i64 (fa 4), .int .i64 (fa 5), .int .i64 (fa 6), .int .i64 (fa 7), .int .i64 a.lo, .int .i64 a.hi, .int .i64 a.f.t, .int .i64 a.f.v, .int .i64 a.f.s, .int .i64 a.l.t, .int .i64 a.l.v, .int .i64 a.l.s]), (x, 40, #[.int .i64 0, .int .i64 0, .int .i64 0, .int .i64 0, .int .i64 0, .int .i64 0, .int .i64 0, .int .i64 0, .int .i64 0, .int .i64 0, .int .i64 0, .int .i64 0, .int .i64 0, .int .i64 0, .int .i64 0, .int .i64 0, .int .i64 0])]) (fun _ h => h) (HAL.out.take 2) ?_
            clear HK hS
            have hS : (Own w [(x + 1, 40, #[.int .i64 a.n, .int .i64 (fa 0), .int .i64 (fa 1), .int .i64 (fa 2), .int .i64 (fa 3), .int .i64 (fa 4), .int .i64 (fa 5), .int .i64 (fa 6), .int .i64 (fa 7), .int .i64 a.lo, .int .i64 a.hi, .int .i64 a.f.t, .int .i64 a.f.v, .int .i64 a.f.s, .int .i64 a.l.t, .int .i64 a.l.v, .int .i64 a.l.s]), (x, 40, #[.int .i64 0, .int .i64 0, .int .i64 0, .int .i64 0, .int .i64 0, .int .i64 0, .int .i64 0, .int .i64 0, .int .i64 0, .int .i64 0, .int .i64 0, .int .i64 0, .int .i64 0, .int .i64 0, .int .i64 0, .int .i64 0, .int .i64 0])]) (w3.alloc (.cells #[.int .i64 0, .int .i64 0, .int .i64 0, .int .i64 0, .int .i64 0, .int .i64 0, .int .i64 0, .int .i64 0, .int .i64 0, .int .i64 0, .int .i64 0, .int .i64 0, .int .i64 0, .int .i64 0, .int .i64 0, .int .i64 0, .int .i64 0] 40)) := HAL.out.take 2
            try simp only [List.getElem_toArray, List.getElem_cons_succ, List.getElem_cons_zero, Act.put, List.setIfInBounds_toArray, List.set_cons_zero, List.set_cons_succ]
            refine reg_call (i := 6) rfl (by kernel_rfl) (fun K hK => ?_)
            have HK := Lib.hid hK
            clear hK
            go_simp
            refine (HM.out.1 _).mono ?_
            rintro e w4 ⟨r, er, hr, rfl, h4⟩
            rw [HR.out] at hr
            injection hr with h1 h2
            subst h2
            have HRR := Lib.hid h1.symm
            clear h1
            generalize hfr : lim r.s = fr
            have HFR := Lib.hid hfr
            clear hfr
            have H4 := Lib.hid (HAL.out.call h4)
            clear h4
            go_wp2_with fail
            refine HK.out.to (Own w [(x + 1, 40, #[.int .i64 a.n, .int .i64 (fa 0), .int .i64 (fa 1), .int .i64 (fa 2), .int .i64 (fa 3), .int .i64 (fa 4), .int .i64 (fa 5), .int .i64 (fa 6), .int .i64 (fa 7), .int .i64 a.lo, .int .i64 a.hi, .int .i64 a.f.t, .int .i64 a.f.v, .int .i64 a.f.s, .int .i64 a.l.t, .int .i64 a.l.v, .int .i64 a.l.s]), (x, 40, #[.int .i64 0, .int .i64 0, .int .i64 0, .int .i64 0, .int .i64 0, .int .i64 0, .int .i64 0, .int .i64 0, .int .i64 0, .int .i64 0, .int .i64 0, .int .i64 0, .int .i64 0, .int .i64 0, .int .i64 0, .int .i64 0, .int .i64 0])]) (fun _ h => h) (H4.out.take 2) ?_
            clear HK hS
            have hS : (Own w [(x + 1, 40, #[.int .i64 a.n, .int .i64 (fa 0), .int .i64 (fa 1), .int .i64 (fa 2), .int .i64 (fa 3), .int .i64 (fa 4), .int .i64 (fa 5), .int .i64 (fa 6), .int .i64 (fa 7), .int .i64 a.lo, .int .i64 a.hi, .int .i64 a.f.t, .int .i64 a.f.v, .int .i64 a.f.s, .int .i64 a.l.t, .int .i64 a.l.v, .int .i64 a.l.s]), (x, 40, #[.int .i64 0, .int .i64 0, .int .i64 0, .int .i64 0, .int .i64 0, .int .i64 0, .int .i64 0, .int .i64 0, .int .i64 0, .int .i64 0, .int .i64 0, .int .i64 0, .int .i64 0, .int .i64 0, .int .i64 0, .int .i64 0, .int .i64 0])]) (w4) := H4.out.take 2
            try simp only [List.getElem_toArray, List.getElem_cons_succ, List.getElem_cons_zero, Act.put, List.setIfInBounds_toArray, List.set_cons_zero, List.set_cons_succ]
            refine reg_take (i := 7) (v := ?_) rfl (by kernel_rfl) (by kernel_rfl) (by kernel_rfl) (fun _ _ _ h => h) (Or.inl ⟨by kernel_rfl, ?_⟩) hS ?_
            rotate_left
            · (intro w' hSw; go_simp <;> with_reducible rfl)
            try simp only [List.getElem_toArray, List.getElem_cons_succ, List.getElem_cons_zero, Act.put, List.setIfInBounds_toArray, List.set_cons_zero, List.set_cons_succ]
            refine reg_take (i := 8) (v := ?_) rfl (by kernel_rfl) (by kernel_rfl) (by kernel_rfl) (fun _ _ _ h => h) (Or.inl ⟨by kernel_rfl, ?_⟩) hS ?_
            rotate_left
            · (intro w' hSw; go_simp <;> with_reducible rfl)
            try simp only [List.getElem_toArray, List.getElem_cons_succ, List.getElem_cons_zero, Act.put, List.setIfInBounds_toArray, List.set_cons_zero, List.set_cons_succ]
            refine reg_take (i := 9) (v := ?_) rfl (by kernel_rfl) (by kernel_rfl) (by kernel_rfl) (fun _ _ _ h => h) (Or.inl ⟨by kernel_rfl, ?_⟩) hS ?_
            rotate_left
            · (intro w' hSw; go_simp <;> with_reducible rfl)
            try simp only [List.getElem_toArray, List.getElem_cons_succ, List.getElem_cons_zero, Act.put, List.setIfInBounds_toArray, List.set_cons_zero, List.set_cons_succ]
            refine reg_call (i := 11) rfl (by kernel_rfl) (fun K hK => ?_)
            have HK := Lib.hid hK
            clear hK
            refine step_store_blk (H4.out.get 2 rfl) 40 0 17 [.int .i64 r.n, .int .i64 (fr 0), .int .i64 (fr 1), .int .i64 (fr 2), .int .i64 (fr 3), .int .i64 (fr 4), .int .i64 (fr 5), .int .i64 (fr 6), .int .i64 (fr 7), .int .i64 r.lo, .int .i64 r.hi, .int .i64 r.f.t, .int .i64 r.f.v, .int .i64 r.f.s, .int .i64 r.l.t, .int .i64 r.l.v, .int .i64 r.l.s] rfl (by decide) (by kernel_rfl) (List.all_eq_true.1 rfl) rfl _ _ rfl rfl rfl ?_
            have HST := Lib.hid ((OwnR.of (n := 17) (H4.out.front 2 rfl) rfl).put [.int .i64 r.n, .int .i64 (fr 0), .int .i64 (fr 1), .int .i64 (fr 2), .int .i64 (fr 3), .int .i64 (fr 4), .int .i64 (fr 5), .int .i64 (fr 6), .int .i64 (fr 7), .int .i64 r.lo, .int .i64 r.hi, .int .i64 r.f.t, .int .i64 r.f.v, .int .i64 r.f.s, .int .i64 r.l.t, .int .i64 r.l.v, .int .i64 r.l.s] rfl)
            refine HK.out.to (fun w' => Own w [(y, 40, #[.int .i64 r.n, .int .i64 (fr 0), .int .i64 (fr 1), .int .i64 (fr 2), .int .i64 (fr 3), .int .i64 (fr 4), .int .i64 (fr 5), .int .i64 (fr 6), .int .i64 (fr 7), .int .i64 r.lo, .int .i64 r.hi, .int .i64 r.f.t, .int .i64 r.f.v, .int .i64 r.f.s, .int .i64 r.l.t, .int .i64 r.l.v, .int .i64 r.l.s]), (x + 1, 40, #[.int .i64 a.n, .int .i64 (fa 0), .int .i64 (fa 1), .int .i64 (fa 2), .int .i64 (fa 3), .int .i64 (fa 4), .int .i64 (fa 5), .int .i64 (fa 6), .int .i64 (fa 7), .int .i64 a.lo, .int .i64 a.hi, .int .i64 a.f.t, .int .i64 a.f.v, .int .i64 a.f.s, .int .i64 a.l.t, .int .i64 a.l.v, .int .i64 a.l.s]), (x, 40, #[.int .i64 0, .int .i64 0, .int .i64 0, .int .i64 0, .int .i64 0, .int .i64 0, .int .i64 0, .int .i64 0, .int .i64 0, .int .i64 0, .int .i64 0, .int .i64 0, .int .i64 0, .int .i64 0, .int .i64 0, .int .i64 0, .int .i64 0])] w') (fun _ h => h.sub (List.Sublist.cons _ (List.Sublist.refl _))) (HST.out) ?_
            clear HK hS
            have hS : (fun w' => Own w [(y, 40, #[.int .i64 r.n, .int .i64 (fr 0), .int .i64 (fr 1), .int .i64 (fr 2), .int .i64 (fr 3), .int .i64 (fr 4), .int .i64 (fr 5), .int .i64 (fr 6), .int .i64 (fr 7), .int .i64 r.lo, .int .i64 r.hi, .int .i64 r.f.t, .int .i64 r.f.v, .int .i64 r.f.s, .int .i64 r.l.t, .int .i64 r.l.v, .int .i64 r.l.s]), (x + 1, 40, #[.int .i64 a.n, .int .i64 (fa 0), .int .i64 (fa 1), .int .i64 (fa 2), .int .i64 (fa 3), .int .i64 (fa 4), .int .i64 (fa 5), .int .i64 (fa 6), .int .i64 (fa 7), .int .i64 a.lo, .int .i64 a.hi, .int .i64 a.f.t, .int .i64 a.f.v, .int .i64 a.f.s, .int .i64 a.l.t, .int .i64 a.l.v, .int .i64 a.l.s]), (x, 40, #[.int .i64 0, .int .i64 0, .int .i64 0, .int .i64 0, .int .i64 0, .int .i64 0, .int .i64 0, .int .i64 0, .int .i64 0, .int .i64 0, .int .i64 0, .int .i64 0, .int .i64 0, .int .i64 0, .int .i64 0, .int .i64 0, .int .i64 0])] w') (setFrom w4 y 0 [.int .i64 r.n, .int .i64 (fr 0), .int .i64 (fr 1), .int .i64 (fr 2), .int .i64 (fr 3), .int .i64 (fr 4), .int .i64 (fr 5), .int .i64 (fr 6), .int .i64 (fr 7), .int .i64 r.lo, .int .i64 r.hi, .int .i64 r.f.t, .int .i64 r.f.v, .int .i64 r.f.s, .int .i64 r.l.t, .int .i64 r.l.v, .int .i64 r.l.s]) := HST.out
            try simp only [List.getElem_toArray, List.getElem_cons_succ, List.getElem_cons_zero, Act.put, List.setIfInBounds_toArray, List.set_cons_zero, List.set_cons_succ]
            refine reg_take (i := 12) (v := ?_) rfl (by kernel_rfl) (by kernel_rfl) (by kernel_rfl) (fun _ _ _ h => h) (Or.inl ⟨by kernel_rfl, ?_⟩) hS ?_
            rotate_left
            · (intro w' hSw; go_simp <;> with_reducible rfl)
            try simp only [List.getElem_toArray, List.getElem_cons_succ, List.getElem_cons_zero, Act.put, List.setIfInBounds_toArray, List.set_cons_zero, List.set_cons_succ]
            refine wpAnyH_done (by kernel_rfl) ?_ _
            try simp only [List.getElem_toArray, List.getElem_cons_succ, List.getElem_cons_zero]
            try simp only [List.getElem_toArray, List.getElem_cons_succ, List.getElem_cons_zero, Act.put, List.setIfInBounds_toArray, List.set_cons_zero, List.set_cons_succ]
            clear hS
            go_wp2_with fail
            go_meet
            exact ⟨r, fr, y, rfl, rfl, HRR.out, fun j => by rw [← HFR.out], HST.out⟩
        · have HK := Lib.hid hK
          clear hK
          go_simp
          obtain ⟨y, hy⟩ : ∃ y, y = wd.heap.size := ⟨_, rfl⟩
          have HAL := Lib.hid (HD.out.alloc hy 40 #[.int .i64 0, .int .i64 0, .int .i64 0, .int .i64 0, .int .i64 0, .int .i64 0, .int .i64 0, .int .i64 0, .int .i64 0, .int .i64 0, .int .i64 0, .int .i64 0, .int .i64 0, .int .i64 0, .int .i64 0, .int .i64 0, .int .i64 0])
          rw [← hy]
          clear hy
          go_wp2_with fail
          refine HK.out.to (Own w [(x + 1, 40, #[.int .i64 a.n, .int .i64 (fa 0), .int .i64 (fa 1), .int .i64 (fa 2), .int .i64 (fa 3), .int .i64 (fa 4), .int .i64 (fa 5), .int .i64 (fa 6), .int .i64 (fa 7), .int .i64 a.lo, .int .i64 a.hi, .int .i64 a.f.t, .int .i64 a.f.v, .int .i64 a.f.s, .int .i64 a.l.t, .int .i64 a.l.v, .int .i64 a.l.s]), (x, 40, #[.int .i64 0, .int .i64 0, .int .i64 0, .int .i64 0, .int .i64 0, .int .i64 0, .int .i64 0, .int .i64 0, .int .i64 0, .int .i64 0, .int .i64 0, .int .i64 0, .int .i64 0, .int .i64 0, .int .i64 0, .int .i64 0, .int .i64 0])]) (fun _ h => h) (HAL.out.take 2) ?_
          clear HK hS
          have hS : (Own w [(x + 1, 40, #[.int .i64 a.n, .int .i64 (fa 0), .int .i64 (fa 1), .int .i64 (fa 2), .int .i64 (fa 3), .int .i64 (fa 4), .int .i64 (fa 5), .int .i64 (fa 6), .int .i64 (fa 7), .int .i64 a.lo, .int .i64 a.hi, .int .i64 a.f.t, .int .i64 a.f.v, .int .i64 a.f.s, .int .i64 a.l.t, .int .i64 a.l.v, .int .i64 a.l.s]), (x, 40, #[.int .i64 0, .int .i64 0, .int .i64 0, .int .i64 0, .int .i64 0, .int .i64 0, .int .i64 0, .int .i64 0, .int .i64 0, .int .i64 0, .int .i64 0, .int .i64 0, .int .i64 0, .int .i64 0, .int .i64 0, .int .i64 0, .int .i64 0])]) (wd.alloc (.cells #[.int .i64 0, .int .i64 0, .int .i64 0, .int .i64 0, .int .i64 0, .int .i64 0, .int .i64 0, .int .i64 0, .int .i64 0, .int .i64 0, .int .i64 0, .int .i64 0, .int .i64 0, .int .i64 0, .int .i64 0, .int .i64 0, .int .i64 0] 40)) := HAL.out.take 2
          try simp only [List.getElem_toArray, List.getElem_cons_succ, List.getElem_cons_zero, Act.put, List.setIfInBounds_toArray, List.set_cons_zero, List.set_cons_succ]
          refine reg_call (i := 5) rfl (by kernel_rfl) (fun K hK => ?_)
          have HK := Lib.hid hK
          clear hK
          go_simp
          refine (rOf_any p HA.out.2.v _).mono ?_
          rintro e w3 ⟨rfl, h3⟩
          have H3 := Lib.hid (HAL.out.call h3)
          clear h3
          go_wp2_with fail
          refine HK.out.to (Own w [(x + 1, 40, #[.int .i64 a.n, .int .i64 (fa 0), .int .i64 (fa 1), .int .i64 (fa 2), .int .i64 (fa 3), .int .i64 (fa 4), .int .i64 (fa 5), .int .i64 (fa 6), .int .i64 (fa 7), .int .i64 a.lo, .int .i64 a.hi, .int .i64 a.f.t, .int .i64 a.f.v, .int .i64 a.f.s, .int .i64 a.l.t, .int .i64 a.l.v, .int .i64 a.l.s]), (x, 40, #[.int .i64 0, .int .i64 0, .int .i64 0, .int .i64 0, .int .i64 0, .int .i64 0, .int .i64 0, .int .i64 0, .int .i64 0, .int .i64 0, .int .i64 0, .int .i64 0, .int .i64 0, .int .i64 0, .int .i64 0, .int .i64 0, .int .i64 0])]) (fun _ h => h) (H3.out.take 2) ?_
          clear HK hS
          have hS : (Own w [(x + 1, 40, #[.int .i64 a.n, .int .i64 (fa 0), .int .i64 (fa 1), .int .i64 (fa 2), .int .i64 (fa 3), .int .i64 (fa 4), .int .i64 (fa 5), .int .i64 (fa 6), .int .i64 (fa 7), .int .i64 a.lo, .int .i64 a.hi, .int .i64 a.f.t, .int .i64 a.f.v, .int .i64 a.f.s, .int .i64 a.l.t, .int .i64 a.l.v, .int .i64 a.l.s]), (x, 40, #[.int .i64 0, .int .i64 0, .int .i64 0, .int .i64 0, .int .i64 0, .int .i64 0, .int .i64 0, .int .i64 0, .int .i64 0, .int .i64 0, .int .i64 0, .int .i64 0, .int .i64 0, .int .i64 0, .int .i64 0, .int .i64 0, .int .i64 0])]) (w3) := H3.out.take 2
          try simp only [List.getElem_toArray, List.getElem_cons_succ, List.getElem_cons_zero, Act.put, List.setIfInBounds_toArray, List.set_cons_zero, List.set_cons_succ]
          refine reg_call (i := 6) rfl (by kernel_rfl) (fun K hK => ?_)
          have HK := Lib.hid hK
          clear hK
          go_simp
          refine (HM.out.1 _).mono ?_
          rintro e w4 ⟨r, er, hr, rfl, h4⟩
          rw [HR.out] at hr
          injection hr with h1 h2
          subst h2
          have HRR := Lib.hid h1.symm
          clear h1
          generalize hfr : lim r.s = fr
          have HFR := Lib.hid hfr
          clear hfr
          have H4 := Lib.hid (H3.out.call h4)
          clear h4
          go_wp2_with fail
          refine HK.out.to (Own w [(x + 1, 40, #[.int .i64 a.n, .int .i64 (fa 0), .int .i64 (fa 1), .int .i64 (fa 2), .int .i64 (fa 3), .int .i64 (fa 4), .int .i64 (fa 5), .int .i64 (fa 6), .int .i64 (fa 7), .int .i64 a.lo, .int .i64 a.hi, .int .i64 a.f.t, .int .i64 a.f.v, .int .i64 a.f.s, .int .i64 a.l.t, .int .i64 a.l.v, .int .i64 a.l.s]), (x, 40, #[.int .i64 0, .int .i64 0, .int .i64 0, .int .i64 0, .int .i64 0, .int .i64 0, .int .i64 0, .int .i64 0, .int .i64 0, .int .i64 0, .int .i64 0, .int .i64 0, .int .i64 0, .int .i64 0, .int .i64 0, .int .i64 0, .int .i64 0])]) (fun _ h => h) (H4.out.take 2) ?_
          clear HK hS
          have hS : (Own w [(x + 1, 40, #[.int .i64 a.n, .int .i64 (fa 0), .int .i64 (fa 1), .int .i64 (fa 2), .int .i64 (fa 3), .int .i64 (fa 4), .int .i64 (fa 5), .int .i64 (fa 6), .int .i64 (fa 7), .int .i64 a.lo, .int .i64 a.hi, .int .i64 a.f.t, .int .i64 a.f.v, .int .i64 a.f.s, .int .i64 a.l.t, .int .i64 a.l.v, .int .i64 a.l.s]), (x, 40, #[.int .i64 0, .int .i64 0, .int .i64 0, .int .i64 0, .int .i64 0, .int .i64 0, .int .i64 0, .int .i64 0, .int .i64 0, .int .i64 0, .int .i64 0, .int .i64 0, .int .i64 0, .int .i64 0, .int .i64 0, .int .i64 0, .int .i64 0])]) (w4) := H4.out.take 2
          try simp only [List.getElem_toArray, List.getElem_cons_succ, List.getElem_cons_zero, Act.put, List.setIfInBounds_toArray, List.set_cons_zero, List.set_cons_succ]
          refine reg_take (i := 7) (v := ?_) rfl (by kernel_rfl) (by kernel_rfl) (by kernel_rfl) (fun _ _ _ h => h) (Or.inl ⟨by kernel_rfl, ?_⟩) hS ?_
          rotate_left
          · (intro w' hSw; go_simp <;> with_reducible rfl)
          try simp only [List.getElem_toArray, List.getElem_cons_succ, List.getElem_cons_zero, Act.put, List.setIfInBounds_toArray, List.set_cons_zero, List.set_cons_succ]
          refine reg_take (i := 8) (v := ?_) rfl (by kernel_rfl) (by kernel_rfl) (by kernel_rfl) (fun _ _ _ h => h) (Or.inl ⟨by kernel_rfl, ?_⟩) hS ?_
          rotate_left
          · (intro w' hSw; go_simp <;> with_reducible rfl)
          try simp only [List.getElem_toArray, List.getElem_cons_succ, List.getElem_cons_zero, Act.put, List.setIfInBounds_toArray, List.set_cons_zero, List.set_cons_succ]
          refine reg_take (i := 9) (v := ?_) rfl (by kernel_rfl) (by kernel_rfl) (by kernel_rfl) (fun _ _ _ h => h) (Or.inl ⟨by kernel_rfl, ?_⟩) hS ?_
          rotate_left
          · (intro w' hSw; go_simp <;> with_reducible rfl)
          try simp only [List.getElem_toArray, List.getElem_cons_succ, List.getElem_cons_zero, Act.put, List.setIfInBounds_toArray, List.set_cons_zero, List.set_cons_succ]
          refine reg_call (i := 11) rfl (by kernel_rfl) (fun K hK => ?_)
          have HK := Lib.hid hK
          clear hK
          refine step_store_blk (H4.out.get 2 rfl) 40 0 17 [.int .i64 r.n, .int .i64 (fr 0), .int .i64 (fr 1), .int .i64 (fr 2), .int .i64 (fr 3), .int .i64 (fr 4), .int .i64 (fr 5), .int .i64 (fr 6), .int .i64 (fr 7), .int .i64 r.lo, .int .i64 r.hi, .int .i64 r.f.t, .int .i64 r.f.v, .int .i64 r.f.s, .int .i64 r.l.t, .int .i64 r.l.v, .int .i64 r.l.s] rfl (by decide) (by kernel_rfl) (List.all_eq_true.1 rfl) rfl _ _ rfl rfl rfl ?_
          have HST := Lib.hid ((OwnR.of (n := 17) (H4.out.front 2 rfl) rfl).put [.int .i64 r.n, .int .i64 (fr 0), .int .i64 (fr 1), .int .i64 (fr 2), .int .i64 (fr 3), .int .i64 (fr 4), .int .i64 (fr 5), .int .i64 (fr 6), .int .i64 (fr 7), .int .i64 r.lo, .int .i64 r.hi, .int .i64 r.f.t, .int .i64 r.f.v, .int .i64 r.f.s, .int .i64 r.l.t, .int .i64 r.l.v, .int .i64 r.l.s] rfl)
          refine HK.out.to (fun w' => Own w [(y, 40, #[.int .i64 r.n, .int .i64 (fr 0), .int .i64 (fr 1), .int .i64 (fr 2), .int .i64 (fr 3), .int .i64 (fr 4), .int .i64 (fr 5), .int .i64 (fr 6), .int .i64 (fr 7), .int .i64 r.lo, .int .i64 r.hi, .int .i64 r.f.t, .int .i64 r.f.v, .int .i64 r.f.s, .int .i64 r.l.t, .int .i64 r.l.v, .int .i64 r.l.s]), (x + 1, 40, #[.int .i64 a.n, .int .i64 (fa 0), .int .i64 (fa 1), .int .i64 (fa 2), .int .i64 (fa 3), .int .i64 (fa 4), .int .i64 (fa 5), .int .i64 (fa 6), .int .i64 (fa 7), .int .i64 a.lo, .int .i64 a.hi, .int .i64 a.f.t, .int .i64 a.f.v, .int .i64 a.f.s, .int .i64 a.l.t, .int .i64 a.l.v, .int .i64 a.l.s]), (x, 40, #[.int .i64 0, .int .i64 0, .int .i64 0, .int .i64 0, .int .i64 0, .int .i64 0, .int .i64 0, .int .i64 0, .int .i64 0, .int .i64 0, .int .i64 0, .int .i64 0, .int .i64 0, .int .i64 0, .int .i64 0, .int .i64 0, .int .i64 0])] w') (fun _ h => h.sub (List.Sublist.cons _ (List.Sublist.refl _))) (HST.out) ?_
          clear HK hS
          have hS : (fun w' => Own w [(y, 40, #[.int .i64 r.n, .int .i64 (fr 0), .int .i64 (fr 1), .int .i64 (fr 2), .int .i64 (fr 3), .int .i64 (fr 4), .int .i64 (fr 5), .int .i64 (fr 6), .int .i64 (fr 7), .int .i64 r.lo, .int .i64 r.hi, .int .i64 r.f.t, .int .i64 r.f.v, .int .i64 r.f.s, .int .i64 r.l.t, .int .i64 r.l.v, .int .i64 r.l.s]), (x + 1, 40, #[.int .i64 a.n, .int .i64 (fa 0), .int .i64 (fa 1), .int .i64 (fa 2), .int .i64 (fa 3), .int .i64 (fa 4), .int .i64 (fa 5), .int .i64 (fa 6), .int .i64 (fa 7), .int .i64 a.lo, .int .i64 a.hi, .int .i64 a.f.t, .int .i64 a.f.v, .int .i64 a.f.s, .int .i64 a.l.t, .int .i64 a.l.v, .int .i64 a.l.s]), (x, 40, #[.int .i64 0, .int .i64 0, .int .i64 0, .int .i64 0, .int .i64 0, .int .i64 0, .int .i64 0, .int .i64 0, .int .i64 0, .int .i64 0, .int .i64 0, .int .i64 0, .int .i64 0, .int .i64 0, .int .i64 0, .int .i64 0, .int .i64 0])] w') (setFrom w4 y 0 [.int .i64 r.n, .int .i64 (fr 0), .int .i64 (fr 1), .int .i64 (fr 2), .int .i64 (fr 3), .int .i64 (fr 4), .int .i64 (fr 5), .int .i64 (fr 6), .int .i64 (fr 7), .int .i64 r.lo, .int .i64 r.hi, .int .i64 r.f.t, .int .i64 r.f.v, .int .i64 r.f.s, .int .i64 r.l.t, .int .i64 r.l.v, .int .i64 r.l.s]) := HST.out
          try simp only [List.getElem_toArray, List.getElem_cons_succ, List.getElem_cons_zero, Act.put, List.setIfInBounds_toArray, List.set_cons_zero, List.set_cons_succ]
          refine reg_take (i := 12) (v := ?_) rfl (by kernel_rfl) (by kernel_rfl) (by kernel_rfl) (fun _ _ _ h => h) (Or.inl ⟨by kernel_rfl, ?_⟩) hS ?_
          rotate_left
          · (intro w' hSw; go_simp <;> with_reducible rfl)
          try simp only [List.getElem_toArray, List.getElem_cons_succ, List.getElem_cons_zero, Act.put, List.setIfInBounds_toArray, List.set_cons_zero, List.set_cons_succ]
          refine wpAnyH_done (by kernel_rfl) ?_ _
          try simp only [List.getElem_toArray, List.getElem_cons_succ, List.getElem_cons_zero]
          try simp only [List.getElem_toArray, List.getElem_cons_succ, List.getElem_cons_zero, Act.put, List.setIfInBounds_toArray, List.set_cons_zero, List.set_cons_succ]
          clear hS
          go_wp2_with fail
          go_meet
          exact ⟨r, fr, y, rfl, rfl, HRR.out, fun j => by rw [← HFR.out], HST.out⟩
      case rest =>
        obtain ⟨r, fr, y, rfl, rfl, hr, hfr, hS⟩ := hcut
        have HRR := Lib.hid hr
        have HFR := Lib.hid hfr
        clear hr hfr
        go_upto_region 8 with (fail)
        have hld := @wpList_load_blk Try.prog _ _ _ _ (hS.get 0 rfl) 40 0 17 [.int .i64 r.n, .int .i64 (fr 0), .int .i64 (fr 1), .int .i64 (fr 2), .int .i64 (fr 3), .int .i64 (fr 4), .int .i64 (fr 5), .int .i64 (fr 6), .int .i64 (fr 7), .int .i64 r.lo, .int .i64 r.hi, .int .i64 r.f.t, .int .i64 r.f.v, .int .i64 r.f.s, .int .i64 r.l.t, .int .i64 r.l.v, .int .i64 r.l.s] _ Try.underlying40 rfl rfl (by kernel_rfl) (fun j _ => by simp)
        have hst := @wpList_store_blk Try.prog _ _ _ _ (hS.get 1 rfl) 40 0 17 [.int .i64 r.n, .int .i64 (fr 0), .int .i64 (fr 1), .int .i64 (fr 2), .int .i64 (fr 3), .int .i64 (fr 4), .int .i64 (fr 5), .int .i64 (fr 6), .int .i64 (fr 7), .int .i64 r.lo, .int .i64 r.hi, .int .i64 r.f.t, .int .i64 r.f.v, .int .i64 r.f.s, .int .i64 r.l.t, .int .i64 r.l.v, .int .i64 r.l.s] rfl (Nat.le_of_ble_eq_true rfl) (by kernel_rfl) (List.all_eq_true.1 rfl)
        have HT := Lib.hid hS
        clear hS
        go_upto_region 4 with (first | (refine hst rfl _ _ rfl rfl rfl ?_) | (refine hld rfl _ rfl rfl ?_))
        refine wp_gen (Own w [(x + 1, 40, #[.int .i64 r.n, .int .i64 (fr 0), .int .i64 (fr 1), .int .i64 (fr 2), .int .i64 (fr 3), .int .i64 (fr 4), .int .i64 (fr 5), .int .i64 (fr 6), .int .i64 (fr 7), .int .i64 r.lo, .int .i64 r.hi, .int .i64 r.f.t, .int .i64 r.f.v, .int .i64 r.f.s, .int .i64 r.l.t, .int .i64 r.l.v, .int .i64 r.l.s]), (x, 40, #[.int .i64 0, .int .i64 0, .int .i64 0, .int .i64 0, .int .i64 0, .int .i64 0, .int .i64 0, .int .i64 0, .int .i64 0, .int .i64 0, .int .i64 0, .int .i64 0, .int .i64 0, .int .i64 0, .int .i64 0, .int .i64 0, .int .i64 0])]) (((OwnR.of (n := 17) (HT.out.front 1 rfl) rfl).put [.int .i64 r.n, .int .i64 (fr 0), .int .i64 (fr 1), .int .i64 (fr 2), .int .i64 (fr 3), .int .i64 (fr 4), .int .i64 (fr 5), .int .i64 (fr 6), .int .i64 (fr 7), .int .i64 r.lo, .int .i64 r.hi, .int .i64 r.f.t, .int .i64 r.f.v, .int .i64 r.f.s, .int .i64 r.l.t, .int .i64 r.l.v, .int .i64 r.l.s] rfl).sub (List.Sublist.cons_cons _ (List.Sublist.cons _ (List.Sublist.refl _)))) ?_
        clear HT hst hld
        intro w6 hS6
        have H6 := Lib.hid hS6
        clear hS6
        go_wp2_with fail
        go_roundw
        case rel => exact ⟨k + 1, r, fr, by omega, by go_num, HRR.out, HFR.out, H6.out⟩
        case measure => simp [intOf]; omega
    · obtain rfl : k = n := by omega
      have hld := @wpList_load_blk Try.prog _ _ _ _ (hS.get 0 rfl) 40 0 17 [.int .i64 a.n, .int .i64 (fa 0), .int .i64 (fa 1), .int .i64 (fa 2), .int .i64 (fa 3), .int .i64 (fa 4), .int .i64 (fa 5), .int .i64 (fa 6), .int .i64 (fa 7), .int .i64 a.lo, .int .i64 a.hi, .int .i64 a.f.t, .int .i64 a.f.v, .int .i64 a.f.s, .int .i64 a.l.t, .int .i64 a.l.v, .int .i64 a.l.s] _ Try.underlying40 rfl rfl (by kernel_rfl) (fun j _ => by simp)
      have hst := @wpList_store_blk Try.prog _ _ _ _ (hS.get 1 rfl) 40 0 17 [.int .i64 a.n, .int .i64 (fa 0), .int .i64 (fa 1), .int .i64 (fa 2), .int .i64 (fa 3), .int .i64 (fa 4), .int .i64 (fa 5), .int .i64 (fa 6), .int .i64 (fa 7), .int .i64 a.lo, .int .i64 a.hi, .int .i64 a.f.t, .int .i64 a.f.v, .int .i64 a.f.s, .int .i64 a.l.t, .int .i64 a.l.v, .int .i64 a.l.s] rfl (by decide) (by kernel_rfl) (List.all_eq_true.1 rfl)
      have HT := Lib.hid (And.intro hS (And.intro ha hfa))
      clear hS ha hfa
      go_wp2_with (first | (refine hst rfl _ _ rfl rfl rfl ?_) | (refine hld rfl _ rfl rfl ?_))
      refine bodyPost_gen (Own w [(x, 40, #[.int .i64 a.n, .int .i64 (fa 0), .int .i64 (fa 1), .int .i64 (fa 2), .int .i64 (fa 3), .int .i64 (fa 4), .int .i64 (fa 5), .int .i64 (fa 6), .int .i64 (fa 7), .int .i64 a.lo, .int .i64 a.hi, .int .i64 a.f.t, .int .i64 a.f.v, .int .i64 a.f.s, .int .i64 a.l.t, .int .i64 a.l.v, .int .i64 a.l.s]), (x + 1, 40, #[.int .i64 a.n, .int .i64 (fa 0), .int .i64 (fa 1), .int .i64 (fa 2), .int .i64 (fa 3), .int .i64 (fa 4), .int .i64 (fa 5), .int .i64 (fa 6), .int .i64 (fa 7), .int .i64 a.lo, .int .i64 a.hi, .int .i64 a.f.t, .int .i64 a.f.v, .int .i64 a.f.s, .int .i64 a.l.t, .int .i64 a.l.v, .int .i64 a.l.s])]) ((OwnR.of (n := 17) (HT.out.1.front 1 rfl) rfl).put [.int .i64 a.n, .int .i64 (fa 0), .int .i64 (fa 1), .int .i64 (fa 2), .int .i64 (fa 3), .int .i64 (fa 4), .int .i64 (fa 5), .int .i64 (fa 6), .int .i64 (fa 7), .int .i64 a.lo, .int .i64 a.hi, .int .i64 a.f.t, .int .i64 a.f.v, .int .i64 a.f.s, .int .i64 a.l.t, .int .i64 a.l.v, .int .i64 a.l.s] rfl) ?_
      intro w9 hS9
      exact bodyPost_ret (v := .tuple #[.agg #[.int .i64 a.n, .int .i64 (fa 0), .int .i64 (fa 1), .int .i64 (fa 2), .int .i64 (fa 3), .int .i64 (fa 4), .int .i64 (fa 5), .int .i64 (fa 6), .int .i64 (fa 7), .int .i64 a.lo, .int .i64 a.hi, .int .i64 a.f.t, .int .i64 a.f.v, .int .i64 a.f.s, .int .i64 a.l.t, .int .i64 a.l.v, .int .i64 a.l.s], .int .i64 0]) (results_blk2 (P := Try.prog) Try.results13 rfl (hS9.get 0 rfl) 17 [.int .i64 a.n, .int .i64 (fa 0), .int .i64 (fa 1), .int .i64 (fa 2), .int .i64 (fa 3), .int .i64 (fa 4), .int .i64 (fa 5), .int .i64 (fa 6), .int .i64 (fa 7), .int .i64 a.lo, .int .i64 a.hi, .int .i64 a.f.t, .int .i64 a.f.v, .int .i64 a.f.s, .int .i64 a.l.t, .int .i64 a.l.v, .int .i64 a.l.s] _ Try.underlying40 rfl rfl (by kernel_rfl) (fun j _ => by simp)) rfl (rall_post (by rw [← HT.out.2.1]; simp only [HT.out.2.2]) hS9.bel)
end Go.Proofs.Ythhgnngpaagagaa
