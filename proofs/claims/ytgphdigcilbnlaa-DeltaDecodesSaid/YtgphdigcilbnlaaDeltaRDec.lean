/-
  The contract of tidemillref05.Decode.
-/
import Derived.Test.YtgphdigcilbnlaaDeltaRD
namespace Go.Proofs.Ytgphdigcilbnlaa
open Go.RowKit
set_option linter.unusedVariables false
set_option linter.unusedSimpArgs false
structure RSt (w wr : World) (r : Nat) (D : Nat → Prop) (bs : List Nat) (en x : Nat) (out : List Int) (step : Int) (p : Nat) (v : Value) : Prop where
  rd : RRd wr r D bs p en
  row : wr.ownsRow x 3 1 v out.length (out.map intZ)
  keep : Keeps (fun _ => False) w wr
  ints : ∀ j, I64 (out.getD j 0)
  st : I64 step
  old : w.heap.size ≤ r ∧ r < x
  dlt : ∀ k, D k → k < w.heap.size
  size : x ≤ wr.heap.size
theorem RSt.get {w wr w' : World} {r : Nat} {D : Nat → Prop} {bs : List Nat} {en x : Nat} {out : List Int} {step : Int} {p : Nat} {v : Value} {p' : Nat} (h : RSt w wr r D bs en x out step p v)
    (hr : RRd w' r D bs p' en) (hk : Keeps (fun k => k = r) wr w') : RSt w w' r D bs en x out step p' v := by
  obtain ⟨h1, h2, h3, h4, h5, h6, h7, h8⟩ := h
  refine ⟨hr, own_keeps h2 hk (fun g hg e => by have := (h2.lt g hg).1; omega), h3.trans hk (fun y hy e => by omega), h4, h5, h6, h7, Nat.le_trans h8 hk.size⟩
theorem RSt.keepF {w wr w' : World} {r : Nat} {D : Nat → Prop} {bs : List Nat} {en x : Nat} {out : List Int} {step : Int} {p : Nat} {v : Value} (h : RSt w wr r D bs en x out step p v)
    (hk : Keeps (fun _ => False) wr w') : RSt w w' r D bs en x out step p v := by
  obtain ⟨h1, h2, h3, h4, h5, h6, h7, h8⟩ := h
  exact ⟨h1.keeps hk (fun h => h) (fun _ _ h => h), own_keeps h2 hk (fun _ _ h => h), h3.trans' hk, h4, h5, h6, h7, Nat.le_trans h8 hk.size⟩
theorem RSt.app {w wr w' : World} {r : Nat} {D : Nat → Prop} {bs : List Nat} {en x : Nat} {out : List Int} {step : Int} {p : Nat} {v v' : Value} {t s' : Int} {o : Obj} (h : RSt w wr r D bs en x out step p v)
    (hown : w'.ownsRow x 3 1 v' (out.length + 1) (out.map intZ ++ [.int .i64 t])) (hg : (wr.alloc o).grownBy w' v.ownBlock) (ht : I64 t) (hs : I64 s') : RSt w w' r D bs en x (out ++ [t]) s' p v' := by
  obtain ⟨h1, h2, h3, h4, h5, h6, h7, h8⟩ := h
  have hk : Keeps (fun k => v.ownBlock = some k) wr w' := ((Keeps.refl _ wr).alloc _).grown hg (fun q hq _ => hq)
  have hvb : ∀ g, v.ownBlock = some g → x ≤ g := fun g hg => (h2.lt g hg).1
  refine ⟨h1.keeps hk (fun e => by have := hvb _ e; omega) (fun k hk e => by have := hvb _ e; have := h7 k hk; omega), ?_, h3.trans hk (fun y hy e => by have := hvb _ e; omega), getD_I h4 ht, hs, h6, h7, Nat.le_trans h8 hk.size⟩
  rw [List.length_append, List.map_append]
  exact hown
theorem dec_err {bs : List Nat} {n f : Nat} {out : List Int} {step er : Int} {p : Nat} (h : decR bs (8 * bs.length) n [] 0 0 = decR bs (8 * bs.length) (f + 1) out step p) (he : (nextR bs (8 * bs.length) out step p).2.1 = er) (h0 : er ≠ 0) : decL bs n = ([], er) := by
  unfold decL
  rw [h]
  unfold decR
  rw [he, if_neg h0]
  show (if er = 0 then _ else _) = _
  rw [if_neg h0]
theorem dec_step {bs : List Nat} {en f : Nat} {out : List Int} {step : Int} {p : Nat} (h0 : (nextR bs en out step p).2.1 = 0) : decR bs en (f + 1) out step p = decR bs en f (out ++ [(nextR bs en out step p).1]) (nextR bs en out step p).2.2.1 (nextR bs en out step p).2.2.2 := by
  rw [decR, if_pos h0]
theorem dec_errPost {w w' : World} {bs : List Nat} {n : Nat} {er : Int} (h : decL bs n = ([], er)) (hk : Keeps (fun _ => False) w w') : DecPost w (decL bs n) (.returned (.tuple #[.slice none 0 0, .int .i64 er])) w' := by
  rw [h]
  exact ⟨none, 0, rfl, ⟨rfl, .inl ⟨rfl, rfl⟩⟩, hk⟩
set_option maxRecDepth 100000 in
set_option maxHeartbeats 4000000 in
theorem rdecode_ok (w : World) (A : Option Addr) (len c : Nat) (D : Nat → Prop) (bs : List Nat) (n : Nat) (hl : bs.length = len) (hsl : Sl w D A len (byteC bs)) (hbyte : ∀ j, bs.getD j 0 < 256) (hsm : len ≤ 1048576) (hn : n ≤ 4096) (hD : ∀ k, D k → k < w.heap.size) :
    Calls Try.prog 32 #[.slice A len c, .int .i64 n] w (DecPost w (decL bs n)) := by
  have HS := Lib.hid (And.intro hsl (And.intro hbyte (And.intro hl hD)))
  clear hsl hbyte hl hD
  have d1 : decide ((n : Int) < 0) = false := by simp
  have d2 : decide ((4096 : Int) < n) = false := by simp; omega
  go_enter Try.func32, Try.ntmps32
  go_wp2_with fail
  refine (rnewReader_fit _ _ _ _ _ bs _ HS.out.2.2.1 HS.out.1 HS.out.2.1 (by omega) (by omega) (by omega) HS.out.2.2.2).mono ?_
  rintro e w1 ⟨r, rfl, hlr, hr1, hk1⟩
  clear d1 d2
  obtain ⟨en, hen⟩ : ∃ en, en = (8 * (len : Int)).toNat := ⟨_, rfl⟩
  rw [← hen] at hr1
  have hen' : en = 8 * bs.length := by have := HS.out.2.2.1; omega
  have hrlt : r < w1.heap.size := by obtain ⟨A', c', hb, -⟩ := hr1.blk; exact hb.lt
  have hst : RSt w w1 r D bs en w1.heap.size [] 0 0 (.slice none 0 0) := ⟨hr1, ⟨rfl, .inl ⟨rfl, rfl⟩⟩, hk1, fun j => ⟨by simp, by simp⟩, ⟨by omega, by omega⟩, ⟨hlr, hrlt⟩, HS.out.2.2.2, Nat.le_refl _⟩
  obtain ⟨x, hx⟩ : ∃ x, x = w1.heap.size := ⟨_, rfl⟩
  rw [← hx] at hst
  have H1 := Lib.hid (And.intro hst hen')
  clear hr1 hk1 hlr hrlt hen hst hen' hx
  go_wp2_with fail
  go_loopw [8, 9, 10] (fun v s i wr => ∃ (k : Nat) (out : List Int) (step : Int) (p : Nat), k ≤ n ∧ i = .int .i64 k ∧ s = .int .i64 step ∧ RSt w wr r D bs en x out step p v ∧ out.length = k ∧ decR bs en n [] 0 0 = decR bs en (n - k) out step p)
    (fun _ _ i _ => n - (intOf i).toNat)
  case atStart => exact ⟨0, [], 0, 0, Nat.zero_le _, rfl, rfl, H1.out.1, rfl, rfl⟩
  case round =>
    obtain ⟨k, out, step, p, hk, rfl, rfl, hst, hlen, hdec⟩ := hrel
    obtain ⟨wo, rfl⟩ : ∃ wo : World, wo = wr := ⟨_, rfl⟩
    obtain ⟨Av, cv, hv, -, -⟩ := own_form hst.row
    by_cases hlt : k < n
    · obtain ⟨f, hf⟩ : ∃ f, n - k = f + 1 := ⟨n - k - 1, by omega⟩
      rw [hf] at hdec
      rw [hlen] at hv
      subst hv
      have herr : ∀ er : Int, (nextR bs en out step p).2.1 = er → er ≠ 0 → decL bs n = ([], er) := by
        obtain ⟨-, hen'⟩ := H1.out
        rw [hen'] at hdec ⊢
        exact fun er => dec_err hdec
      have HR := Lib.hid (And.intro hst (And.intro hlen (And.intro hdec (And.intro hf herr))))
      clear hst hlen hdec hf herr
      rcases Nat.eq_zero_or_pos k with hk0 | hk0
      · subst hk0
        rw [show ((0 : Nat) : Int) = 0 from rfl]
        go_wp2_with fail
        refine (rget_any _ _ _ _ _ _ _ HR.out.1.rd).mono ?_
        rintro e w2 ⟨rfl, hr2, hk2⟩
        have ho : out = [] := List.eq_nil_of_length_eq_zero HR.out.2.1
        by_cases hfit : p + 64 ≤ en
        · obtain ⟨g1, g2, g3⟩ := get_some bs p en 64 hfit (by omega)
          have hz := gets_64 bs p 64 (by omega)
          rw [show (64 : Int) = ((64 : Nat) : Int) from rfl, g3] at hr2
          rw [show (64 : Int) = ((64 : Nat) : Int) from rfl, g1, g2]
          have hst2 := HR.out.1.get hr2 hk2
          have hnx : nextR bs en out step p = (i64of (gets bs p 64), 0, step, p + 64) := by
            unfold nextR
            rw [if_pos HR.out.2.1, if_pos hfit]
          have e1 := wrap64_of hz
          have e2 := i64wrap_of hz
          have hzr := i64of_range hz
          obtain ⟨z, hzz⟩ : ∃ z, z = gets bs p 64 := ⟨_, rfl⟩
          rw [← hzz] at e1 e2 hnx hzr
          rw [← hzz]
          obtain ⟨t, ht⟩ : ∃ t, t = i64of z := ⟨_, rfl⟩
          rw [← ht] at e1 e2 hnx hzr
          have H2 := Lib.hid (And.intro hst2 (And.intro hnx hzr))
          clear hr2 hk2 hzz g1 g2 g3 hfit hz hst2 hnx hzr ht ho
          go_wp2_with (at_builtin; refine wpList_append_sl (f := fun _ => .int .i64 t) (D := fun k => k = w2.heap.size) (base := x) (n := 0) (xs := out.map intZ) intElem rfl (.tmp 47) (.tmp 50) rfl rfl rfl ?hown ?hsl ?h1 ?h63 ?hby ?hbase ?_)
          case hown => have := H2.out.1.row; rw [HR.out.2.1] at this; exact this.alloc _
          case hsl => first | exact sl_one _ _ _ | (rw [e1]; exact sl_one _ _ _) | (rw [e2]; exact sl_one _ _ _)
          case h1 => intro j _; rfl
          case h63 => unfold maxLen; omega
          case hby => omega
          case hbase => have := H2.out.1.size; simp; omega
          intro v3 w3 hown3 hg3 hat3
          have hst3 : RSt w w3 r D bs en x (out ++ [t]) step (p + 64) v3 := H2.out.1.app (by rw [HR.out.2.1]; exact hown3) hg3 H2.out.2.2 HR.out.1.st
          have H3 := Lib.hid hst3
          clear hown3 hg3 hat3 hst3
          go_wp2_with fail
          go_roundw
          case rel =>
            refine ⟨1, out ++ [t], step, p + 64, by omega, rfl, rfl, H3.out, by simp [HR.out.2.1], ?_⟩
            have hnx := H2.out.2.1
            rw [HR.out.2.2.1, dec_step (by rw [hnx]), hnx, show n - 1 = f by have := HR.out.2.2.2.1; omega]
          case measure => simp [intOf]; omega
        · obtain ⟨g1, g2, g3⟩ := get_none bs p en 64 (by omega) (by omega) (by omega)
          rw [g3] at hr2
          rw [g1, g2]
          have hfin : DecPost w (decL bs n) (.returned (.tuple #[.slice none 0 0, .int .i64 10])) w2 := dec_errPost (HR.out.2.2.2.2 10 (by unfold nextR; rw [if_pos HR.out.2.1, if_neg hfit]) (by omega)) (HR.out.1.get hr2 hk2).keep
          have HF := Lib.hid hfin
          clear hr2 hk2 g1 g2 g3 hfit ho hfin
          go_wp2_with fail
          go_ret2
          exact HF.out
      · obtain ⟨j, rfl⟩ : ∃ j, k = j + 1 := ⟨k - 1, by omega⟩
        have hnx : nextR bs en out step p = (add64 (out.getD j 0) (add64 step (takeR bs en p).1), (takeR bs en p).2.1, add64 step (takeR bs en p).1, (takeR bs en p).2.2) := by
          unfold nextR
          have hl := HR.out.2.1
          rw [if_neg (by omega), show out.length - 1 = j by omega]
        have htk : takeR bs en p = takeM bs en (markR bs en 4 p).1 (markR bs en 4 p).2.1 (markR bs en 4 p).2.2 := rfl
        have hc4 := markR_cls bs en 4 p (Nat.le_refl _)
        have hme := markR_err bs en 4 p
        obtain ⟨m, hm⟩ : ∃ m, m = markR bs en 4 p := ⟨_, rfl⟩
        rw [← hm] at htk hc4 hme
        obtain ⟨c0, e0, q⟩ := m
        simp only [] at htk hc4 hme
        have HM := Lib.hid (And.intro hnx (And.intro htk (And.intro hm hme)))
        clear hnx htk hm hme hk0
        have d0 : (((j : Int) + 1) == 0) = false := by simp; omega
        have dl : decide ((j : Int) + 1 < (n : Int)) = true := by simp; omega
        rw [show ((j + 1 : Nat) : Int) = (j : Int) + 1 from rfl]
        go_upto_block 2 with (fail)
        clear d0 dl
        go_cut [13] (fun s13 wx => e0 = 0 ∧ s13 = .int .i64 c0 ∧ RSt w wx r D bs en x out step q (.slice Av (j + 1) cv))
        case first =>
          go_wp2_with fail
          go_loopw [13] (fun i wi => ∃ b : Nat, b ≤ 4 ∧ i = .int .i64 b ∧ RSt w wi r D bs en x out step (p + b) (.slice Av (j + 1) cv) ∧ markR bs en 4 p = markR bs en (4 - b) (p + b))
            (fun i _ => 4 - (intOf i).toNat)
          case atStart => exact ⟨0, Nat.zero_le _, rfl, HR.out.1, rfl⟩
          case round =>
            obtain ⟨b, hb, rfl, hsti, hmi⟩ := hrel
            by_cases hb4 : b < 4
            · obtain ⟨g, hg⟩ : ∃ g, 4 - b = g + 1 := ⟨3 - b, by omega⟩
              rw [hg] at hmi
              have HI := Lib.hid (And.intro hsti (And.intro hmi hg))
              clear hsti hmi hg
              go_wp2_with fail
              refine (rget_any _ _ _ _ _ _ _ HI.out.1.rd).mono ?_
              rintro e w2 ⟨rfl, hr2, hk2⟩
              by_cases hp : p + b < en
              · obtain ⟨g1, g2, g3⟩ := get_one bs (p + b) en hp
                rw [g3] at hr2
                rw [g1, g2]
                have hbt := bitOf_lt bs (p + b)
                have hst2 := HI.out.1.get hr2 hk2
                obtain ⟨y, hy⟩ : ∃ y, y = bitOf bs (p + b) := ⟨_, rfl⟩
                rw [← hy] at hbt
                rw [← hy]
                have H2 := Lib.hid (And.intro hst2 (And.intro hy hp))
                clear hr2 hk2 g1 g2 g3 hy hp hst2
                rcases (show y = 0 ∨ y = 1 by omega) with rfl | rfl
                · rw [show ((0 : Nat) : Int) = 0 from rfl]
                  go_wp2_with fail
                  go_meet
                  obtain ⟨h1, h3, h4⟩ := H2.out
                  obtain ⟨-, m1, m2⟩ := HI.out
                  have hm := HM.out.2.2.1
                  rw [m1] at hm
                  unfold markR at hm
                  rw [if_pos h4, if_pos h3.symm] at hm
                  injection hm with a1 a2
                  injection a2 with a2 a3
                  exact ⟨a2, by rw [a1, show 4 - (g + 1) = b by omega], by rw [a3]; exact h1⟩
                · rw [show ((1 : Nat) : Int) = 1 from rfl]
                  go_wp2_with fail
                  go_roundw
                  case rel =>
                    obtain ⟨h1, h3, h4⟩ := H2.out
                    obtain ⟨-, m1, m2⟩ := HI.out
                    refine ⟨b + 1, by omega, by go_num, h1, ?_⟩
                    rw [m1, show 4 - (b + 1) = g by omega]
                    show (if p + b < en then _ else _) = _
                    rw [if_pos h4, if_neg (by omega)]
                    rfl
                  case measure => simp [intOf]; omega
              · obtain ⟨g1, g2, g3⟩ := get_none bs (p + b) en 1 (by omega) (by omega) (by omega)
                rw [g3] at hr2
                rw [g1, g2]
                have hfin : DecPost w (decL bs n) (.returned (.tuple #[.slice none 0 0, .int .i64 10])) w2 := by
                  refine dec_errPost (HR.out.2.2.2.2 10 ?_ (by omega)) (HI.out.1.get hr2 hk2).keep
                  obtain ⟨-, m1, m2⟩ := HI.out
                  have hm := HM.out.2.2.1
                  rw [m1] at hm
                  unfold markR at hm
                  rw [if_neg hp] at hm
                  injection hm with a1 a2
                  injection a2 with a2 a3
                  rw [HM.out.1, HM.out.2.1, a2]
                  rfl
                have HF := Lib.hid hfin
                clear hr2 hk2 g1 g2 g3 hp hfin
                go_wp2_with fail
                go_ret2
                exact HF.out
            · obtain rfl : b = 4 := by omega
              have HI := Lib.hid (And.intro hsti hmi)
              clear hsti hmi
              go_wp2_with fail
              go_meet
              have hm := HM.out.2.2.1
              rw [HI.out.2] at hm
              injection hm with a1 a2
              injection a2 with a2 a3
              exact ⟨a2, by rw [a1], by rw [a3]; exact HI.out.1⟩
        case rest =>
          obtain ⟨he0, rfl, hstc⟩ := hcut
          have hw5 : ∀ W : World, (W.alloc (.cells #[.int .i64 0, .int .i64 7, .int .i64 12, .int .i64 32, .int .i64 64] 3)).cell? ⟨W.heap.size, c0, none⟩ = some (.int .i64 (wd c0 : Nat)) := by
            intro W
            rw [(Blk.fresh W _ _).cell]
            rcases (show c0 = 0 ∨ c0 = 1 ∨ c0 = 2 ∨ c0 = 3 ∨ c0 = 4 by omega) with h | h | h | h | h <;> subst h <;> rfl
          have hw5c := hw5 wc
          have hc5 : (c0 : Int) < 5 := by omega
          have HC := Lib.hid (And.intro he0 hstc)
          clear he0 hstc hw5
          go_wp2_with fail
          clear hw5c
          refine (rget_any _ _ _ _ _ _ _ (HC.out.2.keepF ((Keeps.refl _ wc).alloc _)).rd).mono ?_
          rintro e w2 ⟨rfl, hr2, hk2⟩
          have hst2 := (HC.out.2.keepF ((Keeps.refl _ wc).alloc _)).get hr2 hk2
          have hw := wd_le hc4
          by_cases hfit : q + wd c0 ≤ en
          · obtain ⟨g1, g2, g3⟩ := get_some bs q en (wd c0) hfit hw
            rw [g3] at hst2
            rw [g1, g2]
            have hz := gets_64 bs q (wd c0) hw
            obtain ⟨z, hzz⟩ : ∃ z, z = gets bs q (wd c0) := ⟨_, rfl⟩
            rw [← hzz] at hz
            rw [← hzz]
            have H3 := Lib.hid (And.intro hst2 (And.intro hzz (And.intro hfit hz)))
            clear hr2 hk2 g1 g2 g3 hzz hfit hz hst2 hw
            go_wp2_with fail
            refine (class_any z _).mono ?_
            rintro e w4 ⟨rfl, rfl⟩
            by_cases hcl : cls z = c0
            · have hne : (((cls z : Nat) : Int) != (c0 : Int)) = false := by simp [hcl]
              have hne2 : (((cls z : Nat) : Int) == (c0 : Int)) = true := by simp [hcl]
              have HCl := Lib.hid hcl
              clear hcl
              go_wp2_with fail
              refine (rzag_any z _ H3.out.2.2.2).mono ?_
              rintro e w5 ⟨rfl, rfl⟩
              have htk : takeR bs en p = (zag z, 0, q + wd c0) := by
                rw [HM.out.2.1, HC.out.1]
                unfold takeM
                obtain ⟨-, h3, h4, h5⟩ := H3.out
                rw [if_pos rfl, if_pos h4, ← h3, if_pos HCl.out]
              have hnx := HM.out.1
              rw [htk] at hnx
              have hzr : I64 (zag z) := zag_range H3.out.2.2.2
              obtain ⟨d, hd⟩ : ∃ d, d = zag z := ⟨_, rfl⟩
              rw [← hd] at hnx hzr
              rw [← hd]
              have hsr := HR.out.1.st
              have e3 := add_walk step d hsr.1 hsr.2 hzr.1 hzr.2
              have hs2r := add64_I step d
              simp only [] at hnx
              obtain ⟨s2, hs2⟩ : ∃ s2, s2 = add64 step d := ⟨_, rfl⟩
              rw [← hs2] at hnx e3 hs2r
              have hlr := HR.out.1.ints j
              obtain ⟨bl, off, hA, -, hcell⟩ := row_sl HR.out.2.1 (by have := H3.out.1.row; rw [HR.out.2.1] at this; exact this) (by omega)
              have cl : w2.cell? ⟨bl, off + j, none⟩ = some (.int .i64 (out.getD j 0)) := hcell j (by omega)
              subst hA
              obtain ⟨la, hla⟩ : ∃ la, la = out.getD j 0 := ⟨_, rfl⟩
              rw [← hla] at hnx hlr cl
              have e4 := add_walk la s2 hlr.1 hlr.2 hs2r.1 hs2r.2
              have htr := add64_I la s2
              obtain ⟨t, ht⟩ : ∃ t, t = add64 la s2 := ⟨_, rfl⟩
              rw [← ht] at hnx e4 htr
              have H4 := Lib.hid (And.intro hnx (And.intro htr hs2r))
              clear hnx hzr hd hsr hs2r hs2 hlr hcell hla htr ht htk
              have ejw2 : (j : Int) + 1 - 1 = (j : Int) := by omega
              have ejw4 : ((j : Int)).toNat = j := by omega
              have hj2 : (0 : Int) ≤ (j : Int) := by omega
              have hj3 : (j : Int) < (j : Int) + 1 := by omega
              go_wp2_with (at_builtin; refine wpList_append_sl (f := fun _ => .int .i64 t) (D := fun k => k = w2.heap.size) (base := x) (n := j + 1) (xs := out.map intZ) intElem rfl (.tmp 91) (.tmp 102) rfl rfl rfl ?hown ?hsl ?h1 ?h63 ?hby ?hbase ?_)
              case hown => have := H3.out.1.row; rw [HR.out.2.1] at this; exact this.alloc _
              case hsl => first | exact sl_one _ _ _ | (rw [e4]; exact sl_one _ _ _)
              case h1 => intro j _; rfl
              case h63 => unfold maxLen; omega
              case hby => omega
              case hbase => have := H3.out.1.size; simp; omega
              intro v3 w3 hown3 hg3 hat3
              have hst3 : RSt w w3 r D bs en x (out ++ [t]) s2 (q + wd c0) v3 := H3.out.1.app (by rw [HR.out.2.1]; exact hown3) hg3 H4.out.2.1 H4.out.2.2
              have H5 := Lib.hid hst3
              clear hown3 hg3 hat3 hst3 cl ejw2 ejw4
              go_wp2_with fail
              go_roundw
              case rel =>
                refine ⟨j + 2, out ++ [t], s2, q + wd c0, by omega, by go_num, by first | rfl | rw [e3], H5.out, by simp [HR.out.2.1], ?_⟩
                have hnx := H4.out.1
                rw [HR.out.2.2.1, dec_step (by rw [hnx]), hnx, show n - (j + 2) = f by have := HR.out.2.2.2.1; omega]
              case measure => simp [intOf]; omega
            · have hne : (((cls z : Nat) : Int) != (c0 : Int)) = true := by simp; omega
              have hne2 : (((cls z : Nat) : Int) == (c0 : Int)) = false := by simp; omega
              have hfin : DecPost w (decL bs n) (.returned (.tuple #[.slice none 0 0, .int .i64 11])) w2 := by
                refine dec_errPost (HR.out.2.2.2.2 11 ?_ (by omega)) H3.out.1.keep
                rw [HM.out.1, HM.out.2.1, HC.out.1]
                obtain ⟨-, h3, h4, h5⟩ := H3.out
                unfold takeM
                rw [if_pos rfl, if_pos h4, ← h3, if_neg hcl]
              have HF := Lib.hid hfin
              clear hcl hfin
              go_wp2_with fail
              go_ret2
              exact HF.out
          · obtain ⟨g1, g2, g3⟩ := get_none bs q en (wd c0) (by omega) (by omega) (by omega)
            rw [g3] at hst2
            rw [g1, g2]
            have hfin : DecPost w (decL bs n) (.returned (.tuple #[.slice none 0 0, .int .i64 10])) w2 := by
              refine dec_errPost (HR.out.2.2.2.2 10 ?_ (by omega)) hst2.keep
              rw [HM.out.1, HM.out.2.1, HC.out.1]
              unfold takeM
              rw [if_pos rfl, if_neg hfit]
            have HF := Lib.hid hfin
            clear hr2 hk2 g1 g2 g3 hfit hfin hst2
            go_wp2_with fail
            go_ret2
            exact HF.out
    · obtain rfl : k = n := by omega
      rw [Nat.sub_self] at hdec
      have hd : decL bs k = if endR bs en p = true then (out, 0) else ([], 11) := by
        unfold decL
        rw [← H1.out.2, hdec]
        rfl
      rw [hlen] at hv
      have hrow := hst.row
      rw [hlen] at hrow
      subst hv
      have HR := Lib.hid (And.intro hst (And.intro hlen (And.intro hd hrow)))
      clear hst hlen hdec hd hrow
      go_wp2_with fail
      refine (rest_any _ _ _ _ _ _ HR.out.1.rd).mono ?_
      rintro e w2 ⟨rfl, hk2⟩
      have hro2 := own_keeps HR.out.2.2.2 hk2 (fun g hg e => by have := (HR.out.1.row.lt g hg).1; have := HR.out.1.old; omega)
      have hkk2 : Keeps (fun _ => False) w w2 := HR.out.1.keep.trans hk2 (fun y hy e => by have := HR.out.1.old; omega)
      have H2 := Lib.hid (And.intro hro2 hkk2)
      clear hro2 hkk2 hk2
      obtain ⟨b, hb⟩ : ∃ b, b = endR bs en p := ⟨_, rfl⟩
      have hre : restE bs en p = if b = true then 0 else 11 := by rw [hb]; rfl
      rw [hre]
      have HB := Lib.hid hb
      clear hb hre
      cases b
      · rw [if_neg (by simp)]
        have hfin : DecPost w (decL bs k) (.returned (.tuple #[.slice none 0 0, .int .i64 11])) w2 := dec_errPost (by rw [HR.out.2.2.1, ← HB.out]; rfl) H2.out.2
        have HF := Lib.hid hfin
        clear hfin
        go_wp2_with fail
        go_ret2
        exact HF.out
      · rw [if_pos rfl]
        have hfin : DecPost w (decL bs k) (.returned (.tuple #[.slice Av k cv, .int .i64 0])) w2 := by
          have h3 := HR.out.2.2.1
          rw [← HB.out] at h3
          have h3' : decL bs k = (out, 0) := h3
          rw [h3']
          refine ⟨Av, cv, ?_, ?_, H2.out.2⟩
          · show _ = Ending.returned (.tuple #[.slice Av out.length cv, .int .i64 0])
            rw [HR.out.2.1]
          · show w2.ownsRow w.heap.size 3 1 (.slice Av out.length cv) out.length (out.map intZ)
            rw [HR.out.2.1]
            exact own_base H2.out.1 (by have := HR.out.1.old; omega)
        have HF := Lib.hid hfin
        clear hfin
        go_wp2_with fail
        go_ret2
        exact HF.out
end Go.Proofs.Ytgphdigcilbnlaa
