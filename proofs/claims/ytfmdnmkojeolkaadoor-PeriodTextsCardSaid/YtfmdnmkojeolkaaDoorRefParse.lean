/-
  Reading a period, in layer 4's reference.
-/
import Derived.Test.YtfmdnmkojeolkaaDoorRefCut
import Derived.Test.YtfmdnmkojeolkaaDoorPerLaw
namespace Go.Proofs.YtfmdnmkojeolkaaDoor
open Go.RowKit Go.Shelf

theorem pow_two_le {k : Nat} (h : k ≤ 7) : 2 * (2 : Int) ^ k ≤ 256 ∧ 1 ≤ (2 : Int) ^ k := by have := Per.pow_bd7 h; omega

set_option maxHeartbeats 2000000 in
theorem rPParse_any (s : ByteArray) (w : World) (hs : s.size ≤ 200) :
    Calls Tryd.prog 50 #[.string s] w fun e w' => e = .returned (parsedV (Per.pp s)) ∧ Below w.heap.size w w' := by
  have hR0 := Box3.new w 37 (.int .i64 0) (.int .i64 0) (.int .i64 0)
  have hB0 := (Below.refl w.heap.size w).alloc (Nat.le_refl _) (.cells #[.int .i64 0, .int .i64 0, .int .i64 0] 37)
  have hz0 : (w.alloc (.cells #[.int .i64 0, .int .i64 0, .int .i64 0] 37)).heap.size = w.heap.size + 1 := by simp
  go_enter Tryd.func50, Tryd.ntmps50
  go_wp2_with fail
  generalize w.alloc (.cells #[.int .i64 0, .int .i64 0, .int .i64 0] 37) = w1 at *
  refine (rCut_any s _ hs).mono ?_
  rintro e w2 ⟨v, rfl, hrow, hb2⟩
  obtain ⟨oa, cap, rfl, hrd⟩ := row_any hrow
  have hR := hR0.below hb2 (by omega)
  have hB := hB0.trans (hb2.mono (by omega))
  have hz := hb2.size
  clear hR0 hB0 hb2 hrow
  have hr0 := hR.c0; have hr1 := hR.c1; have hr2 := hR.c2
  have hf0 := hR.f0 0; have hf1 := hR.f0 1; have hf2 := hR.f0 2
  by_cases h3 : (Per.pieces s).length = 3
  rotate_left
  · have E := Lib.hid (show Per.pp s = (Per.zero, 3) from Per.ppl_no h3)
    have hne : (((Per.pieces s).length : Int) != 3) = true := by rw [bne_iff_ne]; omega
    clear h3 hR hrd
    generalize (Per.pieces s).length = n at *
    go_wp2_with fail
    refine bodyPost_ret (v := .tuple #[.agg #[.int .i64 0, .int .i64 0, .int .i64 0], .int .i64 3]) ?_ rfl ⟨by rw [E.out]; rfl, ?_⟩
    · simp [results, Tryd.results50, go_sem, hr0, hr1, hr2]
    · exact ((hB.setCell (p := ⟨w.heap.size, 0, none⟩) (Nat.le_refl _) _).setCell (p := ⟨w.heap.size, 1, none⟩) (Nat.le_refl _) _).setCell (p := ⟨w.heap.size, 2, none⟩) (Nat.le_refl _) _

  obtain ⟨a, b, c, habc⟩ := Per.three h3
  have hc3 := piece_size (s := s) (x := c) (by rw [habc]; simp)
  have E0 := Lib.hid (show Per.pp s = Per.pp3 a b c by unfold Per.pp; rw [habc]; rfl)
  obtain ⟨g, rfl, hg0, hg1, hgc⟩ := hrd (by omega)
  have hx0 : w2.cell? ⟨g, 0, none⟩ = some (.string a) := hgc 0 _ (by rw [habc]; rfl)
  have hx1 : w2.cell? ⟨g, 1, none⟩ = some (.string b) := hgc 1 _ (by rw [habc]; rfl)
  have hx2 : w2.cell? ⟨g, 2, none⟩ = some (.string c) := hgc 2 _ (by rw [habc]; rfl)
  rw [h3]
  clear h3 habc hgc hrd
  go_wp2_with fail
  refine (rParse_any a _).mono ?_
  rintro e w' ⟨rfl, rfl⟩
  by_cases ha : Txt.pe a = 0
  rotate_left
  · have E := Lib.hid (E0.out.trans (Per.pp3_a ha))
    have ha' : (Txt.pe a != 0) = true := by simpa using ha
    clear ha hx0 hx1 hx2 hR
    go_wp2_with fail
    refine bodyPost_ret (v := .tuple #[.agg #[.int .i64 0, .int .i64 0, .int .i64 0], .int .i64 (Txt.pe a)]) ?_ rfl ⟨by rw [E.out]; rfl, ?_⟩
    · simp [results, Tryd.results50, go_sem, hr0, hr1, hr2]
    · exact ((hB.setCell (p := ⟨w.heap.size, 0, none⟩) (Nat.le_refl _) _).setCell (p := ⟨w.heap.size, 1, none⟩) (Nat.le_refl _) _).setCell (p := ⟨w.heap.size, 2, none⟩) (Nat.le_refl _) _

  have HA := Lib.hid ha
  have ha' : (Txt.pe a != 0) = false := by simpa using ha
  clear ha
  go_wp2_with fail
  refine (rParse_any b _).mono ?_
  rintro e w' ⟨rfl, rfl⟩
  by_cases hb : Txt.pe b = 0
  rotate_left
  · have E := Lib.hid (E0.out.trans (Per.pp3_b HA.out hb))
    have hb' : (Txt.pe b != 0) = true := by simpa using hb
    clear hb hx0 hx1 hx2 hR
    go_wp2_with fail
    refine bodyPost_ret (v := .tuple #[.agg #[.int .i64 0, .int .i64 0, .int .i64 0], .int .i64 (Txt.pe b)]) ?_ rfl ⟨by rw [E.out]; rfl, ?_⟩
    · simp [results, Tryd.results50, go_sem, hr0, hr1, hr2]
    · exact ((hB.setCell (p := ⟨w.heap.size, 0, none⟩) (Nat.le_refl _) _).setCell (p := ⟨w.heap.size, 1, none⟩) (Nat.le_refl _) _).setCell (p := ⟨w.heap.size, 2, none⟩) (Nat.le_refl _) _

  have HB := Lib.hid hb
  have hb' : (Txt.pe b != 0) = false := by simpa using hb
  clear hb
  go_wp2_with fail
  obtain ⟨f, hf⟩ : ∃ f, Txt.pv a = f := ⟨_, rfl⟩
  obtain ⟨t, ht⟩ : ∃ t, Txt.pv b = t := ⟨_, rfl⟩
  simp only [hf, ht]
  have HF := Lib.hid hf
  have HT := Lib.hid ht
  have hP0 := Box3.new w2 37 (.int .i64 f) (.int .i64 t) (.int .i64 0)
  have hK0 := (Below.refl w2.heap.size w2).alloc (Nat.le_refl _) (.cells #[.int .i64 f, .int .i64 t, .int .i64 0] 37)
  have hz3 : (w2.alloc (.cells #[.int .i64 f, .int .i64 t, .int .i64 0] 37)).heap.size = w2.heap.size + 1 := by simp
  clear hf ht hr0 hr1 hr2 hf0 hf1 hf2
  generalize w2.alloc (.cells #[.int .i64 f, .int .i64 t, .int .i64 0] 37) = w3 at *
  go_loopw [10, 11, 12, 13] (fun last unit at_ i wr => ∃ (k A : Nat) (L D : Int), k ≤ c.size ∧ (A : Int) ≤ max L 0 ∧ i = .int .i64 k ∧ last = .int .i64 (L + 1) ∧ unit = .int .i64 (2 ^ A) ∧ at_ = .int .i64 ((A : Int) + 1) ∧ Per.wst (c.data.toList.take k) = some (L, D) ∧ Box3 wr w2.heap.size 37 (.int .i64 f) (.int .i64 t) (.int .i64 D) ∧ Below w2.heap.size w2 wr ∧ w2.heap.size < wr.heap.size) (fun _ _ _ i _ => (c.size - intOf i).toNat)
  case atStart => exact ⟨0, 0, -1, 0, Nat.zero_le _, by omega, rfl, rfl, rfl, rfl, rfl, hP0, hK0, by omega⟩
  case round =>
    obtain ⟨k, A, L, D, hk, hA, rfl, rfl, rfl, rfl, hst, hPr, hKr, hzr⟩ := hrel
    obtain ⟨q1, q2, q3, q4, -, q6⟩ := Per.wst_spec _ _ _ hst
    have HS := Lib.hid hst
    have H4 := Lib.hid q4
    have H6 := Lib.hid q6
    have hRr := hR.below hKr (by omega)
    have hBr := hB.trans (hKr.mono (by omega))
    have hy2 := (hKr.cell (p := ⟨g, 2, none⟩) hg1).trans hx2
    have hr0 := hRr.c0; have hr1 := hRr.c1; have hr2 := hRr.c2
    have hf0 := hRr.f0 0; have hf1 := hRr.f0 1; have hf2 := hRr.f0 2
    clear hst q4 q6 hx0 hx1 hx2 hP0 hK0 hR hB
    by_cases hlt : k < c.size
    · have hts := Lib.hid (Txt.take_snoc c k hlt)
      have h256 : (c[k].toNat : Int) < 256 := by have := c[k].toNat_lt; omega
      by_cases hlo : (c[k].toNat : Int) - 48 ≤ L + 1
      · have HN := Lib.hid (Per.wst_none (l := c.data.toList) (k := k + 1) (by rw [hts.out, Per.wst_snoc, HS.out]; unfold Per.wstep; dsimp only; rw [if_pos (.inl (by omega))]))
        have E := Lib.hid (E0.out.trans (Per.pp3_none HA.out HB.out HN.out))
        go_wp2_with fail
        refine bodyPost_ret (v := .tuple #[.agg #[.int .i64 0, .int .i64 0, .int .i64 0], .int .i64 3]) ?_ rfl ⟨by rw [E.out]; rfl, ?_⟩
        · simp [results, Tryd.results50, go_sem, hr0, hr1, hr2]
        · exact ((hBr.setCell (p := ⟨w.heap.size, 0, none⟩) (Nat.le_refl _) _).setCell (p := ⟨w.heap.size, 1, none⟩) (Nat.le_refl _) _).setCell (p := ⟨w.heap.size, 2, none⟩) (Nat.le_refl _) _

      by_cases hhi : 7 < (c[k].toNat : Int) - 48
      · have HN := Lib.hid (Per.wst_none (l := c.data.toList) (k := k + 1) (by rw [hts.out, Per.wst_snoc, HS.out]; unfold Per.wstep; dsimp only; rw [if_pos (.inr (by omega))]))
        have E := Lib.hid (E0.out.trans (Per.pp3_none HA.out HB.out HN.out))
        go_wp2_with fail
        refine bodyPost_ret (v := .tuple #[.agg #[.int .i64 0, .int .i64 0, .int .i64 0], .int .i64 3]) ?_ rfl ⟨by rw [E.out]; rfl, ?_⟩
        · simp [results, Tryd.results50, go_sem, hr0, hr1, hr2]
        · exact ((hBr.setCell (p := ⟨w.heap.size, 0, none⟩) (Nat.le_refl _) _).setCell (p := ⟨w.heap.size, 1, none⟩) (Nat.le_refl _) _).setCell (p := ⟨w.heap.size, 2, none⟩) (Nat.le_refl _) _

      have HN := Lib.hid (show Per.wst (c.data.toList.take (k + 1)) = some ((c[k].toNat : Int) - 49, D + 2 ^ ((c[k].toNat : Int) - 49).toNat) by rw [hts.out, Per.wst_snoc, HS.out]; unfold Per.wstep; dsimp only; rw [if_neg (by omega)])
      obtain ⟨K, hK⟩ : ∃ K : Nat, (c[k].toNat : Int) = K + 49 := ⟨((c[k].toNat : Int) - 49).toNat, by omega⟩
      have HK := Lib.hid hK
      have hAK : A ≤ K := by omega
      have hK6 : K ≤ 6 := by omega
      clear hK
      go_wp2_with fail
      obtain ⟨wo, rfl⟩ : ∃ wo : World, wo = wr := ⟨_, rfl⟩
      obtain ⟨N, hN⟩ : ∃ N : Int, (c[k].toNat : Int) - 48 = N := ⟨_, rfl⟩
      simp only [hN]
      have HNN := Lib.hid hN
      have hNK : N = K + 1 := by have := HK.out; omega
      clear hN hlo hhi h256
      go_loop [11, 12] (fun unit at_ => ∃ J : Nat, A ≤ J ∧ J ≤ K ∧ unit = .int .i64 (2 ^ J) ∧ at_ = .int .i64 ((J : Int) + 1)) (fun _ at_ => (K + 1 - intOf at_).toNat)
      case atStart => exact ⟨A, Nat.le_refl _, hAK, rfl, rfl⟩
      case round =>
        obtain ⟨J, hJ1, hJ2, rfl, rfl⟩ := hrel
        obtain ⟨p1, p2⟩ := pow_bd (show J ≤ 6 by omega)
        have HPS := Lib.hid (pow_succ2 J)
        have HNK := Lib.hid hNK
        have hNb : 1 ≤ N ∧ N ≤ 7 := by omega
        by_cases hJK : J < K
        · have hlt2 : (J : Int) + 1 < N := by omega
          go_wp2_with fail
          go_round
          case rel => exact ⟨J + 1, by omega, by omega, by rw [HPS.out], by go_num⟩
          case measure => simp [intOf]; omega
        · obtain rfl : J = K := by omega
          have hge2 : N ≤ (J : Int) + 1 := by omega
          have hp2 := hPr.c2
          have hpf := hPr.f0 2
          have hD : D ≤ 127 := by
            have := H4.out
            have h7 := Per.pow_bd7 (show (L + 1).toNat ≤ 7 by omega)
            omega
          go_wp2_with fail
          go_roundw
          case rel => exact ⟨k + 1, J, (c[k].toNat : Int) - 49, D + 2 ^ J, by omega, by have := HK.out; omega, by go_num, congrArg (Value.int .i64) (by have := HNN.out; omega), rfl, rfl, by rw [HN.out, show ((c[k].toNat : Int) - 49).toNat = J by have := HK.out; omega], hPr.set2 _, hKr.setCell (p := ⟨w2.heap.size, 2, none⟩) (Nat.le_refl _) _, by simpa using hzr⟩
          case measure => simp [intOf]; omega
    · have HT2 := Lib.hid (show c.data.toList.take k = c.data.toList from List.take_of_length_le (by simp; omega))
      rw [HT2.out] at HS
      have hp0 := hPr.c0; have hp1 := hPr.c1; have hp2 := hPr.c2
      by_cases hL : L = -1
      · subst hL
        have E := Lib.hid (E0.out.trans (Per.pp3_no HA.out HB.out HS.out))
        go_wp2_with fail
        refine bodyPost_ret (v := .tuple #[.agg #[.int .i64 0, .int .i64 0, .int .i64 0], .int .i64 3]) ?_ rfl ⟨by rw [E.out]; rfl, ?_⟩
        · simp [results, Tryd.results50, go_sem, hr0, hr1, hr2]
        · exact ((hBr.setCell (p := ⟨w.heap.size, 0, none⟩) (Nat.le_refl _) _).setCell (p := ⟨w.heap.size, 1, none⟩) (Nat.le_refl _) _).setCell (p := ⟨w.heap.size, 2, none⟩) (Nat.le_refl _) _

      have hL' : (L + 1 == 0) = false := by rw [beq_eq_false_iff_ne]; omega
      have HL := Lib.hid hL
      clear hL hr0 hr1 hr2 hf0 hf1 hf2
      go_wp2_with fail
      refine (rCheck_any ⟨f, t, D⟩ _).mono ?_
      rintro e w4 ⟨rfl, hb4⟩
      have hP4 := hPr.below hb4 (by omega)
      have hR4 := hRr.below hb4 (by omega)
      have hB4 := hBr.trans (hb4.mono (by omega))
      have hz4 := hb4.size
      clear hPr hRr hBr hb4 hp0 hp1 hp2 hKr hy2
      have hp0 := hP4.c0; have hp1 := hP4.c1; have hp2 := hP4.c2
      by_cases hk0 : Per.chk ⟨f, t, D⟩ = 0
      rotate_left
      · have E := Lib.hid (show Per.pp s = (Per.zero, Per.chk ⟨f, t, D⟩) by rw [← HF.out, ← HT.out]; exact E0.out.trans (Per.pp3_bad HA.out HB.out HS.out HL.out (by rw [HF.out, HT.out]; exact hk0)))
        have hk' : (Per.chk ⟨f, t, D⟩ != 0) = true := by simpa using hk0
        clear hk0
        have HCK := Lib.hid (rCheck_any ⟨f, t, D⟩)
        generalize Per.chk ⟨f, t, D⟩ = kk at *
        go_wp2_with fail
        refine (HCK.out _).mono ?_
        rintro e w5 ⟨rfl, hb5⟩
        have hR5 := hR4.below hb5 (by omega)
        have hB5 := hB4.trans (hb5.mono (by omega))
        have hr0 := hR5.c0; have hr1 := hR5.c1; have hr2 := hR5.c2
        have hf0 := hR5.f0 0; have hf1 := hR5.f0 1; have hf2 := hR5.f0 2
        clear hP4 hR4 hb5 hp0 hp1 hp2
        go_wp2_with fail
        refine bodyPost_ret (v := .tuple #[.agg #[.int .i64 0, .int .i64 0, .int .i64 0], .int .i64 kk]) ?_ rfl ⟨by rw [E.out]; rfl, ?_⟩
        · simp [results, Tryd.results50, go_sem, hr0, hr1, hr2]
        · exact ((hB5.setCell (p := ⟨w.heap.size, 0, none⟩) (Nat.le_refl _) _).setCell (p := ⟨w.heap.size, 1, none⟩) (Nat.le_refl _) _).setCell (p := ⟨w.heap.size, 2, none⟩) (Nat.le_refl _) _

      have E := Lib.hid (show Per.pp s = (⟨f, t, D⟩, 0) by rw [← HF.out, ← HT.out]; exact E0.out.trans (Per.pp3_ok HA.out HB.out HS.out HL.out (by rw [HF.out, HT.out]; exact hk0)))
      have hk' : (Per.chk ⟨f, t, D⟩ != 0) = false := by simpa using hk0
      have hr0 := hR4.c0; have hr1 := hR4.c1; have hr2 := hR4.c2
      have hf0 := hR4.f0 0; have hf1 := hR4.f0 1; have hf2 := hR4.f0 2
      clear hk0 hP4 hR4
      generalize Per.chk ⟨f, t, D⟩ = kk at *
      go_wp2_with fail
      refine bodyPost_ret (v := .tuple #[.agg #[.int .i64 f, .int .i64 t, .int .i64 D], .int .i64 0]) ?_ rfl ⟨by rw [E.out]; rfl, ?_⟩
      · simp [results, Tryd.results50, go_sem, hr0, hr1, hr2]
      · exact ((hB4.setCell (p := ⟨w.heap.size, 0, none⟩) (Nat.le_refl _) _).setCell (p := ⟨w.heap.size, 1, none⟩) (Nat.le_refl _) _).setCell (p := ⟨w.heap.size, 2, none⟩) (Nat.le_refl _) _
end Go.Proofs.YtfmdnmkojeolkaaDoor
