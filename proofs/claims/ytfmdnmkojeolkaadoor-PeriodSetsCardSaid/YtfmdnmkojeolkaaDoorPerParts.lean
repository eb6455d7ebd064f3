/-
  The law PeriodParts, walked: each day of a period is in exactly one of the intersection and the periods of the difference.
-/
import Derived.Test.YtfmdnmkojeolkaaDoorPerLaw
import Derived.Test.YtfmdnmkojeolkaaDoorPerWeeks
import Derived.Test.YtfmdnmkojeolkaaDoorPerHas
namespace Go.Proofs.YtfmdnmkojeolkaaDoor
open Go.RowKit Go.Shelf

/-- Two periods lie in the two blocks that the call made first. -/
def Two (w W : World) (a b : Per.P) : Prop := Box3 W w.heap.size 37 (.int .i64 a.f) (.int .i64 a.t) (.int .i64 a.d) ∧ Box3 W (w.heap.size + 1) 37 (.int .i64 b.f) (.int .i64 b.t) (.int .i64 b.d)
theorem Two.below {w W W' : World} {a b : Per.P} {n₀ : Nat} (h : Two w W a b) (hb : Below n₀ W W') (hn : w.heap.size + 1 < n₀) : Two w W' a b := ⟨h.1.below hb (by omega), h.2.below hb hn⟩
theorem b2n_f : b2n false = 0 := rfl
theorem b2n_t : b2n true = 1 := rfl
theorem two_new (w : World) (a b : Per.P) : Two w ((w.alloc (.cells #[.int .i64 a.f, .int .i64 a.t, .int .i64 a.d] 37)).alloc (.cells #[.int .i64 b.f, .int .i64 b.t, .int .i64 b.d] 37)) a b := by
  refine ⟨(Box3.new w _ _ _ _).alloc _, ?_⟩
  have := Box3.new (w.alloc (.cells #[.int .i64 a.f, .int .i64 a.t, .int .i64 a.d] 37)) 37 (.int .i64 b.f) (.int .i64 b.t) (.int .i64 b.d)
  rw [World.size_alloc] at this
  exact this

/-- What holds of a world while three periods lie in three blocks. -/
theorem s3_drew {w w1 : World} {a b m : Per.P} {B : Nat} (h : (w1.cell? ⟨w.heap.size, 0, none⟩ = some (.int .i64 a.f) ∧ w1.cell? ⟨w.heap.size, 1, none⟩ = some (.int .i64 a.t) ∧ w1.cell? ⟨w.heap.size, 2, none⟩ = some (.int .i64 a.d)) ∧ (w1.cell? ⟨w.heap.size + 1, 0, none⟩ = some (.int .i64 b.f) ∧ w1.cell? ⟨w.heap.size + 1, 1, none⟩ = some (.int .i64 b.t) ∧ w1.cell? ⟨w.heap.size + 1, 2, none⟩ = some (.int .i64 b.d)) ∧ (w1.cell? ⟨B, 0, none⟩ = some (.int .i64 m.f) ∧ w1.cell? ⟨B, 1, none⟩ = some (.int .i64 m.t) ∧ w1.cell? ⟨B, 2, none⟩ = some (.int .i64 m.d)) ∧ HasLen w1 ∧ Below w.heap.size w w1 ∧ w.heap.size + 1 < w1.heap.size ∧ B < w1.heap.size) : (w1.drew.cell? ⟨w.heap.size, 0, none⟩ = some (.int .i64 a.f) ∧ w1.drew.cell? ⟨w.heap.size, 1, none⟩ = some (.int .i64 a.t) ∧ w1.drew.cell? ⟨w.heap.size, 2, none⟩ = some (.int .i64 a.d)) ∧ (w1.drew.cell? ⟨w.heap.size + 1, 0, none⟩ = some (.int .i64 b.f) ∧ w1.drew.cell? ⟨w.heap.size + 1, 1, none⟩ = some (.int .i64 b.t) ∧ w1.drew.cell? ⟨w.heap.size + 1, 2, none⟩ = some (.int .i64 b.d)) ∧ (w1.drew.cell? ⟨B, 0, none⟩ = some (.int .i64 m.f) ∧ w1.drew.cell? ⟨B, 1, none⟩ = some (.int .i64 m.t) ∧ w1.drew.cell? ⟨B, 2, none⟩ = some (.int .i64 m.d)) ∧ HasLen w1.drew ∧ Below w.heap.size w w1.drew ∧ w.heap.size + 1 < w1.drew.heap.size ∧ B < w1.drew.heap.size :=
  ⟨h.1, h.2.1, h.2.2.1, h.2.2.2.1, h.2.2.2.2.1.drew, h.2.2.2.2.2⟩
theorem s3_bw {w w1 w2 : World} {a b m : Per.P} {B : Nat} (h : (w1.cell? ⟨w.heap.size, 0, none⟩ = some (.int .i64 a.f) ∧ w1.cell? ⟨w.heap.size, 1, none⟩ = some (.int .i64 a.t) ∧ w1.cell? ⟨w.heap.size, 2, none⟩ = some (.int .i64 a.d)) ∧ (w1.cell? ⟨w.heap.size + 1, 0, none⟩ = some (.int .i64 b.f) ∧ w1.cell? ⟨w.heap.size + 1, 1, none⟩ = some (.int .i64 b.t) ∧ w1.cell? ⟨w.heap.size + 1, 2, none⟩ = some (.int .i64 b.d)) ∧ (w1.cell? ⟨B, 0, none⟩ = some (.int .i64 m.f) ∧ w1.cell? ⟨B, 1, none⟩ = some (.int .i64 m.t) ∧ w1.cell? ⟨B, 2, none⟩ = some (.int .i64 m.d)) ∧ HasLen w1 ∧ Below w.heap.size w w1 ∧ w.heap.size + 1 < w1.heap.size ∧ B < w1.heap.size) (hb : Below w1.heap.size w1 w2) : (w2.cell? ⟨w.heap.size, 0, none⟩ = some (.int .i64 a.f) ∧ w2.cell? ⟨w.heap.size, 1, none⟩ = some (.int .i64 a.t) ∧ w2.cell? ⟨w.heap.size, 2, none⟩ = some (.int .i64 a.d)) ∧ (w2.cell? ⟨w.heap.size + 1, 0, none⟩ = some (.int .i64 b.f) ∧ w2.cell? ⟨w.heap.size + 1, 1, none⟩ = some (.int .i64 b.t) ∧ w2.cell? ⟨w.heap.size + 1, 2, none⟩ = some (.int .i64 b.d)) ∧ (w2.cell? ⟨B, 0, none⟩ = some (.int .i64 m.f) ∧ w2.cell? ⟨B, 1, none⟩ = some (.int .i64 m.t) ∧ w2.cell? ⟨B, 2, none⟩ = some (.int .i64 m.d)) ∧ HasLen w2 ∧ Below w.heap.size w w2 ∧ w.heap.size + 1 < w2.heap.size ∧ B < w2.heap.size := by
  obtain ⟨⟨a0, a1, a2⟩, ⟨b0, b1, b2⟩, ⟨m0, m1, m2⟩, hl, hB, hs, hm⟩ := h
  have h0 : w.heap.size < w1.heap.size := by omega
  exact ⟨⟨(hb.cell (p := ⟨w.heap.size, 0, none⟩) h0).trans a0, (hb.cell (p := ⟨w.heap.size, 1, none⟩) h0).trans a1, (hb.cell (p := ⟨w.heap.size, 2, none⟩) h0).trans a2⟩, ⟨(hb.cell (p := ⟨w.heap.size + 1, 0, none⟩) hs).trans b0, (hb.cell (p := ⟨w.heap.size + 1, 1, none⟩) hs).trans b1, (hb.cell (p := ⟨w.heap.size + 1, 2, none⟩) hs).trans b2⟩, ⟨(hb.cell (p := ⟨B, 0, none⟩) hm).trans m0, (hb.cell (p := ⟨B, 1, none⟩) hm).trans m1, (hb.cell (p := ⟨B, 2, none⟩) hm).trans m2⟩, hl.below hb, hB.trans (hb.mono (by omega)), Nat.lt_of_lt_of_le hs hb.size, Nat.lt_of_lt_of_le hm hb.size⟩

set_option maxHeartbeats 1000000 in
theorem parts_any (a b : Per.P) (day : Int) (w : World) (hl : HasLen w) :
    Calls Tryd.prog 11 #[pv a, pv b, .int .i64 day] w fun e w' => e = .returned (.bool true) ∧ Below w.heap.size w w' := by
  have hT := two_new w a b
  have hB0 := ((Below.refl w.heap.size w).alloc (Nat.le_refl _) (.cells #[.int .i64 a.f, .int .i64 a.t, .int .i64 a.d] 37)).alloc (by simp) (.cells #[.int .i64 b.f, .int .i64 b.t, .int .i64 b.d] 37)
  have hz : ((w.alloc (.cells #[.int .i64 a.f, .int .i64 a.t, .int .i64 a.d] 37)).alloc (.cells #[.int .i64 b.f, .int .i64 b.t, .int .i64 b.d] 37)).heap.size = w.heap.size + 1 + 1 := by simp
  have ha0 := hT.1.c0; have ha1 := hT.1.c1; have ha2 := hT.1.c2
  have hb0 := hT.2.c0; have hb1 := hT.2.c1; have hb2 := hT.2.c2
  go_enter Tryd.func11, Tryd.ntmps11
  go_wp2_with fail
  generalize (w.alloc (.cells #[.int .i64 a.f, .int .i64 a.t, .int .i64 a.d] 37)).alloc (.cells #[.int .i64 b.f, .int .i64 b.t, .int .i64 b.d] 37) = w3 at *
  refine (Meet_any a b _).mono ?_
  rintro e w4 ⟨rfl, hb4⟩
  unfold canonV
  have hT4 := hT.below hb4 (by omega)
  have hB4 := hB0.trans (hb4.mono (by omega))
  have hz4 := hb4.size
  clear ha0 ha1 ha2 hb0 hb1 hb2 hT hb4
  obtain ⟨m, hm⟩ : ∃ m, Per.canon (meetDays a b) = m := ⟨_, rfl⟩
  have HM := Lib.hid hm
  simp only [hm]
  clear hm
  go_wp2_with fail
  have hM5 := Box3.new w4 37 (.int .i64 m.f) (.int .i64 m.t) (.int .i64 m.d)
  have hT5 : Two w (w4.alloc (.cells #[.int .i64 m.f, .int .i64 m.t, .int .i64 m.d] 37)) a b := ⟨hT4.1.alloc _, hT4.2.alloc _⟩
  have hB5 := hB4.alloc (by omega) (.cells #[.int .i64 m.f, .int .i64 m.t, .int .i64 m.d] 37)
  have hz5 : (w4.alloc (.cells #[.int .i64 m.f, .int .i64 m.t, .int .i64 m.d] 37)).heap.size = w4.heap.size + 1 := by simp
  clear hT4 hB4
  generalize w4.alloc (.cells #[.int .i64 m.f, .int .i64 m.t, .int .i64 m.d] 37) = w5 at *
  refine (Has_any m day _).mono ?_
  rintro e w6 ⟨rfl, hb6⟩
  have hM6 := hM5.below hb6 (by omega)
  have hT6 := hT5.below hb6 (by omega)
  have hB6 := hB5.trans (hb6.mono (by omega))
  have hz6 := hb6.size
  clear hM5 hT5 hB5 hb6
  have ha0 := hT6.1.c0; have ha1 := hT6.1.c1; have ha2 := hT6.1.c2
  have hb0 := hT6.2.c0; have hb1 := hT6.2.c1; have hb2 := hT6.2.c2
  obtain ⟨c, hc⟩ : ∃ c, Per.has m day = c := ⟨_, rfl⟩
  have HC := Lib.hid hc
  simp only [hc]
  clear hc
  obtain ⟨n0, hn0⟩ : ∃ n0, b2n c = n0 := ⟨_, rfl⟩
  have hn1 : 0 ≤ n0 ∧ n0 ≤ 1 := by rw [← hn0]; exact b2n_bd c
  have HN := Lib.hid hn0
  clear hn0
  cases c
  all_goals
    go_wp2_with fail
    refine (Without_any a b _).mono ?_
    rintro e w7 ⟨v, rfl, hrow, hb7⟩
    obtain ⟨oa, cap, rfl, hrd⟩ := row_any hrow
    have hlen := outs_len a b
    have hM7 := hM6.below hb7 (by omega)
    have hT7 := hT6.below hb7 (by omega)
    have hB7 := hB6.trans (hb7.mono (by omega))
    have hz7 := hb7.size
    have HG := Lib.hid (fun k p (h : (outs a b)[k]? = some p) => cellsOf_get h)
    clear hM6 hT6 hB6 hb7 hrow ha0 ha1 ha2 hb0 hb1 hb2
    have HL := Lib.hid (parts_law a b day)
    generalize outs a b = l at *
    obtain ⟨hn2, hn3⟩ := hn1
    go_wp2_with fail
    go_loopw [9, 11] (fun n i wr => ∃ k : Nat, k ≤ l.length ∧ i = .int .i64 k ∧ n = .int .i64 (n0 + cntHas (l.take k) day) ∧ Below w7.heap.size w7 wr) (fun _ i _ => (l.length - intOf i).toNat)
    case atStart => exact ⟨0, by omega, rfl, by rw [List.take_zero, cntHas_nil, ← HN.out]; rfl, Below.refl _ _⟩
    case round =>
      obtain ⟨k, hk, rfl, rfl, hbr⟩ := hrel
      obtain ⟨N, hN⟩ : ∃ N, n0 + cntHas (l.take k) day = N := ⟨_, rfl⟩
      have hN0 := cntHas_bd (l.take k) day
      have hN1 : (l.take k).length ≤ k := List.length_take_le _ _
      have hN2 : 0 ≤ N ∧ N ≤ 4 := by rw [← hN]; omega
      obtain ⟨hN3, hN4⟩ := hN2
      have HNN := Lib.hid hN
      simp only [hN]
      clear hN hN0 hN1
      by_cases hlt : k < l.length
      · obtain ⟨g, rfl, hg0, hg1, hgc⟩ := hrd (by omega)
        obtain ⟨q, hq⟩ : ∃ q, l[k]? = some q := ⟨_, List.getElem?_eq_getElem hlt⟩
        obtain ⟨q0, q1, q2⟩ := HG.out k q hq
        have r0 := (hbr.cell (p := ⟨g, 3 * k, none⟩) hg1).trans (hgc _ _ q0)
        have r1 := (hbr.cell (p := ⟨g, 3 * k + 1, none⟩) hg1).trans (hgc _ _ q1)
        have r2 := (hbr.cell (p := ⟨g, 3 * k + 2, none⟩) hg1).trans (hgc _ _ q2)
        have HQ := Lib.hid (cntHas_take hq day)
        have hk3 : k = 0 ∨ k = 1 ∨ k = 2 := by omega
        clear q0 q1 q2 hgc hrd hq
        obtain ⟨d, hd⟩ : ∃ d, Per.has q day = d := ⟨_, rfl⟩
        have HD := Lib.hid hd
        have hcall := fun W => Has_any q day W
        simp only [hd] at hcall
        clear hd
        have HCL := Lib.hid hcall
        clear hcall
        rcases hk3 with rfl | rfl | rfl
        all_goals
          simp only [Nat.mul_zero, Nat.mul_one, Nat.zero_add, Nat.reduceMul, Nat.reduceAdd] at r0 r1 r2
          go_wp2_with fail
          refine (HCL.out _).mono ?_
          rintro e w8 ⟨rfl, hb8⟩
          have hbr8 := hbr.trans (hb8.mono hbr.size)
          clear r0 r1 r2
          cases d
          · go_wp2_with fail
            go_roundw
            case rel => exact ⟨_, hlt, by go_num, by rw [HQ.out, HD.out, ← HNN.out]; (first | rw [b2n_f] | rw [b2n_t]); go_num, hbr8⟩
            case measure => simp [intOf]; omega
          · go_wp2_with fail
            go_roundw
            case rel => exact ⟨_, hlt, by go_num, by rw [HQ.out, HD.out, ← HNN.out]; (first | rw [b2n_f] | rw [b2n_t]); go_num, hbr8⟩
            case measure => simp [intOf]; omega
      · have hN5 : N = b2n (Per.has a day) := by
          rw [← HNN.out, ← HL.out, HM.out, HC.out, HN.out, List.take_of_length_le (by omega)]
        have HNa := Lib.hid hN5
        clear hN5
        have hT8 := hT7.below hbr (by omega)
        have hM8 := hM7.below hbr (by omega)
        have hB8 := hB7.trans (hbr.mono (by omega))
        have hz8 := hbr.size
        have hlr := hl.below hB8
        have hS : (wr.cell? ⟨w.heap.size, 0, none⟩ = some (.int .i64 a.f) ∧ wr.cell? ⟨w.heap.size, 1, none⟩ = some (.int .i64 a.t) ∧ wr.cell? ⟨w.heap.size, 2, none⟩ = some (.int .i64 a.d)) ∧ (wr.cell? ⟨w.heap.size + 1, 0, none⟩ = some (.int .i64 b.f) ∧ wr.cell? ⟨w.heap.size + 1, 1, none⟩ = some (.int .i64 b.t) ∧ wr.cell? ⟨w.heap.size + 1, 2, none⟩ = some (.int .i64 b.d)) ∧ (wr.cell? ⟨w4.heap.size, 0, none⟩ = some (.int .i64 m.f) ∧ wr.cell? ⟨w4.heap.size, 1, none⟩ = some (.int .i64 m.t) ∧ wr.cell? ⟨w4.heap.size, 2, none⟩ = some (.int .i64 m.d)) ∧ HasLen wr ∧ Below w.heap.size w wr ∧ w.heap.size + 1 < wr.heap.size ∧ w4.heap.size < wr.heap.size := ⟨⟨hT8.1.c0, hT8.1.c1, hT8.1.c2⟩, ⟨hT8.2.c0, hT8.2.c1, hT8.2.c2⟩, ⟨hM8.c0, hM8.c1, hM8.c2⟩, hlr, hB8, by omega, by omega⟩
        have hN6 := HNa.out
        have hme : Per.has m day = (Per.has a day && Per.has b day) := by rw [← HM.out]; exact has_meet a b day
        have k1 : ∀ W, Calls Tryd.prog 43 #[pv a, .int .i64 day] W fun e w' => e = .returned (.bool (Per.has a day)) ∧ Below W.heap.size W w' := fun W => rHas_any a day W
        have k2 : ∀ W, Calls Tryd.prog 43 #[pv b, .int .i64 day] W fun e w' => e = .returned (.bool (Per.has b day)) ∧ Below W.heap.size W w' := fun W => rHas_any b day W
        have k3 : ∀ W, Calls Tryd.prog 42 #[pv m, .int .i64 day] W fun e w' => e = .returned (.bool (Per.has a day && Per.has b day)) ∧ Below W.heap.size W w' := fun W => by rw [← hme]; exact Has_any m day W
        generalize Per.has a day = ca at *
        generalize Per.has b day = cb at *
        have hle : decide ((l.length : Int) ≤ 3) = true := by simp; omega
        clear hT8 hB8 hlr hrd hT7 hM7 hM8 hB7 hme HNa HC HN HM
        cases ca <;> cases cb
        all_goals
          simp only [Bool.and_true, Bool.and_false, Bool.and_self] at k3
          simp only [b2n_f, b2n_t] at hN6
          subst hN6
          have K1 := Lib.hid k1
          have K2 := Lib.hid k2
          have K3 := Lib.hid k3
          clear k1 k2 k3
          go_wp2_with fail
          go_region_held3 (fun w' => (w'.cell? ⟨w.heap.size, 0, none⟩ = some (.int .i64 a.f) ∧ w'.cell? ⟨w.heap.size, 1, none⟩ = some (.int .i64 a.t) ∧ w'.cell? ⟨w.heap.size, 2, none⟩ = some (.int .i64 a.d)) ∧ (w'.cell? ⟨w.heap.size + 1, 0, none⟩ = some (.int .i64 b.f) ∧ w'.cell? ⟨w.heap.size + 1, 1, none⟩ = some (.int .i64 b.t) ∧ w'.cell? ⟨w.heap.size + 1, 2, none⟩ = some (.int .i64 b.d)) ∧ (w'.cell? ⟨w4.heap.size, 0, none⟩ = some (.int .i64 m.f) ∧ w'.cell? ⟨w4.heap.size, 1, none⟩ = some (.int .i64 m.t) ∧ w'.cell? ⟨w4.heap.size, 2, none⟩ = some (.int .i64 m.d)) ∧ HasLen w' ∧ Below w.heap.size w w' ∧ w.heap.size + 1 < w'.heap.size ∧ w4.heap.size < w'.heap.size) (first | exact s3_drew hS | exact s3_bw (by assumption) (by assumption)) (first
            | (go_at_call 43; (first | (with_reducible refine (K1.out _).mono ?_) | (with_reducible refine (K2.out _).mono ?_)); rintro e w6 ⟨rfl, hb6⟩))
          all_goals
            rename_i hS'
            have hSl := hS'.2.2.2.1
            have hSb := hS'.2.2.2.2.1
            obtain ⟨hm0, hm1, hm2⟩ := hS'.2.2.1
            clear hS' hS
            go_wp2_with fail
            refine (K3.out _).mono ?_
            rintro e w9 ⟨rfl, hb9⟩
            have hl9 := hSl.below hb9
            have hB9 := hSb.trans (hb9.mono hSb.size)
            clear hm0 hm1 hm2 hb9
            go_wp2_with fail
            refine (pawake_any _ hl9).mono ?_
            rintro e w10 ⟨rfl, hb10⟩
            go_wp2_with fail
            go_ret
            exact ⟨rfl, hB9.trans (hb10.mono hB9.size)⟩
end Go.Proofs.YtfmdnmkojeolkaaDoor
