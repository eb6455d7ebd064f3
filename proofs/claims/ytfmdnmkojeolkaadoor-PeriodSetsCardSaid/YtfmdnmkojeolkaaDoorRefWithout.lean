/-
  Without and Same of layer 4's reference.
-/
import Derived.Test.YtfmdnmkojeolkaaDoorRefPart
import Derived.Test.YtfmdnmkojeolkaaDoorPerLaw
import Derived.Test.YtfmdnmkojeolkaaDoorPerParts
namespace Go.Proofs.YtfmdnmkojeolkaaDoor
open Go.RowKit Go.Shelf

/-- The cells of a block are the headers of slices that read as the lists. -/
def PartsAt (W : World) (g : Nat) (L : List (List Int)) : Prop := g < W.heap.size ∧ ∀ k m, L[k]? = some m → ∃ v, W.cell? ⟨g, k, none⟩ = some v ∧ IntsAt W v m
theorem PartsAt.below {W W' : World} {g : Nat} {L : List (List Int)} (h : PartsAt W g L) (hb : Below W.heap.size W W') : PartsAt W' g L :=
  ⟨Nat.lt_of_lt_of_le h.1 hb.size, fun k m hm => by
    obtain ⟨v, hv, hi⟩ := h.2 k m hm
    exact ⟨v, (hb.cell (p := ⟨g, k, none⟩) h.1).trans hv, hi.below hb⟩⟩
def outsOf (L : List (List Int)) : List Per.P := L.flatMap put
theorem outsOf_take {L : List (List Int)} {k : Nat} {m : List Int} (h : L[k]? = some m) : outsOf (L.take (k + 1)) = outsOf (L.take k) ++ put m := by
  unfold outsOf
  rw [List.take_add_one, h, List.flatMap_append]
  simp
theorem outsOf_len (L : List (List Int)) : (outsOf L).length ≤ L.length := by
  induction L with
  | nil => simp [outsOf]
  | cons m L ih => have := put_len m; simp only [outsOf, List.flatMap_cons, List.length_append, List.length_cons] at *; omega
theorem put_no {m : List Int} (h : Per.ne m = false) : put m = [] := by unfold put; rw [h]; rfl
theorem put_yes {m : List Int} (h : Per.ne m = true) : put m = [Per.canon m] := by unfold put; rw [h]; rfl
theorem part_eq (a b : Per.P) (f t F d : Int) (h : ∀ x, Per.has a x = true → ((decide (f ≤ x ∧ x ≤ t) && !Per.has b x) = (decide (F ≤ x ∧ x ≤ t) && Per.on d x))) : partOf (Per.days a) f t b = partDays a F t d := by
  unfold partOf partDays
  apply List.filter_congr
  intro x hx
  exact h x (Per.mem_days.1 hx)
theorem outs_parts {a b : Per.P} (hb : Per.chk b = 0) : outs a b = outsOf [partOf (Per.days a) 0 (b.f - 1) b, partOf (Per.days a) b.f b.t b, partOf (Per.days a) (b.t + 1) 36525 b] := by
  obtain ⟨-, -, -, -, h5, h6⟩ := Per.chk_ok.1 hb
  have hb' := Per.chk_ok.1 hb
  by_cases ha : Per.chk a = 0
  · have ha' := Per.chk_ok.1 ha
    have e1 : partOf (Per.days a) 0 (b.f - 1) b = partDays a a.f (b.f - 1) 127 := part_eq _ _ _ _ _ _ (fun x hx => by
      unfold Per.has at hx
      simp only [Bool.and_eq_true, decide_eq_true_eq] at hx
      rw [Per.on_127, Bool.and_true]
      by_cases h : x ≤ b.f - 1
      · rw [has_no (fun hh => by omega), decide_eq_true ⟨by omega, h⟩, decide_eq_true ⟨by omega, h⟩]; rfl
      · rw [decide_eq_false (fun hh => h hh.2), decide_eq_false (fun hh => h hh.2)]; rfl)
    have e2 : partOf (Per.days a) b.f b.t b = partDays a b.f b.t (127 - b.d) := part_eq _ _ _ _ _ _ (fun x hx => by
      rw [Per.on_not x (by omega) h6]
      by_cases h : b.f ≤ x ∧ x ≤ b.t
      · rw [has_yes ⟨hb, h.1, h.2⟩]
      · rw [decide_eq_false h]; rfl)
    have e3 : partOf (Per.days a) (b.t + 1) 36525 b = partDays a (b.t + 1) a.t 127 := by
      unfold partOf partDays
      apply List.filter_congr
      intro x hx
      have hx := Per.mem_days.1 hx
      unfold Per.has at hx
      simp only [Bool.and_eq_true, decide_eq_true_eq] at hx
      rw [Per.on_127, Bool.and_true]
      by_cases h : b.t + 1 ≤ x
      · rw [has_no (fun hh => by omega), decide_eq_true ⟨h, by omega⟩, decide_eq_true ⟨h, by omega⟩]; rfl
      · rw [decide_eq_false (fun hh => h hh.1), decide_eq_false (fun hh => h hh.1)]; rfl
    rw [e1, e2, e3]
    unfold outs outsOf
    rw [if_pos ha, if_pos hb]
    simp
  · unfold outs outsOf
    rw [if_neg ha, Per.days_no ha]
    rfl
theorem outs_whole {a b : Per.P} (hb : ¬ Per.chk b = 0) : outs a b = outsOf [Per.days a] := by
  unfold outs outsOf
  by_cases ha : Per.chk a = 0
  · rw [if_pos ha, if_neg hb]; simp
  · rw [if_neg ha, Per.days_no ha]; rfl
theorem IntsAt.shape {W : World} {v : Value} {l : List Int} (h : IntsAt W v l) : ∃ oa cap, v = .slice oa l.length cap ∧ IntsAt W (.slice oa l.length cap) l := by
  obtain ⟨oa, cap, rfl, h1, h2⟩ := h
  exact ⟨oa, cap, rfl, oa, cap, rfl, h1, h2⟩
theorem sb_drew {B n : Nat} {b : Per.P} {w w1 : World} (h : (w1.cell? ⟨B, 0, none⟩ = some (.int .i64 b.f) ∧ w1.cell? ⟨B, 1, none⟩ = some (.int .i64 b.t) ∧ w1.cell? ⟨B, 2, none⟩ = some (.int .i64 b.d)) ∧ Below n w w1 ∧ B < n ∧ n ≤ w1.heap.size) : (w1.drew.cell? ⟨B, 0, none⟩ = some (.int .i64 b.f) ∧ w1.drew.cell? ⟨B, 1, none⟩ = some (.int .i64 b.t) ∧ w1.drew.cell? ⟨B, 2, none⟩ = some (.int .i64 b.d)) ∧ Below n w w1.drew ∧ B < n ∧ n ≤ w1.drew.heap.size :=
  ⟨h.1, h.2.1.drew, h.2.2⟩
theorem sb_bw {B n : Nat} {b : Per.P} {w w1 w2 : World} (h : (w1.cell? ⟨B, 0, none⟩ = some (.int .i64 b.f) ∧ w1.cell? ⟨B, 1, none⟩ = some (.int .i64 b.t) ∧ w1.cell? ⟨B, 2, none⟩ = some (.int .i64 b.d)) ∧ Below n w w1 ∧ B < n ∧ n ≤ w1.heap.size) (hb : Below w1.heap.size w1 w2) : (w2.cell? ⟨B, 0, none⟩ = some (.int .i64 b.f) ∧ w2.cell? ⟨B, 1, none⟩ = some (.int .i64 b.t) ∧ w2.cell? ⟨B, 2, none⟩ = some (.int .i64 b.d)) ∧ Below n w w2 ∧ B < n ∧ n ≤ w2.heap.size := by
  obtain ⟨⟨a0, a1, a2⟩, hw, hB, hn⟩ := h
  have hB1 : B < w1.heap.size := by omega
  exact ⟨⟨(hb.cell (p := ⟨B, 0, none⟩) hB1).trans a0, (hb.cell (p := ⟨B, 1, none⟩) hB1).trans a1, (hb.cell (p := ⟨B, 2, none⟩) hB1).trans a2⟩, hw.trans (hb.mono hn), hB, Nat.le_trans hn hb.size⟩
theorem sb_alloc {B n : Nat} {b : Per.P} {w w1 : World} (o : Obj) (h : (w1.cell? ⟨B, 0, none⟩ = some (.int .i64 b.f) ∧ w1.cell? ⟨B, 1, none⟩ = some (.int .i64 b.t) ∧ w1.cell? ⟨B, 2, none⟩ = some (.int .i64 b.d)) ∧ Below n w w1 ∧ B < n ∧ n ≤ w1.heap.size) : ((w1.alloc o).cell? ⟨B, 0, none⟩ = some (.int .i64 b.f) ∧ (w1.alloc o).cell? ⟨B, 1, none⟩ = some (.int .i64 b.t) ∧ (w1.alloc o).cell? ⟨B, 2, none⟩ = some (.int .i64 b.d)) ∧ Below n w (w1.alloc o) ∧ B < n ∧ n ≤ (w1.alloc o).heap.size :=
  sb_bw h ((Below.refl _ _).alloc (Nat.le_refl _) o)
theorem sb_below {n : Nat} {w W : World} {A C : Prop} (h : A ∧ Below n w W ∧ C) : Below n w W := h.2.1
theorem partOf_len (l : List Int) (f t : Int) (b : Per.P) : (partOf l f t b).length ≤ l.length := List.length_filter_le _ _

set_option maxHeartbeats 2000000 in
theorem rWithout_yes (a b : Per.P) (w : World) (h0 : Per.chk b = 0) :
    Calls Tryd.prog 38 #[pv a, pv b] w fun e w' => ∃ v, e = .returned v ∧ w'.ownsRow w.heap.size 37 3 v (outs a b).length (cellsOf (outs a b)) ∧ Below w.heap.size w w' := by
  obtain ⟨i0, hi, hz0, hz1, hz2⟩ := info_parts info_per
  have hT := two_new w a b
  have hB0 := ((Below.refl w.heap.size w).alloc (Nat.le_refl _) (.cells #[.int .i64 a.f, .int .i64 a.t, .int .i64 a.d] 37)).alloc (by simp) (.cells #[.int .i64 b.f, .int .i64 b.t, .int .i64 b.d] 37)
  have hz : ((w.alloc (.cells #[.int .i64 a.f, .int .i64 a.t, .int .i64 a.d] 37)).alloc (.cells #[.int .i64 b.f, .int .i64 b.t, .int .i64 b.d] 37)).heap.size = w.heap.size + 1 + 1 := by simp
  have ha0 := hT.1.c0; have ha1 := hT.1.c1; have ha2 := hT.1.c2
  have hlen := Per.days_len a
  have hml : (Per.days a).length ≤ maxLen := by unfold maxLen; omega
  have HML := Lib.hid hml
  have EO := Lib.hid (outs_parts (a := a) h0)
  have hchk := rCheck_any b
  rw [h0] at hchk
  have HC := Lib.hid hchk
  have H0 := Lib.hid h0
  clear hml hchk h0
  go_enter Tryd.func38, Tryd.ntmps38
  go_wp2_with fail
  generalize (w.alloc (.cells #[.int .i64 a.f, .int .i64 a.t, .int .i64 a.d] 37)).alloc (.cells #[.int .i64 b.f, .int .i64 b.t, .int .i64 b.d] 37) = w3 at *
  refine (rDays_any a _).mono ?_
  rintro e w4 ⟨v, rfl, hv, hb4⟩
  have hi4 := hv.intsAt HML.out
  have hT4 := hT.below hb4 (by omega)
  have hB4 := hB0.trans (hb4.mono (by omega))
  have hz4 := hb4.size
  clear ha0 ha1 ha2 hT hb4 hB0 hv
  generalize Per.days a = l at *
  obtain ⟨oa, cap, rfl, hml4, hc4⟩ := hi4
  have hi5 : IntsAt (w4.alloc (.cells #[.slice oa l.length cap] 46)) (.slice oa l.length cap) l := IntsAt.below ⟨oa, cap, rfl, hml4, hc4⟩ ((Below.refl _ _).alloc (Nat.le_refl _) _)
  have hT5 : Two w (w4.alloc (.cells #[.slice oa l.length cap] 46)) a b := ⟨hT4.1.alloc _, hT4.2.alloc _⟩
  have hB5 := hB4.alloc (by omega) (.cells #[.slice oa l.length cap] 46)
  have hz5 : (w4.alloc (.cells #[.slice oa l.length cap] 46)).heap.size = w4.heap.size + 1 := by simp
  have hv5 : (w4.alloc (.cells #[.slice oa l.length cap] 46)).cell? ⟨w4.heap.size, 0, none⟩ = some (.slice oa l.length cap) := World.cell?_alloc_mark w4 _ _ (0, 0) 0
  have hb0 := hT5.2.c0; have hb1 := hT5.2.c1; have hb2 := hT5.2.c2
  clear hT4 hB4 hc4
  go_wp2_with fail
  generalize w4.alloc (.cells #[.slice oa l.length cap] 46) = w5 at *
  refine (HC.out _).mono ?_
  rintro e w6 ⟨rfl, hb6⟩
  have hi6 := hi5.below hb6
  have hT6 := hT5.below hb6 (by omega)
  have hB6 := hB5.trans (hb6.mono (by omega))
  have hv6 := (hb6.cell (p := ⟨w4.heap.size, 0, none⟩) (by dsimp only; omega)).trans hv5
  have hz6 := hb6.size
  clear hi5 hT5 hB5 hb6 hv5 hb0 hb1 hb2
  have hml4' : l.length ≤ 9223372036854775807 := by unfold maxLen at hml4; omega
  go_wp2_with fail
  obtain ⟨g1, g2, g3, g4, g5, g6⟩ := Per.chk_ok.1 H0.out
  have hw1 : IntKind.i64.wrap (b.f - 1) = b.f - 1 := IntWalk.i64_in _ (by omega)
  have hw2 : IntKind.i64.wrap (b.t + 1) = b.t + 1 := IntWalk.i64_in _ (by omega)
  have HW := Lib.hid (And.intro hw1 hw2)
  clear hw1 hw2
  have k0 : ∀ W, Below w6.heap.size w6 W → Calls Tryd.prog 64 #[.slice oa l.length cap, .int .i64 0, .int .i64 (b.f - 1), pv b] W fun e w' => ∃ u, e = .returned u ∧ OwnInts w' W.heap.size u (partOf l 0 (b.f - 1) b) ∧ Below W.heap.size W w' := fun W hW => rPart_any l 0 (b.f - 1) b _ W (hi6.below hW) hlen
  have hm0 : (partOf l 0 (b.f - 1) b).length ≤ maxLen := by have := partOf_len l 0 (b.f - 1) b; unfold maxLen; omega
  have k1 : ∀ W, Below w6.heap.size w6 W → Calls Tryd.prog 64 #[.slice oa l.length cap, .int .i64 b.f, .int .i64 b.t, pv b] W fun e w' => ∃ u, e = .returned u ∧ OwnInts w' W.heap.size u (partOf l b.f b.t b) ∧ Below W.heap.size W w' := fun W hW => rPart_any l b.f b.t b _ W (hi6.below hW) hlen
  have hm1 : (partOf l b.f b.t b).length ≤ maxLen := by have := partOf_len l b.f b.t b; unfold maxLen; omega
  have k2 : ∀ W, Below w6.heap.size w6 W → Calls Tryd.prog 64 #[.slice oa l.length cap, .int .i64 (b.t + 1), .int .i64 36525, pv b] W fun e w' => ∃ u, e = .returned u ∧ OwnInts w' W.heap.size u (partOf l (b.t + 1) 36525 b) ∧ Below W.heap.size W w' := fun W hW => rPart_any l (b.t + 1) 36525 b _ W (hi6.below hW) hlen
  have hm2 : (partOf l (b.t + 1) 36525 b).length ≤ maxLen := by have := partOf_len l (b.t + 1) 36525 b; unfold maxLen; omega
  generalize partOf l 0 (b.f - 1) b = p0 at *
  have K0 := Lib.hid k0
  have HM0 := Lib.hid hm0
  generalize partOf l b.f b.t b = p1 at *
  have K1 := Lib.hid k1
  have HM1 := Lib.hid hm1
  generalize partOf l (b.t + 1) 36525 b = p2 at *
  have K2 := Lib.hid k2
  have HM2 := Lib.hid hm2
  have hS : (w6.cell? ⟨w.heap.size + 1, 0, none⟩ = some (.int .i64 b.f) ∧ w6.cell? ⟨w.heap.size + 1, 1, none⟩ = some (.int .i64 b.t) ∧ w6.cell? ⟨w.heap.size + 1, 2, none⟩ = some (.int .i64 b.d)) ∧ Below w6.heap.size w6 w6 ∧ w.heap.size + 1 < w6.heap.size ∧ w6.heap.size ≤ w6.heap.size := ⟨⟨hT6.2.c0, hT6.2.c1, hT6.2.c2⟩, Below.refl _ _, by omega, Nat.le_refl _⟩
  clear k0 hm0 k1 hm1 k2 hm2 hT6 hi6 hv6
  go_wp2_with fail
  obtain ⟨hw1, hw2⟩ := HW.out
  go_region_held3 (fun w' => (w'.cell? ⟨w.heap.size + 1, 0, none⟩ = some (.int .i64 b.f) ∧ w'.cell? ⟨w.heap.size + 1, 1, none⟩ = some (.int .i64 b.t) ∧ w'.cell? ⟨w.heap.size + 1, 2, none⟩ = some (.int .i64 b.d)) ∧ Below w6.heap.size w6 w' ∧ w.heap.size + 1 < w6.heap.size ∧ w6.heap.size ≤ w'.heap.size) (first | exact sb_drew hS | exact sb_bw (by assumption) (by assumption) | exact sb_alloc _ (by assumption)) (first
    | (go_at_call 64; (with_reducible refine (K0.out _ (sb_below (by assumption))).mono ?_); rintro e w7 ⟨u0, rfl, hv0, hb7⟩; obtain ⟨o0, c0, rfl, hi0⟩ := (hv0.intsAt HM0.out).shape; clear hv0)
    | (go_at_call 64; (with_reducible refine (K1.out _ (sb_below (by assumption))).mono ?_); rintro e w8 ⟨u1, rfl, hv1, hb8⟩; obtain ⟨o1, c1, rfl, hi1⟩ := (hv1.intsAt HM1.out).shape; clear hv1; have hi0 := IntsAt.below hi0 hb8)
    | (go_at_call 64; (with_reducible refine (K2.out _ (sb_below (by assumption))).mono ?_); rintro e w9 ⟨u2, rfl, hv2, hb9⟩; obtain ⟨o2, c2, rfl, hi2⟩ := (hv2.intsAt HM2.out).shape; clear hv2; have hi0 := IntsAt.below hi0 hb9; have hi1 := IntsAt.below hi1 hb9))
  rename_i hS'
  have hbw := hS'.2.1
  have hzw := hS'.2.2.2
  clear hS' hS hw1 hw2
  have hj0 := hi0.below ((Below.refl _ _).alloc (Nat.le_refl _) (.cells #[.slice o0 p0.length c0, .slice o1 p1.length c1, .slice o2 p2.length c2] 46))
  have hj1 := hi1.below ((Below.refl _ _).alloc (Nat.le_refl _) (.cells #[.slice o0 p0.length c0, .slice o1 p1.length c1, .slice o2 p2.length c2] 46))
  have hj2 := hi2.below ((Below.refl _ _).alloc (Nat.le_refl _) (.cells #[.slice o0 p0.length c0, .slice o1 p1.length c1, .slice o2 p2.length c2] 46))
  have he0 : (w9.alloc (.cells #[.slice o0 p0.length c0, .slice o1 p1.length c1, .slice o2 p2.length c2] 46)).cell? ⟨w9.heap.size, 0, none⟩ = some (.slice o0 p0.length c0) := World.cell?_alloc_mark w9 _ _ (0, 0) 0
  have he1 : (w9.alloc (.cells #[.slice o0 p0.length c0, .slice o1 p1.length c1, .slice o2 p2.length c2] 46)).cell? ⟨w9.heap.size, 1, none⟩ = some (.slice o1 p1.length c1) := World.cell?_alloc_mark w9 _ _ (0, 0) 1
  have he2 : (w9.alloc (.cells #[.slice o0 p0.length c0, .slice o1 p1.length c1, .slice o2 p2.length c2] 46)).cell? ⟨w9.heap.size, 2, none⟩ = some (.slice o2 p2.length c2) := World.cell?_alloc_mark w9 _ _ (0, 0) 2
  have hzz : (w9.alloc (.cells #[.slice o0 p0.length c0, .slice o1 p1.length c1, .slice o2 p2.length c2] 46)).heap.size = w9.heap.size + 1 := by simp
  clear hi0 hi1 hi2
  generalize w9.alloc (.cells #[.slice o0 p0.length c0, .slice o1 p1.length c1, .slice o2 p2.length c2] 46) = w10 at *
  obtain ⟨LL, hLL⟩ : ∃ LL, [p0, p1, p2] = LL := ⟨_, rfl⟩
  have hPA : PartsAt w10 w9.heap.size LL := by
    rw [← hLL]
    refine ⟨by omega, fun k m hm => ?_⟩
    match k, hm with
    | 0, hm => cases hm; exact ⟨_, he0, hj0⟩
    | 1, hm => cases hm; exact ⟨_, he1, hj1⟩
    | 2, hm => cases hm; exact ⟨_, he2, hj2⟩
    | k + 3, hm => simp at hm
  have HLN := Lib.hid (show LL.length = 3 by rw [← hLL]; rfl)
  have HLL := Lib.hid hLL
  have hBL := hB6.trans (hbw.mono (by omega))
  clear hLL hj0 hj1 hj2 he0 he1 he2 hB6 hbw
  go_wp2_with fail
  go_loopw [7, 8] (fun o i wr => ∃ k : Nat, k ≤ 3 ∧ i = .int .i64 k ∧ wr.ownsRow w10.heap.size 37 3 o (outsOf (LL.take k)).length (cellsOf (outsOf (LL.take k))) ∧ Below w10.heap.size w10 wr) (fun _ i _ => (3 - intOf i).toNat)
  case atStart => exact ⟨0, by omega, rfl, World.ownsRow_nil _ _ _ _, Below.refl _ _⟩
  case round =>
    obtain ⟨k, hk, rfl, hrow, hbr⟩ := hrel
    have hPr := hPA.below hbr
    have hBr := hBL.trans (hbr.mono (by omega))
    have hzr := hbr.size
    have hol := outsOf_len (LL.take k)
    have hol2 := List.length_take_le k LL
    by_cases hlt : k < 3
    · obtain ⟨m, hm⟩ : ∃ m, LL[k]? = some m := ⟨_, List.getElem?_eq_getElem (by rw [HLN.out]; exact hlt)⟩
      obtain ⟨u, hu, hiu⟩ := hPr.2 k m hm
      have HO := Lib.hid (outsOf_take hm)
      clear hm hPr hBL hPA
      obtain ⟨os, hos⟩ : ∃ os, outsOf (LL.take k) = os := ⟨_, rfl⟩
      have HOS := Lib.hid hos
      rw [hos] at hrow hol
      clear hos
      go_wp2_with fail
      refine (rOf_any m u _ hiu).mono ?_
      rintro e w7 ⟨rfl, hb7⟩
      unfold canonV
      obtain ⟨q, hq⟩ : ∃ q, Per.canon m = q := ⟨_, rfl⟩
      obtain ⟨c, hc⟩ : ∃ c, Per.ne m = c := ⟨_, rfl⟩
      simp only [hq, hc]
      have HQ := Lib.hid hq
      have HNE := Lib.hid hc
      have hr7 := (OwnRow_below hrow hb7).alloc (.cells #[.int .i64 q.f, .int .i64 q.t, .int .i64 q.d] 37)
      have hB7 := (hbr.trans (hb7.mono (by omega))).alloc (by have := hb7.size; omega) (.cells #[.int .i64 q.f, .int .i64 q.t, .int .i64 q.d] 37)
      have hz7 : (w7.alloc (.cells #[.int .i64 q.f, .int .i64 q.t, .int .i64 q.d] 37)).heap.size = w7.heap.size + 1 := by simp
      have hs7 := hb7.size
      clear hq hc hrow hbr hb7 hu hiu hBr
      cases c
      · have E := Lib.hid (show outsOf (LL.take (k + 1)) = os by rw [HO.out, HOS.out, put_no HNE.out, List.append_nil])
        go_wp2_with fail
        go_roundw
        case rel => exact ⟨k + 1, by omega, by go_num, by rw [E.out]; exact hr7, hB7⟩
        case measure => simp [intOf]; omega
      · have E := Lib.hid (show outsOf (LL.take (k + 1)) = os ++ [q] by rw [HO.out, HOS.out, put_yes HNE.out, HQ.out])
        go_wp2_with (at_builtin; refine wpList_append_own _ rfl _ _ 42 rfl w10.heap.size 37 i0 (.agg #[.int .i64 0, .int .i64 0, .int .i64 0]) 3 24 Tryd.underlying42 hi hz0 hz1 hz2 rfl (by decide) _ _ _ rfl (hr7.alloc _) ⟨w7.heap.size + 1, 0, none⟩ 1 1 [.int .i64 q.f, .int .i64 q.t, .int .i64 q.d] rfl rfl (by have := news3 (w7.alloc (.cells #[.int .i64 q.f, .int .i64 q.t, .int .i64 q.d] 37)) (.int .i64 q.f) (.int .i64 q.t) (.int .i64 q.d) 37; rw [hz7] at this; exact this) (by simp [Value.oneCell']) (by unfold maxLen; omega) (by omega) (by simp; omega) ?_; intro v' w8 hown' hgrow _; have hb8 := row_below hr7 (by omega) hgrow; clear hgrow)
        go_roundw
        case rel => exact ⟨k + 1, by omega, by go_num, by rw [E.out, cellsOf_snoc, List.length_append]; exact hown', hB7.trans hb8⟩
        case measure => simp [intOf]; omega
    · have E := Lib.hid (show outs a b = outsOf (LL.take k) by rw [EO.out, HLL.out, List.take_of_length_le (by have := HLN.out; omega)])
      go_wp2_with fail
      go_ret
      exact ⟨_, rfl, by rw [E.out]; exact ownsRow_mono hrow (by omega), hBr⟩

set_option maxHeartbeats 2000000 in
theorem rWithout_no (a b : Per.P) (w : World) (h0 : ¬ Per.chk b = 0) :
    Calls Tryd.prog 38 #[pv a, pv b] w fun e w' => ∃ v, e = .returned v ∧ w'.ownsRow w.heap.size 37 3 v (outs a b).length (cellsOf (outs a b)) ∧ Below w.heap.size w w' := by
  obtain ⟨i0, hi, hz0, hz1, hz2⟩ := info_parts info_per
  have hT := two_new w a b
  have hB0 := ((Below.refl w.heap.size w).alloc (Nat.le_refl _) (.cells #[.int .i64 a.f, .int .i64 a.t, .int .i64 a.d] 37)).alloc (by simp) (.cells #[.int .i64 b.f, .int .i64 b.t, .int .i64 b.d] 37)
  have hz : ((w.alloc (.cells #[.int .i64 a.f, .int .i64 a.t, .int .i64 a.d] 37)).alloc (.cells #[.int .i64 b.f, .int .i64 b.t, .int .i64 b.d] 37)).heap.size = w.heap.size + 1 + 1 := by simp
  have ha0 := hT.1.c0; have ha1 := hT.1.c1; have ha2 := hT.1.c2
  have hlen := Per.days_len a
  have hml : (Per.days a).length ≤ maxLen := by unfold maxLen; omega
  have HML := Lib.hid hml
  have EO := Lib.hid (outs_whole (a := a) h0)
  have hchk := rCheck_any b
  have h0' : (Per.chk b == 0) = false := by simpa using h0
  have HC := Lib.hid hchk
  have H0 := Lib.hid h0
  clear hml hchk h0
  go_enter Tryd.func38, Tryd.ntmps38
  go_wp2_with fail
  generalize (w.alloc (.cells #[.int .i64 a.f, .int .i64 a.t, .int .i64 a.d] 37)).alloc (.cells #[.int .i64 b.f, .int .i64 b.t, .int .i64 b.d] 37) = w3 at *
  refine (rDays_any a _).mono ?_
  rintro e w4 ⟨v, rfl, hv, hb4⟩
  have hi4 := hv.intsAt HML.out
  have hT4 := hT.below hb4 (by omega)
  have hB4 := hB0.trans (hb4.mono (by omega))
  have hz4 := hb4.size
  clear ha0 ha1 ha2 hT hb4 hB0 hv
  generalize Per.days a = l at *
  obtain ⟨oa, cap, rfl, hml4, hc4⟩ := hi4
  have hi5 : IntsAt (w4.alloc (.cells #[.slice oa l.length cap] 46)) (.slice oa l.length cap) l := IntsAt.below ⟨oa, cap, rfl, hml4, hc4⟩ ((Below.refl _ _).alloc (Nat.le_refl _) _)
  have hT5 : Two w (w4.alloc (.cells #[.slice oa l.length cap] 46)) a b := ⟨hT4.1.alloc _, hT4.2.alloc _⟩
  have hB5 := hB4.alloc (by omega) (.cells #[.slice oa l.length cap] 46)
  have hz5 : (w4.alloc (.cells #[.slice oa l.length cap] 46)).heap.size = w4.heap.size + 1 := by simp
  have hv5 : (w4.alloc (.cells #[.slice oa l.length cap] 46)).cell? ⟨w4.heap.size, 0, none⟩ = some (.slice oa l.length cap) := World.cell?_alloc_mark w4 _ _ (0, 0) 0
  have hb0 := hT5.2.c0; have hb1 := hT5.2.c1; have hb2 := hT5.2.c2
  clear hT4 hB4 hc4
  go_wp2_with fail
  generalize w4.alloc (.cells #[.slice oa l.length cap] 46) = w5 at *
  refine (HC.out _).mono ?_
  rintro e w6 ⟨rfl, hb6⟩
  have hi6 := hi5.below hb6
  have hT6 := hT5.below hb6 (by omega)
  have hB6 := hB5.trans (hb6.mono (by omega))
  have hv6 := (hb6.cell (p := ⟨w4.heap.size, 0, none⟩) (by dsimp only; omega)).trans hv5
  have hz6 := hb6.size
  clear hi5 hT5 hB5 hb6 hv5 hb0 hb1 hb2
  have hml4' : l.length ≤ 9223372036854775807 := by unfold maxLen at hml4; omega
  go_wp2_with fail
  obtain ⟨LL, hLL⟩ : ∃ LL, [l] = LL := ⟨_, rfl⟩
  have hPA : PartsAt w6 w4.heap.size LL := by
    rw [← hLL]
    refine ⟨by omega, fun k m hm => ?_⟩
    cases k with
    | zero => cases hm; exact ⟨_, hv6, hi6⟩
    | succ k => simp at hm
  have HLN := Lib.hid (show LL.length = 1 by rw [← hLL]; rfl)
  have HLL := Lib.hid hLL
  have hBL := hB6
  clear hLL hi6 hv6 hT6 hB6
  go_wp2_with fail
  go_loopw [7, 8] (fun o i wr => ∃ k : Nat, k ≤ 1 ∧ i = .int .i64 k ∧ wr.ownsRow w6.heap.size 37 3 o (outsOf (LL.take k)).length (cellsOf (outsOf (LL.take k))) ∧ Below w6.heap.size w6 wr) (fun _ i _ => (1 - intOf i).toNat)
  case atStart => exact ⟨0, by omega, rfl, World.ownsRow_nil _ _ _ _, Below.refl _ _⟩
  case round =>
    obtain ⟨k, hk, rfl, hrow, hbr⟩ := hrel
    have hPr := hPA.below hbr
    have hBr := hBL.trans (hbr.mono (by omega))
    have hzr := hbr.size
    have hol := outsOf_len (LL.take k)
    have hol2 := List.length_take_le k LL
    by_cases hlt : k < 1
    · obtain ⟨m, hm⟩ : ∃ m, LL[k]? = some m := ⟨_, List.getElem?_eq_getElem (by rw [HLN.out]; exact hlt)⟩
      obtain ⟨u, hu, hiu⟩ := hPr.2 k m hm
      have HO := Lib.hid (outsOf_take hm)
      clear hm hPr hBL hPA
      obtain ⟨os, hos⟩ : ∃ os, outsOf (LL.take k) = os := ⟨_, rfl⟩
      have HOS := Lib.hid hos
      rw [hos] at hrow hol
      clear hos
      go_wp2_with fail
      refine (rOf_any m u _ hiu).mono ?_
      rintro e w7 ⟨rfl, hb7⟩
      unfold canonV
      obtain ⟨q, hq⟩ : ∃ q, Per.canon m = q := ⟨_, rfl⟩
      obtain ⟨c, hc⟩ : ∃ c, Per.ne m = c := ⟨_, rfl⟩
      simp only [hq, hc]
      have HQ := Lib.hid hq
      have HNE := Lib.hid hc
      have hr7 := (OwnRow_below hrow hb7).alloc (.cells #[.int .i64 q.f, .int .i64 q.t, .int .i64 q.d] 37)
      have hB7 := (hbr.trans (hb7.mono (by omega))).alloc (by have := hb7.size; omega) (.cells #[.int .i64 q.f, .int .i64 q.t, .int .i64 q.d] 37)
      have hz7 : (w7.alloc (.cells #[.int .i64 q.f, .int .i64 q.t, .int .i64 q.d] 37)).heap.size = w7.heap.size + 1 := by simp
      have hs7 := hb7.size
      clear hq hc hrow hbr hb7 hu hiu hBr
      cases c
      · have E := Lib.hid (show outsOf (LL.take (k + 1)) = os by rw [HO.out, HOS.out, put_no HNE.out, List.append_nil])
        go_wp2_with fail
        go_roundw
        case rel => exact ⟨k + 1, by omega, by go_num, by rw [E.out]; exact hr7, hB7⟩
        case measure => simp [intOf]; omega
      · have E := Lib.hid (show outsOf (LL.take (k + 1)) = os ++ [q] by rw [HO.out, HOS.out, put_yes HNE.out, HQ.out])
        go_wp2_with (at_builtin; refine wpList_append_own _ rfl _ _ 42 rfl w6.heap.size 37 i0 (.agg #[.int .i64 0, .int .i64 0, .int .i64 0]) 3 24 Tryd.underlying42 hi hz0 hz1 hz2 rfl (by decide) _ _ _ rfl (hr7.alloc _) ⟨w7.heap.size + 1, 0, none⟩ 1 1 [.int .i64 q.f, .int .i64 q.t, .int .i64 q.d] rfl rfl (by have := news3 (w7.alloc (.cells #[.int .i64 q.f, .int .i64 q.t, .int .i64 q.d] 37)) (.int .i64 q.f) (.int .i64 q.t) (.int .i64 q.d) 37; rw [hz7] at this; exact this) (by simp [Value.oneCell']) (by unfold maxLen; omega) (by omega) (by simp; omega) ?_; intro v' w8 hown' hgrow _; have hb8 := row_below hr7 (by omega) hgrow; clear hgrow)
        go_roundw
        case rel => exact ⟨k + 1, by omega, by go_num, by rw [E.out, cellsOf_snoc, List.length_append]; exact hown', hB7.trans hb8⟩
        case measure => simp [intOf]; omega
    · have E := Lib.hid (show outs a b = outsOf (LL.take k) by rw [EO.out, HLL.out, List.take_of_length_le (by have := HLN.out; omega)])
      go_wp2_with fail
      go_ret
      exact ⟨_, rfl, by rw [E.out]; exact ownsRow_mono hrow (by omega), hBr⟩

theorem rWithout_any (a b : Per.P) (w : World) :
    Calls Tryd.prog 38 #[pv a, pv b] w fun e w' => ∃ v, e = .returned v ∧ w'.ownsRow w.heap.size 37 3 v (outs a b).length (cellsOf (outs a b)) ∧ Below w.heap.size w w' := by
  by_cases h : Per.chk b = 0
  · exact rWithout_yes a b w h
  · exact rWithout_no a b w h
end Go.Proofs.YtfmdnmkojeolkaaDoor
