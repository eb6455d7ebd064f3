/-
  Days and Count of layer 4's reference, and the comparison of two lists of days.
-/
import Derived.Test.YtfmdnmkojeolkaaDoorPerHas
import Derived.Test.YtfmdnmkojeolkaaDoorPerAdd
namespace Go.Proofs.YtfmdnmkojeolkaaDoor
open Go.RowKit Go.Shelf

/-- Behind an append to a row of the call's own, nothing below the row's base has changed. -/
theorem row_below {W w1 : World} {base : Nat} {e : TypeId} {size : Nat} {v : Value} {k : Nat} {xs : List Value} {tmp : Obj} (hrow : W.ownsRow base e size v k xs) (hsz : base ≤ W.heap.size) (hgrow : (W.alloc tmp).grownBy w1 v.ownBlock) : Below base W w1 :=
  Below.grown ((Below.refl base W).alloc hsz tmp) hgrow (by simp; omega) (fun _ hk => ownBlock_ge hrow hk)
theorem OwnRow_below {W W' : World} {base : Nat} {e : TypeId} {size : Nat} {v : Value} {k : Nat} {xs : List Value} (h : W.ownsRow base e size v k xs) (hb : Below W.heap.size W W') : W'.ownsRow base e size v k xs :=
  h.kept (⟨hb.os, hb.tape, hb.output, hb.size, fun k hk _ => hb.block k hk⟩ : W.grownBy W' none) ((Decidable.em (v.ownBlock = none)).imp id (fun h e => h (by first | exact e | exact e.symm)))
namespace Per
theorem dn_len (p : P) (k : Nat) : (dn p k).length ≤ k := by
  unfold dn upN
  refine Nat.le_trans (List.length_filter_le _ _) ?_
  simp
theorem has_at {p : P} {k : Nat} (h : chk p = 0) (hk : p.f + (k : Int) ≤ p.t) : has p (p.f + (k : Int)) = on p.d (p.f + (k : Int)) := by
  unfold has; rw [decide_eq_true ⟨h, by omega, hk⟩]; rfl
end Per

set_option maxHeartbeats 1000000 in
theorem rDays_any (p : Per.P) (w : World) :
    Calls Tryd.prog 41 #[pv p] w fun e w' => ∃ v, e = .returned v ∧ OwnInts w' w.heap.size v (Per.days p) ∧ Below w.heap.size w w' := by
  obtain ⟨i0, hi, hz0, hz1, hz2⟩ := info_parts info_int
  have hP := Box3.new w 37 (.int .i64 p.f) (.int .i64 p.t) (.int .i64 p.d)
  have hB0 := (Below.refl w.heap.size w).alloc (Nat.le_refl _) (.cells #[.int .i64 p.f, .int .i64 p.t, .int .i64 p.d] 37)
  have hz : (w.alloc (.cells #[.int .i64 p.f, .int .i64 p.t, .int .i64 p.d] 37)).heap.size = w.heap.size + 1 := by simp
  have hc0 := hP.c0; have hc1 := hP.c1; have hc2 := hP.c2
  have hchk := rCheck_any p
  by_cases h0 : Per.chk p = 0
  rotate_left
  · have E := Lib.hid (Per.days_no h0)
    have h0' : (Per.chk p == 0) = false := by simpa using h0
    have HC := Lib.hid hchk
    clear h0 hchk
    go_enter Tryd.func41, Tryd.ntmps41
    go_wp2_with fail
    generalize w.alloc (.cells #[.int .i64 p.f, .int .i64 p.t, .int .i64 p.d] 37) = w1 at *
    go_loopw [3, 4] (fun out d wr => out = .slice none 0 0 ∧ d = .int .i64 p.f ∧ Below w1.heap.size w1 wr) (fun _ _ _ => 0)
    case atStart => exact ⟨rfl, rfl, Below.refl _ _⟩
    case round =>
      obtain ⟨rfl, rfl, hbr⟩ := hrel
      have hPr := hP.below hbr (by omega)
      have hBr := hB0.trans (hbr.mono (by omega))
      clear hc0 hc1 hc2 hP hB0
      have hc0 := hPr.c0; have hc1 := hPr.c1; have hc2 := hPr.c2
      have hz1 := hbr.size
      go_wp2_with fail
      refine (HC.out _).mono ?_
      rintro e w2 ⟨rfl, hb2⟩
      have hB2 := hBr.trans (hb2.mono (by omega))
      go_wp2_with fail
      go_ret
      exact ⟨_, rfl, by rw [E.out]; exact World.ownsRow_nil _ _ _ _, hB2⟩
  · obtain ⟨k1, k2, k3, k4, k5, k6⟩ := Per.chk_ok.1 h0
    have H0 := Lib.hid h0
    rw [h0] at hchk
    have HC := Lib.hid hchk
    clear h0 hchk
    go_enter Tryd.func41, Tryd.ntmps41
    go_wp2_with fail
    generalize w.alloc (.cells #[.int .i64 p.f, .int .i64 p.t, .int .i64 p.d] 37) = w1 at *
    go_loopw [3, 4] (fun out d wr => ∃ k : Nat, (k : Int) ≤ p.t + 1 - p.f ∧ d = .int .i64 (p.f + (k : Int)) ∧ wr.ownsRow (w.heap.size + 1) 3 1 out (Per.dn p k).length ((Per.dn p k).map (Value.int .i64)) ∧ Below (w.heap.size + 1) w1 wr) (fun _ d _ => (p.t + 1 - intOf d).toNat)
    case atStart => exact ⟨0, by omega, by simp, World.ownsRow_nil _ _ _ _, Below.refl _ _⟩
    case round =>
      obtain ⟨k, hk, rfl, hrow, hbr⟩ := hrel
      have hPr := hP.below hbr (by omega)
      have hBr := hB0.trans (hbr.mono (by omega))
      have hz3 := hbr.size
      have hdl := Per.dn_len p k
      clear hc0 hc1 hc2 hP hB0
      have hc0 := hPr.c0; have hc1 := hPr.c1; have hc2 := hPr.c2
      by_cases hlt : p.f + (k : Int) ≤ p.t
      · obtain ⟨c, hc⟩ : ∃ c, Per.on p.d (p.f + (k : Int)) = c := ⟨_, rfl⟩
        have hhas := rHas_any p (p.f + (k : Int))
        rw [Per.has_at H0.out hlt, hc] at hhas
        have HH := Lib.hid hhas
        have HO := Lib.hid hc
        clear hc hhas
        go_wp2_with fail
        refine (HC.out _).mono ?_
        rintro e w2 ⟨rfl, hb2⟩
        have hP2 := hPr.below hb2 (by omega)
        have hr2 := OwnRow_below hrow hb2
        have hB2 := hbr.trans (hb2.mono (by omega))
        have hz4 := hb2.size
        clear hc0 hc1 hc2 hPr hrow hbr hb2 hBr
        have hc0 := hP2.c0; have hc1 := hP2.c1; have hc2 := hP2.c2
        go_wp2_with fail
        refine (HH.out _).mono ?_
        rintro e w3 ⟨rfl, hb3⟩
        have hP3 := hP2.below hb3 (by omega)
        have hr3 := OwnRow_below hr2 hb3
        have hB3 := hB2.trans (hb3.mono (by omega))
        have hz5 := hb3.size
        clear hc0 hc1 hc2 hP2 hr2 hB2 hb3
        cases c
        · have E := Lib.hid (Per.dn_off HO.out)
          go_wp2_with fail
          go_roundw
          case rel => exact ⟨k + 1, by omega, by go_num, by rw [E.out]; exact hr3, hB3⟩
          case measure => simp [intOf]; omega
        · have E := Lib.hid (Per.dn_on HO.out)
          go_wp2_with (at_builtin; refine wpList_append_own _ rfl _ _ 46 rfl (w.heap.size + 1) 3 i0 (.int .i64 0) 1 8 Tryd.underlying46 hi hz0 hz1 hz2 rfl (by decide) _ _ _ rfl (hr3.alloc _) ⟨w3.heap.size, 0, none⟩ 1 1 [.int .i64 (p.f + (k : Int))] rfl rfl (cell_one_new _ _ _) (by simp [Value.oneCell']) (by unfold maxLen; omega) (by omega) (by simp; omega) ?_; intro v' w4 hown' hgrow _; have hb4 := row_below hr3 (by omega) hgrow; clear hgrow)
          go_roundw
          case rel => exact ⟨k + 1, by omega, by go_num, by rw [E.out]; simpa using hown', hB3.trans hb4⟩
          case measure => simp [intOf]; omega
      · have E := Lib.hid (show Per.days p = Per.dn p k by rw [Per.days_dn H0.out, show Per.cnt p = k by unfold Per.cnt; omega])
        go_wp2_with fail
        refine (HC.out _).mono ?_
        rintro e w2 ⟨rfl, hb2⟩
        have hP2 := hPr.below hb2 (by omega)
        have hr2 := OwnRow_below hrow hb2
        have hB2 := hBr.trans (hb2.mono (by omega))
        clear hc0 hc1 hc2
        have hc0 := hP2.c0; have hc1 := hP2.c1; have hc2 := hP2.c2
        go_wp2_with fail
        go_ret
        exact ⟨_, rfl, by rw [E.out]; exact ownsRow_mono hr2 (by omega), hB2⟩

/-- A slice that reads as a list of ints. -/
def IntsAt (W : World) (v : Value) (l : List Int) : Prop :=
  ∃ oa cap, v = .slice oa l.length cap ∧ l.length ≤ maxLen ∧ (0 < l.length → ∃ g, oa = some ⟨g, 0, none⟩ ∧ g < W.heap.size ∧ ∀ j u, l[j]? = some u → W.cell? ⟨g, j, none⟩ = some (.int .i64 u))
theorem IntsAt.below {W W' : World} {v : Value} {l : List Int} (h : IntsAt W v l) (hb : Below W.heap.size W W') : IntsAt W' v l := by
  obtain ⟨oa, cap, rfl, hm, h⟩ := h
  refine ⟨oa, cap, rfl, hm, fun hp => ?_⟩
  obtain ⟨g, rfl, hg, hc⟩ := h hp
  exact ⟨g, rfl, Nat.lt_of_lt_of_le hg hb.size, fun j u hj => (hb.cell (p := ⟨g, j, none⟩) hg).trans (hc j u hj)⟩
theorem OwnInts.intsAt {W : World} {n₀ : Nat} {v : Value} {l : List Int} (h : OwnInts W n₀ v l) (hm : l.length ≤ maxLen) : IntsAt W v l := by
  unfold OwnInts at h
  rcases Nat.eq_zero_or_pos l.length with he | hp
  · obtain ⟨-, h⟩ := h
    rcases h with ⟨rfl, -⟩ | ⟨g, cap, cur, rfl, -⟩
    · exact ⟨none, 0, by rw [he], hm, fun h => by omega⟩
    · exact ⟨_, _, rfl, hm, fun h => by omega⟩
  · obtain ⟨hx, h⟩ := h
    rcases h with ⟨-, e⟩ | ⟨g, cap, cur, rfl, hg, hb, hkc, hcm, hcur, htake⟩
    · omega
    refine ⟨_, _, rfl, hm, fun _ => ⟨g, rfl, (Array.getElem?_eq_some_iff.1 hb).1, ?_⟩⟩
    intro j u hj
    have hjl : j < l.length * 1 := by
      rcases Nat.lt_or_ge j (l.length * 1) with h0 | h0
      · exact h0
      · rw [List.getElem?_eq_none (by omega)] at hj; cases hj
    have hq : (List.map (Value.int IntKind.i64) l)[j]? = some (.int .i64 u) := by rw [List.getElem?_map, hj]; rfl
    rw [← htake, List.getElem?_take_of_lt hjl, Array.getElem?_toList] at hq
    simp [World.cell?, hb, hq]

theorem rCount_any (p : Per.P) (w : World) :
    Calls Tryd.prog 48 #[pv p] w fun e w' => e = .returned (.int .i64 ((Per.days p).length : Int)) ∧ Below w.heap.size w w' := by
  have hB0 := (Below.refl w.heap.size w).alloc (Nat.le_refl _) (.cells #[.int .i64 p.f, .int .i64 p.t, .int .i64 p.d] 37)
  have hlen := Per.days_len p
  go_enter Tryd.func48, Tryd.ntmps48
  go_wp2_with fail
  refine (rDays_any p _).mono ?_
  rintro e w2 ⟨v, rfl, hv, hb2⟩
  obtain ⟨oa, cap, rfl, -, -⟩ := hv.intsAt (by unfold maxLen; omega)
  have hB := hB0.trans (hb2.mono hB0.size)
  go_wp2_with fail
  go_ret
  exact ⟨rfl, hB⟩

theorem same_step {l m : List Int} {k : Nat} {x y : Int} (hl : l.length = m.length) (hx : l[k]? = some x) (hy : m[k]? = some y) (hp : l.take k = m.take k) : (l.take (k + 1) = m.take (k + 1)) ↔ x = y := by
  rw [List.take_add_one, List.take_add_one, hx, hy, hp]
  simp
theorem take_ne {l m : List Int} {k : Nat} (h : ¬ l.take k = m.take k) : ¬ l = m := fun e => h (by rw [e])

set_option maxHeartbeats 1000000 in
theorem same_any (l m : List Int) (a b : Value) (w : World) (ha : IntsAt w a l) (hb : IntsAt w b m) :
    Calls Tryd.prog 40 #[a, b] w fun e w' => e = .returned (.bool (decide (l = m))) ∧ Below w.heap.size w w' := by
  obtain ⟨oa, ca, rfl, hma, ha⟩ := ha
  obtain ⟨ob, cb, rfl, hmb, hb⟩ := hb
  unfold maxLen at hma hmb
  by_cases hl : l.length = m.length
  rotate_left
  · have E := Lib.hid (show decide (l = m) = false from decide_eq_false (fun e => hl (by rw [e])))
    have hne : ((l.length : Int) != (m.length : Int)) = true := by rw [bne_iff_ne]; omega
    clear hl ha hb
    go_enter Tryd.func40, Tryd.ntmps40
    go_wp2_with fail
    go_ret
    exact ⟨ret_bool E.out.symm, Below.refl _ _⟩
  have HL := Lib.hid hl
  have hne : ((l.length : Int) != (m.length : Int)) = false := by simp; omega
  clear hl
  go_enter Tryd.func40, Tryd.ntmps40
  go_wp2_with fail
  go_loopw [5] (fun i wr => ∃ k : Nat, k ≤ l.length ∧ i = .int .i64 k ∧ l.take k = m.take k ∧ Below w.heap.size w wr) (fun i _ => (l.length - intOf i).toNat)
  case atStart => exact ⟨0, by omega, rfl, rfl, Below.refl _ _⟩
  case round =>
    obtain ⟨k, hk, rfl, hp, hbr⟩ := hrel
    by_cases hlt : k < l.length
    · obtain ⟨g, rfl, hg, hc⟩ := ha (by omega)
      obtain ⟨g', rfl, hg', hc'⟩ := hb (by have := HL.out; omega)
      obtain ⟨x, hx⟩ : ∃ x, l[k]? = some x := ⟨_, List.getElem?_eq_getElem hlt⟩
      obtain ⟨y, hy⟩ : ∃ y, m[k]? = some y := ⟨_, List.getElem?_eq_getElem (by have := HL.out; omega)⟩
      have r0 := (hbr.cell (p := ⟨g, k, none⟩) hg).trans (hc _ _ hx)
      have r1 := (hbr.cell (p := ⟨g', k, none⟩) hg').trans (hc' _ _ hy)
      have hs := same_step HL.out hx hy hp
      have hlt' : k < m.length := by have := HL.out; omega
      have HS := Lib.hid hs
      clear hs hc hc' ha hb hx hy hp
      by_cases hxy : x = y
      · have T := Lib.hid (HS.out.2 hxy)
        have hxy' : (x != y) = false := by simp [hxy]
        clear hxy
        go_wp2_with fail
        go_region
        all_goals
          go_wp2_with fail
          go_roundw
          case rel => exact ⟨k + 1, by omega, by go_num, T.out, hbr.drew⟩
          case measure => simp [intOf]; omega
      · have T := Lib.hid (take_ne (fun h => hxy (HS.out.1 h)))
        have hxy' : (x != y) = true := by simpa using hxy
        clear hxy
        go_wp2_with fail
        go_region
        all_goals
          go_wp2_with fail
          go_ret
          exact ⟨ret_bool (decide_eq_false T.out).symm, hbr.drew⟩
    · have E := Lib.hid (show l = m by rw [List.take_of_length_le (by omega), List.take_of_length_le (by have := HL.out; omega)] at hp; exact hp)
      clear hp
      go_wp2_with fail
      go_ret
      exact ⟨ret_bool (decide_eq_true E.out).symm, hbr⟩
end Go.Proofs.YtfmdnmkojeolkaaDoor
