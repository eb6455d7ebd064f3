/-
  The days of a list from one day to another one that are not in a period, in layer 4's reference.
-/
import Derived.Test.YtfmdnmkojeolkaaDoorRefMeet
import Derived.Deep.QuietTactic
import Derived.BigQuiet
namespace Go.Proofs.YtfmdnmkojeolkaaDoor
open Go.RowKit Go.Shelf

theorem below_drewN {B : Nat} {a w : World} (h : Below B a w) (n : Nat) : Below B a (w.drewN n) := ⟨h.os, h.tape, h.output, h.size, h.block⟩
def partOf (l : List Int) (f t : Int) (b : Per.P) : List Int := l.filter fun x => decide (f ≤ x ∧ x ≤ t) && !Per.has b x

set_option maxHeartbeats 1000000 in
theorem rPart_any (l : List Int) (f t : Int) (b : Per.P) (v : Value) (w : World) (hv : IntsAt w v l) (hlen : l.length ≤ 800) :
    Calls Tryd.prog 64 #[v, .int .i64 f, .int .i64 t, pv b] w fun e w' => ∃ u, e = .returned u ∧ OwnInts w' w.heap.size u (partOf l f t b) ∧ Below w.heap.size w w' := by
  obtain ⟨i0, hi, hz0, hz1, hz2⟩ := info_parts info_int
  have hBb := Box3.new w 37 (.int .i64 b.f) (.int .i64 b.t) (.int .i64 b.d)
  have hB0 := (Below.refl w.heap.size w).alloc (Nat.le_refl _) (.cells #[.int .i64 b.f, .int .i64 b.t, .int .i64 b.d] 37)
  have hz : (w.alloc (.cells #[.int .i64 b.f, .int .i64 b.t, .int .i64 b.d] 37)).heap.size = w.heap.size + 1 := by simp
  have hi4 := hv.below (((Below.refl w.heap.size w).alloc (Nat.le_refl _) (.cells #[.int .i64 b.f, .int .i64 b.t, .int .i64 b.d] 37)))
  obtain ⟨oa, cap, rfl, hml, hcl⟩ := hi4
  clear hv
  unfold maxLen at hml
  go_enter Tryd.func64, Tryd.ntmps64
  go_wp2_with fail
  generalize w.alloc (.cells #[.int .i64 b.f, .int .i64 b.t, .int .i64 b.d] 37) = w4 at *
  go_loopw [9, 10] (fun o i wr => ∃ k : Nat, k ≤ l.length ∧ i = .int .i64 k ∧ wr.ownsRow w4.heap.size 3 1 o (partOf (l.take k) f t b).length ((partOf (l.take k) f t b).map (Value.int .i64)) ∧ Below w4.heap.size w4 wr) (fun _ i _ => (l.length - intOf i).toNat)
  case atStart => exact ⟨0, by omega, rfl, World.ownsRow_nil _ _ _ _, Below.refl _ _⟩
  case round =>
    obtain ⟨k, hk, rfl, hrow, hbr⟩ := hrel
    have hBbr := hBb.below hbr (by omega)
    have hBr := hB0.trans (hbr.mono (by omega))
    have hzr := hbr.size
    clear hBb hB0
    by_cases hlt : k < l.length
    · obtain ⟨g, rfl, hg, hgc⟩ := hcl (by omega)
      obtain ⟨x, hx⟩ : ∃ x, l[k]? = some x := ⟨_, List.getElem?_eq_getElem hlt⟩
      have hcx := (hbr.cell (p := ⟨g, k, none⟩) hg).trans (hgc k x hx)
      have hfl : (partOf (l.take k) f t b).length ≤ l.length := filter_take_len l k _
      by_cases h1 : f ≤ x
      · by_cases h2 : x ≤ t
        · have h1' : decide (f ≤ x) = true := by simpa using h1
          have h2' : decide (x ≤ t) = true := by simpa using h2
          obtain ⟨c, hc⟩ : ∃ c, Per.has b x = c := ⟨_, rfl⟩
          have hcall := rHas_any b x
          rw [hc] at hcall
          have HC := Lib.hid hcall
          have HX := Lib.hid hx
          have Hc := Lib.hid (show (decide (f ≤ x ∧ x ≤ t) && !Per.has b x) = !c by rw [hc, decide_eq_true ⟨h1, h2⟩, Bool.true_and])
          clear hcall hx hc hgc hcl h1 h2
          have hS : (wr.cell? ⟨w.heap.size, 0, none⟩ = some (.int .i64 b.f) ∧ wr.cell? ⟨w.heap.size, 1, none⟩ = some (.int .i64 b.t) ∧ wr.cell? ⟨w.heap.size, 2, none⟩ = some (.int .i64 b.d)) ∧ wr.cell? ⟨g, k, none⟩ = some (.int .i64 x) ∧ Below wr.heap.size wr wr := ⟨⟨hBbr.c0, hBbr.c1, hBbr.c2⟩, hcx, Below.refl _ _⟩
          have hg' : g < wr.heap.size := by omega
          have hgb : w.heap.size < wr.heap.size := by omega
          go_wp2_with fail
          go_region_held3 (fun w' => (w'.cell? ⟨w.heap.size, 0, none⟩ = some (.int .i64 b.f) ∧ w'.cell? ⟨w.heap.size, 1, none⟩ = some (.int .i64 b.t) ∧ w'.cell? ⟨w.heap.size, 2, none⟩ = some (.int .i64 b.d)) ∧ w'.cell? ⟨g, k, none⟩ = some (.int .i64 x) ∧ Below wr.heap.size wr w') (first | exact ⟨hS.1, hS.2.1, (Below.refl _ _).drew⟩ | exact s2r_bw hS (by assumption) hg' hgb) (first | (go_at_call 43; refine (HC.out _).mono ?_; rintro e w5 ⟨rfl, hb5⟩))
          rename_i hS'
          have hb5 := hS'.2.2
          have hr5 := OwnRow_below hrow hb5
          have hB5 := hbr.trans (hb5.mono (by omega))
          have hz5 := hb5.size
          have hcx5 := hS'.2.1
          clear hS hS' hrow hbr hBbr hBr hcx hb5
          cases c
          · have E := Lib.hid (filter_take_on (f := fun x => decide (f ≤ x ∧ x ≤ t) && !Per.has b x) HX.out (Hc.out.trans rfl))
            go_wp2_with (at_builtin; refine wpList_append_own _ rfl _ _ 46 rfl w4.heap.size 3 i0 (.int .i64 0) 1 8 Tryd.underlying46 hi hz0 hz1 hz2 rfl (by decide) _ _ _ rfl (hr5.alloc _) ⟨w5.heap.size, 0, none⟩ 1 1 [.int .i64 x] rfl rfl (cell_one_new _ _ _) (by simp [Value.oneCell']) (by unfold maxLen; omega) (by omega) (by simp; omega) ?_; intro v' w6 hown' hgrow _; have hb6 := row_below hr5 (by omega) hgrow; clear hgrow)
            go_roundw
            case rel => exact ⟨k + 1, by omega, by go_num, by unfold partOf; rw [E.out]; simpa [partOf] using hown', hB5.trans hb6⟩
            case measure => simp [intOf]; omega
          · have E := Lib.hid (filter_take_off (f := fun x => decide (f ≤ x ∧ x ≤ t) && !Per.has b x) HX.out (Hc.out.trans rfl))
            go_wp2_with fail
            go_roundw
            case rel => exact ⟨k + 1, by omega, by go_num, by unfold partOf; rw [E.out]; exact hr5, hB5⟩
            case measure => simp [intOf]; omega
        · have h1' : decide (f ≤ x) = true := by simpa using h1
          have h2' : decide (x ≤ t) = false := by simpa using h2
          have E := Lib.hid (filter_take_off (f := fun x => decide (f ≤ x ∧ x ≤ t) && !Per.has b x) hx (by rw [decide_eq_false (fun h => h2 h.2), Bool.false_and]))
          clear hx hgc hcl h1 h2
          go_wp2_with fail
          go_quiet (fail)
          go_wp2_with fail
          go_roundw
          case rel => exact ⟨k + 1, by omega, by go_num, by unfold partOf; rw [E.out]; exact hrow, below_drewN hbr _⟩
          case measure => simp [intOf]; omega
      · have h1' : decide (f ≤ x) = false := by simpa using h1
        have E := Lib.hid (filter_take_off (f := fun x => decide (f ≤ x ∧ x ≤ t) && !Per.has b x) hx (by rw [decide_eq_false (fun h => h1 h.1), Bool.false_and]))
        clear hx hgc hcl h1
        go_wp2_with fail
        go_quiet (fail)
        go_wp2_with fail
        go_roundw
        case rel => exact ⟨k + 1, by omega, by go_num, by unfold partOf; rw [E.out]; exact hrow, below_drewN hbr _⟩
        case measure => simp [intOf]; omega
    · have E := Lib.hid (show l.take k = l by rw [List.take_of_length_le (by omega)])
      rw [E.out] at hrow
      go_wp2_with fail
      go_ret
      exact ⟨_, rfl, ownsRow_mono hrow (by omega), hBr⟩
end Go.Proofs.YtfmdnmkojeolkaaDoor
