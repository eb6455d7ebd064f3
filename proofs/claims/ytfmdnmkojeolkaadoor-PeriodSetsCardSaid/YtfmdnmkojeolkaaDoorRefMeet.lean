/-
  Normal and Meet of layer 4's reference.
-/
import Derived.Test.YtfmdnmkojeolkaaDoorRefOf
import Derived.Test.YtfmdnmkojeolkaaDoorPerMeet
import Derived.Test.YtfmdnmkojeolkaaDoorPerDays
namespace Go.Proofs.YtfmdnmkojeolkaaDoor
open Go.RowKit Go.Shelf

set_option maxHeartbeats 1000000 in
theorem rNormal_any (p : Per.P) (w : World) :
    Calls Tryd.prog 33 #[pv p] w fun e w' => e = .returned (canonV (Per.days p)) ∧ Below w.heap.size w w' := by
  have hP := (Box3.new w 37 (.int .i64 p.f) (.int .i64 p.t) (.int .i64 p.d)).alloc (.cells #[.int .i64 0, .int .i64 0, .int .i64 0] 37)
  have hR := Box3.new (w.alloc (.cells #[.int .i64 p.f, .int .i64 p.t, .int .i64 p.d] 37)) 37 (.int .i64 0) (.int .i64 0) (.int .i64 0)
  have hB0 := ((Below.refl w.heap.size w).alloc (Nat.le_refl _) (.cells #[.int .i64 p.f, .int .i64 p.t, .int .i64 p.d] 37)).alloc (by simp) (.cells #[.int .i64 0, .int .i64 0, .int .i64 0] 37)
  have hz : ((w.alloc (.cells #[.int .i64 p.f, .int .i64 p.t, .int .i64 p.d] 37)).alloc (.cells #[.int .i64 0, .int .i64 0, .int .i64 0] 37)).heap.size = w.heap.size + 1 + 1 := by simp
  have hlen := Per.days_len p
  simp only [World.size_alloc] at hR
  have hc0 := hP.c0; have hc1 := hP.c1; have hc2 := hP.c2
  go_enter Tryd.func33, Tryd.ntmps33
  go_wp2_with fail
  generalize (w.alloc (.cells #[.int .i64 p.f, .int .i64 p.t, .int .i64 p.d] 37)).alloc (.cells #[.int .i64 0, .int .i64 0, .int .i64 0] 37) = w3 at *
  refine (rDays_any p _).mono ?_
  rintro e w4 ⟨v, rfl, hv, hb4⟩
  have hi := hv.intsAt (by unfold maxLen; omega)
  have hR4 := hR.below hb4 (by omega)
  have hB4 := hB0.trans (hb4.mono (by omega))
  have hz4 := hb4.size
  clear hv hb4 hR hP hB0 hc0 hc1 hc2
  go_wp2_with fail
  refine (rOf_any _ _ _ hi).mono ?_
  rintro e w5 ⟨rfl, hb5⟩
  unfold canonV
  have hR5 := hR4.below hb5 (by omega)
  have hB5 := hB4.trans (hb5.mono (by omega))
  have hr0 := hR5.c0; have hr1 := hR5.c1; have hr2 := hR5.c2
  have hf0 := hR5.f0 0; have hf1 := hR5.f0 1; have hf2 := hR5.f0 2
  clear hR4 hR5 hB4 hb5
  go_wp2_with fail
  refine bodyPost_ret (v := .tuple #[pv (Per.canon (Per.days p)), .bool (Per.ne (Per.days p))]) ?_ rfl ⟨rfl, ?_⟩
  · simp [results, Tryd.results33, go_sem, hr0, hr1, hr2]
  · exact ((hB5.setCell (p := ⟨w.heap.size + 1, 0, none⟩) (by dsimp only; omega) _).setCell (p := ⟨w.heap.size + 1, 1, none⟩) (by dsimp only; omega) _).setCell (p := ⟨w.heap.size + 1, 2, none⟩) (by dsimp only; omega) _

theorem s2r_bw {wr w1 : World} {B g k : Nat} {b : Per.P} {x : Int} (hS : (wr.cell? ⟨B, 0, none⟩ = some (.int .i64 b.f) ∧ wr.cell? ⟨B, 1, none⟩ = some (.int .i64 b.t) ∧ wr.cell? ⟨B, 2, none⟩ = some (.int .i64 b.d)) ∧ wr.cell? ⟨g, k, none⟩ = some (.int .i64 x) ∧ Below wr.heap.size wr wr) (hb : Below wr.drew.heap.size wr.drew w1) (hg : g < wr.heap.size) (hB : B < wr.heap.size) :
    (w1.cell? ⟨B, 0, none⟩ = some (.int .i64 b.f) ∧ w1.cell? ⟨B, 1, none⟩ = some (.int .i64 b.t) ∧ w1.cell? ⟨B, 2, none⟩ = some (.int .i64 b.d)) ∧ w1.cell? ⟨g, k, none⟩ = some (.int .i64 x) ∧ Below wr.heap.size wr w1 := by
  obtain ⟨⟨a0, a1, a2⟩, c, -⟩ := hS
  exact ⟨⟨(hb.cell (p := ⟨B, 0, none⟩) hB).trans a0, (hb.cell (p := ⟨B, 1, none⟩) hB).trans a1, (hb.cell (p := ⟨B, 2, none⟩) hB).trans a2⟩, (hb.cell (p := ⟨g, k, none⟩) hg).trans c, ((Below.refl _ _).drew).trans hb⟩
theorem filter_take_on {l : List Int} {k : Nat} {x : Int} {f : Int → Bool} (hx : l[k]? = some x) (h : f x = true) : (l.take (k + 1)).filter f = (l.take k).filter f ++ [x] := by
  rw [List.take_add_one, hx, List.filter_append]; simp [h]
theorem filter_take_off {l : List Int} {k : Nat} {x : Int} {f : Int → Bool} (hx : l[k]? = some x) (h : f x = false) : (l.take (k + 1)).filter f = (l.take k).filter f := by
  rw [List.take_add_one, hx, List.filter_append]; simp [h]
theorem filter_take_len (l : List Int) (k : Nat) (f : Int → Bool) : ((l.take k).filter f).length ≤ l.length :=
  Nat.le_trans (List.length_filter_le _ _) (List.length_take_le' _ _)

set_option maxHeartbeats 1000000 in
theorem rMeet_any (a b : Per.P) (w : World) :
    Calls Tryd.prog 35 #[pv a, pv b] w fun e w' => e = .returned (canonV (meetDays a b)) ∧ Below w.heap.size w w' := by
  obtain ⟨i0, hi, hz0, hz1, hz2⟩ := info_parts info_int
  have hA := ((Box3.new w 37 (.int .i64 a.f) (.int .i64 a.t) (.int .i64 a.d)).alloc (.cells #[.int .i64 b.f, .int .i64 b.t, .int .i64 b.d] 37)).alloc (.cells #[.int .i64 0, .int .i64 0, .int .i64 0] 37)
  have hBb := (Box3.new (w.alloc (.cells #[.int .i64 a.f, .int .i64 a.t, .int .i64 a.d] 37)) 37 (.int .i64 b.f) (.int .i64 b.t) (.int .i64 b.d)).alloc (.cells #[.int .i64 0, .int .i64 0, .int .i64 0] 37)
  have hR := Box3.new ((w.alloc (.cells #[.int .i64 a.f, .int .i64 a.t, .int .i64 a.d] 37)).alloc (.cells #[.int .i64 b.f, .int .i64 b.t, .int .i64 b.d] 37)) 37 (.int .i64 0) (.int .i64 0) (.int .i64 0)
  have hB0 := (((Below.refl w.heap.size w).alloc (Nat.le_refl _) (.cells #[.int .i64 a.f, .int .i64 a.t, .int .i64 a.d] 37)).alloc (by simp) (.cells #[.int .i64 b.f, .int .i64 b.t, .int .i64 b.d] 37)).alloc (by simp; omega) (.cells #[.int .i64 0, .int .i64 0, .int .i64 0] 37)
  have hz : (((w.alloc (.cells #[.int .i64 a.f, .int .i64 a.t, .int .i64 a.d] 37)).alloc (.cells #[.int .i64 b.f, .int .i64 b.t, .int .i64 b.d] 37)).alloc (.cells #[.int .i64 0, .int .i64 0, .int .i64 0] 37)).heap.size = w.heap.size + 1 + 1 + 1 := by simp
  simp only [World.size_alloc] at hBb hR
  have hlen := Per.days_len a
  have ha0 := hA.c0; have ha1 := hA.c1; have ha2 := hA.c2
  go_enter Tryd.func35, Tryd.ntmps35
  go_wp2_with fail
  generalize ((w.alloc (.cells #[.int .i64 a.f, .int .i64 a.t, .int .i64 a.d] 37)).alloc (.cells #[.int .i64 b.f, .int .i64 b.t, .int .i64 b.d] 37)).alloc (.cells #[.int .i64 0, .int .i64 0, .int .i64 0] 37) = w3 at *
  refine (rDays_any a _).mono ?_
  rintro e w4 ⟨v, rfl, hv, hb4⟩
  have hi4 := hv.intsAt (by unfold maxLen; omega)
  have hBb4 := hBb.below hb4 (by omega)
  have hR4 := hR.below hb4 (by omega)
  have hB4 := hB0.trans (hb4.mono (by omega))
  have hz4 := hb4.size
  have HM := Lib.hid (show meetDays a b = (Per.days a).filter (Per.has b) from rfl)
  clear ha0 ha1 ha2 hA hBb hR hB0 hv hb4
  generalize Per.days a = l at *
  obtain ⟨oa, cap, rfl, hml, hcl⟩ := hi4
  go_wp2_with fail
  go_loopw [7, 8] (fun o i wr => ∃ k : Nat, k ≤ l.length ∧ i = .int .i64 k ∧ wr.ownsRow w4.heap.size 3 1 o ((l.take k).filter (Per.has b)).length (((l.take k).filter (Per.has b)).map (Value.int .i64)) ∧ Below w4.heap.size w4 wr) (fun _ i _ => (l.length - intOf i).toNat)
  case atStart => exact ⟨0, by omega, rfl, World.ownsRow_nil _ _ _ _, Below.refl _ _⟩
  case round =>
    obtain ⟨k, hk, rfl, hrow, hbr⟩ := hrel
    have hBbr := hBb4.below hbr (by omega)
    have hRr := hR4.below hbr (by omega)
    have hBr := hB4.trans (hbr.mono (by omega))
    have hzr := hbr.size
    clear hBb4 hR4 hB4
    by_cases hlt : k < l.length
    · obtain ⟨g, rfl, hg, hgc⟩ := hcl (by omega)
      obtain ⟨x, hx⟩ : ∃ x, l[k]? = some x := ⟨_, List.getElem?_eq_getElem hlt⟩
      have hcx := (hbr.cell (p := ⟨g, k, none⟩) hg).trans (hgc k x hx)
      have hfl := filter_take_len l k (Per.has b)
      obtain ⟨c, hc⟩ : ∃ c, Per.has b x = c := ⟨_, rfl⟩
      have hcall := rHas_any b x
      rw [hc] at hcall
      have HC := Lib.hid hcall
      have HX := Lib.hid hx
      have Hc := Lib.hid hc
      clear hcall hx hc hgc hcl
      have hS : (wr.cell? ⟨w.heap.size + 1, 0, none⟩ = some (.int .i64 b.f) ∧ wr.cell? ⟨w.heap.size + 1, 1, none⟩ = some (.int .i64 b.t) ∧ wr.cell? ⟨w.heap.size + 1, 2, none⟩ = some (.int .i64 b.d)) ∧ wr.cell? ⟨g, k, none⟩ = some (.int .i64 x) ∧ Below wr.heap.size wr wr := ⟨⟨hBbr.c0, hBbr.c1, hBbr.c2⟩, hcx, Below.refl _ _⟩
      have hg' : g < wr.heap.size := by omega
      have hgb : w.heap.size + 1 < wr.heap.size := by omega
      go_wp2_with fail
      go_region_held3 (fun w' => (w'.cell? ⟨w.heap.size + 1, 0, none⟩ = some (.int .i64 b.f) ∧ w'.cell? ⟨w.heap.size + 1, 1, none⟩ = some (.int .i64 b.t) ∧ w'.cell? ⟨w.heap.size + 1, 2, none⟩ = some (.int .i64 b.d)) ∧ w'.cell? ⟨g, k, none⟩ = some (.int .i64 x) ∧ Below wr.heap.size wr w') (first | exact ⟨hS.1, hS.2.1, (Below.refl _ _).drew⟩ | exact s2r_bw hS (by assumption) hg' hgb) (first | (go_at_call 43; refine (HC.out _).mono ?_; rintro e w5 ⟨rfl, hb5⟩))
      rename_i hS'
      have hb5 := hS'.2.2
      have hr5 := OwnRow_below hrow hb5
      have hB5 := hbr.trans (hb5.mono (by omega))
      have hz5 := hb5.size
      have hcx5 := hS'.2.1
      clear hS hS' hrow hbr hBbr hRr hBr hcx hb5
      cases c
      · have E := Lib.hid (filter_take_off HX.out Hc.out)
        go_wp2_with fail
        go_roundw
        case rel => exact ⟨k + 1, by omega, by go_num, by rw [E.out]; exact hr5, hB5⟩
        case measure => simp [intOf]; omega
      · have E := Lib.hid (filter_take_on HX.out Hc.out)
        go_wp2_with (at_builtin; refine wpList_append_own _ rfl _ _ 46 rfl w4.heap.size 3 i0 (.int .i64 0) 1 8 Tryd.underlying46 hi hz0 hz1 hz2 rfl (by decide) _ _ _ rfl (hr5.alloc _) ⟨w5.heap.size, 0, none⟩ 1 1 [.int .i64 x] rfl rfl (cell_one_new _ _ _) (by simp [Value.oneCell']) (by unfold maxLen; omega) (by omega) (by simp; omega) ?_; intro v' w6 hown' hgrow _; have hb6 := row_below hr5 (by omega) hgrow; clear hgrow)
        go_roundw
        case rel => exact ⟨k + 1, by omega, by go_num, by rw [E.out]; simpa using hown', hB5.trans hb6⟩
        case measure => simp [intOf]; omega
    · have E := Lib.hid (show l.take k = l by rw [List.take_of_length_le (by omega)])
      rw [E.out] at hrow
      have hml2 := List.length_filter_le (Per.has b) l
      have hio := OwnInts.intsAt (W := wr) (n₀ := w4.heap.size) hrow (by omega)
      clear hrow
      go_wp2_with fail
      refine (rOf_any _ _ _ hio).mono ?_
      rintro e w5 ⟨rfl, hb5⟩
      have hR5 := hRr.below hb5 (by omega)
      have hB5 := hBr.trans (hb5.mono (by omega))
      have hr0 := hR5.c0; have hr1 := hR5.c1; have hr2 := hR5.c2
      have hf0 := hR5.f0 0; have hf1 := hR5.f0 1; have hf2 := hR5.f0 2
      clear hRr hR5 hBr hb5 hio
      unfold canonV
      generalize List.filter (Per.has b) l = m at *
      go_wp2_with fail
      refine bodyPost_ret (v := .tuple #[pv (Per.canon m), .bool (Per.ne m)]) ?_ rfl ⟨by rw [HM.out]; rfl, ?_⟩
      · simp [results, Tryd.results35, go_sem, hr0, hr1, hr2]
      · exact ((hB5.setCell (p := ⟨w.heap.size + 1 + 1, 0, none⟩) (by dsimp only; omega) _).setCell (p := ⟨w.heap.size + 1 + 1, 1, none⟩) (by dsimp only; omega) _).setCell (p := ⟨w.heap.size + 1 + 1, 2, none⟩) (by dsimp only; omega) _
end Go.Proofs.YtfmdnmkojeolkaaDoor
