/-
  Count, Days and Normal of layer 4: loops over each.
-/
import Derived.Test.YtfmdnmkojeolkaaDoorPerIter
namespace Go.Proofs.YtfmdnmkojeolkaaDoor
open Go.RowKit Go.Shelf

attribute [local go_sem] Oper.semAt_some

set_option maxRecDepth 100000 in
set_option maxHeartbeats 1000000 in
theorem Count_in (p : Per.P) (w : World) :
    CallsIn Fence.wide 5 Tryd.prog 45 #[pv p] w fun e w' => e = .returned (.int .i64 ((Per.days p).length : Int)) ∧ Below w.heap.size w w' := by
  have hlen := Per.days_len p
  refine callsIn_of_wp_marks Tryd.func45 rfl trivial ?_ rfl
  simp only [Tryd.ntmps45, List.size_toArray, List.length_cons, List.length_nil, Nat.reduceAdd, Nat.reduceSub, Array.replicate_succ, Array.replicate_zero, List.push_toArray, List.append_toArray, List.nil_append, List.cons_append]
  gi_wp2_with fail
  refine ⟨trivial, ?_⟩
  refine (callsIn_wide.2 (each_any p _)).mono ?_
  rintro e w' ⟨rfl, rfl⟩
  gi_wp2_with fail
  have bN := (Boxed.new (w.alloc (.cells #[.int .i64 p.f, .int .i64 p.t, .int .i64 p.d] 37)) 3 (.int .i64 0)).alloc (.cells #[.int .i64 p.f, .int .i64 p.t, .int .i64 p.d] 37)
  have bP := perAt_new ((w.alloc (.cells #[.int .i64 p.f, .int .i64 p.t, .int .i64 p.d] 37)).alloc (.cells #[.int .i64 0] 3)) p 37
  have hB0 := (((Below.refl w.heap.size w).alloc (Nat.le_refl _) (.cells #[.int .i64 p.f, .int .i64 p.t, .int .i64 p.d] 37)).alloc (by simp) (.cells #[.int .i64 0] 3)).alloc (by simp; omega) (.cells #[.int .i64 p.f, .int .i64 p.t, .int .i64 p.d] 37)
  simp only [World.size_alloc] at bN bP
  have hz : (((w.alloc (.cells #[.int .i64 p.f, .int .i64 p.t, .int .i64 p.d] 37)).alloc (.cells #[.int .i64 0] 3)).alloc (.cells #[.int .i64 p.f, .int .i64 p.t, .int .i64 p.d] 37)).heap.size = w.heap.size + 1 + 1 + 1 := by simp
  generalize ((w.alloc (.cells #[.int .i64 p.f, .int .i64 p.t, .int .i64 p.d] 37)).alloc (.cells #[.int .i64 0] 3)).alloc (.cells #[.int .i64 p.f, .int .i64 p.t, .int .i64 p.d] 37) = w3 at *
  refine wpIn_rangeFunc_ownG rfl (by omega) (gf := 71) (lb := #[.pointer (some ⟨w.heap.size + 1 + 1, 0, none⟩)]) rfl trivial (enters_of Tryd.func71 (by kernel_rfl) rfl)
    (each_stops _ (by omega) (w.heap.size + 1 + 1) p _ (by omega) bP) KeepB.trans (keepB_b (by omega)) (Below.refl _ _) (fun _ => rfl)
    (fun pre W => Boxed W (w.heap.size + 1) 3 (.int .i64 (pre.length : Int)) ∧ Below w.heap.size w W)
    (fun _ _ _ => False)
    (OwnFrom.and (Own.from (boxed_own _ _ _) _) (ownFrom_below (Nat.le_refl _) (by omega)))
    (fun _ _ _ _ _ hs _ _ => hs)
    ⟨bN, hB0⟩
    (fun x => { tmps := #[pv p, Value.pointer (some { block := w.heap.size, off := 0 }), Value.int IntKind.i64 0, Value.pointer (some { block := w.heap.size + 1, off := 0 }), Value.agg #[Value.int IntKind.i64 p.f, Value.int IntKind.i64 p.t, Value.int IntKind.i64 p.d], Value.func (Fn.func 71) #[] #[Value.pointer (some { block := w.heap.size + 1 + 1, off := 0 })], .int .i64 x, undef, undef, undef], defers := [] }) ?assign ?body ?done ?stop
  case assign =>
    intro l x W K hK
    gi_wp2
    simpa using hK
  case body =>
    rintro l pre x W ⟨hb, hB⟩ hlt
    have hc := hb.cell
    have hf := hb.frozen
    gi_wp2
    exact ⟨(KeepsOthers.setCell _ _ _).from _, Below.heap_setCell _ _ _ _ (by simp), by have := hb.set (.int .i64 ((pre.length : Int) + 1)); simpa using this, hB.setCell (p := ⟨w.heap.size + 1, 0, none⟩) (by simp) _⟩
  case done =>
    rintro D ys W hD rfl ⟨hb, hB⟩ hK
    have hc := hb.cell
    gi_wp2
    refine ⟨by simp, .inl ⟨_, _, rfl, run_takeDeferred hK, ?_⟩⟩
    exact ⟨_, results_tmp rfl _ _ _, rfl, hB.trans (belowK_b (w := w3) (by omega) W D _ _ (by omega) hK rfl rfl)⟩
  case stop =>
    rintro D c pre W _ _ h _
    exact h.elim

theorem info_int : (Tryd.prog.info? 3).map (fun i => (i.zero, i.size, i.bytes)) = some (some (.int .i64 0), 1, 8) := by kernel_rfl

/-- A slice of ints that the call has made, from block n₀ on: nil where there is none. -/
def OwnInts (W : World) (n₀ : Nat) (v : Value) (l : List Int) : Prop := W.ownsRow n₀ 3 1 v l.length (l.map (Value.int .i64))

theorem ownsRow_mono {W : World} {n₀ b : Nat} {e : TypeId} {size : Nat} {v : Value} {k : Nat} {xs : List Value} (h : W.ownsRow n₀ e size v k xs) (hb : b ≤ n₀) : W.ownsRow b e size v k xs := by
  refine ⟨h.1, h.2.imp id ?_⟩
  rintro ⟨g, cap, cur, h1, h2, h3⟩
  exact ⟨g, cap, cur, h1, Nat.le_trans hb h2, h3⟩
theorem ownBlock_ge {W : World} {n₀ : Nat} {e : TypeId} {size : Nat} {v : Value} {k : Nat} {xs : List Value} (h : W.ownsRow n₀ e size v k xs) {j : Nat} (hj : v.ownBlock = some j) : n₀ ≤ j := by
  rcases h.2 with ⟨rfl, _⟩ | ⟨g, cap, cur, rfl, hg, _⟩
  · simp [Value.ownBlock] at hj
  · simp [Value.ownBlock] at hj; omega

/-- What a walk owes behind 'out = append(out, ..)', out in a box below the slice's own base. -/
theorem box_appended {W w1 : World} {n₀ B Bn B0 : Nat} {t e : TypeId} {size : Nat} {v v' : Value} {k m : Nat} {xs ys : List Value} {tmp : Obj}
    (hv : Boxed W B t v) (hte : t ≠ e) (hrow : W.ownsRow n₀ e size v k xs) (hBB : B < n₀) (hBn : Bn < n₀) (hne : Bn ≠ B) (hB0 : B0 ≤ B) (hsz : n₀ ≤ W.heap.size)
    (hown' : w1.ownsRow n₀ e size v' m ys) (hgrow : (W.alloc tmp).grownBy w1 v.ownBlock) :
    (w1.cell? ⟨B, 0, none⟩ = some v ∧ w1.frozen? ⟨B, 0, none⟩ = false) ∧ Boxed (w1.setCell ⟨B, 0, none⟩ v') B t v' ∧ (w1.setCell ⟨B, 0, none⟩ v').ownsRow n₀ e size v' m ys ∧ KeepsOthers W (w1.setCell ⟨B, 0, none⟩ v') ∧ Below B0 W (w1.setCell ⟨B, 0, none⟩ v') ∧ KeepB Bn W (w1.setCell ⟨B, 0, none⟩ v') ∧ n₀ ≤ (w1.setCell ⟨B, 0, none⟩ v').heap.size := by
  obtain ⟨h1, h2, -, h4, h5⟩ := hv.appended hte (ownsRow_mono hrow (show B0 ≤ n₀ by omega)) (by omega) hB0 (ownsRow_mono hown' (by omega)) hgrow
  refine ⟨⟨h1.cell, h1.frozen⟩, h2, hown'.kept (grownBy_setCell' w1 B v') (.inr (h1.not_row hte hown').symm), h4, h5, ?_, Nat.le_trans hsz h5.size⟩
  show (w1.setCell ⟨B, 0, none⟩ v').heap[Bn]? = W.heap[Bn]?
  rw [Below.heap_setCell _ _ _ _ (by simpa using hne), hgrow.block Bn (by simp; omega) (fun e => by have := ownBlock_ge hrow e.symm; omega), Below.heap_alloc _ _ _ (by omega)]

set_option maxRecDepth 100000 in
set_option maxHeartbeats 1000000 in
theorem Days_in (p : Per.P) (w : World) :
    CallsIn Fence.wide 5 Tryd.prog 47 #[pv p] w fun e w' => ∃ v, e = .returned v ∧ OwnInts w' w.heap.size v (Per.days p) ∧ Below w.heap.size w w' := by
  have hlen := Per.days_len p
  obtain ⟨i0, hi, hz0, hz1, hz2⟩ := info_parts info_int
  refine callsIn_of_wp_marks Tryd.func47 rfl trivial ?_ rfl
  simp only [Tryd.ntmps47, List.size_toArray, List.length_cons, List.length_nil, Nat.reduceAdd, Nat.reduceSub, Array.replicate_succ, Array.replicate_zero, List.push_toArray, List.append_toArray, List.nil_append, List.cons_append]
  gi_wp2_with fail
  refine ⟨trivial, ?_⟩
  refine (callsIn_wide.2 (each_any p _)).mono ?_
  rintro e w' ⟨rfl, rfl⟩
  gi_wp2_with fail
  have bN := (Boxed.new (w.alloc (.cells #[.int .i64 p.f, .int .i64 p.t, .int .i64 p.d] 37)) 46 (.slice none 0 0)).alloc (.cells #[.int .i64 p.f, .int .i64 p.t, .int .i64 p.d] 37)
  have bP := perAt_new ((w.alloc (.cells #[.int .i64 p.f, .int .i64 p.t, .int .i64 p.d] 37)).alloc (.cells #[.slice none 0 0] 46)) p 37
  have hB0 := (((Below.refl w.heap.size w).alloc (Nat.le_refl _) (.cells #[.int .i64 p.f, .int .i64 p.t, .int .i64 p.d] 37)).alloc (by simp) (.cells #[.slice none 0 0] 46)).alloc (by simp; omega) (.cells #[.int .i64 p.f, .int .i64 p.t, .int .i64 p.d] 37)
  simp only [World.size_alloc] at bN bP
  have hz : (((w.alloc (.cells #[.int .i64 p.f, .int .i64 p.t, .int .i64 p.d] 37)).alloc (.cells #[.slice none 0 0] 46)).alloc (.cells #[.int .i64 p.f, .int .i64 p.t, .int .i64 p.d] 37)).heap.size = w.heap.size + 1 + 1 + 1 := by simp
  generalize ((w.alloc (.cells #[.int .i64 p.f, .int .i64 p.t, .int .i64 p.d] 37)).alloc (.cells #[.slice none 0 0] 46)).alloc (.cells #[.int .i64 p.f, .int .i64 p.t, .int .i64 p.d] 37) = w3 at *
  refine wpIn_rangeFunc_ownG rfl (by omega) (gf := 71) (lb := #[.pointer (some ⟨w.heap.size + 1 + 1, 0, none⟩)]) rfl trivial (enters_of Tryd.func71 (by kernel_rfl) rfl)
    (each_stops _ (by omega) (w.heap.size + 1 + 1) p _ (by omega) bP) KeepB.trans (keepB_b (by omega)) (Below.refl _ _) (fun _ => rfl)
    (fun pre W => (∃ v, Boxed W (w.heap.size + 1) 46 v ∧ W.ownsRow (w.heap.size + 1 + 1 + 1) 3 1 v pre.length (pre.map (Value.int .i64)) ∧ True) ∧ Below w.heap.size w W ∧ w.heap.size + 1 + 1 + 1 ≤ W.heap.size)
    (fun _ _ _ => False)
    (OwnFrom.and (Own.from (holdsRow_own (w.heap.size + 1 + 1 + 1) (w.heap.size + 1) 46 3 1 (fun pre : List Int => pre.length) (fun pre : List Int => pre.map (Value.int .i64)) (fun _ _ => True)) _) (OwnFrom.and (ownFrom_below (Nat.le_refl _) (by omega)) (fun _ _ _ _ hs hg _ => Nat.le_trans hs hg.size)))
    (fun _ _ _ _ _ hs _ _ => hs)
    ⟨⟨_, bN, World.ownsRow_nil _ _ _ _, trivial⟩, hB0, by omega⟩
    (fun x => { tmps := #[pv p, Value.pointer (some { block := w.heap.size, off := 0 }), Value.slice none 0 0, Value.pointer (some { block := w.heap.size + 1, off := 0 }), .int .i64 x, Value.agg #[Value.int IntKind.i64 p.f, Value.int IntKind.i64 p.t, Value.int IntKind.i64 p.d], Value.func (Fn.func 71) #[] #[Value.pointer (some { block := w.heap.size + 1 + 1, off := 0 })], .int .i64 x, undef, undef, undef, undef, undef], defers := [] }) ?assign ?body ?done ?stop
  case assign =>
    intro l x W K hK
    gi_wp2
    exact hK
  case body =>
    rintro l pre x W ⟨⟨v, hv, hrow, -⟩, hB, hsz⟩ hlt
    have hc := hv.cell
    gi_wp2_with (gi_at_builtin; refine wpListIn_append_own _ rfl _ _ 46 rfl (w.heap.size + 1 + 1 + 1) 3 i0 (.int .i64 0) 1 8 Tryd.underlying46 hi hz0 hz1 hz2 rfl (by decide) _ _ _ rfl (hrow.alloc _) ⟨W.heap.size, 0, none⟩ 1 1 [.int .i64 x] rfl rfl (cell_one_new _ _ _) (by simp [Value.oneCell']) (by unfold maxLen; omega) (by omega) (by simp; omega) ?_; intro v' w1 hown' hgrow _; obtain ⟨g', cap', rfl⟩ := ownsRow_succ hown'; obtain ⟨⟨hc1, hf1⟩, hv2, hr2, hk2, hb2, hkb, hs2⟩ := box_appended (Bn := w.heap.size + 1 + 1) (B0 := w.heap.size) hv (by decide) hrow (by omega) (by omega) (by omega) (by omega) hsz hown' hgrow)
    exact ⟨hk2.from _, hkb, ⟨_, hv2, by simpa using hr2, trivial⟩, hB.trans hb2, hs2⟩
  case done =>
    rintro D ys W hD rfl ⟨⟨v, hv, hrow, -⟩, hB, hsz⟩ hK
    have hc := hv.cell
    gi_wp2
    refine ⟨by simp, .inl ⟨_, _, rfl, run_takeDeferred hK, ?_⟩⟩
    exact ⟨_, results_tmp rfl _ _ _, v, rfl, ownsRow_putObj (ownsRow_mono hrow (by omega)) _ hK rfl, hB.trans (belowK_b (w := w3) (by omega) W D _ _ (by omega) hK rfl rfl)⟩
  case stop =>
    rintro D c pre W _ _ h _
    exact h.elim

theorem Days_any (p : Per.P) (w : World) :
    Calls Tryd.prog 47 #[pv p] w fun e w' => ∃ v, e = .returned v ∧ OwnInts w' w.heap.size v (Per.days p) ∧ Below w.heap.size w w' :=
  callsIn_wide.1 (Days_in p w)
theorem Count_any (p : Per.P) (w : World) :
    Calls Tryd.prog 45 #[pv p] w fun e w' => e = .returned (.int .i64 ((Per.days p).length : Int)) ∧ Below w.heap.size w w' :=
  callsIn_wide.1 (Count_in p w)
end Go.Proofs.YtfmdnmkojeolkaaDoor
