/-
  Normal of layer 4: a loop over each that gathers the first day, the last day and the mask of weekdays.
-/
import Derived.Test.YtfmdnmkojeolkaaDoorPerReg
namespace Go.Proofs.YtfmdnmkojeolkaaDoor
open Go.RowKit Go.Shelf

attribute [local go_sem] Oper.semAt_some

set_option maxRecDepth 100000 in
set_option maxHeartbeats 2000000 in
theorem Normal_in (p : Per.P) (w : World) :
    CallsIn Fence.wide 5 Tryd.prog 32 #[pv p] w fun e w' => e = .returned (canonV (Per.days p)) ∧ Below w.heap.size w w' := by
  refine callsIn_of_wp_marks Tryd.func32 rfl trivial ?_ rfl
  simp only [Tryd.ntmps32, List.size_toArray, List.length_cons, List.length_nil, Nat.reduceAdd, Nat.reduceSub, Array.replicate_succ, Array.replicate_zero, List.push_toArray, List.append_toArray, List.nil_append, List.cons_append]
  gi_wp2_with fail
  refine ⟨trivial, ?_⟩
  refine (callsIn_wide.2 (each_any p _)).mono ?_
  rintro e w' ⟨rfl, rfl⟩
  gi_wp2_with fail
  have b1 := (((Box3.new (w.alloc (.cells #[.int .i64 p.f, .int .i64 p.t, .int .i64 p.d] 37)) 37 (.int .i64 0) (.int .i64 0) (.int .i64 0)).alloc (.cells #[.int .i64 0, .int .i64 0, .int .i64 0] 37)).alloc (.cells #[.bool false] 4)).alloc (.cells #[.int .i64 p.f, .int .i64 p.t, .int .i64 p.d] 37)
  have b2 := ((Box3.new ((w.alloc (.cells #[.int .i64 p.f, .int .i64 p.t, .int .i64 p.d] 37)).alloc (.cells #[.int .i64 0, .int .i64 0, .int .i64 0] 37)) 37 (.int .i64 0) (.int .i64 0) (.int .i64 0)).alloc (.cells #[.bool false] 4)).alloc (.cells #[.int .i64 p.f, .int .i64 p.t, .int .i64 p.d] 37)
  have b3 := (Boxed.new (((w.alloc (.cells #[.int .i64 p.f, .int .i64 p.t, .int .i64 p.d] 37)).alloc (.cells #[.int .i64 0, .int .i64 0, .int .i64 0] 37)).alloc (.cells #[.int .i64 0, .int .i64 0, .int .i64 0] 37)) 4 (.bool false)).alloc (.cells #[.int .i64 p.f, .int .i64 p.t, .int .i64 p.d] 37)
  have bP := perAt_new ((((w.alloc (.cells #[.int .i64 p.f, .int .i64 p.t, .int .i64 p.d] 37)).alloc (.cells #[.int .i64 0, .int .i64 0, .int .i64 0] 37)).alloc (.cells #[.int .i64 0, .int .i64 0, .int .i64 0] 37)).alloc (.cells #[.bool false] 4)) p 37
  have hB0 := (((((Below.refl w.heap.size w).alloc (Nat.le_refl _) (.cells #[.int .i64 p.f, .int .i64 p.t, .int .i64 p.d] 37)).alloc (by simp) (.cells #[.int .i64 0, .int .i64 0, .int .i64 0] 37)).alloc (by simp; omega) (.cells #[.int .i64 0, .int .i64 0, .int .i64 0] 37)).alloc (by simp; omega) (.cells #[.bool false] 4)).alloc (by simp; omega) (.cells #[.int .i64 p.f, .int .i64 p.t, .int .i64 p.d] 37)
  simp only [World.size_alloc] at b1 b2 b3 bP
  have hz : (((((w.alloc (.cells #[.int .i64 p.f, .int .i64 p.t, .int .i64 p.d] 37)).alloc (.cells #[.int .i64 0, .int .i64 0, .int .i64 0] 37)).alloc (.cells #[.int .i64 0, .int .i64 0, .int .i64 0] 37)).alloc (.cells #[.bool false] 4)).alloc (.cells #[.int .i64 p.f, .int .i64 p.t, .int .i64 p.d] 37)).heap.size = w.heap.size + 1 + 1 + 1 + 1 + 1 := by simp
  generalize ((((w.alloc (.cells #[.int .i64 p.f, .int .i64 p.t, .int .i64 p.d] 37)).alloc (.cells #[.int .i64 0, .int .i64 0, .int .i64 0] 37)).alloc (.cells #[.int .i64 0, .int .i64 0, .int .i64 0] 37)).alloc (.cells #[.bool false] 4)).alloc (.cells #[.int .i64 p.f, .int .i64 p.t, .int .i64 p.d] 37) = w3 at *
  refine wpIn_rangeFunc_ownG rfl (by omega) (gf := 71) (lb := #[.pointer (some ⟨w.heap.size + 1 + 1 + 1 + 1, 0, none⟩)]) rfl trivial (enters_of Tryd.func71 (by kernel_rfl) rfl)
    (each_stops _ (by omega) (w.heap.size + 1 + 1 + 1 + 1) p _ (by omega) bP) KeepB.trans (keepB_b (by omega)) (Below.refl _ _) (fun _ => rfl)
    (fun pre W => (Box3 W (w.heap.size + 1) 37 (.int .i64 0) (.int .i64 0) (.int .i64 0)) ∧ (Box3 W (w.heap.size + 1 + 1) 37 (.int .i64 (Per.hd pre)) (.int .i64 (Per.lst pre)) (.int .i64 (Per.mask pre))) ∧ Boxed W (w.heap.size + 1 + 1 + 1) 4 (.bool (Per.ne pre)) ∧ Below w.heap.size w W)
    (fun _ _ _ => False)
    (OwnFrom.and (Own.from (box3_own _ _ _ _ _) _) (OwnFrom.and (Own.from (box3_own _ _ (fun pre => .int .i64 (Per.hd pre)) (fun pre => .int .i64 (Per.lst pre)) (fun pre => .int .i64 (Per.mask pre))) _) (OwnFrom.and (Own.from (boxed_own _ _ (fun pre => .bool (Per.ne pre))) _) (ownFrom_below (Nat.le_refl _) (by omega)))))
    (fun _ _ _ _ _ hs _ _ => hs)
    ⟨b1, b2, b3, hB0⟩
    (fun x => { tmps := #[pv p, Value.pointer (some { block := w.heap.size, off := 0 }),
          Value.pointer (some { block := w.heap.size + 1, off := 0 }), Value.bool false,
          Value.pointer (some { block := w.heap.size + 1 + 1, off := 0 }),
          Value.pointer (some { block := w.heap.size + 1 + 1 + 1, off := 0 }), .int .i64 x,
          Value.agg #[Value.int IntKind.i64 p.f, Value.int IntKind.i64 p.t, Value.int IntKind.i64 p.d],
          Value.func (Fn.func 71) #[] #[Value.pointer (some { block := w.heap.size + 1 + 1 + 1 + 1, off := 0 })], .int .i64 x,
          undef, undef, undef, undef, undef, undef, undef, undef, undef, undef, undef, undef, undef, undef, undef], defers := [] }) ?assign ?body ?done ?stop
  case assign =>
    intro l x W K hK
    gi_wp2
    exact hK
  case body =>
    rintro l pre x W ⟨h1, h2, h3, hB⟩ hlt
    have hmix : Tryd.prog.follows .mixedOrders = true := by kernel_rfl
    have hx0 := h2.c0; have hx1 := h2.c1; have hx2 := h2.c2; have hs0 := h3.cell
    have hf0 := h2.f0 0; have hf1 := h2.f0 1; have hf2 := h2.f0 2; have hf3 := h3.frozen
    have hm := Per.mask_bd pre
    have hw := Cal.wd_bd x
    have hbb := Per.bit_bd x
    have hor : bits .or .i64 (Per.mask pre) (2 ^ (Cal.wd x).toNat) = Per.orBit (Per.mask pre) x := by
      have := Per.or_bit (m := Per.mask pre) x hm.1 hm.2
      rw [← this]
      exact i64_or _ _ hm.1 (by omega) (by have : Per.bit x = 2 ^ (Cal.wd x).toNat := rfl; omega) (by have : Per.bit x = 2 ^ (Cal.wd x).toNat := rfl; omega)
    have hbd : 2 ^ (Cal.wd x).toNat ≤ (64 : Int) ∧ (1 : Int) ≤ 2 ^ (Cal.wd x).toNat := hbb.symm
    have hwr : wrap64 (2 ^ (Cal.wd x).toNat) = 2 ^ (Cal.wd x).toNat := IntWalk.wrap64_in _ ⟨by omega, by omega⟩
    by_cases hp : pre = []
    · subst hp
      have hn : (!Per.ne []) = true := rfl
      gi_wp2_with fail
      have g2 := ((h2.set0 (.int .i64 x)).other (a := ⟨w.heap.size + 1 + 1 + 1, 0, none⟩) (.bool true) (by dsimp only; omega)).set1 (.int .i64 x)
      have g3 := boxed_otherAt ((boxed_otherAt h3 (a := ⟨w.heap.size + 1 + 1, 0, none⟩) (.int .i64 x) (by dsimp only; omega)).set (.bool true)) (a := ⟨w.heap.size + 1 + 1, 1, none⟩) (.int .i64 x) (by dsimp only; omega)
      have g1 := ((h1.other (a := ⟨w.heap.size + 1 + 1, 0, none⟩) (.int .i64 x) (by dsimp only; omega)).other (a := ⟨w.heap.size + 1 + 1 + 1, 0, none⟩) (.bool true) (by dsimp only; omega)).other (a := ⟨w.heap.size + 1 + 1, 1, none⟩) (.int .i64 x) (by dsimp only; omega)
      have gB := ((hB.setCell (p := ⟨w.heap.size + 1 + 1, 0, none⟩) (by dsimp only; omega) (.int .i64 x)).setCell (p := ⟨w.heap.size + 1 + 1 + 1, 0, none⟩) (by dsimp only; omega) (.bool true)).setCell (p := ⟨w.heap.size + 1 + 1, 1, none⟩) (by dsimp only; omega) (.int .i64 x)
      have gK := ((KeepsOthers.setCell W ⟨w.heap.size + 1 + 1, 0, none⟩ (.int .i64 x)).trans (KeepsOthers.setCell _ ⟨w.heap.size + 1 + 1 + 1, 0, none⟩ (.bool true))).trans (KeepsOthers.setCell _ ⟨w.heap.size + 1 + 1, 1, none⟩ (.int .i64 x))
      have gE : KeepB (w.heap.size + 1 + 1 + 1 + 1) W (((W.setCell ⟨w.heap.size + 1 + 1, 0, none⟩ (.int .i64 x)).setCell ⟨w.heap.size + 1 + 1 + 1, 0, none⟩ (.bool true)).setCell ⟨w.heap.size + 1 + 1, 1, none⟩ (.int .i64 x)) := KeepB.trans (KeepB.trans (setCell_other _ (by dsimp only; omega)) (setCell_other _ (by dsimp only; omega))) (setCell_other _ (by dsimp only; omega))
      generalize ((W.setCell ⟨w.heap.size + 1 + 1, 0, none⟩ (.int .i64 x)).setCell ⟨w.heap.size + 1 + 1 + 1, 0, none⟩ (.bool true)).setCell ⟨w.heap.size + 1 + 1, 1, none⟩ (.int .i64 x) = w4 at *
      have k2 := g2.c2
      have l2 := g2.f0 2
      refine normal_reg9 l _ w4 _ x hm.1 hm.2 k2 l2 _ _ _ _ _ _ _ _ _ _ _ _ _ _ _ (fun tmps => ?_) _ (by kernel_rfl)
      gi_wp2_with fail
      exact ⟨(gK.trans ((KeepsOthers.setCell _ _ _).trans (KeepsOthers.drew _))).from _, KeepB.trans gE (setCell_other _ (by dsimp only; omega)), g1.other _ (by dsimp only; omega), by rw [Per.hd_snoc, if_pos rfl, Per.lst_snoc, Per.mask_snoc]; exact g2.set2 _, boxed_otherAt g3 _ (by dsimp only; omega), (gB.setCell (p := ⟨w.heap.size + 1 + 1, 2, none⟩) (by dsimp only; omega) _).drew⟩
    · have hn : (!Per.ne pre) = false := by rw [Per.ne_iff.2 hp]; rfl
      have hn' : Per.ne pre = true := Per.ne_iff.2 hp
      rw [hn'] at h3
      gi_wp2_with fail
      have g2 := (h2.other (a := ⟨w.heap.size + 1 + 1 + 1, 0, none⟩) (.bool true) (by dsimp only; omega)).set1 (.int .i64 x)
      have g3 := boxed_otherAt (h3.set (.bool true)) (a := ⟨w.heap.size + 1 + 1, 1, none⟩) (.int .i64 x) (by dsimp only; omega)
      have g1 := (h1.other (a := ⟨w.heap.size + 1 + 1 + 1, 0, none⟩) (.bool true) (by dsimp only; omega)).other (a := ⟨w.heap.size + 1 + 1, 1, none⟩) (.int .i64 x) (by dsimp only; omega)
      have gB := (hB.setCell (p := ⟨w.heap.size + 1 + 1 + 1, 0, none⟩) (by dsimp only; omega) (.bool true)).setCell (p := ⟨w.heap.size + 1 + 1, 1, none⟩) (by dsimp only; omega) (.int .i64 x)
      have gK := (KeepsOthers.setCell W ⟨w.heap.size + 1 + 1 + 1, 0, none⟩ (.bool true)).trans (KeepsOthers.setCell _ ⟨w.heap.size + 1 + 1, 1, none⟩ (.int .i64 x))
      have gE : KeepB (w.heap.size + 1 + 1 + 1 + 1) W ((W.setCell ⟨w.heap.size + 1 + 1 + 1, 0, none⟩ (.bool true)).setCell ⟨w.heap.size + 1 + 1, 1, none⟩ (.int .i64 x)) := KeepB.trans (setCell_other _ (by dsimp only; omega)) (setCell_other _ (by dsimp only; omega))
      generalize (W.setCell ⟨w.heap.size + 1 + 1 + 1, 0, none⟩ (.bool true)).setCell ⟨w.heap.size + 1 + 1, 1, none⟩ (.int .i64 x) = w4 at *
      have k2 := g2.c2
      have l2 := g2.f0 2
      refine normal_reg9 l _ w4 _ x hm.1 hm.2 k2 l2 _ _ _ _ _ _ _ _ _ _ _ _ _ _ _ (fun tmps => ?_) _ (by kernel_rfl)
      gi_wp2_with fail
      exact ⟨(gK.trans ((KeepsOthers.setCell _ _ _).trans (KeepsOthers.drew _))).from _, KeepB.trans gE (setCell_other _ (by dsimp only; omega)), g1.other _ (by dsimp only; omega), by rw [Per.hd_snoc, if_neg hp, Per.lst_snoc, Per.mask_snoc]; exact g2.set2 _, by rw [Per.ne_iff.2 (by simp)]; exact boxed_otherAt g3 _ (by dsimp only; omega), (gB.setCell (p := ⟨w.heap.size + 1 + 1, 2, none⟩) (by dsimp only; omega) _).drew⟩
  case done =>
    rintro D ys W hD rfl ⟨h1, h2, h3, hB⟩ hK
    have hx0 := h3.cell
    gi_wp2_with fail
    refine normal_reg10 _ _ _ D W _ _ _ _ h1 h2 hx0 (by omega) (by omega) _ _ _ _ _ _ _ _ _ _ _ _ _ _ _ _ _ _ _ _ _ ?_ _ (by kernel_rfl)
    have g1 := ((h1.set0 (.int .i64 (Per.hd (Per.days p)))).set1 (.int .i64 (Per.lst (Per.days p)))).set2 (.int .i64 (Per.mask (Per.days p)))
    have gB := ((hB.setCell (p := ⟨w.heap.size + 1, 0, none⟩) (by dsimp only; omega) (.int .i64 (Per.hd (Per.days p)))).setCell (p := ⟨w.heap.size + 1, 1, none⟩) (by dsimp only; omega) (.int .i64 (Per.lst (Per.days p)))).setCell (p := ⟨w.heap.size + 1, 2, none⟩) (by dsimp only; omega) (.int .i64 (Per.mask (Per.days p)))
    have hK5 : (((W.setCell ⟨w.heap.size + 1, 0, none⟩ (.int .i64 (Per.hd (Per.days p)))).setCell ⟨w.heap.size + 1, 1, none⟩ (.int .i64 (Per.lst (Per.days p)))).setCell ⟨w.heap.size + 1, 2, none⟩ (.int .i64 (Per.mask (Per.days p)))).heap[D]? = some (.deferred (some [])) := by
      rw [setCell_other _ (by dsimp only; omega), setCell_other _ (by dsimp only; omega), setCell_other _ (by dsimp only; omega)]; exact hK
    generalize ((W.setCell ⟨w.heap.size + 1, 0, none⟩ (.int .i64 (Per.hd (Per.days p)))).setCell ⟨w.heap.size + 1, 1, none⟩ (.int .i64 (Per.lst (Per.days p)))).setCell ⟨w.heap.size + 1, 2, none⟩ (.int .i64 (Per.mask (Per.days p))) = w5 at *
    gi_wp2_with fail
    refine ⟨by simp, .inl ⟨_, _, rfl, run_takeDeferred (w := w5.drew) hK5, ?_⟩⟩
    have g6 : Box3 (w5.drew.putObj D (.deferred none)) (w.heap.size + 1) 37 (.int .i64 (Per.hd (Per.days p))) (.int .i64 (Per.lst (Per.days p))) (.int .i64 (Per.mask (Per.days p))) := (World.putObj_heap_other (by omega)).trans g1
    have hr0 := g6.c0; have hr1 := g6.c1; have hr2 := g6.c2
    refine ⟨.tuple #[.agg #[.int .i64 (Per.hd (Per.days p)), .int .i64 (Per.lst (Per.days p)), .int .i64 (Per.mask (Per.days p))], .bool (Per.ne (Per.days p))], ?_, ?_, gB.drew.trans (belowK_b (w := w3) (by omega) w5.drew D _ _ (by omega) hK5 rfl rfl)⟩
    · simp [results, Tryd.f32, go_sem, hr0, hr1, hr2]
    · unfold canonV
      rw [Per.canon_eq]
  case stop =>
    rintro D c pre W _ _ h _
    exact h.elim

theorem Normal_any (p : Per.P) (w : World) :
    Calls Tryd.prog 32 #[pv p] w fun e w' => e = .returned (canonV (Per.days p)) ∧ Below w.heap.size w w' :=
  callsIn_wide.1 (Normal_in p w)
end Go.Proofs.YtfmdnmkojeolkaaDoor
