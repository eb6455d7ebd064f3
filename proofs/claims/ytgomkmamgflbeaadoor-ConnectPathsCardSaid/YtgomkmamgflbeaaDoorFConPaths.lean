/-
  ConnectPaths: Paths returns the journeys that the reference implementation returns, in this order, for all connecting times, segments, places and counts that the statement takes.
  Conditions: the package-level variables that the row lists start as the program's text lays them (the card ties them).
-/
import Derived.Test.YtgomkmamgflbeaaDoorPrZ
import Derived.Test.YtgomkmamgflbeaaDoorTie
import Derived.Test.YtgomkmamgflbeaaDoorCards
import Derived.SevenTiedAt
namespace Go.Proofs.YtgomkmamgflbeaaDoor
open Go.ChangeShapes Go.WideShapes Go.ChangeAt Go.RowKit
open Dm
namespace connectPaths

theorem plain_types : plainTs Tryd.prog ([42, 9, 9, 3].flatMap Tryd.prog.book) = true := by kernel_rfl
theorem in_types : [42, 9, 9, 3].all (fun t => ([42, 9, 9, 3].flatMap Tryd.prog.book).contains t) = true := by kernel_rfl
theorem laid_out : laidOutB Tryd.prog = true := by kernel_rfl
theorem read_types : [42, 9, 9, 3].all (fun t => Tryd.prog.readableRec t && decide (t < Tryd.prog.types.size)) = true := by kernel_rfl
set_option maxRecDepth 100000 in
theorem lifted (os : Os) (started : os.Started) (H : Type) (enc : TypeId × Value → H) :
    ReturnsInHanded {} Tryd.checked os 5 .any (fun w args => (Rows.connectPathsSpec.pre enc Tryd.prog Tryd.f5 [] false w args ∧ laidMetH Tryd.prog tabLaid w) ∧ sizedMet enc Tryd.prog Tryd.f5 (OpenSpec.ofChange Rows.connectPathsSpec) false w args)
      (Rows.connectPathsSpec.post enc Tryd.prog Tryd.f5 false true false false) := by
  refine returnsInHanded_of_change_and (C := Tryd.checked) (X := fun w _ => laidMetH Tryd.prog tabLaid w) (fun _ _ _ hh h => h.of_heap hh) own started (by kernel_rfl) Tryd.func5
    (ChangeSpec.witness_shaped (enc := enc) (C := Tryd.checked) (os := os) (X := fun w _ => laidMetH Tryd.prog tabLaid w) false (World.doorLaid Tryd.prog 1000 os) #[((Tryd.prog.info? 42).bind (·.zero)).getD default, ((Tryd.prog.info? 9).bind (·.zero)).getD default, ((Tryd.prog.info? 9).bind (·.zero)).getD default, ((Tryd.prog.info? 3).bind (·.zero)).getD default] 8 rfl (World.shaped_of_RefB (by kernel_rfl) (by kernel_rfl)) (by kernel_rfl) (by kernel_rfl) (by kernel_rfl) (tab_door os _)) ?_
  intro W base args ds gs before hval0 hW _ _ hL _
  have hval : ∀ (j : Nat) t v, Tryd.f5.params[j]? = some t → args[j]? = some v → Value.okWide Tryd.prog W .any base t v := hval0
  have hW' := hW
  obtain ⟨p, q, hA0, hV, rfl, hfz, hnd⟩ := hW
  have hA : DataW.TrodAll enc Tryd.prog W 0 (fun _ => true) true Tryd.f5.params.toList args.toList ds p := hA0
  rw [Tryd.params5] at hA hval
  have hB := hA
  have hlt := hA.lt
  obtain ⟨v0, vs0, d0, ds0, p0, q0, hargs, rfl, rfl, h0, r0⟩ := trodAll_cons hA
  obtain ⟨v1, vs1, d1, ds1, p1, q1, rfl, rfl, rfl, h1, r1⟩ := trodAll_cons r0
  obtain ⟨v2, vs2, d2, ds2, p2, q2, rfl, rfl, rfl, h2, r2⟩ := trodAll_cons r1
  obtain ⟨v3, vs3, d3, ds3, p3, q3, rfl, rfl, rfl, h3, r3⟩ := trodAll_cons r2
  obtain ⟨rfl, rfl, rfl⟩ := trodAll_nil r3
  obtain rfl : args = #[v0, v1, v2, v3] := by cases args; simp_all
  obtain ⟨rfl, rfl⟩ := trodVars_none hV
  obtain ⟨xs, hT, hR, hP⟩ := args_of_trod (I := fun g => g < W.heap.size) plain_types (fun _ h => h) (us := [42, 9, 9, 3]) (vs := [v0, v1, v2, v3]) (fun t h => by simpa using List.all_eq_true.1 in_types t h) (fun j t v h k => hval j t v (by simpa using h) (by simpa using k)) hB
  have hl := no_has hL
  have fin : ∀ (e : Ending) W', e = .returned (.bool true) ∧ Below W.heap.size W W' → ∃ v, e = .returned v ∧ Rows.connectPathsSpec.post enc Tryd.prog Tryd.f5 false true false false W #[v0, v1, v2, v3] v W' := by
    rintro e W' ⟨he, bel⟩
    subst he
    exact ⟨_, rfl, _, _, _, [], _, [], hW', trodAll_mk1 (shut_bool Tryd.underlying4 _), stay_all laid_out bel read_types hB hlt, rfl, bel.frame _, fun h => by cases h⟩
  exact (ConnectPaths_walk hT hR hP).mono fun e W' h => fin e W' h

set_option maxHeartbeats 8000000 in
theorem closed : joinedFacts Tryd.pinned.checked.prog 5 Tryd.f5 Rows.connectPathsSpec Rows.connectPathsRow = true := by
  unfold joinedFacts
  simp only [Bool.and_eq_true]
  repeat' apply And.intro
  all_goals (as_aux_lemma => kernel_rfl)
theorem over : Rows.ConnectPathsSaid :=
  OpenClaim.holds_of_wide 5 Tryd.f5 rfl rfl rfl rfl rfl rfl rfl ⟨rfl, rfl, rfl, rfl, rfl⟩ rfl rfl rfl rfl rfl (by kernel_rfl) Tryd.func5 closed
    (of_decide_eq_true (by kernel_rfl)) (by unfold Func.isWrapper; first | (rw [if_pos (by decide +kernel)]; kernel_rfl) | (rw [if_neg (by decide +kernel)]; exact ⟨rfl, rfl⟩))
    (fun os started H enc _ => lifted os started H enc)

theorem proved : Rows.ConnectPathsCardSaid :=
  Claim7.holds_tied_plain_at .later [] [.data, .data, .data] true Rows.connectPathsCard.stood.harness false
    over (fun _ h => by cases h) (by kernel_rfl) (fun _ h => by cases h) connectPaths_row_tie rfl ⟨rfl, rfl⟩ (by kernel_rfl) rfl
    (fun f fn hf hfn => by
      obtain rfl : f = 5 := Option.some.inj ((show Tryd.prog.funcNamed "airline/airlinelaw11.ConnectPaths" = some 5 by kernel_rfl).symm.trans hf) |>.symm
      obtain rfl : fn = Tryd.f5 := (Option.some.inj (Tryd.func5.symm.trans hfn)).symm
      exact ⟨by kernel_rfl, fun j t ht => by
        rw [Tryd.params5] at ht
        have hm : t ∈ [42, 9, 9, 3] := by simpa using Array.mem_of_getElem? ht
        have hall : ([42, 9, 9, 3].all fun u => !Tryd.prog.wantsStandIn u) = true := by kernel_rfl
        exact (show Tryd.prog.wantsStandIn t = false by simpa using List.all_eq_true.1 hall t hm)⟩)
    (by kernel_rfl)
#print axioms proved
end connectPaths
end Go.Proofs.YtgomkmamgflbeaaDoor
