/-
  ShopClasses: The combinations of classes on sale are those of the chapter, and each class can be sold.
  Conditions: the arguments are together of bulk at most 1048576; the package-level variables that the row lists start as the program's text lays them (the card ties them).
-/
import Derived.Test.YtkemehicndccmaaGreatDoorShH
import Derived.Test.YtkemehicndccmaaGreatDoorTie
import Derived.Test.YtkemehicndccmaaGreatDoorCards
import Derived.Test.YtkemehicndccmaaGreatDoorTaA
import Derived.SevenTiedAt
import Derived.Deep.DeepHandedRow
set_option linter.unusedSimpArgs false
set_option linter.unusedVariables false
namespace Go.Proofs.YtkemehicndccmaaGreatDoor
open Go.ChangeShapes Go.WideShapes Go.ChangeAt Go.RowKit
open Dm
namespace shopClasses

theorem plain_types : plainTs Tryz.prog ([38, 3, 3, 39].flatMap Tryz.prog.book) = true := by kernel_rfl
theorem in_types : [38, 3, 3, 39].all (fun t => ([38, 3, 3, 39].flatMap Tryz.prog.book).contains t) = true := by kernel_rfl
theorem laid_out : laidOutB Tryz.prog = true := by kernel_rfl
theorem read_types : [38, 3, 3, 39].all (fun t => Tryz.prog.readableRec t && decide (t < Tryz.prog.types.size)) = true := by kernel_rfl
theorem reads (os : Os) {H : Type} (enc : TypeId × Value → H) : ∃ places, DataW.whole enc Tryz.prog ((World.doorLaid Tryz.prog 1000 os).forCall (fun _ _ => 0) ⟨#[], #[((Tryz.prog.info? 38).bind (·.zero)).getD default, ((Tryz.prog.info? 3).bind (·.zero)).getD default, ((Tryz.prog.info? 3).bind (·.zero)).getD default, ((Tryz.prog.info? 39).bind (·.zero)).getD default], []⟩).memory Tryz.f3.params.toList Rows.shopClassesSpec.vars false #[((Tryz.prog.info? 38).bind (·.zero)).getD default, ((Tryz.prog.info? 3).bind (·.zero)).getD default, ((Tryz.prog.info? 3).bind (·.zero)).getD default, ((Tryz.prog.info? 39).bind (·.zero)).getD default].toList 8 = some ([.agg [.agg [.nil, .nil], .nil, .nil, .nil, .nil, .lit (.int .i64 0), .nil, .agg [.nil, .nil, .nil, .nil]], .lit (.int .i64 0), .lit (.int .i64 0), .agg [.lit (.int .i64 0), .lit (.int .i64 0), .lit (.int .i64 0)]], [], places) :=
  ⟨[], by kernel_rfl⟩
set_option maxRecDepth 100000 in
theorem lifted (os : Os) (started : os.Started) (H : Type) (enc : TypeId × Value → H) (F : Stop.Interp) :
    ReturnsInHanded {} Tryz.checked os 3 .any ((Rows.OpenSpec.upto Rows.shopClassesSpec).preRow enc Tryz.prog Tryz.f3 Rows.shopClassesUptoRow.domain false Rows.shopClassesUptoRow.laid) (((Rows.OpenSpec.upto Rows.shopClassesSpec).at F).post enc Tryz.prog Tryz.f3 false true false false) := by
  obtain ⟨places, hx⟩ := reads os enc
  have hok : Input.okWideB Tryz.checked.prog ((World.doorLaid Tryz.prog 1000 os).forCall (fun _ _ => 0) ⟨#[], #[((Tryz.prog.info? 38).bind (·.zero)).getD default, ((Tryz.prog.info? 3).bind (·.zero)).getD default, ((Tryz.prog.info? 3).bind (·.zero)).getD default, ((Tryz.prog.info? 39).bind (·.zero)).getD default], []⟩) 3 ⟨#[], #[((Tryz.prog.info? 38).bind (·.zero)).getD default, ((Tryz.prog.info? 3).bind (·.zero)).getD default, ((Tryz.prog.info? 3).bind (·.zero)).getD default, ((Tryz.prog.info? 39).bind (·.zero)).getD default], []⟩ = true := by kernel_rfl
  have hsh : ((World.doorLaid Tryz.prog 1000 os).forCall (fun _ _ => 0) ⟨#[], #[((Tryz.prog.info? 38).bind (·.zero)).getD default, ((Tryz.prog.info? 3).bind (·.zero)).getD default, ((Tryz.prog.info? 3).bind (·.zero)).getD default, ((Tryz.prog.info? 39).bind (·.zero)).getD default], []⟩).Shaped Tryz.checked.prog := World.shaped_of_RefB (by kernel_rfl) (by kernel_rfl)
  refine returnsInHanded_of_row (C := Tryz.checked) (s := Rows.OpenSpec.upto Rows.shopClassesSpec) own started (by kernel_rfl) Tryz.func3
    ⟨World.doorLaid Tryz.prog 1000 os, fun _ _ => 0, ⟨#[], #[((Tryz.prog.info? 38).bind (·.zero)).getD default, ((Tryz.prog.info? 3).bind (·.zero)).getD default, ((Tryz.prog.info? 3).bind (·.zero)).getD default, ((Tryz.prog.info? 39).bind (·.zero)).getD default], []⟩, rfl, hsh, (Input.okWide_of_okWideB (base := 0) hok).1, (Input.okWide_of_okWideB hok).2,
      OpenSpec.preRow_of_cond 8 hx (by kernel_rfl) (fun k hk => by cases hk; kernel_rfl) (by kernel_rfl) (tab_door os _), by
        simp only [Assume.holds]
        exact ⟨by simp, by simp, fun _ => Modest.zero, by simp, by simp⟩⟩ ?_
  intro W base args ds gs before hval0 hW _ hcond _ hL _ _
  have hk := hcond _ rfl
  have hval : ∀ (j : Nat) t v, Tryz.f3.params[j]? = some t → args[j]? = some v → Value.okWide Tryz.prog W .any base t v := hval0
  have hW' := hW
  obtain ⟨p, q, hA0, hV, rfl, hfz, hnd⟩ := hW
  have hA : DataW.TrodAll enc Tryz.prog W 0 (fun _ => true) true Tryz.f3.params.toList args.toList ds p := hA0
  rw [Tryz.params3] at hA hval
  have hB := hA
  have hlt := hA.lt
  obtain ⟨v0, vs0, d0, ds0, p0, q0, hargs, rfl, rfl, h0, r0⟩ := trodAll_cons hA
  obtain ⟨v1, vs1, d1, ds1, p1, q1, rfl, rfl, rfl, h1, r1⟩ := trodAll_cons r0
  obtain ⟨v2, vs2, d2, ds2, p2, q2, rfl, rfl, rfl, h2, r2⟩ := trodAll_cons r1
  obtain ⟨v3, vs3, d3, ds3, p3, q3, rfl, rfl, rfl, h3, r3⟩ := trodAll_cons r2
  obtain ⟨rfl, rfl, rfl⟩ := trodAll_nil r3
  obtain rfl : args = #[v0, v1, v2, v3] := by cases args; simp_all
  obtain ⟨rfl, rfl⟩ := trodVars_none hV
  obtain ⟨xs, hT, hR, -, hP0⟩ := args_of_trodB (I := fun g => g < W.heap.size) plain_types (fun _ h => h) (us := [38, 3, 3, 39]) (vs := [v0, v1, v2, v3]) (fun t h => by simpa using List.all_eq_true.1 in_types t h) (fun j t v h k => hval j t v (by simpa using h) (by simpa using k)) hB
  have hP := Nat.le_trans hP0 (bulk_small hk)
  have fin : ∀ (e : Ending) W', e = .returned (.bool true) ∧ Below W.heap.size W W' → ∃ v, e = .returned v ∧ Rows.shopClassesSpec.post enc Tryz.prog Tryz.f3 false true false false W #[v0, v1, v2, v3] v W' := by
    rintro e W' ⟨he, bel⟩
    subst he
    exact ⟨_, rfl, _, _, _, [], _, [], hW', trodAll_mk1 (shut_bool Tryz.underlying4 _), stay_all laid_out bel read_types hB hlt, rfl, bel.frame _, fun h => by cases h⟩
  exact (ShopClasses_walk hT hR hP).mono fun e W' h => fin e W' h

set_option maxHeartbeats 8000000 in
theorem closed : joinedFacts Tryz.pinned.checked.prog 3 Tryz.f3 (Rows.OpenSpec.upto Rows.shopClassesSpec).bare Rows.shopClassesUptoRow = true := by
  unfold joinedFacts
  simp only [Bool.and_eq_true]
  repeat' apply And.intro
  all_goals (as_aux_lemma => kernel_rfl)
theorem over : Rows.ShopClassesUptoSaid :=
  OpenClaim.holds_of_cond 3 Tryz.f3 rfl rfl rfl rfl rfl rfl rfl ⟨rfl, rfl, rfl, rfl, rfl⟩ rfl rfl rfl rfl rfl (by kernel_rfl) Tryz.func3 closed
    (of_decide_eq_true (by kernel_rfl)) (by unfold Func.isWrapper; first | (rw [if_pos (by decide +kernel)]; kernel_rfl) | (rw [if_neg (by decide +kernel)]; exact ⟨rfl, rfl⟩))
    (fun os started H enc _ F => by rw [OpenClaim.pre_eq_preRow]; exact lifted os started H enc F)

theorem proved : Rows.ShopClassesUptoCardSaid :=
  Claim7.holds_tied_plain_at .later [] [.data, .data, .data] true Rows.shopClassesUptoCard.stood.harness false
    over (fun _ h => by cases h) (by kernel_rfl) (fun _ h => by cases h) shopClassesUpto_row_tie rfl ⟨rfl, rfl⟩ (by kernel_rfl) rfl
    (fun f fn hf hfn => by
      obtain rfl : f = 3 := Option.some.inj ((show Tryz.prog.funcNamed "airline/airlinelaw30.ShopClasses" = some 3 by kernel_rfl).symm.trans hf) |>.symm
      obtain rfl : fn = Tryz.f3 := (Option.some.inj (Tryz.func3.symm.trans hfn)).symm
      exact ⟨by kernel_rfl, fun j t ht => by
        rw [Tryz.params3] at ht
        have hm : t ∈ [38, 3, 3, 39] := by simpa using Array.mem_of_getElem? ht
        have hall : ([38, 3, 3, 39].all fun u => !Tryz.prog.wantsStandIn u) = true := by kernel_rfl
        exact (show Tryz.prog.wantsStandIn t = false by simpa using List.all_eq_true.1 hall t hm)⟩)
    (by kernel_rfl)
#print axioms proved
end shopClasses
end Go.Proofs.YtkemehicndccmaaGreatDoor
