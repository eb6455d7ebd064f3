/-
  StockTogether: Sell of two legs succeeds exactly if Sell of each of them alone does, and with an error nothing changes.
  Conditions: the package-level variables that the row lists start as the program's text lays them (the card ties them).
-/
import Derived.Test.YtajhgnefcddenaaGreatDoorStE
import Derived.Test.YtajhgnefcddenaaGreatDoorTie
import Derived.Test.YtajhgnefcddenaaGreatDoorCards
import Derived.SevenTiedAt
namespace Go.Proofs.YtajhgnefcddenaaGreatDoor
open Go.ChangeShapes Go.WideShapes Go.ChangeAt Go.RowKit
open Dm
namespace stockTogether

theorem plain_types : plainTs Tryz.prog ([22, 57, 63].flatMap Tryz.prog.book) = true := by kernel_rfl
theorem in_types : [22, 57, 63].all (fun t => ([22, 57, 63].flatMap Tryz.prog.book).contains t) = true := by kernel_rfl
theorem laid_out : laidOutB Tryz.prog = true := by kernel_rfl
theorem read_types : [22, 57, 63].all (fun t => Tryz.prog.readableRec t && decide (t < Tryz.prog.types.size)) = true := by kernel_rfl
set_option maxRecDepth 100000 in
theorem lifted (os : Os) (started : os.Started) (H : Type) (enc : TypeId × Value → H) :
    ReturnsInHanded {} Tryz.checked os 6 .any (fun w args => (Rows.stockTogetherSpec.pre enc Tryz.prog Tryz.f6 [] false w args ∧ laidMetH Tryz.prog tabLaid w) ∧ sizedMet enc Tryz.prog Tryz.f6 (OpenSpec.ofChange Rows.stockTogetherSpec) false w args)
      (Rows.stockTogetherSpec.post enc Tryz.prog Tryz.f6 false true false false) := by
  refine returnsInHanded_of_change_and (C := Tryz.checked) (X := fun w _ => laidMetH Tryz.prog tabLaid w) (fun _ _ _ hh h => h.of_heap hh) own started (by kernel_rfl) Tryz.func6
    (ChangeSpec.witness_shaped (enc := enc) (C := Tryz.checked) (os := os) (X := fun w _ => laidMetH Tryz.prog tabLaid w) false (World.doorLaid Tryz.prog 1000 os) #[((Tryz.prog.info? 22).bind (·.zero)).getD default, ((Tryz.prog.info? 57).bind (·.zero)).getD default, ((Tryz.prog.info? 63).bind (·.zero)).getD default] 8 rfl (World.shaped_of_RefB (by kernel_rfl) (by kernel_rfl)) (by kernel_rfl) (by kernel_rfl) (by kernel_rfl) (tab_door os _)) ?_
  intro W base args ds gs before hval0 hW _ _ hL _
  have hval : ∀ (j : Nat) t v, Tryz.f6.params[j]? = some t → args[j]? = some v → Value.okWide Tryz.prog W .any base t v := hval0
  have hW' := hW
  obtain ⟨p, q, hA0, hV, rfl, hfz, hnd⟩ := hW
  have hA : DataW.TrodAll enc Tryz.prog W 0 (fun _ => true) true Tryz.f6.params.toList args.toList ds p := hA0
  rw [Tryz.params6] at hA hval
  have hB := hA
  have hlt := hA.lt
  obtain ⟨v0, vs0, d0, ds0, p0, q0, hargs, rfl, rfl, h0, r0⟩ := trodAll_cons hA
  obtain ⟨v1, vs1, d1, ds1, p1, q1, rfl, rfl, rfl, h1, r1⟩ := trodAll_cons r0
  obtain ⟨v2, vs2, d2, ds2, p2, q2, rfl, rfl, rfl, h2, r2⟩ := trodAll_cons r1
  obtain ⟨rfl, rfl, rfl⟩ := trodAll_nil r2
  obtain rfl : args = #[v0, v1, v2] := by cases args; simp_all
  obtain ⟨rfl, rfl⟩ := trodVars_none hV
  obtain ⟨xs, hT, hR, hP⟩ := args_of_trod (I := fun g => g < W.heap.size) plain_types (fun _ h => h) (us := [22, 57, 63]) (vs := [v0, v1, v2]) (fun t h => by simpa using List.all_eq_true.1 in_types t h) (fun j t v h k => hval j t v (by simpa using h) (by simpa using k)) hB
  have hl := no_has hL
  have fin : ∀ (e : Ending) W', e = .returned (.bool true) ∧ Below W.heap.size W W' → ∃ v, e = .returned v ∧ Rows.stockTogetherSpec.post enc Tryz.prog Tryz.f6 false true false false W #[v0, v1, v2] v W' := by
    rintro e W' ⟨he, bel⟩
    subst he
    exact ⟨_, rfl, _, _, _, [], _, [], hW', trodAll_mk1 (shut_bool Tryz.underlying4 _), stay_all laid_out bel read_types hB hlt, rfl, bel.frame _, fun h => by cases h⟩
  exact (StockTogether_walk hT hR hP).mono fun e W' h => fin e W' h

set_option maxHeartbeats 8000000 in
theorem closed : joinedFacts Tryz.pinned.checked.prog 6 Tryz.f6 Rows.stockTogetherSpec Rows.stockTogetherRow = true := by
  unfold joinedFacts
  simp only [Bool.and_eq_true]
  repeat' apply And.intro
  all_goals (as_aux_lemma => kernel_rfl)
theorem over : Rows.StockTogetherSaid :=
  OpenClaim.holds_of_wide 6 Tryz.f6 rfl rfl rfl rfl rfl rfl rfl ⟨rfl, rfl, rfl, rfl, rfl⟩ rfl rfl rfl rfl rfl (by kernel_rfl) Tryz.func6 closed
    (of_decide_eq_true (by kernel_rfl)) (by unfold Func.isWrapper; first | (rw [if_pos (by decide +kernel)]; kernel_rfl) | (rw [if_neg (by decide +kernel)]; exact ⟨rfl, rfl⟩))
    (fun os started H enc _ => lifted os started H enc)

theorem proved : Rows.StockTogetherCardSaid :=
  Claim7.holds_tied_plain_at .later [] [.data, .data, .data] true Rows.stockTogetherCard.stood.harness false
    over (fun _ h => by cases h) (by kernel_rfl) (fun _ h => by cases h) stockTogether_row_tie rfl ⟨rfl, rfl⟩ (by kernel_rfl) rfl
    (fun f fn hf hfn => by
      obtain rfl : f = 6 := Option.some.inj ((show Tryz.prog.funcNamed "airline/airlinelaw15.StockTogether" = some 6 by kernel_rfl).symm.trans hf) |>.symm
      obtain rfl : fn = Tryz.f6 := (Option.some.inj (Tryz.func6.symm.trans hfn)).symm
      exact ⟨by kernel_rfl, fun j t ht => by
        rw [Tryz.params6] at ht
        have hm : t ∈ [22, 57, 63] := by simpa using Array.mem_of_getElem? ht
        have hall : ([22, 57, 63].all fun u => !Tryz.prog.wantsStandIn u) = true := by kernel_rfl
        exact (show Tryz.prog.wantsStandIn t = false by simpa using List.all_eq_true.1 hall t hm)⟩)
    (by kernel_rfl)
#print axioms proved
end stockTogether
end Go.Proofs.YtajhgnefcddenaaGreatDoor
