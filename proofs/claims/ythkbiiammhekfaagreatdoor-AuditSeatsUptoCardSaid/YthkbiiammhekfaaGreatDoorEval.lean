/-
  The words by which a run of the machine is reckoned out where its data are not all known.
-/
import Derived.Test.YthkbiiammhekfaaGreatDoorTy
set_option linter.unusedSimpArgs false
set_option linter.unusedVariables false
namespace Go.Proofs.YthkbiiammhekfaaGreatDoor.Dm
open Go

attribute [push_cast] codeD runD stepD wantD ylD dOp evD putD fromVal fromCell fromCells D.cells D.one takeC setFrom dPart behind dLoad dStore dFieldAddr dField dIndexAddr dIndex boundN dBounds dSlice dCut3 dInt dStr dBin dUn dConv
  dFill dBuild dBuildSlice chunks reps dLen dMin2 dMins dBuiltin resD tupD srcOf
attribute [push_cast] List.getElem?_toArray beq_self_eq_true BEq.rfl List.map_cons List.map_nil List.getElem?_cons_zero List.getElem?_cons_succ List.set_cons_zero List.set_cons_succ List.cons_append List.nil_append List.append_nil List.length_cons List.length_nil List.replicate_succ List.replicate_zero
  Option.map_some Option.map_none Option.getD_some Option.getD_none Option.bind_some Option.bind_none Option.isSome_some Option.isSome_none decide_true decide_false if_true if_false ite_true ite_false Bool.and_true Bool.true_and Bool.and_false Bool.false_and Bool.or_true Bool.true_or Bool.or_false Bool.false_or Bool.not_true Bool.not_false
  Bool.false_eq_true and_true true_and and_false false_and Option.some.injEq Prod.mk.injEq List.drop_zero List.take_zero List.all_cons List.all_nil List.drop_succ_cons List.take_succ_cons Int.toNat_zero Int.toNat_one
theorem dcall_eq {E : Env} {n : Nat} {f : FuncId} {args : List D} {S : List Ob} {fn : Func} {c : Code} (hf : E.P.funcs[f]? = some fn) (hb : fn.body = some c) (hm : E.mode f ≠ .no) (hp : E.prim f = none) :
    dcall E (n + 1) f args S = match codeD E (dcall E n) n c (args ++ List.replicate (fn.ntmps - args.length) (.tup [])) S with
      | some (.exit _, _, _) => none
      | some (_, a, S') => (resD E.P a S' fn.results.toList).map fun ds => (tupD ds, S')
      | none => none := by
  show (if E.mode f = .no then none else _) = _
  rw [if_neg hm, hp, hf]
  simp only [hb]
  rfl
theorem wrap_ok {x : Int} (h0 : -9223372036854775808 ≤ x) (h1 : x ≤ 9223372036854775807) : IntKind.i64.wrap x = x := by
  rw [IntKind.wrap_i64]; omega
theorem pureL_nil : pureL [] = true := rfl
theorem pureL_cons (d : D) (l : List D) : pureL (d :: l) = (d.pure && pureL l) := rfl
theorem freeze_pure {T : List Ob} {n : Nat} {d : D} (h : d.pure = true) : freeze T (n + 1) d = some d := by
  unfold freeze; rw [if_pos h]
/-- A call at data alone. -/
theorem callD_pure {call : Call} {st : Bool} {S : List Ob} {f : FuncId} {args : List D} {d d' : D} {T : List Ob} (hm : E.mode f = .pure) (hp : pureL args = true) (h : call f args [] = some (d, T)) (hd : freeze T 40 d = some d') : callD E call st S f args = some (d', S) := by
  unfold callD
  rw [hm]
  dsimp only
  rw [if_pos hp, h]
  dsimp only
  rw [hd]
  rfl
/-- Did a call hand back true? -/
def isT : Option (D × List Ob) → Bool
  | some (.bool b, _) => b
  | _ => false
theorem isT_spec {o : Option (D × List Ob)} (h : isT o = true) : ∃ T, o = some (.bool true, T) := by
  unfold isT at h
  split at h
  · subst h; exact ⟨_, rfl⟩
  · cases h
end Go.Proofs.YthkbiiammhekfaaGreatDoor.Dm
