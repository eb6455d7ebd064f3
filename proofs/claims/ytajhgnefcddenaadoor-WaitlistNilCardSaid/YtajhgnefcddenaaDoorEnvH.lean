/-
  The regions that are run by plans: checked on tables of numbers.
-/
import Derived.Test.YtajhgnefcddenaaDoorEnvL
namespace Go.Proofs.YtajhgnefcddenaaDoor.Dm
open Go

theorem pl_19002013 : linC E0 (.region 2 (opsAt (Tryd.prog.funcs[23]?) 2 13) true) = true :=
  linC_plan (L := []) (p := steps [0, 1, 2, 3, 4, 6, 7, 5, 8, 9, 10, 11, 12] .done) (by as_aux_lemma => kernel_rfl) (planR_of (n := 13) (aft := [[], [], [1], [2], [3], [4], [], [], [7], [5, 6, 8, 5], [0, 0, 1, 2, 3, 4, 5, 6, 7, 8, 9], [10, 0, 1, 2, 3, 4, 5, 6, 7, 8, 9], [11, 9, 9, 0, 1, 2, 3, 4, 5, 6, 7, 8, 9]]) (bf := [0, 0, 2, 6, 14, 30, 0, 0, 128, 510, 1023, 2047, 4095]) (com := [1022, 448, 448, 448, 448, 256, 416, 32, 0, 0, 0, 0, 0]) (by as_aux_lemma => kernel_rfl) (by as_aux_lemma => kernel_rfl) (by as_aux_lemma => kernel_rfl) (by as_aux_lemma => kernel_rfl) (by as_aux_lemma => kernel_rfl) (by as_aux_lemma => kernel_rfl))
theorem lin___airline_waitlist_queue_airline_waitlist_Wait___insert : linF E0 23 = true :=
  linF_of (R := [(2, (opsAt (Tryd.prog.funcs[23]?) 2 13))]) Tryd.func23 rfl [2013] (by as_aux_lemma => kernel_rfl) (by as_aux_lemma => kernel_rfl) (reg_cons pl_19002013 (reg_nil))
theorem lin_heavy : heavyFs.all (linF E0) = true := by
  unfold heavyFs
  refine all_cons' lin___airline_waitlist_queue_airline_waitlist_Wait___insert ?_
  exact rfl
end Go.Proofs.YtajhgnefcddenaaDoor.Dm
