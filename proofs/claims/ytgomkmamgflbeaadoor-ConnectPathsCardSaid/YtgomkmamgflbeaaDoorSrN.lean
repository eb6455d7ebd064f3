/-
  The machine at the numbers of slices.SortFunc: powers of two, the random ones.
-/
import Derived.Test.YtgomkmamgflbeaaDoorSrA
namespace Go.Proofs.YtgomkmamgflbeaaDoor.Dm
open Go Gw
set_option linter.unusedSimpArgs false

namespace Srt
noncomputable def npB (l : Nat) : Bool :=
  match dcall E 40 93 [.int .i64 l] [] with
  | some (.int .u64 m, _) => decide (l = 0) || (decide ((l : Int) < m) && decide (m ≤ 2 * l))
  | _ => false
noncomputable def blB (l : Nat) : Bool :=
  match dcall E 40 68 [.int .u64 l] [] with
  | some (.int .i64 _, _) => true
  | _ => false
theorem np_0 : (List.range 50).all (fun i => npB (0 + i) && blB (0 + i)) = true := by kernel_rfl
theorem np_1 : (List.range 50).all (fun i => npB (50 + i) && blB (50 + i)) = true := by kernel_rfl
theorem np_2 : (List.range 50).all (fun i => npB (100 + i) && blB (100 + i)) = true := by kernel_rfl
theorem np_3 : (List.range 50).all (fun i => npB (150 + i) && blB (150 + i)) = true := by kernel_rfl
theorem np_4 : (List.range 50).all (fun i => npB (200 + i) && blB (200 + i)) = true := by kernel_rfl
theorem np_5 : (List.range 50).all (fun i => npB (250 + i) && blB (250 + i)) = true := by kernel_rfl
theorem np_6 : (List.range 50).all (fun i => npB (300 + i) && blB (300 + i)) = true := by kernel_rfl
theorem np_7 : (List.range 50).all (fun i => npB (350 + i) && blB (350 + i)) = true := by kernel_rfl
theorem np_8 : (List.range 50).all (fun i => npB (400 + i) && blB (400 + i)) = true := by kernel_rfl
theorem np_9 : (List.range 50).all (fun i => npB (450 + i) && blB (450 + i)) = true := by kernel_rfl
theorem np_10 : (List.range 50).all (fun i => npB (500 + i) && blB (500 + i)) = true := by kernel_rfl
theorem np_11 : (List.range 50).all (fun i => npB (550 + i) && blB (550 + i)) = true := by kernel_rfl
theorem np_12 : (List.range 50).all (fun i => npB (600 + i) && blB (600 + i)) = true := by kernel_rfl
theorem np_13 : (List.range 50).all (fun i => npB (650 + i) && blB (650 + i)) = true := by kernel_rfl
theorem np_14 : (List.range 50).all (fun i => npB (700 + i) && blB (700 + i)) = true := by kernel_rfl
theorem np_15 : (List.range 50).all (fun i => npB (750 + i) && blB (750 + i)) = true := by kernel_rfl
theorem np_16 : (List.range 50).all (fun i => npB (800 + i) && blB (800 + i)) = true := by kernel_rfl
theorem np_17 : (List.range 50).all (fun i => npB (850 + i) && blB (850 + i)) = true := by kernel_rfl
theorem np_18 : (List.range 50).all (fun i => npB (900 + i) && blB (900 + i)) = true := by kernel_rfl
theorem np_19 : (List.range 50).all (fun i => npB (950 + i) && blB (950 + i)) = true := by kernel_rfl
theorem np_20 : (List.range 50).all (fun i => npB (1000 + i) && blB (1000 + i)) = true := by kernel_rfl
theorem np_21 : (List.range 50).all (fun i => npB (1050 + i) && blB (1050 + i)) = true := by kernel_rfl
theorem np_at {l : Nat} (h : l < 1100) : npB l = true ∧ blB l = true := by
  have key : ∀ a, a ≤ l → l < a + 50 → (List.range 50).all (fun i => npB (a + i) && blB (a + i)) = true → npB l = true ∧ blB l = true := fun a h1 h2 ha => by
    have := List.all_eq_true.1 ha (l - a) (List.mem_range.2 (by omega))
    rw [show a + (l - a) = l by omega, Bool.and_eq_true] at this
    exact this
  refine if h0 : l < 50 then key 0 (by omega) (by omega) np_0 else
    if h1 : l < 100 then key 50 (by omega) (by omega) np_1 else
    if h2 : l < 150 then key 100 (by omega) (by omega) np_2 else
    if h3 : l < 200 then key 150 (by omega) (by omega) np_3 else
    if h4 : l < 250 then key 200 (by omega) (by omega) np_4 else
    if h5 : l < 300 then key 250 (by omega) (by omega) np_5 else
    if h6 : l < 350 then key 300 (by omega) (by omega) np_6 else
    if h7 : l < 400 then key 350 (by omega) (by omega) np_7 else
    if h8 : l < 450 then key 400 (by omega) (by omega) np_8 else
    if h9 : l < 500 then key 450 (by omega) (by omega) np_9 else
    if h10 : l < 550 then key 500 (by omega) (by omega) np_10 else
    if h11 : l < 600 then key 550 (by omega) (by omega) np_11 else
    if h12 : l < 650 then key 600 (by omega) (by omega) np_12 else
    if h13 : l < 700 then key 650 (by omega) (by omega) np_13 else
    if h14 : l < 750 then key 700 (by omega) (by omega) np_14 else
    if h15 : l < 800 then key 750 (by omega) (by omega) np_15 else
    if h16 : l < 850 then key 800 (by omega) (by omega) np_16 else
    if h17 : l < 900 then key 850 (by omega) (by omega) np_17 else
    if h18 : l < 950 then key 900 (by omega) (by omega) np_18 else
    if h19 : l < 1000 then key 950 (by omega) (by omega) np_19 else
    if h20 : l < 1050 then key 1000 (by omega) (by omega) np_20 else
    if h21 : l < 1100 then key 1050 (by omega) (by omega) np_21 else
    absurd h (by omega)
theorem np_c {n l : Nat} (hn : 40 ≤ n) (hl : 0 < l) (hl' : l < 1100) : ∃ m : Nat, l < m ∧ m ≤ 2 * l ∧ ∀ st S, callD E (dcall E n) st S 93 [.int .i64 l] = some (.int .u64 m, S) := by
  have h := (np_at hl').1
  unfold npB at h
  split at h
  · rename_i m T he
    have hm : ((l : Int) < m) ∧ m ≤ 2 * l := by
      simp only [Bool.or_eq_true, Bool.and_eq_true, decide_eq_true_eq] at h
      omega
    obtain ⟨q, hq⟩ : ∃ q : Nat, m = q := ⟨m.toNat, by omega⟩
    subst hq
    exact ⟨q, by omega, by omega, fun st S => callD_up hn (callD_pure rfl rfl he rfl)⟩
  · cases h
theorem bl_c {n l : Nat} (hn : 40 ≤ n) (hl' : l < 1100) : ∃ m : Int, ∀ st S, callD E (dcall E n) st S 68 [.int .u64 l] = some (.int .i64 m, S) := by
  have h := (np_at hl').2
  unfold blB at h
  split at h
  · rename_i m T he
    exact ⟨m, fun st S => callD_up hn (callD_pure rfl rfl he rfl)⟩
  · cases h
theorem shl13 (v : Int) : dShift .shl .u64 v 13 = some (.int .u64 (IntKind.u64.wrap (v * 2 ^ 13))) := rfl
theorem shr7 (v : Int) : dShift .shr .u64 v 7 = some (.int .u64 (v.fdiv (2 ^ 7))) := rfl
theorem shl17 (v : Int) : dShift .shl .u64 v 17 = some (.int .u64 (IntKind.u64.wrap (v * 2 ^ 17))) := rfl
theorem and_mask (v : Int) {m : Nat} (h1 : 1 ≤ m) (h2 : m ≤ 4000) : ∃ o : Nat, o < m ∧ IntKind.i64.wrap (IntKind.u64.wrap ((BitVec.ofInt IntKind.u64.bits v &&& BitVec.ofInt IntKind.u64.bits ((m : Int) - 1)).toNat : Int)) = (o : Int) := by
  refine ⟨(BitVec.ofInt IntKind.u64.bits v &&& BitVec.ofInt IntKind.u64.bits ((m : Int) - 1)).toNat, ?_⟩
  have hle : (BitVec.ofInt IntKind.u64.bits v &&& BitVec.ofInt IntKind.u64.bits ((m : Int) - 1)).toNat ≤ m - 1 := by
    rw [BitVec.toNat_and]
    refine Nat.le_trans Nat.and_le_right ?_
    rw [BitVec.toNat_ofInt]
    have : ((m : Int) - 1) % ((2 ^ IntKind.u64.bits : Nat) : Int) = (m : Int) - 1 := Int.emod_eq_of_lt (by omega) (by
      have : ((2 ^ IntKind.u64.bits : Nat) : Int) = 18446744073709551616 := by decide
      omega)
    rw [this]; omega
  generalize (BitVec.ofInt IntKind.u64.bits v &&& BitVec.ofInt IntKind.u64.bits ((m : Int) - 1)).toNat = o at *
  refine ⟨by omega, ?_⟩
  have : IntKind.u64.wrap (o : Int) = (o : Int) := by
    show ((o : Int)) % 18446744073709551616 = o
    omega
  rw [this, wrap_ok (by omega) (by omega)]
set_option maxHeartbeats 4000000 in
set_option maxRecDepth 100000 in
theorem next_d {n q : Nat} {T : List Ob} (hb : Bx .u64 T q) : WO (dcall E (n + 1) 94 [.loc q 0 0] T) fun r T' => ∃ v : Int, r = .int .u64 v ∧ T' = T.set q (.row 1 [[.int .u64 v]]) := by
  obtain ⟨s, hs⟩ := hb
  have hbl : q < T.length := (List.getElem?_eq_some_iff.1 hs).1
  refine wo_dcall Tryd.func94 rfl (by decide) rfl 33 rfl (fun a hal ha => ?_)
  have h0 : a[0]? = some (.loc q 0 0) := ha 0 (by simp)
  clear ha
  simp (maxSteps := 1000000) (disch := omega) only [push_cast, ↓wc_seq, ↓wc_block, ↓wc_scope, ↓wc_condL, ↓wc_region, ↓wr_cons, ↓wr_consgL, ↓wr_nil, ↓wo_pickL, ↓wo_callf, ↓wc_exit, ↓wc_ret, ↓wc_skip, ↓wc_wl, wo_some, wo_none, wo_ite, opQ_eq, seqQ_normal, seqQ_exit, seqQ_ret, blockQ_normal, blockQ_exit, blockQ_ret, iterQ_normal, iterQ_exit, iterQ_ret, retQ_normal, retQ_ret, retQ_exit, pickC_true, pickC_false, pickO_true, pickO_false, gstep_tt, gstep_ff, gstep_tf, gstep_ft, gstep_skip, int_bne, int_beq, decide_not, Nat.reduceAdd, Nat.reduceMul, Nat.reduceSub, Nat.reducePow, Nat.reduceLT, Nat.reduceLeDiff, Nat.reduceEqDiff, Int.reduceToNat, Int.reduceAdd, Int.reduceSub, Int.reduceNeg, Int.reduceMul, Int.reduceLT, Int.reduceLE, Int.reduceEq, le_max, ↓wo_build, ↓wo_buildSlice, evParts, ↓reduceIte, planIds, hasExt, cntFs, idxFs, clnFs, ovlFs, List.contains_cons, List.contains_nil, List.any_cons, List.any_nil, Nat.reduceBEq, setC, List.length_set, decide_eq_true_eq, decide_eq_false_iff_not, true_implies, false_implies, forall_const, reduceCtorEq, eq_self, Int.natCast_nonneg, Int.toNat_natCast, Int.ofNat_lt, D.int.injEq, Option.some.injEq, Nat.zero_add, Nat.add_zero, bne_iff_ne, bne_eq_false_iff_eq, beq_iff_eq, beq_eq_false_iff_ne, gt_iff_lt, ne_eq, not_true_eq_false, not_false_eq_true, planIds, hasExt, cntFs, idxFs, clnFs, ovlFs, List.contains_cons, List.contains_nil, List.any_cons, List.any_nil, Nat.reduceBEq, Nat.reduceMul, Nat.reduceAdd, ↓reduceIte, hal, h0, hs, hbl, shl13, shr7, shl17, List.set_set, Tryd.f94]
  exact ⟨_, rfl, rfl⟩
end Srt
end Go.Proofs.YtgomkmamgflbeaaDoor.Dm
