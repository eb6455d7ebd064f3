/-
  slices.Insert of one request, as a known function: whichever capacity the slice has.
-/
import Derived.Test.YthkbiiammhekfaaGreatDoorWq
import Derived.Test.YthkbiiammhekfaaGreatDoorGw
import Derived.Test.YthkbiiammhekfaaGreatDoorEnv
set_option linter.unusedSimpArgs false
set_option linter.unusedVariables false
namespace Go.Proofs.YthkbiiammhekfaaGreatDoor.Dm
open Go Gw
set_option linter.unusedSimpArgs false
set_option linter.unusedSimpArgs false
namespace Wl
theorem ext_ov : E0.ext 152 = some fun S l => (dOverlaps Tryz.prog S 44 l).map (·, S) := by kernel_rfl
theorem set_same {α : Type} {l : List α} {k : Nat} {x y : α} (h : l[k]? = some y) : (l.set k x)[k]? = some x := by
  rw [List.getElem?_set_self ((List.getElem?_eq_some_iff.1 h).1)]
section
variable {m k n c i : Nat} {x : List D} {b : Bool} {es : List (List D)} {S : List Ob}
set_option maxHeartbeats 4000000 in
set_option maxRecDepth 100000 in
theorem Insert_room (hk : S[k]? = some (.row 5 es)) (hes : es.length = n) (hi : i < n) (hn : n ≤ 100000) (hc : n + 1 ≤ c) :
    WO (dcall E0 (m + 1) 120 [.osc k 0 n c, .int .i64 i, .sl 5 [x] b] S) fun d T => d = .osc k 0 (n + 1) c ∧ T = S.set k (.row 5 (es.take i ++ [x] ++ es.drop i)) := by
  refine wo_dcall Tryz.func120 rfl (by decide) rfl 95 rfl (fun a hal ha => ?_)
  have h0 : a[0]? = some (.osc k 0 n c) := ha 0 (by simp)
  have h1 : a[1]? = some (.int .i64 i) := ha 1 (by simp)
  have h2 : a[2]? = some (.sl 5 [x] b) := ha 2 (by simp)
  clear ha
  have q1 : (i : Int) ≤ n := by omega
  have e1 : ((i : Int) + 1).toNat = i + 1 := by omega
  have e2 : ((n : Int) + 1).toNat = n + 1 := by omega
  have q1' : i ≤ n := by omega
  have q2 : ¬ ((i : Int) = n) := by omega
  have q3 : ¬ ((c : Int) < n + 1) := by omega
  have q4 : i < c := by omega
  simp (maxSteps := 1000000) (disch := omega) only [push_cast, ↓wc_seq, ↓wc_condL, ↓wc_region, ↓wr_cons, ↓wr_nil, ↓wo_callf, ↓wc_ret, ↓wc_skip, wo_some, wo_ite, opQ_eq, seqQ_normal, seqQ_ret, retQ_ret, pickC_true, pickC_false, int_beq, Nat.reduceAdd, Nat.reduceMul, Nat.reduceLT, Nat.reduceLeDiff, Nat.reduceEqDiff, Int.reduceAdd, Int.reduceEq, ↓reduceIte, planIds, hasExt, cntFs, idxFs, clnFs, ovlFs, List.contains_cons, List.contains_nil, List.any_cons, List.any_nil, Nat.reduceBEq, setC, List.length_set, reduceCtorEq, eq_self, Int.natCast_nonneg, Int.toNat_natCast, Nat.zero_add, Nat.add_zero, gt_iff_lt, hal, h0, h1, h2, hk, hes, q1', q2, q3, q4, e1, e2, wrap_ok, if_pos, dCap, dCopyA, dCopyC, headOf, lenS, dOverlaps, ext_ov, set_same hk, Option.isNone_none, Option.isSome_none, Option.isSome_some, Tryz.f120]
  have m1 : min (n + 1 - 0 - i) (n + 1 - 0 - (i + 1)) = n - i := by omega
  have m2 : min 1 (n + 1 - 0 - i) = 1 := by omega
  have t1 : (es.drop i).take (n - i) = es.drop i := List.take_of_length_le (by simp; omega)
  have t2 : es.drop (i + 1 + (n - i)) = [] := List.drop_eq_nil_of_le (by omega)
  have l1 : (es.take (i + 1)).length = i + 1 := by simp; omega
  rw [m1, m2, t1, t2, List.append_nil]
  refine ⟨by rw [List.length_append, l1]; omega, rfl, ?_⟩
  rw [List.set_set]
  congr 2
  rw [List.take_append_of_le_length (by omega), List.take_take, Nat.min_eq_left (by omega), List.drop_left' l1]
  rfl
theorem elW : elemT Tryz.prog 44 = some 53 := by kernel_rfl
theorem szW : sizeT Tryz.prog 53 = some 5 := by kernel_rfl
def zW : List D := [.int .i64 0, .nils, .str (ByteArray.mk #[]), .int .i64 0, .int .i64 0]
theorem zeW : zeroT Tryz.prog 53 = some (.agg zW) := by kernel_rfl
theorem byW : bytesT Tryz.prog 53 ≤ 100000 := by
  have : bytesT Tryz.prog 53 = 64 := by kernel_rfl
  rw [this]; omega
theorem make_W (hk : S[k]? = some (.row 5 es)) (hes : es.length = n) (hi : i < n) (hn : n ≤ 100000) (hc : c < n + 1) :
    dAppendMake Tryz.prog S 44 3 (.osc k 0 (i - 0) (c - 0)) (.int .i64 ((n : Int) + 1 - i)) = some (.os S.length 0 (n + 1) false, S ++ [.row 5 (es.take i ++ List.replicate (n + 1 - i) zW)]) := by
  have hm : ((n : Int) + 1 - i).toNat = n + 1 - i := by omega
  have hN : i - 0 + (n + 1 - i) = n + 1 := by omega
  have hb : (n + 1) * bytesT Tryz.prog 53 ≤ 140737488355328 := Nat.le_trans (Nat.mul_le_mul (show n + 1 ≤ 100001 by omega) byW) (by decide)
  unfold dAppendMake
  rw [Tryz.underlying3, elW]
  dsimp only
  rw [szW, zeW]
  dsimp only
  rw [if_pos ⟨rfl, rfl⟩]
  simp only [hk]
  rw [hm, hN, if_pos ⟨trivial, by omega, by omega, by omega, (le_max (by omega)).mpr trivial, hb⟩]
  rfl
set_option maxHeartbeats 4000000 in
set_option maxRecDepth 100000 in
theorem Insert_grow (hk : S[k]? = some (.row 5 es)) (hes : es.length = n) (hi : i < n) (hn : n ≤ 100000) (hc : c < n + 1) (hc0 : n ≤ c) :
    WO (dcall E0 (m + 1) 120 [.osc k 0 n c, .int .i64 i, .sl 5 [x] b] S) fun d T => d = .os S.length 0 (n + 1) false ∧ T = S ++ [.row 5 (es.take i ++ [x] ++ es.drop i)] := by
  refine wo_dcall Tryz.func120 rfl (by decide) rfl 95 rfl (fun a hal ha => ?_)
  have h0 : a[0]? = some (.osc k 0 n c) := ha 0 (by simp)
  have h1 : a[1]? = some (.int .i64 i) := ha 1 (by simp)
  have h2 : a[2]? = some (.sl 5 [x] b) := ha 2 (by simp)
  clear ha
  have q1 : (i : Int) ≤ n := by omega
  have e1 : ((i : Int) + 1).toNat = i + 1 := by omega
  have e2 : ((n : Int) + 1).toNat = n + 1 := by omega
  have q1' : i ≤ n := by omega
  have q2 : ¬ ((i : Int) = n) := by omega
  have q3 : ((c : Int) < n + 1) := by omega
  have q4 : i < c := by omega
  have mk := make_W hk hes hi hn hc
  have q5 : i ≤ n + 1 := by omega
  have q6 : i + 1 ≤ n + 1 := by omega
  have g1 : i + (n + 1 - i) ≤ (List.take i es ++ List.replicate (n + 1 - i) zW).length := by simp; omega
  have hko : ∀ ob, (S ++ [ob])[k]? = some (.row 5 es) := fun ob => get_old hk
  simp (maxSteps := 1000000) (disch := omega) only [push_cast, ↓wc_seq, ↓wc_condL, ↓wc_region, ↓wr_cons, ↓wr_nil, ↓wc_ret, ↓wc_skip, wo_some, wo_ite, opQ_eq, seqQ_normal, seqQ_ret, retQ_ret, pickC_true, pickC_false, int_beq, Nat.reduceAdd, Nat.reduceMul, Nat.reduceLT, Nat.reduceLeDiff, Nat.reduceEqDiff, Int.reduceAdd, Int.reduceEq, ↓reduceIte, planIds, List.contains_cons, List.contains_nil, Nat.reduceBEq, setC, List.length_set, reduceCtorEq, eq_self, Int.natCast_nonneg, Int.toNat_natCast, Nat.zero_add, Nat.add_zero, gt_iff_lt, hal, h0, h1, h2, mk, get_end, set_end, dCopy, q5, q6, g1, hko, hk, hes, q1', q2, q3, q4, e1, wrap_ok, if_pos, if_neg, dCap, dCopyA, Option.isNone_none, Option.isSome_none, Option.isSome_some, Tryz.f120]
  have l0 : (es.take i).length = i := by simp; omega
  have m2 : min 1 (n + 1 - i) = 1 := by omega
  have t1 : (es.drop i).take (n - i) = es.drop i := List.take_of_length_le (by simp; omega)
  have m1 : min (es.drop i).length (n + 1 - (i + 1)) = n - i := by rw [List.length_drop]; omega
  have d1 : (es.take i ++ List.replicate (n + 1 - i) zW).drop (i + 1) = List.replicate (n - i) zW := by
    rw [List.drop_append, l0, List.drop_eq_nil_of_le (by omega), List.nil_append, List.drop_replicate]
    congr 1; omega
  have u1 : (es.take i ++ List.replicate (n + 1 - i) zW).take i = es.take i := by rw [List.take_append_of_le_length (by omega), List.take_take, Nat.min_self]
  rw [m2, t1, m1, d1, u1, t1]
  have l1 : (es.take i ++ [x]).length = i + 1 := by rw [List.length_append, l0]; rfl
  refine ⟨by simp; omega, ?_⟩
  have l2 : (es.take i ++ [x] ++ List.replicate (n - i) zW).length ≤ i + 1 + (n - i) := by rw [List.length_append, l1, List.length_replicate]; omega
  congr 3
  rw [List.take_succ_cons, List.take_zero, List.take_left' l1, List.drop_eq_nil_of_le l2, List.append_nil]
end
/-- An insertion ahead of the end, whichever capacity the slice has. -/
theorem insQ_ok {args : List D} {S S' : List Ob} {d : D} (h : insQ args S = some (d, S')) {W : World} {C : Cx} {vargs : Array Value} (hs : SR W C S) (hP : C.P = E0.P) (hG : GR W C E0.G) (hv : VRs W C args vargs.toList) :
    (∃ fn, E0.P.funcs[120]? = some fn ∧ fn.body.isSome = true) ∧
    Calls E0.P 120 vargs W fun e W' => ∃ v C', e = .returned v ∧ VR W' C' d v ∧ SR W' C' S' ∧ Fr W C S W' C' S' := by
  refine ⟨⟨_, Tryz.func120, rfl⟩, ?_⟩
  unfold insQ at h
  split at h
  case h_2 => cases h
  rename_i k n i x b
  split at h
  case h_2 => cases h
  rename_i es hk
  split at h
  case isFalse => cases h
  rename_i hc
  obtain ⟨hes, hi0, hin, hn⟩ := hc
  cases h
  obtain ⟨i, rfl⟩ : ∃ m : Nat, i = m := ⟨i.toNat, by omega⟩
  rw [Int.toNat_natCast]
  obtain ⟨v0, v1, v2, hvs⟩ : ∃ v0 v1 v2, vargs.toList = [v0, v1, v2] := by
    have := hv.1
    match vargs.toList, this with
    | [v0, v1, v2], _ => exact ⟨v0, v1, v2, rfl⟩
  rw [hvs] at hv
  obtain ⟨g, sz', tot, cap, T, e0, hr, hl, hxx, hx', hx''⟩ := hv.head.of_os
  have htot := hx' rfl
  obtain ⟨⟨rfl, hrest⟩, hnI, hlt⟩ := hs.at hk (by simp) hr
  have hosc : VR W C (.osc k 0 n cap) v0 := by rw [e0]; exact .osc hr hl htot
  have hv' : VRs W C [.osc k 0 n cap, .int .i64 (i : Int), .sl 5 [x] b] vargs.toList := by rw [hvs]; exact VRs.cons hosc hv.tail
  by_cases hroom : n + 1 ≤ cap
  · obtain ⟨d', T', ho, rfl, rfl⟩ := Insert_room (m := 100) (x := x) (b := b) (i := i) hk hes (by omega) (by omega) hroom
    refine ((dcall_ok envOk0 101 _ _ _ _ _ ho W C vargs hs hP hG hv').2).mono ?_
    rintro e W' ⟨v, C', rfl, r1, s1, f1⟩
    have hk' : (S.set k (.row 5 (es.take i ++ [x] ++ es.drop i)))[k]? = some (.row 5 (es.take i ++ [x] ++ es.drop i)) := set_same hk
    cases r1 with
    | osc hr1 hl1 hc1 =>
      rename_i g1 sz1 tot1 T1
      have ob1 := (s1.at (ob := .row 5 (es.take i ++ [x] ++ es.drop i)) hk' (by simp) hr1).1
      obtain ⟨s2, f2⟩ := s1.move (W' := W') (ob := .row 5 (es.take i ++ [x] ++ es.drop i)) (ob' := .row 5 (es.take i ++ [x] ++ es.drop i)) hk' (by simp) hr1 rfl rfl rfl rfl (fun _ _ => rfl) (fun hm => ob1.mono rfl rfl hm)
      rw [List.length_set, List.set_set] at s2 f2
      refine ⟨_, _, rfl, ?_, s2, f1.trans f2⟩
      have hsz := ob1.1
      subst hsz
      exact .os (Cx.add_same _ _ _) hl1 (by simp) (fun _ => hc1) (by omega)
  · obtain ⟨d', T', ho, rfl, rfl⟩ := Insert_grow (m := 100) (x := x) (b := b) (i := i) hk hes (by omega) (by omega) (by omega) hl
    refine ((dcall_ok envOk0 101 _ _ _ _ _ ho W C vargs hs hP hG hv').2).mono ?_
    rintro e W' ⟨v, C', rfl, r1, s1, f1⟩
    obtain ⟨s2, f2⟩ := s1.kill k
    have hkl := (List.getElem?_eq_some_iff.1 hk).1
    rw [List.set_append_left _ _ hkl] at s2 f2
    exact ⟨_, _, rfl, r1, s2, f1.trans f2⟩
theorem ins_ok {args : List D} {S S' : List Ob} {d : D} (h : insP args S = some (d, S')) {W : World} {C : Cx} {vargs : Array Value} (hs : SR W C S) (hP : C.P = E0.P) (hG : GR W C E0.G) (hv : VRs W C args vargs.toList) :
    (∃ fn, E0.P.funcs[120]? = some fn ∧ fn.body.isSome = true) ∧
    Calls E0.P 120 vargs W fun e W' => ∃ v C', e = .returned v ∧ VR W' C' d v ∧ SR W' C' S' ∧ Fr W C S W' C' S' := by
  unfold insP at h
  split at h
  · rename_i r hr
    cases h
    exact insQ_ok hr hs hP hG hv
  · exact dcall_ok envOk0 100 _ _ _ _ _ h W C vargs hs hP hG hv
end Wl
end Go.Proofs.YthkbiiammhekfaaGreatDoor.Dm
