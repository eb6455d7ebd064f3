/-
  Loads as plain data, and the walk of AuditSeats.
-/
import Derived.Test.YthkbiiammhekfaaGreatDoorCfF
import Derived.Test.YthkbiiammhekfaaGreatDoorEnvB
import Derived.Test.YthkbiiammhekfaaGreatDoorAsF
import Derived.Test.YthkbiiammhekfaaGreatDoorFrameB
set_option linter.unusedSimpArgs false
set_option linter.unusedVariables false
namespace Go.Proofs.YthkbiiammhekfaaGreatDoor
open Go Go.ChangeShapes Go.WideShapes Go.ChangeAt Go.RowKit Dm
set_option linter.unusedSimpArgs false
theorem bcells_Cnt : Tryz.prog.cellsOf 140 = 2 := by kernel_rfl
theorem bcells_slCnt : Tryz.prog.cellsOf 61 = 1 := by kernel_rfl
theorem bcells_Ld : Tryz.prog.cellsOf 63 = 7 := by kernel_rfl
set_option maxHeartbeats 1000000 in
set_option maxRecDepth 100000 in
theorem Cnt_ofB {c : List D} (h : TC Tryz.prog 140 c) : ∃ r : ByteArray × Int, CellR c (As.encK r) ∧ True ∧ bulkL (As.encK r) ≤ bulkL c := by
  obtain ⟨hl, hf⟩ := h.toStruct Tryz.underlying140
  rw [bcells_Cnt] at hl
  obtain ⟨a0, a1, rfl⟩ : ∃ a0 a1, c = [a0, a1] := by
    clear hf h
    match c, hl with
    | [a0, a1], _ => exact ⟨a0, a1, rfl⟩
  simp only [List.mem_cons, List.not_mem_nil, or_false, forall_eq_or_imp, forall_eq, bcells_gint, bcells_gstr, bcells_Cnt, bcells_slCnt, bcells_Lid, bcells_Ld, List.drop_succ_cons, List.drop_zero, List.take_succ_cons, List.take_zero] at hf
  obtain ⟨h0, h1⟩ := hf
  obtain ⟨s0, e0, z0⟩ := h0.toStr Tryz.underlying9
  obtain ⟨s1, e1, z1⟩ := h1.toInt Tryz.underlying3
  simp only [List.cons.injEq, and_true] at e0 e1
  subst e0 e1
  refine ⟨(s0, s1), ⟨rfl, fun j c c' hc hc' => ?_⟩, trivial, ?_⟩
  · match j, hc, hc' with
    | 0, hc, hc' => cases hc; cases hc'; exact ⟨rfl, fun _ _ _ h => h⟩
    | 1, hc, hc' => cases hc; cases hc'; exact ⟨rfl, fun _ _ _ h => h⟩
    | j + 2, hc, hc' => simp at hc
  · simp only [As.encK, bulkL, bulkD]; omega
set_option maxHeartbeats 1000000 in
set_option maxRecDepth 100000 in
theorem Ld_ofB {c : List D} (h : TC Tryz.prog 63 c) : ∃ r : As.Ld, CellR c r.enc ∧ True ∧ bulkL r.enc ≤ bulkL c := by
  obtain ⟨hl, hf⟩ := h.toStruct Tryz.underlying63
  rw [bcells_Ld] at hl
  obtain ⟨a0, a1, a2, a3, a4, a5, a6, rfl⟩ : ∃ a0 a1 a2 a3 a4 a5 a6, c = [a0, a1, a2, a3, a4, a5, a6] := by
    clear hf h
    match c, hl with
    | [a0, a1, a2, a3, a4, a5, a6], _ => exact ⟨a0, a1, a2, a3, a4, a5, a6, rfl⟩
  simp only [List.mem_cons, List.not_mem_nil, or_false, forall_eq_or_imp, forall_eq, bcells_gint, bcells_gstr, bcells_Cnt, bcells_slCnt, bcells_Lid, bcells_Ld, List.drop_succ_cons, List.drop_zero, List.take_succ_cons, List.take_zero] at hf
  obtain ⟨h0, h1, h2, h3⟩ := hf
  obtain ⟨-, hw⟩ := h0.toStruct Tryz.underlying50
  simp only [List.mem_cons, List.not_mem_nil, or_false, forall_eq_or_imp, forall_eq, bcells_gint, bcells_gstr, bcells_Cnt, bcells_slCnt, bcells_Lid, bcells_Ld, List.drop_succ_cons, List.drop_zero, List.take_succ_cons, List.take_zero] at hw
  obtain ⟨w0, w1, w2, w3⟩ := hw
  obtain ⟨s0, e0, z0⟩ := w0.toStr Tryz.underlying9
  obtain ⟨s1, e1, z1⟩ := w1.toInt Tryz.underlying3
  obtain ⟨s2, e2, z2⟩ := w2.toInt Tryz.underlying3
  obtain ⟨s3, e3, z3⟩ := w3.toStr Tryz.underlying9
  obtain ⟨s4, e4, z4⟩ := h1.toStr Tryz.underlying9
  obtain ⟨l5, x5, z5, v5, b5⟩ := slices_relB (enc := As.encK) (n := 2) Tryz.underlying61 bcells_Cnt (fun c h => Cnt_ofB h) h2
  obtain ⟨l6, x6, z6, v6, b6⟩ := slices_relB (enc := As.encK) (n := 2) Tryz.underlying61 bcells_Cnt (fun c h => Cnt_ofB h) h3
  simp only [List.cons.injEq, and_true] at e0 e1 e2 e3 e4
  subst e0 e1 e2 e3 e4
  refine ⟨⟨⟨s0, s1, s2, s3⟩, s4, l5, x5, l6, x6⟩, ⟨rfl, fun j c c' hc hc' => ?_⟩, trivial, ?_⟩
  · match j, hc, hc' with
    | 0, hc, hc' => cases hc; cases hc'; exact ⟨rfl, fun _ _ _ h => h⟩
    | 1, hc, hc' => cases hc; cases hc'; exact ⟨rfl, fun _ _ _ h => h⟩
    | 2, hc, hc' => cases hc; cases hc'; exact ⟨rfl, fun _ _ _ h => h⟩
    | 3, hc, hc' => cases hc; cases hc'; exact ⟨rfl, fun _ _ _ h => h⟩
    | 4, hc, hc' => cases hc; cases hc'; exact ⟨rfl, fun _ _ _ h => h⟩
    | 5, hc, hc' => cases hc; cases hc'; exact ⟨rfl, v5⟩
    | 6, hc, hc' => cases hc; cases hc'; exact ⟨rfl, v6⟩
    | j + 7, hc, hc' => simp at hc
  · simp only [As.Ld.enc, bulkL, bulkD]; omega
theorem agg_bloads : aggT Tryz.prog 57 = some false := by kernel_rfl
theorem LoadsB_front {d : D} (h : TV Tryz.prog 57 d) (hb : bulkD d ≤ 1048576) : ∃ (l : List As.Ld) (lx : Bool), l.length ≤ 1048576 ∧ ∀ W C v, VR W C d v → VR W C (.sl 7 (l.map As.Ld.enc) lx) v := by
  obtain ⟨l, lx, z1, w1, b1⟩ := slices_relB (enc := As.Ld.enc) (n := 7) Tryz.underlying57 bcells_Ld (fun c h => Ld_ofB h) (h.one agg_bloads)
  have hl : 1 * (l.map As.Ld.enc).length ≤ bulkLL (l.map As.Ld.enc) := bulk_len fun c hc => by
    obtain ⟨z, -, rfl⟩ := List.mem_map.1 hc
    simp only [As.Ld.enc, bulkL, bulkD]; omega
  rw [List.length_map] at hl
  exact ⟨l, lx, by omega, w1⟩
theorem AuditSeats_walk {W : World} {xs : List D} {vs : Array Value} (ht : TVs Tryz.prog [22, 57] xs) (hv : VRs W ⟨Tryz.prog, fun _ => none, fun g => g < W.heap.size⟩ xs vs.toList) (hb : bulkL xs ≤ 1048576) :
    Calls Tryz.prog 5 vs W fun e W' => e = .returned (.bool true) ∧ Below W.heap.size W W' := by
  obtain ⟨d1, _, rfl, h1, ht⟩ := ht.inv
  obtain ⟨d2, _, rfl, h2, ht⟩ := ht.inv
  have := ht.inv0
  subst this
  simp only [bulkL] at hb
  obtain ⟨v1, v2, hvs⟩ : ∃ v1 v2, vs.toList = [v1, v2] := by
    have := hv.1
    match vs.toList, this with
    | [v1, v2], _ => exact ⟨v1, v2, rfl⟩
  rw [hvs] at hv
  have r1 := hv.head
  have r2 := hv.tail.head
  obtain ⟨l, lx, z1, y1, w1⟩ := CfgsB_front h1 (by omega)
  obtain ⟨es, ex, y2, w2⟩ := LoadsB_front h2 (by omega)
  obtain ⟨T, hT⟩ := As.AuditSeats_d (n := 3000200) (cx := lx) (lx := ex) (Nat.le_refl _) z1 y1 y2
  refine true_of_dcall envOk (I := fun g => g < W.heap.size) hT (fun g h => h) (fun g cs hg => by cases hg) ?_
  rw [hvs]
  exact VRs.cons (w1 _ _ _ r1) (VRs.cons (w2 _ _ _ r2) VRs.nil)
end Go.Proofs.YthkbiiammhekfaaGreatDoor
