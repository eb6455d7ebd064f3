/-
  What plain data of configurations, identifiers of legs and calls are.
  Parameters of the laws of the inventory: configurations and calls, as data.
-/
import Derived.Test.YtajhgnefcddenaaGreatDoorZg
import Derived.Test.YtajhgnefcddenaaGreatDoorSkT
import Derived.Test.YtajhgnefcddenaaGreatDoorSkV
import Derived.Test.YtajhgnefcddenaaGreatDoorEval
import Derived.Test.YtajhgnefcddenaaGreatDoorWq
import Derived.Test.YtajhgnefcddenaaGreatDoorFrameO
import Derived.Test.YtajhgnefcddenaaGreatDoorTod
namespace Go.Proofs.YtajhgnefcddenaaGreatDoor
open Go Dm Go.RowKit
set_option linter.unusedSimpArgs false

theorem u8_bd {n : Int} (h : (Lit.int .u8 n).wf = true) : 0 ≤ n ∧ n ≤ 255 := by
  unfold Lit.wf at h
  rw [Bool.and_eq_true, decide_eq_true_eq, decide_eq_true_eq] at h
  exact h
theorem i8_bd {n : Int} (h : (Lit.int .i8 n).wf = true) : -128 ≤ n ∧ n ≤ 127 := by
  unfold Lit.wf at h
  rw [Bool.and_eq_true, decide_eq_true_eq, decide_eq_true_eq] at h
  exact h
theorem cells_gint : Tryz.prog.cellsOf 3 = 1 := by kernel_rfl
theorem cells_gstr : Tryz.prog.cellsOf 9 = 1 := by kernel_rfl
theorem cells_gu8 : Tryz.prog.cellsOf 5 = 1 := by kernel_rfl
theorem cells_gi8 : Tryz.prog.cellsOf 61 = 1 := by kernel_rfl
theorem cells_Cls : Tryz.prog.cellsOf 81 = 2 := by kernel_rfl
theorem cells_Cab : Tryz.prog.cellsOf 84 = 4 := by kernel_rfl
theorem cells_slClass : Tryz.prog.cellsOf 82 = 1 := by kernel_rfl
theorem cells_Cfg : Tryz.prog.cellsOf 87 = 2 := by kernel_rfl
theorem cells_slCabin : Tryz.prog.cellsOf 85 = 1 := by kernel_rfl
theorem cells_Lid : Tryz.prog.cellsOf 50 = 4 := by kernel_rfl
theorem cells_Axn : Tryz.prog.cellsOf 63 = 6 := by kernel_rfl
set_option maxHeartbeats 1000000 in
set_option maxRecDepth 100000 in
theorem Cls_of {c : List D} (h : TC Tryz.prog 81 c) : ∃ r : Cls, CellR c r.enc ∧ r.Ok := by
  obtain ⟨hl, hf⟩ := h.toStruct Tryz.underlying81
  rw [cells_Cls] at hl
  obtain ⟨a0, a1, rfl⟩ : ∃ a0 a1, c = [a0, a1] := by
    clear hf h
    match c, hl with
    | [a0, a1], _ => exact ⟨a0, a1, rfl⟩
  simp only [List.mem_cons, List.not_mem_nil, or_false, forall_eq_or_imp, forall_eq, cells_gint, cells_gstr, cells_gu8, cells_gi8, cells_Cls, cells_Cab, cells_slClass, cells_Cfg, cells_slCabin, cells_Lid, cells_Axn, List.drop_succ_cons, List.drop_zero, List.take_succ_cons, List.take_zero] at hf
  obtain ⟨h0, h1⟩ := hf
  obtain ⟨s2, e2, z2⟩ := h0.toStr Tryz.underlying9
  obtain ⟨s3, e3, z3⟩ := h1.toInt Tryz.underlying3
  simp only [List.cons.injEq, and_true] at e2 e3
  subst e2 e3
  refine ⟨⟨s2, s3⟩, ⟨rfl, fun j c c' hc hc' => ?_⟩, len_bd z2, int_bd z3, trivial⟩
  match j, hc, hc' with
  | 0, hc, hc' => cases hc; cases hc'; exact ⟨rfl, fun _ _ _ h => h⟩
  | 1, hc, hc' => cases hc; cases hc'; exact ⟨rfl, fun _ _ _ h => h⟩
  | j + 2, hc, hc' => simp at hc
set_option maxHeartbeats 1000000 in
set_option maxRecDepth 100000 in
theorem Cab_of {c : List D} (h : TC Tryz.prog 84 c) : ∃ r : Cab, CellR c r.enc ∧ r.Ok := by
  obtain ⟨hl, hf⟩ := h.toStruct Tryz.underlying84
  rw [cells_Cab] at hl
  obtain ⟨a0, a1, a2, a3, rfl⟩ : ∃ a0 a1 a2 a3, c = [a0, a1, a2, a3] := by
    clear hf h
    match c, hl with
    | [a0, a1, a2, a3], _ => exact ⟨a0, a1, a2, a3, rfl⟩
  simp only [List.mem_cons, List.not_mem_nil, or_false, forall_eq_or_imp, forall_eq, cells_gint, cells_gstr, cells_gu8, cells_gi8, cells_Cls, cells_Cab, cells_slClass, cells_Cfg, cells_slCabin, cells_Lid, cells_Axn, List.drop_succ_cons, List.drop_zero, List.take_succ_cons, List.take_zero] at hf
  obtain ⟨h0, h1, h2, h3⟩ := hf
  obtain ⟨s4, e4, z4⟩ := h0.toStr Tryz.underlying9
  obtain ⟨s5, e5, z5⟩ := h1.toInt Tryz.underlying3
  obtain ⟨s6, e6, z6⟩ := h2.toInt Tryz.underlying3
  obtain ⟨l7, x7, z7, v7⟩ := slices_rel (enc := Cls.enc) (n := 2) Tryz.underlying82 cells_Cls (fun c h => Cls_of h) h3
  simp only [List.cons.injEq, and_true] at e4 e5 e6
  subst e4 e5 e6
  refine ⟨⟨s4, s5, s6, l7, x7⟩, ⟨rfl, fun j c c' hc hc' => ?_⟩, len_bd z4, int_bd z5, int_bd z6, z7, trivial⟩
  match j, hc, hc' with
  | 0, hc, hc' => cases hc; cases hc'; exact ⟨rfl, fun _ _ _ h => h⟩
  | 1, hc, hc' => cases hc; cases hc'; exact ⟨rfl, fun _ _ _ h => h⟩
  | 2, hc, hc' => cases hc; cases hc'; exact ⟨rfl, fun _ _ _ h => h⟩
  | 3, hc, hc' => cases hc; cases hc'; exact ⟨rfl, v7⟩
  | j + 4, hc, hc' => simp at hc
set_option maxHeartbeats 1000000 in
set_option maxRecDepth 100000 in
theorem Cfg_of {c : List D} (h : TC Tryz.prog 87 c) : ∃ r : Cfg, CellR c r.enc ∧ r.Ok := by
  obtain ⟨hl, hf⟩ := h.toStruct Tryz.underlying87
  rw [cells_Cfg] at hl
  obtain ⟨a0, a1, rfl⟩ : ∃ a0 a1, c = [a0, a1] := by
    clear hf h
    match c, hl with
    | [a0, a1], _ => exact ⟨a0, a1, rfl⟩
  simp only [List.mem_cons, List.not_mem_nil, or_false, forall_eq_or_imp, forall_eq, cells_gint, cells_gstr, cells_gu8, cells_gi8, cells_Cls, cells_Cab, cells_slClass, cells_Cfg, cells_slCabin, cells_Lid, cells_Axn, List.drop_succ_cons, List.drop_zero, List.take_succ_cons, List.take_zero] at hf
  obtain ⟨h0, h1⟩ := hf
  obtain ⟨s2, e2, z2⟩ := h0.toStr Tryz.underlying9
  obtain ⟨l3, x3, z3, v3⟩ := slices_rel (enc := Cab.enc) (n := 4) Tryz.underlying85 cells_Cab (fun c h => Cab_of h) h1
  simp only [List.cons.injEq, and_true] at e2
  subst e2
  refine ⟨⟨s2, l3, x3⟩, ⟨rfl, fun j c c' hc hc' => ?_⟩, len_bd z2, z3, trivial⟩
  match j, hc, hc' with
  | 0, hc, hc' => cases hc; cases hc'; exact ⟨rfl, fun _ _ _ h => h⟩
  | 1, hc, hc' => cases hc; cases hc'; exact ⟨rfl, v3⟩
  | j + 2, hc, hc' => simp at hc
set_option maxHeartbeats 1000000 in
set_option maxRecDepth 100000 in
theorem Axn_of {c : List D} (h : TC Tryz.prog 63 c) : ∃ r : Axn, CellR c r.enc ∧ r.Ok := by
  obtain ⟨hl, hf⟩ := h.toStruct Tryz.underlying63
  rw [cells_Axn] at hl
  obtain ⟨a0, a1, a2, a3, a4, a5, rfl⟩ : ∃ a0 a1 a2 a3 a4 a5, c = [a0, a1, a2, a3, a4, a5] := by
    clear hf h
    match c, hl with
    | [a0, a1, a2, a3, a4, a5], _ => exact ⟨a0, a1, a2, a3, a4, a5, rfl⟩
  simp only [List.mem_cons, List.not_mem_nil, or_false, forall_eq_or_imp, forall_eq, cells_gint, cells_gstr, cells_gu8, cells_gi8, cells_Cls, cells_Cab, cells_slClass, cells_Cfg, cells_slCabin, cells_Lid, cells_Axn, List.drop_succ_cons, List.drop_zero, List.take_succ_cons, List.take_zero] at hf
  obtain ⟨h0, h1, h2, h3, h4, h5⟩ := hf
  obtain ⟨s6, e6, z6⟩ := h0.toInt Tryz.underlying5
  obtain ⟨s7, e7, z7⟩ := h1.toInt Tryz.underlying5
  obtain ⟨s8, e8, z8⟩ := h2.toInt Tryz.underlying5
  obtain ⟨s9, e9, z9⟩ := h3.toInt Tryz.underlying5
  obtain ⟨s10, e10, z10⟩ := h4.toInt Tryz.underlying5
  obtain ⟨s11, e11, z11⟩ := h5.toInt Tryz.underlying61
  simp only [List.cons.injEq, and_true] at e6 e7 e8 e9 e10 e11
  subst e6 e7 e8 e9 e10 e11
  refine ⟨⟨s6, s7, s8, s9, s10, s11⟩, ⟨rfl, fun j c c' hc hc' => ?_⟩, u8_bd z6, u8_bd z7, u8_bd z8, u8_bd z9, u8_bd z10, i8_bd z11, trivial⟩
  match j, hc, hc' with
  | 0, hc, hc' => cases hc; cases hc'; exact ⟨rfl, fun _ _ _ h => h⟩
  | 1, hc, hc' => cases hc; cases hc'; exact ⟨rfl, fun _ _ _ h => h⟩
  | 2, hc, hc' => cases hc; cases hc'; exact ⟨rfl, fun _ _ _ h => h⟩
  | 3, hc, hc' => cases hc; cases hc'; exact ⟨rfl, fun _ _ _ h => h⟩
  | 4, hc, hc' => cases hc; cases hc'; exact ⟨rfl, fun _ _ _ h => h⟩
  | 5, hc, hc' => cases hc; cases hc'; exact ⟨rfl, fun _ _ _ h => h⟩
  | j + 6, hc, hc' => simp at hc
end Go.Proofs.YtajhgnefcddenaaGreatDoor
namespace Go.Proofs.YtajhgnefcddenaaGreatDoor
open Go Go.ChangeShapes Go.WideShapes Go.ChangeAt Go.RowKit Dm
theorem Cal_of {c : List D} (h : TC Tryz.prog 63 c) : ∃ r : Cal, CellR c r.enc ∧ r.Ok := by
  obtain ⟨⟨k, g, m, e, cl, z⟩, hr, ho⟩ := Axn_of h
  obtain ⟨o1, o2, o3, o4, o5, o6, -⟩ := ho
  dsimp only at o1 o2 o3 o4 o5 o6
  obtain ⟨k, rfl⟩ : ∃ n : Nat, k = n := ⟨k.toNat, by omega⟩
  obtain ⟨g, rfl⟩ : ∃ n : Nat, g = n := ⟨g.toNat, by omega⟩
  obtain ⟨m, rfl⟩ : ∃ n : Nat, m = n := ⟨m.toNat, by omega⟩
  obtain ⟨e, rfl⟩ : ∃ n : Nat, e = n := ⟨e.toNat, by omega⟩
  obtain ⟨cl, rfl⟩ : ∃ n : Nat, cl = n := ⟨cl.toNat, by omega⟩
  exact ⟨⟨k, g, m, e, cl, z⟩, hr, by dsimp only; omega, by dsimp only; omega, by dsimp only; omega, by dsimp only; omega, by dsimp only; omega, by dsimp only; omega, by dsimp only; omega⟩
theorem agg_cfgs : aggT Tryz.prog 22 = some false := by kernel_rfl
theorem agg_acts : aggT Tryz.prog 57 = some false := by kernel_rfl
/-- Configurations. -/
theorem Cfgs_front {d : D} (h : TV Tryz.prog 22 d) {n : Nat} (hn : 9223372036854775807 + 5000 ≤ n) : ∃ (l : List Cfg) (lx : Bool), (∀ c ∈ l, CfgZ (n - 3) c) ∧ ∀ W C v, VR W C d v → VR W C (.sl 2 (l.map Cfg.enc) lx) v := by
  obtain ⟨l, lx, ⟨z1, -⟩, w1⟩ := slices_rel (enc := Cfg.enc) (n := 2) Tryz.underlying22 cells_Cfg (fun c h => Cfg_of h) (h.one agg_cfgs)
  refine ⟨l, lx, fun c hc => ?_, w1⟩
  obtain ⟨e1, ⟨e2, -⟩, -⟩ := z1 c hc
  refine ⟨⟨by omega, e1⟩, fun y hy => ?_, fun y hy z hz => ?_⟩
  · have := (e2 y hy).1
    exact ⟨by omega, this⟩
  · obtain ⟨-, -, -, ⟨e3, -⟩, -⟩ := e2 y hy
    have := (e3 z hz).1
    exact ⟨by omega, this⟩
/-- Calls. -/
theorem Acts_front {d : D} (h : TV Tryz.prog 57 d) : ∃ (acts : List Cal) (ax : Bool), (∀ a ∈ acts, a.Ok) ∧ ∀ W C v, VR W C d v → VR W C (.sl 6 (acts.map Cal.enc) ax) v := by
  obtain ⟨acts, ax, ⟨z2, -⟩, w2⟩ := slices_rel (enc := Cal.enc) (n := 6) Tryz.underlying57 cells_Axn (fun c h => Cal_of h) (h.one agg_acts)
  exact ⟨acts, ax, z2, w2⟩
end Go.Proofs.YtajhgnefcddenaaGreatDoor
