/-
  Configurations as plain data (the first part of XWpL by itself), and how much they hold.
-/
import Derived.Test.YthkbiiammhekfaaGreatDoorZg
import Derived.Test.YthkbiiammhekfaaGreatDoorWbC
import Derived.Test.YthkbiiammhekfaaGreatDoorFrameO
set_option linter.unusedSimpArgs false
set_option linter.unusedVariables false
namespace Go.Proofs.YthkbiiammhekfaaGreatDoor
open Go Go.ChangeShapes Go.WideShapes Go.ChangeAt Go.RowKit Dm
set_option linter.unusedSimpArgs false

theorem list_relB {α : Type} {R : List D → α → Prop} : ∀ {es : List (List D)}, (∀ (j : Nat) (c : List D), es[j]? = some c → ∃ r : α, R c r) → ∃ rs : List α, rs.length = es.length ∧ ∀ (j : Nat) (c : List D) (r : α), es[j]? = some c → rs[j]? = some r → R c r
  | [], _ => ⟨[], rfl, fun j c r h => by simp at h⟩
  | e :: es, h => by
    obtain ⟨r, hr⟩ := h 0 e rfl
    obtain ⟨rs, h1, h2⟩ := list_relB (es := es) fun j c hc => h (j + 1) c (by simpa using hc)
    refine ⟨r :: rs, by simp [h1], fun j c r' hc hr' => ?_⟩
    cases j with
    | zero =>
      have e1 : e = c := by simpa using hc
      have e2 : r = r' := by simpa using hr'
      rw [← e1, ← e2]; exact hr
    | succ j => exact h2 j c r' (by simpa using hc) (by simpa using hr')
theorem bulk_map {α : Type} {enc : α → List D} : ∀ {es : List (List D)} {rs : List α}, rs.length = es.length → (∀ (j : Nat) (c : List D) (r : α), es[j]? = some c → rs[j]? = some r → bulkL (enc r) ≤ bulkL c) → bulkLL (rs.map enc) ≤ bulkLL es
  | [], [], _, _ => Nat.le_refl _
  | e :: es, r :: rs, hl, h => by
    have h0 := h 0 e r rfl rfl
    have := bulk_map (es := es) (rs := rs) (by simpa using hl) (fun j c r h1 h2 => h (j + 1) c r (by simpa using h1) (by simpa using h2))
    simp only [List.map_cons, bulkLL]; omega
  | [], _ :: _, hl, _ => by simp at hl
  | _ :: _, [], hl, _ => by simp at hl
theorem slices_relB {α : Type} {enc : α → List D} {Q : α → Prop} {t e : TypeId} {n : Nat} (ht : Tryz.prog.underlying t = some (.slice e)) (hn : Tryz.prog.cellsOf e = n) (hof : ∀ c, TC Tryz.prog e c → ∃ r : α, CellR c (enc r) ∧ Q r ∧ bulkL (enc r) ≤ bulkL c) {d : D} (h : TC Tryz.prog t [d]) :
    ∃ (l : List α) (x : Bool), (∀ r ∈ l, Q r) ∧ (∀ W C u, VR W C d u → VR W C (.sl n (l.map enc) x) u) ∧ bulkLL (l.map enc) + 1 ≤ bulkD d := by
  rcases h.toSlice ht with h | ⟨es, x, h, hle, hes⟩
  · have : d = .nils := by simpa using h
    subst this
    exact ⟨[], true, (fun r h => by cases h), fun W C u hu => nils_sl hu, Nat.le_refl _⟩
  · rw [hn] at h
    have : d = .sl n es x := by simpa using h
    subst this
    obtain ⟨l, hl, hr⟩ := list_relB (R := fun c r => CellR c (enc r) ∧ Q r ∧ bulkL (enc r) ≤ bulkL c) fun j c hc => hof c (hes j c hc)
    refine ⟨l, x, fun r hm => ?_, fun W C u hu => VR.sl_rel hu (by rw [List.length_map]; exact hl) fun j e e' he he' => ?_, ?_⟩
    · obtain ⟨j, hj⟩ := List.mem_iff_getElem?.1 hm
      have hjl : j < es.length := by rw [← hl]; exact (List.getElem?_eq_some_iff.1 hj).1
      exact (hr j es[j] r (List.getElem?_eq_getElem hjl) hj).2.1
    · rw [List.getElem?_map] at he'
      obtain ⟨r, hr', rfl⟩ := Option.map_eq_some_iff.1 he'
      exact (hr j e r he hr').1
    · have := bulk_map (enc := enc) hl (fun j c r h1 h2 => (hr j c r h1 h2).2.2)
      simp only [bulkD]; omega
theorem bulk_mem {c : List D} : ∀ {es : List (List D)}, c ∈ es → bulkL c ≤ bulkLL es
  | [], h => by cases h
  | e :: es, h => by
    simp only [bulkLL]
    rcases List.mem_cons.1 h with rfl | h
    · omega
    · have := bulk_mem h; omega
theorem bulk_len {m : Nat} : ∀ {es : List (List D)}, (∀ c ∈ es, m ≤ bulkL c) → m * es.length ≤ bulkLL es
  | [], _ => by simp [bulkLL]
  | e :: es, h => by
    have h0 := h e (by simp)
    have := bulk_len (es := es) (fun c hc => h c (by simp [hc]))
    simp only [bulkLL, List.length_cons, Nat.mul_add]; omega
theorem bcells_gint : Tryz.prog.cellsOf 3 = 1 := by kernel_rfl
theorem bcells_gstr : Tryz.prog.cellsOf 9 = 1 := by kernel_rfl
theorem bcells_Cls : Tryz.prog.cellsOf 70 = 2 := by kernel_rfl
theorem bcells_Cab : Tryz.prog.cellsOf 73 = 4 := by kernel_rfl
theorem bcells_slClass : Tryz.prog.cellsOf 71 = 1 := by kernel_rfl
theorem bcells_Cfg : Tryz.prog.cellsOf 76 = 2 := by kernel_rfl
theorem bcells_slCabin : Tryz.prog.cellsOf 74 = 1 := by kernel_rfl
theorem bcells_Lid : Tryz.prog.cellsOf 50 = 4 := by kernel_rfl
theorem bcells_slLeg : Tryz.prog.cellsOf 38 = 1 := by kernel_rfl
set_option maxHeartbeats 1000000 in
set_option maxRecDepth 100000 in
theorem Cls_ofB {c : List D} (h : TC Tryz.prog 70 c) : ∃ r : Cls, CellR c r.enc ∧ (True) ∧ bulkL r.enc ≤ bulkL c := by
  obtain ⟨hl, hf⟩ := h.toStruct Tryz.underlying70
  rw [bcells_Cls] at hl
  obtain ⟨a0, a1, rfl⟩ : ∃ a0 a1, c = [a0, a1] := by
    clear hf h
    match c, hl with
    | [a0, a1], _ => exact ⟨a0, a1, rfl⟩
  simp only [List.mem_cons, List.not_mem_nil, or_false, forall_eq_or_imp, forall_eq, bcells_gint, bcells_gstr, bcells_Cls, bcells_Cab, bcells_slClass, bcells_Cfg, bcells_slCabin, bcells_Lid, bcells_slLeg, List.drop_succ_cons, List.drop_zero, List.take_succ_cons, List.take_zero] at hf
  obtain ⟨h0, h1⟩ := hf
  obtain ⟨s0, e0, z0⟩ := h0.toStr Tryz.underlying9
  obtain ⟨s1, e1, z1⟩ := h1.toInt Tryz.underlying3
  simp only [List.cons.injEq, and_true] at e0 e1
  subst e0 e1
  refine ⟨⟨s0, s1⟩, ⟨rfl, fun j c c' hc hc' => ?_⟩, trivial, ?_⟩
  · match j, hc, hc' with
    | 0, hc, hc' => cases hc; cases hc'; exact ⟨rfl, fun _ _ _ h => h⟩
    | 1, hc, hc' => cases hc; cases hc'; exact ⟨rfl, fun _ _ _ h => h⟩
    | j + 2, hc, hc' => simp at hc
  · simp only [Cls.enc, bulkL, bulkD]; omega
set_option maxHeartbeats 1000000 in
set_option maxRecDepth 100000 in
theorem Cab_ofB {c : List D} (h : TC Tryz.prog 73 c) : ∃ r : Cab, CellR c r.enc ∧ (True) ∧ bulkL r.enc ≤ bulkL c := by
  obtain ⟨hl, hf⟩ := h.toStruct Tryz.underlying73
  rw [bcells_Cab] at hl
  obtain ⟨a0, a1, a2, a3, rfl⟩ : ∃ a0 a1 a2 a3, c = [a0, a1, a2, a3] := by
    clear hf h
    match c, hl with
    | [a0, a1, a2, a3], _ => exact ⟨a0, a1, a2, a3, rfl⟩
  simp only [List.mem_cons, List.not_mem_nil, or_false, forall_eq_or_imp, forall_eq, bcells_gint, bcells_gstr, bcells_Cls, bcells_Cab, bcells_slClass, bcells_Cfg, bcells_slCabin, bcells_Lid, bcells_slLeg, List.drop_succ_cons, List.drop_zero, List.take_succ_cons, List.take_zero] at hf
  obtain ⟨h0, h1, h2, h3⟩ := hf
  obtain ⟨s0, e0, z0⟩ := h0.toStr Tryz.underlying9
  obtain ⟨s1, e1, z1⟩ := h1.toInt Tryz.underlying3
  obtain ⟨s2, e2, z2⟩ := h2.toInt Tryz.underlying3
  obtain ⟨l3, x3, z3, v3, b3⟩ := slices_relB (enc := Cls.enc) (n := 2) Tryz.underlying71 bcells_Cls (fun c h => Cls_ofB h) h3
  simp only [List.cons.injEq, and_true] at e0 e1 e2
  subst e0 e1 e2
  refine ⟨⟨s0, s1, s2, l3, x3⟩, ⟨rfl, fun j c c' hc hc' => ?_⟩, trivial, ?_⟩
  · match j, hc, hc' with
    | 0, hc, hc' => cases hc; cases hc'; exact ⟨rfl, fun _ _ _ h => h⟩
    | 1, hc, hc' => cases hc; cases hc'; exact ⟨rfl, fun _ _ _ h => h⟩
    | 2, hc, hc' => cases hc; cases hc'; exact ⟨rfl, fun _ _ _ h => h⟩
    | 3, hc, hc' => cases hc; cases hc'; exact ⟨rfl, v3⟩
    | j + 4, hc, hc' => simp at hc
  · simp only [Cab.enc, bulkL, bulkD]; omega
set_option maxHeartbeats 1000000 in
set_option maxRecDepth 100000 in
theorem Cfg_ofB {c : List D} (h : TC Tryz.prog 76 c) : ∃ r : Cfg, CellR c r.enc ∧ (True) ∧ bulkL r.enc ≤ bulkL c := by
  obtain ⟨hl, hf⟩ := h.toStruct Tryz.underlying76
  rw [bcells_Cfg] at hl
  obtain ⟨a0, a1, rfl⟩ : ∃ a0 a1, c = [a0, a1] := by
    clear hf h
    match c, hl with
    | [a0, a1], _ => exact ⟨a0, a1, rfl⟩
  simp only [List.mem_cons, List.not_mem_nil, or_false, forall_eq_or_imp, forall_eq, bcells_gint, bcells_gstr, bcells_Cls, bcells_Cab, bcells_slClass, bcells_Cfg, bcells_slCabin, bcells_Lid, bcells_slLeg, List.drop_succ_cons, List.drop_zero, List.take_succ_cons, List.take_zero] at hf
  obtain ⟨h0, h1⟩ := hf
  obtain ⟨s0, e0, z0⟩ := h0.toStr Tryz.underlying9
  obtain ⟨l1, x1, z1, v1, b1⟩ := slices_relB (enc := Cab.enc) (n := 4) Tryz.underlying74 bcells_Cab (fun c h => Cab_ofB h) h1
  simp only [List.cons.injEq, and_true] at e0
  subst e0
  refine ⟨⟨s0, l1, x1⟩, ⟨rfl, fun j c c' hc hc' => ?_⟩, trivial, ?_⟩
  · match j, hc, hc' with
    | 0, hc, hc' => cases hc; cases hc'; exact ⟨rfl, fun _ _ _ h => h⟩
    | 1, hc, hc' => cases hc; cases hc'; exact ⟨rfl, v1⟩
    | j + 2, hc, hc' => simp at hc
  · simp only [Cfg.enc, bulkL, bulkD]; omega
theorem Cfg_bound {c : Cfg} (h : bulkL c.enc ≤ 1048576) : Wb.CfgB c := by
  simp only [Cfg.enc, bulkL, bulkD] at h
  have hl : 4 * (c.cabs.map Cab.enc).length ≤ bulkLL (c.cabs.map Cab.enc) := bulk_len fun e he => by
    obtain ⟨y, -, rfl⟩ := List.mem_map.1 he
    simp only [Cab.enc, bulkL, bulkD]; omega
  rw [List.length_map] at hl
  have hy : ∀ y ∈ c.cabs, bulkL y.enc ≤ bulkLL (c.cabs.map Cab.enc) := fun y hy => bulk_mem (List.mem_map.2 ⟨y, hy, rfl⟩)
  refine ⟨by omega, fun y h' => ?_, fun y h' z hz => ?_, by omega, fun y h' => ?_⟩
  · have := hy y h'
    simp only [Cab.enc, bulkL, bulkD] at this; omega
  · have h1 := hy y h'
    have h2 := bulk_mem (c := z.enc) (es := y.cls.map Cls.enc) (List.mem_map.2 ⟨z, hz, rfl⟩)
    simp only [Cab.enc, bulkL, bulkD] at h1
    simp only [Cls.enc, bulkL, bulkD] at h2
    omega
  · have h1 := hy y h'
    simp only [Cab.enc, bulkL, bulkD] at h1
    have h2 : 1 * (y.cls.map Cls.enc).length ≤ bulkLL (y.cls.map Cls.enc) := bulk_len fun e he => by
      obtain ⟨z, -, rfl⟩ := List.mem_map.1 he
      simp only [Cls.enc, bulkL, bulkD]; omega
    rw [List.length_map] at h2
    omega
theorem agg_bcfgs : aggT Tryz.prog 22 = some false := by kernel_rfl
theorem CfgsB_front {d : D} (h : TV Tryz.prog 22 d) (hb : bulkD d ≤ 1048576) : ∃ (l : List Cfg) (lx : Bool), (∀ c ∈ l, Wb.CfgB c) ∧ l.length ≤ 1048576 ∧ ∀ W C v, VR W C d v → VR W C (.sl 2 (l.map Cfg.enc) lx) v := by
  obtain ⟨l, lx, -, w1, b1⟩ := slices_relB (enc := Cfg.enc) (n := 2) Tryz.underlying22 bcells_Cfg (fun c h => Cfg_ofB h) (h.one agg_bcfgs)
  have hl : 1 * (l.map Cfg.enc).length ≤ bulkLL (l.map Cfg.enc) := bulk_len fun c hc => by
    obtain ⟨z, -, rfl⟩ := List.mem_map.1 hc
    simp only [Cfg.enc, bulkL, bulkD]; omega
  rw [List.length_map] at hl
  exact ⟨l, lx, fun c hc => Cfg_bound (by have := bulk_mem (c := c.enc) (es := l.map Cfg.enc) (List.mem_map.2 ⟨c, hc, rfl⟩); omega), by omega, w1⟩
end Go.Proofs.YthkbiiammhekfaaGreatDoor
