/-
  The walk of AuditMoney.
-/
import Derived.Test.YtgfbblpkddahbaaDoorMoM
import Derived.Test.YtgfbblpkddahbaaDoorAuZ
namespace Go.Proofs.YtgfbblpkddahbaaDoor
open Go Go.ChangeShapes Go.WideShapes Go.ChangeAt Go.RowKit Dm

theorem VR.nils_sl {W : World} {C : Cx} {v : Value} {sz : Nat} (h : VR W C .nils v) : VR W C (.sl sz [] true) v := by
  cases h
  exact .sl0 (fun _ => rfl)
theorem cells_pst : Tryd.prog.cellsOf 102 = 2 := by kernel_rfl
theorem cells_tkt : Tryd.prog.cellsOf 30 = 10 := by kernel_rfl
theorem cells_cpn : Tryd.prog.cellsOf 112 = 11 := by kernel_rfl
set_option maxRecDepth 100000 in
theorem pst_of {c : List D} (h : TC Tryd.prog 102 c) : ∃ r : Pst, c = r.enc := by
  obtain ⟨hl, hf⟩ := h.toStruct Tryd.underlying102
  rw [cells_pst] at hl
  obtain ⟨p, q, rfl⟩ : ∃ p q, c = [p, q] := by
    clear hf
    match c, hl with
    | [p, q], _ => exact ⟨p, q, rfl⟩
  simp only [List.mem_cons, List.not_mem_nil, or_false, forall_eq_or_imp, forall_eq, cells_int, cells_str, List.drop_succ_cons, List.drop_zero, List.take_succ_cons, List.take_zero] at hf
  obtain ⟨h1, h2⟩ := hf
  obtain ⟨s, e1, -⟩ := h1.toStr Tryd.underlying9
  obtain ⟨n, e2, -⟩ := h2.toInt Tryd.underlying3
  exact ⟨⟨s, n⟩, by simp_all [Pst.enc]⟩
theorem cells_want : Tryd.prog.cellsOf 110 = 8 := by kernel_rfl
theorem cells_seg : Tryd.prog.cellsOf 87 = 7 := by kernel_rfl
theorem cells_person : Tryd.prog.cellsOf 26 = 3 := by kernel_rfl
theorem cells_cpns : Tryd.prog.cellsOf 27 = 1 := by kernel_rfl
theorem cells_chgs : Tryd.prog.cellsOf 28 = 1 := by kernel_rfl
set_option maxHeartbeats 1000000 in
set_option maxRecDepth 100000 in
theorem cpn_of {c : List D} (h : TC Tryd.prog 112 c) : ∃ r : Cpn, c = r.enc := by
  obtain ⟨hl, hf⟩ := h.toStruct Tryd.underlying112
  rw [cells_cpn] at hl
  obtain ⟨a0, a1, a2, a3, a4, a5, a6, a7, a8, a9, b0, rfl⟩ : ∃ a0 a1 a2 a3 a4 a5 a6 a7 a8 a9 b0, c = [a0, a1, a2, a3, a4, a5, a6, a7, a8, a9, b0] := by
    clear hf h
    match c, hl with
    | [a0, a1, a2, a3, a4, a5, a6, a7, a8, a9, b0], _ => exact ⟨a0, a1, a2, a3, a4, a5, a6, a7, a8, a9, b0, rfl⟩
  simp only [List.mem_cons, List.not_mem_nil, or_false, forall_eq_or_imp, forall_eq, cells_int, cells_str, cells_want, List.drop_succ_cons, List.drop_zero, List.take_succ_cons, List.take_zero] at hf
  obtain ⟨h1, h2, h3, h4⟩ := hf
  obtain ⟨-, hw⟩ := h1.toStruct Tryd.underlying110
  simp only [List.mem_cons, List.not_mem_nil, or_false, forall_eq_or_imp, forall_eq, cells_int, cells_str, cells_seg, List.drop_succ_cons, List.drop_zero, List.take_succ_cons, List.take_zero] at hw
  obtain ⟨hs, hc⟩ := hw
  obtain ⟨-, hg⟩ := hs.toStruct Tryd.underlying87
  simp only [List.mem_cons, List.not_mem_nil, or_false, forall_eq_or_imp, forall_eq, cells_int, cells_str, List.drop_succ_cons, List.drop_zero, List.take_succ_cons, List.take_zero] at hg
  obtain ⟨g0, g1, g2, g3, g4, g5, g6⟩ := hg
  obtain ⟨s0, e0, -⟩ := g0.toStr Tryd.underlying9
  obtain ⟨s1, e1, -⟩ := g1.toInt Tryd.underlying3
  obtain ⟨s2, e2, -⟩ := g2.toInt Tryd.underlying3
  obtain ⟨s3, e3, -⟩ := g3.toStr Tryd.underlying9
  obtain ⟨s4, e4, -⟩ := g4.toStr Tryd.underlying9
  obtain ⟨s5, e5, -⟩ := g5.toInt Tryd.underlying3
  obtain ⟨s6, e6, -⟩ := g6.toInt Tryd.underlying3
  obtain ⟨s7, e7, -⟩ := hc.toStr Tryd.underlying9
  obtain ⟨s8, e8, -⟩ := h2.toStr Tryd.underlying9
  obtain ⟨s9, e9, -⟩ := h3.toInt Tryd.underlying3
  obtain ⟨t0, f0, -⟩ := h4.toInt Tryd.underlying3
  exact ⟨⟨s0, s1, s2, s3, s4, s5, s6, s7, s8, s9, t0⟩, by simp_all [Cpn.enc]⟩
theorem cpns_of {d : D} (h : TC Tryd.prog 27 [d]) : ∃ cps : List Cpn, (d = .nils ∧ cps = []) ∨ ∃ x, d = .sl 11 (cps.map Cpn.enc) x := by
  rcases h.toSlice Tryd.underlying27 with h | ⟨es, x, h, -, hes⟩
  · exact ⟨[], .inl ⟨by simpa using h, rfl⟩⟩
  · obtain ⟨cps, rfl⟩ := list_of fun j c hc => cpn_of (hes j c hc)
    rw [cells_cpn] at h
    exact ⟨cps, .inr ⟨x, by simpa using h⟩⟩
set_option maxHeartbeats 1000000 in
set_option maxRecDepth 100000 in
theorem tkt_of {c : List D} (h : TC Tryd.prog 30 c) : ∃ r : Tkt, c = r.enc := by
  obtain ⟨hl, hf⟩ := h.toStruct Tryd.underlying30
  rw [cells_tkt] at hl
  obtain ⟨a0, a1, a2, a3, a4, a5, a6, a7, a8, a9, rfl⟩ : ∃ a0 a1 a2 a3 a4 a5 a6 a7 a8 a9, c = [a0, a1, a2, a3, a4, a5, a6, a7, a8, a9] := by
    clear hf h
    match c, hl with
    | [a0, a1, a2, a3, a4, a5, a6, a7, a8, a9], _ => exact ⟨a0, a1, a2, a3, a4, a5, a6, a7, a8, a9, rfl⟩
  simp only [List.mem_cons, List.not_mem_nil, or_false, forall_eq_or_imp, forall_eq, cells_int, cells_str, cells_person, cells_cpns, cells_chgs, List.drop_succ_cons, List.drop_zero, List.take_succ_cons, List.take_zero] at hf
  obtain ⟨h0, h1, hp, h5, h6, h7, h8, h9⟩ := hf
  obtain ⟨-, hg⟩ := hp.toStruct Tryd.underlying26
  simp only [List.mem_cons, List.not_mem_nil, or_false, forall_eq_or_imp, forall_eq, cells_int, cells_str, List.drop_succ_cons, List.drop_zero, List.take_succ_cons, List.take_zero] at hg
  obtain ⟨g2, g3, g4⟩ := hg
  obtain ⟨s0, e0, -⟩ := h0.toInt Tryd.underlying3
  obtain ⟨s1, e1, -⟩ := h1.toStr Tryd.underlying9
  obtain ⟨s2, e2, -⟩ := g2.toStr Tryd.underlying9
  obtain ⟨s3, e3, -⟩ := g3.toStr Tryd.underlying9
  obtain ⟨s4, e4, -⟩ := g4.toStr Tryd.underlying9
  obtain ⟨cps, hc⟩ := cpns_of h5
  obtain ⟨s6, e6, -⟩ := h6.toInt Tryd.underlying3
  have hx : a7 = .nils ∨ ∃ sz es y, a7 = .sl sz es y := by
    rcases h7.toSlice Tryd.underlying28 with h | ⟨es, x, h, -, -⟩
    · exact .inl (by simpa using h)
    · exact .inr ⟨_, _, _, by simpa using h⟩
  obtain ⟨s8, e8, -⟩ := h8.toInt Tryd.underlying3
  obtain ⟨s9, e9, -⟩ := h9.toInt Tryd.underlying3
  refine ⟨⟨s0, s1, s2, s3, s4, a5, s6, a7, s8, s9, cps, hx, hc⟩, ?_⟩
  show [a0, a1, a2, a3, a4, a5, a6, a7, a8, a9] = [D.int .i64 s0, .str s1, .str s2, .str s3, .str s4, a5, .int .i64 s6, a7, .int .i64 s8, .int .i64 s9]
  clear hx hc
  simp_all
theorem pure_nil {a : D} {l : List D} {sz : Nat} (h : pureL (a :: l) = true) : pureL (.sl sz [] true :: l) = true := by
  rw [pureL_cons, Bool.and_eq_true] at h
  rw [pureL_cons, h.2]; rfl
theorem AuditMoney_walk {W : World} {xs : List D} {vs : Array Value} (ht : TVs Tryd.prog [22, 23] xs) (hv : VRs W ⟨Tryd.prog, fun _ => none, fun g => g < W.heap.size⟩ xs vs.toList) (hp : pureL xs = true) :
    Calls Tryd.prog 3 vs W fun e W' => e = .returned (.bool true) ∧ Below W.heap.size W W' := by
  obtain ⟨d, _, rfl, h1, ht⟩ := ht.inv
  obtain ⟨d2, _, rfl, h2, ht⟩ := ht.inv
  have := ht.inv0
  subst this
  obtain ⟨v1, v2, hvs⟩ : ∃ v1 v2, vs.toList = [v1, v2] := by
    have := hv.1
    match vs.toList, this with
    | [v1, v2], _ => exact ⟨v1, v2, rfl⟩
  rw [hvs] at hv
  have r1 := hv.head
  have r2 := hv.tail.head
  have p1 : d.pure = true := by rw [pureL_cons, Bool.and_eq_true] at hp; exact hp.1
  have p2 : d2.pure = true := by
    rw [pureL_cons, pureL_cons, Bool.and_eq_true, Bool.and_eq_true] at hp; exact hp.2.1
  obtain ⟨ts, x, q1, pp1⟩ : ∃ (ts : List Tkt) (x : Bool), VR W ⟨Tryd.prog, fun _ => none, fun g => g < W.heap.size⟩ (.sl 10 (ts.map Tkt.enc) x) v1 ∧ (D.sl 10 (ts.map Tkt.enc) x).pure = true := by
    rcases h1.toSlice Tryd.underlying22 with rfl | ⟨es, x, rfl, -, hes⟩
    · exact ⟨[], true, VR.nils_sl r1, rfl⟩
    · rw [cells_tkt] at r1 p1
      obtain ⟨ts, rfl⟩ := list_of fun j c hc => tkt_of (hes j c hc)
      exact ⟨ts, x, r1, p1⟩
  obtain ⟨ps, y, q2, pp2⟩ : ∃ (ps : List Pst) (y : Bool), VR W ⟨Tryd.prog, fun _ => none, fun g => g < W.heap.size⟩ (.sl 2 (ps.map Pst.enc) y) v2 ∧ (D.sl 2 (ps.map Pst.enc) y).pure = true := by
    rcases h2.toSlice Tryd.underlying23 with rfl | ⟨es, y, rfl, -, hes⟩
    · exact ⟨[], true, VR.nils_sl r2, rfl⟩
    · rw [cells_pst] at r2 p2
      obtain ⟨ps, rfl⟩ := list_of fun j c hc => pst_of (hes j c hc)
      exact ⟨ps, y, r2, p2⟩
  have hpt : pureL [.sl 10 (ts.map Tkt.enc) x, .sl 2 (ps.map Pst.enc) y] = true := by rw [pureL_cons, pureL_cons, pp1, pp2]; rfl
  obtain ⟨r, T, hT, rfl⟩ := AuditMoney_d hpt
  refine true_of_dcall envOk (I := fun g => g < W.heap.size) hT (fun g h => h) (fun g cs hg => by cases hg) ?_
  rw [hvs]
  exact VRs.cons q1 (VRs.cons q2 VRs.nil)
end Go.Proofs.YtgfbblpkddahbaaDoor
