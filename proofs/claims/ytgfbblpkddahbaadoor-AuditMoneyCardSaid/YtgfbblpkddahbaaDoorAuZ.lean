/-
  The walk of AuditRecords.
-/
import Derived.Test.YtgfbblpkddahbaaDoorAuM
import Derived.Test.YtgfbblpkddahbaaDoorFrameA
namespace Go.Proofs.YtgfbblpkddahbaaDoor
open Go Go.ChangeShapes Go.WideShapes Go.ChangeAt Go.RowKit Dm

theorem cells_int : Tryd.prog.cellsOf 3 = 1 := by kernel_rfl
theorem cells_str : Tryd.prog.cellsOf 9 = 1 := by kernel_rfl
theorem cells_rec : Tryd.prog.cellsOf 38 = 3 := by kernel_rfl
theorem three {α : Type} {c : List α} (h : c.length = 3) : ∃ p q r, c = [p, q, r] := by
  match c, h with
  | [p, q, r], _ => exact ⟨p, q, r, rfl⟩
set_option maxRecDepth 100000 in
theorem rec_of {c : List D} (h : TC Tryd.prog 38 c) : ∃ r : Rec, c = r.enc := by
  obtain ⟨hl, hf⟩ := h.toStruct Tryd.underlying38
  rw [cells_rec] at hl
  obtain ⟨p, q, r, rfl⟩ := three hl
  simp only [List.mem_cons, List.not_mem_nil, or_false, forall_eq_or_imp, forall_eq, cells_int, cells_str, List.drop_succ_cons, List.drop_zero, List.take_succ_cons, List.take_zero] at hf
  obtain ⟨h1, h2, h3⟩ := hf
  obtain ⟨n, e1, -⟩ := h1.toInt Tryd.underlying3
  obtain ⟨s, e2, -⟩ := h2.toStr Tryd.underlying9
  obtain ⟨m, e3, -⟩ := h3.toInt Tryd.underlying3
  exact ⟨⟨n, s, m⟩, by simp_all [Rec.enc]⟩
theorem list_of {α : Type} {enc : α → List D} : ∀ {es : List (List D)}, (∀ (j : Nat) (c : List D), es[j]? = some c → ∃ r : α, c = enc r) → ∃ rs : List α, es = rs.map enc
  | [], _ => ⟨[], rfl⟩
  | e :: es, h => by
    obtain ⟨r, hr⟩ := h 0 e rfl
    obtain ⟨rs, hrs⟩ := list_of (es := es) fun j c hc => h (j + 1) c (by simpa using hc)
    exact ⟨r :: rs, by rw [List.map_cons, hr, hrs]⟩
theorem AuditRecords_walk {W : World} {xs : List D} {vs : Array Value} (ht : TVs Tryd.prog [35, 3] xs) (hv : VRs W ⟨Tryd.prog, fun _ => none, fun g => g < W.heap.size⟩ xs vs.toList) (_ : pureL xs = true) :
    Calls Tryd.prog 4 vs W fun e W' => e = .returned (.bool true) ∧ Below W.heap.size W W' := by
  obtain ⟨d, _, rfl, h1, ht⟩ := ht.inv
  obtain ⟨d2, _, rfl, h2, ht⟩ := ht.inv
  have := ht.inv0
  subst this
  obtain ⟨c, rfl, -⟩ := h2.toInt Tryd.underlying3
  have fin : WO (dcall E 1000 4 [d, .int .i64 c] []) (fun d _ => d = .bool true) := by
    rcases h1.toSlice Tryd.underlying35 with rfl | ⟨es, x, rfl, -, hes⟩
    · exact AuditRecords_nils
    · rw [cells_rec]
      obtain ⟨rs, rfl⟩ := list_of fun j c hc => rec_of (hes j c hc)
      exact AuditRecords_sl
  obtain ⟨r, T, hT, rfl⟩ := fin
  exact true_of_dcall envOk (I := fun g => g < W.heap.size) hT (fun g h => h) (fun g cs hg => by cases hg) hv
end Go.Proofs.YtgfbblpkddahbaaDoor
