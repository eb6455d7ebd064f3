/-
  The walk of ConnectValid.
-/
import Derived.Test.YtgomkmamgflbeaaDoorPlY
import Derived.Test.YtgomkmamgflbeaaDoorCoV
import Derived.Test.YtgomkmamgflbeaaDoorCoZ
namespace Go.Proofs.YtgomkmamgflbeaaDoor
open Go Dm Go.RowKit

theorem agg_plc : aggT Tryd.prog 36 = some true := by kernel_rfl
theorem aptR_of {l : List Apt} (h : ∀ c ∈ l, c.Ok) : ∃ N, ∀ c ∈ l, AptR N c := by
  refine bound_all (P := fun (c : Apt) n => AptR n c) (fun a m n h h' => ⟨⟨by have := h'.1.1; omega, by have := h'.1.2.1; omega, by have := h'.1.2.2; omega⟩, h'.2⟩) l fun c hc => ?_
  obtain ⟨h1, h2, h3, -⟩ := h c hc
  exact ⟨c.code.size + c.city.size + c.ctry.size + 20, ⟨by omega, by omega, by omega⟩, h1, h2, h3⟩
theorem AptR_mono {c : Apt} {m n : Nat} (h : AptR m c) (hn : m ≤ n) : AptR n c := ⟨⟨by have := h.1.1; omega, by have := h.1.2.1; omega, by have := h.1.2.2; omega⟩, h.2⟩
end Go.Proofs.YtgomkmamgflbeaaDoor
