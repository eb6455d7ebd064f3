/-
  The machine at the program's inventory: what is sold, class by class.
-/
import Derived.Test.YtlamgjbngblefaaDoorSkO
namespace Go.Proofs.YtlamgjbngblefaaDoor.Dm
open Go Gw
set_option linter.unusedSimpArgs false
set_option linter.unusedSimpArgs false

abbrev encC (p : ByteArray × Int) : List D := [.str p.1, .int .i64 p.2]
theorem KeepO.ext {o : Nat} {S T : List Ob} {lab : Lab} (h : ExtS S T) : KeepO o S lab T lab := fun x ob _ hx hl => ⟨h x ob hx, hl⟩
theorem slJ_succ {c : Nat} {y : Cab} {j : Nat} {z : Cls} (h : y.cls[j]? = some z) : slJ c y (j + 1) = slJ c y j ++ [(c, j, z)] := by rw [slJ, h]
theorem slC_succ {cabs : List Cab} {c : Nat} {y : Cab} (h : cabs[c]? = some y) : slC cabs (c + 1) = slC cabs c ++ slJ c y y.cls.length := by rw [slC, h]
theorem slJ_len (c : Nat) (y : Cab) : ∀ j, (slJ c y j).length ≤ j
  | 0 => Nat.le_refl _
  | j + 1 => by
    have := slJ_len c y j
    rw [slJ, List.length_append]
    split <;> simp <;> omega
theorem slC_len {cabs : List Cab} (h : ∀ y ∈ cabs, y.cls.length ≤ 30) : ∀ c, (slC cabs c).length ≤ 30 * c
  | 0 => Nat.le_refl _
  | c + 1 => by
    have := slC_len h c
    rw [slC, List.length_append]
    rcases e : cabs[c]? with _ | y
    · simp; omega
    · have h1 := h y (List.mem_of_getElem? e)
      have h2 := slJ_len c y y.cls.length
      dsimp only; omega
def cntQ (x : Leg) (q : Nat × Nat × Cls) : ByteArray × Int := (q.2.2.code, soldAt x.sold q.1 q.2.1)
section
variable {S : List Ob} {lab : Lab} {o k m n : Nat} {s : Stk} {ps : List (D × D)} {id : Lid}
end
end Go.Proofs.YtlamgjbngblefaaDoor.Dm
