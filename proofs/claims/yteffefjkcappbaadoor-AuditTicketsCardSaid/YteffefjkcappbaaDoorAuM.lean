/-
  The machine at AuditRecords: damaged records are found.
-/
import Derived.Test.YteffefjkcappbaaDoorAuR
import Derived.Test.YteffefjkcappbaaDoorTv
namespace Go.Proofs.YteffefjkcappbaaDoor.Dm
open Go
set_option linter.unusedSimpArgs false

theorem example58 : isT (dcall E 999 19 [] []) = true := by kernel_rfl
theorem example58_c (st : Bool) (S : List Ob) : callD E (dcall E 999) st S 19 [] = some (.bool true, S) := by
  obtain ⟨T, hT⟩ := isT_spec example58
  exact callD_pure rfl rfl hT rfl
theorem faults_c {n : Nat} {d e : D} {fs : List (Int × ByteArray)} {S : List Ob} (hn : fs.length < n) (hl : fs.length ≤ 1000) (hd : FV S d fs) (he : FV S e fs) : callD E (dcall E (n + 1)) false S 20 [d, e] = some (.bool true, S) := by
  have hp := encF_pure fs
  have own : pureL [d, e] = false → callD E (dcall E (n + 1)) false S 20 [d, e] = some (.bool true, S) := fun h => (callD_own rfl h).trans (eq_of_wo (faults_d hn hl hd he))
  have pr : pureL [d, e] = true → FV [] d fs → FV [] e fs → callD E (dcall E (n + 1)) false S 20 [d, e] = some (.bool true, S) := fun h h1 h2 => callD_pure rfl h (eq_of_wo (faults_d hn hl h1 h2)) rfl
  rcases hd with ⟨rfl, rfl⟩ | ⟨x, rfl⟩ | ⟨k, rfl, hk⟩ <;> rcases he with ⟨rfl, he⟩ | ⟨y, rfl⟩ | ⟨k', rfl, hk'⟩ <;> (try subst he) <;>
  first
  | exact pr (by first | (simp [pureL, D.pure, hp]; done) | (simp [pureL, pureLL, D.pure]; done)) (by first | exact .inl ⟨rfl, rfl⟩ | exact .inr (.inl ⟨_, rfl⟩)) (by first | exact .inl ⟨rfl, rfl⟩ | exact .inr (.inl ⟨_, rfl⟩))
  | exact own (by simp [pureL, D.pure])
/-- The records copied so far. -/
def Own (S : List Ob) (d : D) (rs : List Rec) : Prop := (d = .nils ∧ rs = []) ∨ ∃ k, d = .os k 0 rs.length false ∧ S[k]? = some (.row 3 (rs.map Rec.enc)) ∧ 0 < rs.length
end Go.Proofs.YteffefjkcappbaaDoor.Dm
