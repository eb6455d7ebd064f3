/-
  The machine at the program's check of configurations without violations.
-/
import Derived.Test.YthkbiiammhekfaaGreatDoorSkK
import Derived.Test.YthkbiiammhekfaaGreatDoorSkO
set_option linter.unusedSimpArgs false
set_option linter.unusedVariables false
namespace Go.Proofs.YthkbiiammhekfaaGreatDoor.Dm
open Go Gw
set_option linter.unusedSimpArgs false
set_option linter.unusedSimpArgs false

/-- Without violations: what each cabin and each configuration is. -/
structure CabGood (y : Cab) (seen : List ByteArray) : Prop where
  nm : codeS y.name 1 8 = true
  rng : rngB y = true
  l1 : ¬ (y.cls.length : Int) < 1
  l2 : ¬ (26 : Int) < y.cls.length
  cls : ∀ (j : Nat) (z : Cls), y.cls[j]? = some z → clsB z.code = true ∧ inB z.code (seen ++ (y.cls.take j).map (·.code)) = false ∧ protB y j z = false
structure CfgGood (x : Cfg) : Prop where
  eq : codeS x.equip 3 3 = true
  l1 : ¬ (x.cabs.length : Int) < 1
  l2 : ¬ (4 : Int) < x.cabs.length
  cab : ∀ (k : Nat) (y : Cab), x.cabs[k]? = some y → CabGood y (codes (x.cabs.take k)) ∧ inB y.name ((x.cabs.take k).map (·.name)) = false
theorem dec2_c {n : Nat} (hn : 50 ≤ n) {i : Nat} (hi : i < 100) (st : Bool) (S : List Ob) : callD E (dcall E n) st S 58 [.int .i64 i] = some (.str (dec2 i), S) := by
  obtain ⟨m, rfl⟩ : ∃ m, n = m + 1 := ⟨n - 1, by omega⟩
  have ci := itoa2_c (n := m) (by omega) hi
  have : WO (dcall E (m + 1) 58 [.int .i64 i] []) fun d T => d = .str (dec2 i) := by
    refine wo_dcall Tryz.func58 rfl (by decide) rfl 5 rfl (fun a hal ha => ?_)
    have h0 : a[0]? = some (.int .i64 i) := ha 0 (by simp)
    clear ha
    simp (maxSteps := 1000000) (disch := omega) only [push_cast, ↓wc_seq, ↓wc_region, ↓wr_cons, ↓wr_nil, ↓wo_callf, ↓wc_ret, wo_some, opQ_eq, seqQ_normal, retQ_ret, Nat.reduceAdd, Nat.reduceMul, Nat.reduceLT, ↓reduceIte, planIds, hasExt, cntFs, idxFs, clnFs, ovlFs, List.contains_cons, List.contains_nil, List.any_cons, List.any_nil, Nat.reduceBEq, setC, List.length_set, reduceCtorEq, eq_self, Nat.zero_add, hal, h0, ci, Tryz.f58]
  obtain ⟨d, T, ho, rfl⟩ := this
  exact callD_pure rfl rfl ho rfl
abbrev kS : TypeId := 9
end Go.Proofs.YthkbiiammhekfaaGreatDoor.Dm
