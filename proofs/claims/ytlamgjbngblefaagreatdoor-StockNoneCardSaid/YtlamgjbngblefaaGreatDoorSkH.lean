/-
  Parameters of the laws of the inventory: configurations and calls, as data.
-/
import Derived.Test.YtlamgjbngblefaaGreatDoorSkV
import Derived.Test.YtlamgjbngblefaaGreatDoorSkY
import Derived.Test.YtlamgjbngblefaaGreatDoorEval
import Derived.Test.YtlamgjbngblefaaGreatDoorWq
import Derived.Test.YtlamgjbngblefaaGreatDoorFrameO
import Derived.Test.YtlamgjbngblefaaGreatDoorTod
namespace Go.Proofs.YtlamgjbngblefaaGreatDoor
open Go Go.ChangeShapes Go.WideShapes Go.ChangeAt Go.RowKit Dm
theorem TVs.int1 {P : Program} {t : TypeId} {k : IntKind} (ht : P.underlying t = some (.int k)) {ts : List TypeId} {xs : List D} (h : TVs P (t :: ts) xs) : ∃ n xs', xs = .int k n :: xs' ∧ (Lit.int k n).wf = true ∧ TVs P ts xs' := by
  cases h with
  | cons h hs =>
    rcases h with ⟨hg, -⟩ | ⟨-, h⟩
    · rw [aggT, ht] at hg; cases hg
    · cases h with
      | int h hw => rw [ht] at h; cases h; exact ⟨_, _, rfl, hw, hs⟩
      | str h => rw [ht] at h; cases h
      | bool h => rw [ht] at h; cases h
      | nils h => rw [ht] at h; cases h
      | sl h => rw [ht] at h; cases h
      | struct h => rw [ht] at h; cases h
      | array h => rw [ht] at h; cases h
theorem Cal_of {c : List D} (h : TC Tryz.prog 56 c) : ∃ r : Cal, CellR c r.enc ∧ r.Ok := by
  obtain ⟨⟨k, g, m, e, cl, z⟩, hr, ho⟩ := Axn_of h
  obtain ⟨o1, o2, o3, o4, o5, o6, -⟩ := ho
  dsimp only at o1 o2 o3 o4 o5 o6
  obtain ⟨k, rfl⟩ : ∃ n : Nat, k = n := ⟨k.toNat, by omega⟩
  obtain ⟨g, rfl⟩ : ∃ n : Nat, g = n := ⟨g.toNat, by omega⟩
  obtain ⟨m, rfl⟩ : ∃ n : Nat, m = n := ⟨m.toNat, by omega⟩
  obtain ⟨e, rfl⟩ : ∃ n : Nat, e = n := ⟨e.toNat, by omega⟩
  obtain ⟨cl, rfl⟩ : ∃ n : Nat, cl = n := ⟨cl.toNat, by omega⟩
  exact ⟨⟨k, g, m, e, cl, z⟩, hr, by dsimp only; omega, by dsimp only; omega, by dsimp only; omega, by dsimp only; omega, by dsimp only; omega, by dsimp only; omega, by dsimp only; omega⟩
theorem agg_cfgs : aggT Tryz.prog 22 = some false := by kernel_rfl
theorem agg_acts : aggT Tryz.prog 23 = some false := by kernel_rfl
/-- Configurations. -/
theorem Cfgs_front {d : D} (h : TV Tryz.prog 22 d) {n : Nat} (hn : 9223372036854775807 + 5000 ≤ n) : ∃ (l : List Cfg) (lx : Bool), (∀ c ∈ l, CfgZ (n - 3) c) ∧ ∀ W C v, VR W C d v → VR W C (.sl 2 (l.map Cfg.enc) lx) v := by
  obtain ⟨l, lx, ⟨z1, -⟩, w1⟩ := slices_rel (enc := Cfg.enc) (n := 2) Tryz.underlying22 cells_Cfg (fun c h => Cfg_of h) (h.one agg_cfgs)
  refine ⟨l, lx, fun c hc => ?_, w1⟩
  obtain ⟨e1, ⟨e2, -⟩, -⟩ := z1 c hc
  refine ⟨⟨by omega, e1⟩, fun y hy => ?_, fun y hy z hz => ?_⟩
  · have := (e2 y hy).1
    exact ⟨by omega, this⟩
  · obtain ⟨-, -, -, ⟨e3, -⟩, -⟩ := e2 y hy
    have := (e3 z hz).1
    exact ⟨by omega, this⟩
/-- Calls. -/
theorem Acts_front {d : D} (h : TV Tryz.prog 23 d) : ∃ (acts : List Cal) (ax : Bool), (∀ a ∈ acts, a.Ok) ∧ ∀ W C v, VR W C d v → VR W C (.sl 6 (acts.map Cal.enc) ax) v := by
  obtain ⟨acts, ax, ⟨z2, -⟩, w2⟩ := slices_rel (enc := Cal.enc) (n := 6) Tryz.underlying23 cells_Axn (fun c h => Cal_of h) (h.one agg_acts)
  exact ⟨acts, ax, z2, w2⟩
end Go.Proofs.YtlamgjbngblefaaGreatDoor
