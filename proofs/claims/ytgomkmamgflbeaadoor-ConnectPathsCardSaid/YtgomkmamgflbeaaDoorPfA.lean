/-
  Journeys that are found connect, lead from one airport to the other, and are valid.
  The machine at the check of a journey whose segments lie in the caller's store.
  The machine at ConnectFollows.
-/
import Derived.Test.YtgomkmamgflbeaaDoorPaE
import Derived.Test.YtgomkmamgflbeaaDoorCoV
namespace Go.Proofs.YtgomkmamgflbeaaDoor.Dm
open Go Gw
set_option linter.unusedSimpArgs false

def sAt (segs : List Sgm) (j : Nat) : Sgm := (segs[j]?).getD ⟨emp, 0, 0, emp, emp, 0, 0⟩
/-- The segments of a journey. -/
def wayL (segs : List Sgm) (q : List Nat) : List Sgm := q.map (sAt segs)
/-- Each one behind the one ahead of it. -/
def Lk (l : List Cnn) : Option Sgm → List Sgm → Prop
  | _, [] => True
  | pr, s :: r => (∀ a, pr = some a → fitB l a s = true) ∧ Lk l (some s) r
theorem Lk.at (l : List Cnn) : ∀ {w : List Sgm} {pr : Option Sgm}, Lk l pr w → ∀ {k : Nat} {a b : Sgm}, w[k]? = some a → w[k + 1]? = some b → fitB l a b = true
  | [], _, _, k, a, b, h, _ => by simp at h
  | s :: r, pr, h, 0, a, b, h1, h2 => by
    simp only [List.getElem?_cons_zero, Option.some.injEq] at h1
    simp only [List.getElem?_cons_succ] at h2
    subst h1
    cases r with
    | nil => simp at h2
    | cons t r =>
      simp only [List.getElem?_cons_zero, Option.some.injEq] at h2
      subst h2
      exact h.2.1 _ rfl
  | s :: r, pr, h, k + 1, a, b, h1, h2 => by
    simp only [List.getElem?_cons_succ] at h1 h2
    exact Lk.at l h.2 h1 h2
/-! Journeys as they are handed back. -/
abbrev pthD (q : List Nat) : List D := [.sl 1 (q.map fun a => [intV a]) false]
def FP (d : D) (ps : List (List Nat)) : Prop := (d = .nils ∧ ps = []) ∨ d = .sl 1 (ps.map pthD) false
theorem freeze_paths {T : List Ob} {d : D} {o : List (Nat × List Nat)} (h : GL 1 oRow T d o) (hr : ∀ q ∈ o, T[q.1]? = some (.row 1 (q.2.map fun a => [intV a]))) : ∃ d', freeze T 39 d = some d' ∧ FP d' (o.map (·.2)) := by
  rcases h with ⟨rfl, rfl⟩ | ⟨k, rfl, hk⟩
  · exact ⟨.nils, rfl, .inl ⟨rfl, rfl⟩⟩
  · refine ⟨.sl 1 ((o.map (·.2)).map pthD) false, ?_, .inr rfl⟩
    unfold freeze
    rw [if_neg (by simp [D.pure])]
    dsimp only
    rw [hk]
    dsimp only
    have hl : (o.map oRow).length = o.length := by simp
    rw [if_pos (by omega), List.drop_zero, ← hl, List.take_length, List.map_map]
    have key : ∀ o : List (Nat × List Nat), (∀ q ∈ o, T[q.1]? = some (.row 1 (q.2.map fun a => [intV a]))) → mapO (mapO (freeze T 38)) (o.map oRow) = some (o.map (pthD ∘ fun x => x.2)) := by
      intro o
      induction o with
      | nil => intro _; rfl
      | cons q o ih =>
        intro h
        have h1 := freeze_os (n := 36) (x := false) (h q (by simp)) (ints_pure q.2)
        rw [List.length_map] at h1
        simp only [List.map_cons, mapO, h1, ih (fun q hq => h q (by simp [hq]))]
        rfl
    rw [key o hr]; rfl

theorem dfs_len3 {l segs fr to m} {q : List Nat} (h : q ∈ dfs l segs fr to m []) : (∀ j ∈ q, j < segs.length) ∧ q ≠ [] ∧ q.length ≤ m := by
  obtain ⟨a, b, -, d⟩ := dfs_mem (by simp) h
  exact ⟨a, b, by simpa using d⟩
/-- What a pure call of Paths hands back. -/
theorem Paths_c {n : Nat} {l : List Cnn} {segs : List Sgm} {lD sgD : D} {fr to : ByteArray} {mo : Int} (hn : segs.length + l.length + 2600 ≤ n) (hFit : ∀ n, l.length + 40 ≤ n → ∀ st S a b, Near a → Near b → callD E (dcall E n) st S 15 [lD, .agg a.enc, .agg b.enc] = some (.bool (fitB l a b), S)) (hl1 : lD.one = true) (hg1 : sgD.one = true) (hl2 : lD.pure = true) (hg2 : sgD.pure = true) (hnear : ∀ s ∈ segs, Near s) (hsl : segs.length ≤ 200) (hs : SegD [] sgD segs) :
    ∃ d e ps, (∀ st S, callD E (dcall E n) st S 20 [lD, sgD, .str fr, .str to, .int .i64 mo] = some (.tup [d, .int .i64 e], S)) ∧ FP d ps ∧
      (((mo < 1 ∨ 3 < mo) ∧ ps = [] ∧ e = 2) ∨ ∃ m : Nat, mo = ((m + 1 : Nat) : Int) ∧ m ≤ 2 ∧ ((1024 < (dfs l segs fr to (m + 1) []).length ∧ ps = [] ∧ e = 4) ∨ ((dfs l segs fr to (m + 1) []).length ≤ 1024 ∧ e = 0 ∧ ps.Perm (dfs l segs fr to (m + 1) []) ∧ ps.Pairwise fun x y => ¬ ahd segs y x))) := by
  obtain ⟨n, rfl⟩ : ∃ m, n = m + 1 := ⟨n - 1, by omega⟩
  obtain ⟨r, T, ho, h⟩ := Paths_d (n := n) (fr := fr) (to := to) (mo := mo) (S := []) (by omega) hFit hl1 hg1 hnear hsl hs
  have hp : pureL [lD, sgD, .str fr, .str to, .int .i64 mo] = true := by simp [pureL_cons, pureL_nil, D.pure, hl2, hg2]
  rcases h with ⟨h1, rfl⟩ | ⟨m, h1, h2, ⟨h3, rfl⟩ | ⟨h3, d, o, rfl, h5, h6, h7, h8⟩⟩
  · exact ⟨_, _, [], fun st S => callD_pure rfl hp ho rfl, .inl ⟨rfl, rfl⟩, .inl ⟨h1, rfl, rfl⟩⟩
  · exact ⟨_, _, [], fun st S => callD_pure rfl hp ho rfl, .inl ⟨rfl, rfl⟩, .inr ⟨m, h1, h2, .inl ⟨h3, rfl, rfl⟩⟩⟩
  · obtain ⟨d', hf, hfp⟩ := freeze_paths h5 h6
    have hfz : freeze T 40 (.tup [d, .int .i64 0]) = some (.tup [d', .int .i64 0]) := by
      unfold freeze
      by_cases hd : (D.tup [d, .int .i64 0]).pure = true
      · rw [if_pos hd]
        have hdp : d.pure = true := by simpa [D.pure, pureL_cons, pureL_nil] using hd
        rw [freeze_pure hdp] at hf
        cases hf; rfl
      · rw [if_neg hd]
        simp only [mapO, hf, freeze_pure (show (D.int .i64 0).pure = true from rfl), Option.map_some]
    exact ⟨_, _, o.map (·.2), fun st S => callD_pure rfl hp ho hfz, hfp, .inr ⟨m, h1, h2, .inr ⟨h3, rfl, h7, h8⟩⟩⟩
end Go.Proofs.YtgomkmamgflbeaaDoor.Dm
