/-
  Journeys that are found connect, lead from one airport to the other, and are valid.
  The machine at the check of a journey whose segments lie in the caller's store.
  The machine at ConnectFollows.
-/
import Derived.Test.YtgomkmamgflbeaaDoorPaE
import Derived.Test.YtgomkmamgflbeaaDoorCoV
namespace Go.Proofs.YtgomkmamgflbeaaDoor.Dm
open Go Gw
set_option linter.unusedSimpArgs false

def sAt (segs : List Sgm) (j : Nat) : Sgm := (segs[j]?).getD ⟨emp, 0, 0, emp, emp, 0, 0⟩
theorem sAt_get {segs : List Sgm} {j : Nat} (h : j < segs.length) : segs[j]? = some (sAt segs j) := by
  unfold sAt
  rw [List.getElem?_eq_getElem h]; rfl
/-- The segments of a journey. -/
def wayL (segs : List Sgm) (q : List Nat) : List Sgm := q.map (sAt segs)
/-- Each one behind the one ahead of it. -/
def Lk (l : List Cnn) : Option Sgm → List Sgm → Prop
  | _, [] => True
  | pr, s :: r => (∀ a, pr = some a → fitB l a s = true) ∧ Lk l (some s) r
theorem Lk.at (l : List Cnn) : ∀ {w : List Sgm} {pr : Option Sgm}, Lk l pr w → ∀ {k : Nat} {a b : Sgm}, w[k]? = some a → w[k + 1]? = some b → fitB l a b = true
  | [], _, _, k, a, b, h, _ => by simp at h
  | s :: r, pr, h, 0, a, b, h1, h2 => by
    simp only [List.getElem?_cons_zero, Option.some.injEq] at h1
    simp only [List.getElem?_cons_succ] at h2
    subst h1
    cases r with
    | nil => simp at h2
    | cons t r =>
      simp only [List.getElem?_cons_zero, Option.some.injEq] at h2
      subst h2
      exact h.2.1 _ rfl
  | s :: r, pr, h, k + 1, a, b, h1, h2 => by
    simp only [List.getElem?_cons_succ] at h1 h2
    exact Lk.at l h.2 h1 h2
theorem Lk.snoc (l : List Cnn) : ∀ {w : List Sgm} {pr : Option Sgm} {s : Sgm}, Lk l pr w → (∀ a, (w.getLast?.or pr) = some a → fitB l a s = true) → Lk l pr (w ++ [s])
  | [], pr, s, _, h => ⟨fun a ha => h a (by simpa using ha), trivial⟩
  | t :: r, pr, s, h, g => ⟨h.1, Lk.snoc l h.2 fun a ha => g a (by
      rw [List.getLast?_cons]
      cases hr : r.getLast? with
      | none => rw [hr] at ha; simpa using ha
      | some b => rw [hr] at ha; simpa using ha)⟩
theorem dfs_way {l segs fr to} : ∀ {m : Nat} {p q : List Nat}, (∀ j ∈ p, j < segs.length) → Lk l none (wayL segs p) → (∀ s, (wayL segs p)[0]? = some s → (s.f.toList == fr.toList) = true) → q ∈ dfs l segs fr to m p →
    Lk l none (wayL segs q) ∧ (∀ s, (wayL segs q)[0]? = some s → (s.f.toList == fr.toList) = true) ∧ ∀ s, (wayL segs q)[q.length - 1]? = some s → (s.t.toList == to.toList) = true
  | 0, p, q, _, _, _, h => by simp [dfs] at h
  | m + 1, p, q, hp, hk, hf, h => by
    rw [dfs, List.mem_flatMap] at h
    obtain ⟨i, hi, h⟩ := h
    have hil := List.mem_range.1 hi
    have hs := sAt_get hil
    have hpi : ∀ j ∈ p ++ [i], j < segs.length := fun j hj => by
      rcases List.mem_append.1 hj with h | h
      · exact hp j h
      · obtain rfl : j = i := by simpa using h
        exact hil
    have hw : wayL segs (p ++ [i]) = wayL segs p ++ [sAt segs i] := by simp [wayL]
    split at h
    case isFalse => simp at h
    rename_i hc
    unfold cand at hc
    rw [hs] at hc
    simp only [Bool.and_eq_true] at hc
    obtain ⟨⟨hc1, -⟩, hc3⟩ := hc
    have hk' : Lk l none (wayL segs (p ++ [i])) := by
      rw [hw]
      refine Lk.snoc l hk fun a ha => ?_
      cases p with
      | nil => simp [wayL] at ha
      | cons u w =>
        have hl : (u :: w).length = w.length + 1 := rfl
        have hj := List.getElem?_eq_getElem (l := u :: w) (i := w.length) (by simp)
        have hjs := hp _ (List.mem_of_getElem? hj)
        simp only [lastFit, hl, Nat.add_sub_cancel, hj, sAt_get hjs] at hc3
        have : a = sAt segs (u :: w)[w.length] := by
          rw [Option.or_none, wayL, List.getLast?_map, List.getLast?_eq_getElem?, hl, Nat.add_sub_cancel, hj] at ha
          simpa using ha.symm
        rw [this]; exact hc3
    have hf' : ∀ s, (wayL segs (p ++ [i]))[0]? = some s → (s.f.toList == fr.toList) = true := fun s h => by
      rw [hw] at h
      cases p with
      | nil =>
        simp only [wayL, List.map_nil, List.nil_append, List.getElem?_cons_zero, Option.some.injEq] at h
        subst h
        simpa [stopsL] using hc1
      | cons u w => exact hf s (by simpa [wayL] using h)
    split at h
    · rename_i ht
      obtain rfl : q = p ++ [i] := by simpa using h
      refine ⟨hk', hf', fun s h => ?_⟩
      rw [hw] at h
      have : (wayL segs p).length = (p ++ [i]).length - 1 := by simp [wayL]
      rw [← this, List.getElem?_concat_length] at h
      obtain rfl := Option.some.inj h
      unfold tAt at ht
      rw [hs] at ht
      exact ht
    · exact dfs_way hpi hk' hf' h
theorem step_ok {p : Plc} {l : List Cnn} {a b : Sgm} (h : fitB l a b = true) : stepE p l a b = 0 := by
  unfold fitB at h
  simp only [Bool.and_eq_true, decide_eq_true_eq] at h
  unfold stepE
  rw [if_pos h.1.1, if_neg (by omega)]
theorem fit_eq {l : List Cnn} {a b : Sgm} (h : fitB l a b = true) : (a.t.toList == b.f.toList) = true := by
  unfold fitB at h
  simp only [Bool.and_eq_true] at h
  exact h.1.1
theorem isF_congr {p : Plc} {s t : ByteArray} (h : (s.toList == t.toList) = true) : isF p s = isF p t := by
  have : s.toList = t.toList := by simpa using h
  unfold isF
  rw [this]
theorem validF_ok {p : Plc} {l : List Cnn} : ∀ {w : List Sgm} {pr : Option Sgm}, Lk l pr w → (∀ s ∈ w, isF p s.t = true ∧ s.dep < s.arr) → (∀ s, pr = some s → isF p s.t = true) → (pr = none → ∀ s, w[0]? = some s → isF p s.f = true) → validF p l pr w = 0
  | [], _, _, _, _, _ => rfl
  | s :: r, pr, hk, hw, hp, hf => by
    obtain ⟨h1, h2⟩ := hw s (by simp)
    have hsf : isF p s.f = true := by
      cases pr with
      | none => exact hf rfl s rfl
      | some a => rw [← isF_congr (fit_eq (hk.1 a rfl))]; exact hp a rfl
    have hv : vstep p l pr s = 0 := by
      unfold vstep
      rw [if_neg (by simp [h1, hsf]), if_neg (by omega)]
      cases pr with
      | none => rfl
      | some a => exact step_ok (hk.1 a rfl)
    rw [validF, if_pos hv]
    exact validF_ok hk.2 (fun t ht => hw t (by simp [ht])) (fun t ht => by cases ht; exact h1) (fun h => by cases h)
/-! Journeys as they are handed back. -/
abbrev pthD (q : List Nat) : List D := [.sl 1 (q.map fun a => [intV a]) false]
def FP (d : D) (ps : List (List Nat)) : Prop := (d = .nils ∧ ps = []) ∨ d = .sl 1 (ps.map pthD) false
theorem freeze_paths {T : List Ob} {d : D} {o : List (Nat × List Nat)} (h : GL 1 oRow T d o) (hr : ∀ q ∈ o, T[q.1]? = some (.row 1 (q.2.map fun a => [intV a]))) : ∃ d', freeze T 39 d = some d' ∧ FP d' (o.map (·.2)) := by
  rcases h with ⟨rfl, rfl⟩ | ⟨k, rfl, hk⟩
  · exact ⟨.nils, rfl, .inl ⟨rfl, rfl⟩⟩
  · refine ⟨.sl 1 ((o.map (·.2)).map pthD) false, ?_, .inr rfl⟩
    unfold freeze
    rw [if_neg (by simp [D.pure])]
    dsimp only
    rw [hk]
    dsimp only
    have hl : (o.map oRow).length = o.length := by simp
    rw [if_pos (by omega), List.drop_zero, ← hl, List.take_length, List.map_map]
    have key : ∀ o : List (Nat × List Nat), (∀ q ∈ o, T[q.1]? = some (.row 1 (q.2.map fun a => [intV a]))) → mapO (mapO (freeze T 38)) (o.map oRow) = some (o.map (pthD ∘ fun x => x.2)) := by
      intro o
      induction o with
      | nil => intro _; rfl
      | cons q o ih =>
        intro h
        have h1 := freeze_os (n := 36) (x := false) (h q (by simp)) (ints_pure q.2)
        rw [List.length_map] at h1
        simp only [List.map_cons, mapO, h1, ih (fun q hq => h q (by simp [hq]))]
        rfl
    rw [key o hr]; rfl

set_option maxHeartbeats 8000000 in
set_option maxRecDepth 100000 in
theorem ValidS_d {n : Nat} {p : Plc} {l : List Cnn} {x : Bool} {segs : List Sgm} {sgD : D} {S : List Ob} (hsg : SegD S sgD segs) (hn : 300 ≤ n) (hpl : p.aps.length ≤ 100) (hl : l.length ≤ 100) (hsl : segs.length ≤ 100) (hs : ∀ s ∈ segs, Near s) :
    WO (dcall E (n + 1) 18 [.agg p.enc, .sl 4 (l.map Cnn.enc) x, sgD] S) fun d T => d = .int .i64 (validE p l segs) ∧ ExtS S T := by
  have hpe : p.enc = [.sl 5 (p.aps.map Apt.enc) p.apsx, .sl 3 (p.dts.map Dst.enc) p.dtsx] := rfl
  refine wo_dcall Tryd.func18 rfl (by decide) rfl 69 rfl (fun a hal ha => ?_)
  have h0 : a[0]? = some (.agg p.enc) := ha 0 (by simp)
  have h1 : a[1]? = some (.sl 4 (l.map Cnn.enc) x) := ha 1 (by simp)
  have h2 : a[2]? = some (sgD) := ha 2 (by simp)
  clear ha
  rw [hpe] at h0
  unfold validE
  obtain ⟨b, hb⟩ : ∃ b, b = S.length := ⟨_, rfl⟩
  have hlen : ∀ T, ExtS S T → SegD T sgD segs := fun T hT => hsg.keep fun k o _ ho => hT _ _ ho
  by_cases g1 : segs.length < 1
  · have g1' : (segs.length : Int) < 1 := by omega
    rw [if_pos (.inl g1)]
    rcases hsg with ⟨rfl, hse0⟩ | ⟨y, rfl⟩ | ⟨k, rfl, hk⟩
    · simp (maxSteps := 1000000) (disch := omega) only [push_cast, ↓wc_seq, ↓wc_condL, ↓wc_region, ↓wr_cons, ↓wr_consgL, ↓wr_nil, ↓wo_pickL, ↓wc_ret, wo_some, opQ_eq, seqQ_normal, seqQ_ret, retQ_ret, pickC_true, pickO_true, gstep_tf, Nat.reduceAdd, Nat.reduceMul, Nat.reduceLT, Nat.reduceEqDiff, Int.reduceLT, ↓reduceIte, planIds, List.contains_cons, List.contains_nil, Nat.reduceBEq, setC, List.length_set, eq_self, Nat.zero_add, planIds, List.contains_cons, List.contains_nil, Nat.reduceBEq, Nat.reduceMul, Nat.reduceAdd, ↓reduceIte, hal, h0, h2, Tryd.f18]
      exact ExtS.refl.push _
    · simp (maxSteps := 1000000) (disch := omega) only [push_cast, ↓wc_seq, ↓wc_condL, ↓wc_region, ↓wr_cons, ↓wr_consgL, ↓wr_nil, ↓wo_pickL, ↓wc_ret, wo_some, opQ_eq, seqQ_normal, seqQ_ret, retQ_ret, pickC_true, pickO_true, gstep_tf, Nat.reduceAdd, Nat.reduceMul, Nat.reduceLT, Nat.reduceEqDiff, ↓reduceIte, planIds, List.contains_cons, List.contains_nil, Nat.reduceBEq, setC, List.length_set, eq_self, Nat.zero_add, planIds, List.contains_cons, List.contains_nil, Nat.reduceBEq, Nat.reduceMul, Nat.reduceAdd, ↓reduceIte, hal, h0, h2, List.length_map, g1', Tryd.f18]
      exact ExtS.refl.push _
    · simp (maxSteps := 1000000) (disch := omega) only [push_cast, ↓wc_seq, ↓wc_condL, ↓wc_region, ↓wr_cons, ↓wr_consgL, ↓wr_nil, ↓wo_pickL, ↓wc_ret, wo_some, opQ_eq, seqQ_normal, seqQ_ret, retQ_ret, pickC_true, pickO_true, gstep_tf, Nat.reduceAdd, Nat.reduceMul, Nat.reduceLT, Nat.reduceEqDiff, ↓reduceIte, planIds, List.contains_cons, List.contains_nil, Nat.reduceBEq, setC, List.length_set, eq_self, Nat.zero_add, planIds, List.contains_cons, List.contains_nil, Nat.reduceBEq, Nat.reduceMul, Nat.reduceAdd, ↓reduceIte, hal, h0, h2, g1', Tryd.f18]
      exact ExtS.refl.push _
  have g1' : ¬ (segs.length : Int) < 1 := by omega
  by_cases g2 : 6 < segs.length
  · have g2' : (6 : Int) < segs.length := by omega
    rw [if_pos (.inr g2)]
    rcases hsg with ⟨rfl, hse0⟩ | ⟨y, rfl⟩ | ⟨k, rfl, hk⟩
    · rw [hse0] at g2; simp at g2
    · simp (maxSteps := 1000000) (disch := omega) only [push_cast, ↓wc_seq, ↓wc_condL, ↓wc_region, ↓wr_cons, ↓wr_consgL, ↓wr_nil, ↓wo_pickL, ↓wc_ret, wo_some, opQ_eq, seqQ_normal, seqQ_ret, retQ_ret, pickC_true, pickO_false, gstep_ff, Nat.reduceAdd, Nat.reduceMul, Nat.reduceLT, Nat.reduceEqDiff, ↓reduceIte, planIds, List.contains_cons, List.contains_nil, Nat.reduceBEq, setC, List.length_set, eq_self, Nat.zero_add, gt_iff_lt, planIds, List.contains_cons, List.contains_nil, Nat.reduceBEq, Nat.reduceMul, Nat.reduceAdd, ↓reduceIte, hal, h0, h2, List.length_map, g1', g2', Tryd.f18]
      exact ExtS.refl.push _
    · simp (maxSteps := 1000000) (disch := omega) only [push_cast, ↓wc_seq, ↓wc_condL, ↓wc_region, ↓wr_cons, ↓wr_consgL, ↓wr_nil, ↓wo_pickL, ↓wc_ret, wo_some, opQ_eq, seqQ_normal, seqQ_ret, retQ_ret, pickC_true, pickO_false, gstep_ff, Nat.reduceAdd, Nat.reduceMul, Nat.reduceLT, Nat.reduceEqDiff, ↓reduceIte, planIds, List.contains_cons, List.contains_nil, Nat.reduceBEq, setC, List.length_set, eq_self, Nat.zero_add, gt_iff_lt, planIds, List.contains_cons, List.contains_nil, Nat.reduceBEq, Nat.reduceMul, Nat.reduceAdd, ↓reduceIte, hal, h0, h2, g1', g2', Tryd.f18]
      exact ExtS.refl.push _
  have g2' : ¬ (6 : Int) < segs.length := by omega
  rw [if_neg (by omega)]
  rw [wc_asc]
  refine wc_scut (fun a T => a.length = 69 ∧ a[1]? = some (.sl 4 (l.map Cnn.enc) x) ∧ a[2]? = some (sgD) ∧ a[3]? = some (.loc b 0 0) ∧ T = S ++ [.row 2 [p.enc]]) ?_ ?_
  · rw [hpe]
    subst hb
    rcases hsg with ⟨rfl, hse0⟩ | ⟨y, rfl⟩ | ⟨k, rfl, hk⟩
    · rw [hse0] at g1; simp at g1
    · simp (maxSteps := 1000000) (disch := omega) only [push_cast, ↓wc_seq, ↓wc_condL, ↓wc_region, ↓wr_cons, ↓wr_consgL, ↓wr_nil, ↓wo_pickL, ↓wc_skip, wo_some, opQ_eq, seqQ_normal, pickC_false, pickO_false, gstep_ff, Nat.reduceAdd, Nat.reduceMul, Nat.reduceLT, Nat.reduceEqDiff, ↓reduceIte, planIds, List.contains_cons, List.contains_nil, Nat.reduceBEq, setC, List.length_set, eq_self, Nat.zero_add, gt_iff_lt, planIds, List.contains_cons, List.contains_nil, Nat.reduceBEq, Nat.reduceMul, Nat.reduceAdd, ↓reduceIte, hal, h0, h1, h2, List.length_map, g1', g2']
    · simp (maxSteps := 1000000) (disch := omega) only [push_cast, ↓wc_seq, ↓wc_condL, ↓wc_region, ↓wr_cons, ↓wr_consgL, ↓wr_nil, ↓wo_pickL, ↓wc_skip, wo_some, opQ_eq, seqQ_normal, pickC_false, pickO_false, gstep_ff, Nat.reduceAdd, Nat.reduceMul, Nat.reduceLT, Nat.reduceEqDiff, ↓reduceIte, planIds, List.contains_cons, List.contains_nil, Nat.reduceBEq, setC, List.length_set, eq_self, Nat.zero_add, gt_iff_lt, planIds, List.contains_cons, List.contains_nil, Nat.reduceBEq, Nat.reduceMul, Nat.reduceAdd, ↓reduceIte, hal, h0, h1, h2, g1', g2']
  clear hal h0 h1 h2 a
  rintro a T ⟨hal, h1, h2, h3, hT⟩
  have hx0 : ExtS S T := by rw [hT]; exact ExtS.refl.push _
  have hTb : T[b]? = some (.row 2 [p.enc]) := by rw [hT, hb]; exact get_end
  clear hT
  rw [wc_seq]
  refine wc_scut (fun a T' => T' = T ∧ a.length = 69 ∧ a[1]? = some (.sl 4 (l.map Cnn.enc) x) ∧ a[2]? = some (sgD) ∧ a[3]? = some (.loc b 0 0) ∧ a[22]? = some (sgD) ∧ a[23]? = some (.int .i64 segs.length) ∧ a[24]? = some (.int .i64 (0 : Nat))) ?_ ?_
  · rcases hsg with ⟨rfl, hse0⟩ | ⟨y, rfl⟩ | ⟨k, rfl, hk⟩
    · rw [hse0] at g1; simp at g1
    · simp (maxSteps := 1000000) (disch := omega) only [push_cast, ↓wc_region, ↓wr_cons, ↓wr_nil, wo_some, opQ_eq, Nat.reduceAdd, Nat.reduceMul, Nat.reduceLT, Nat.reduceEqDiff, ↓reduceIte, planIds, List.contains_cons, List.contains_nil, Nat.reduceBEq, setC, List.length_set, eq_self, Nat.zero_add, planIds, List.contains_cons, List.contains_nil, Nat.reduceBEq, Nat.reduceMul, Nat.reduceAdd, ↓reduceIte, hal, h1, h2, h3, List.length_map, Int.natCast_zero]
    · simp (maxSteps := 1000000) (disch := omega) only [push_cast, ↓wc_region, ↓wr_cons, ↓wr_nil, wo_some, opQ_eq, Nat.reduceAdd, Nat.reduceMul, Nat.reduceLT, Nat.reduceEqDiff, ↓reduceIte, planIds, List.contains_cons, List.contains_nil, Nat.reduceBEq, setC, List.length_set, eq_self, Nat.zero_add, planIds, List.contains_cons, List.contains_nil, Nat.reduceBEq, Nat.reduceMul, Nat.reduceAdd, ↓reduceIte, hal, h1, h2, h3, Int.natCast_zero]
  clear hal h1 h2 h3 a
  rintro a T' ⟨rfl, hal, h1, h2, h3, h22, h23, h24⟩
  simp (maxSteps := 1000000) (disch := omega) only [push_cast, ↓wc_block, ↓wc_wl]
  refine wl_loop (fun i a T => a.length = 69 ∧ a[1]? = some (.sl 4 (l.map Cnn.enc) x) ∧ a[2]? = some (sgD) ∧ a[3]? = some (.loc b 0 0) ∧ a[22]? = some (sgD) ∧ a[23]? = some (.int .i64 segs.length) ∧ a[24]? = some (.int .i64 i) ∧ T[b]? = some (.row 2 [p.enc]) ∧ ExtS S T ∧ validF p l none segs = validF p l (prv segs i) (segs.drop i)) segs.length ?_ (by omega) ?_
  · simp (maxSteps := 1000000) (disch := omega) only [push_cast, eq_self, hal, h1, h2, h3, h22, h23, h24]
    exact ⟨hTb, hx0, rfl⟩
  clear hal h1 h2 h3 h22 h23 h24 a
  clear hx0 hTb T'
  rintro i a T hi ⟨hal, h1, h2, h3, h22, h23, h24, hT0, hxS, hv⟩
  rw [hpe] at hT0
  rcases Nat.lt_or_eq_of_le hi with hlt | rfl
  case inr =>
    rw [List.drop_length, validF] at hv
    simp (maxSteps := 1000000) (disch := omega) only [push_cast, ↓wc_seq, ↓wc_condL, ↓wc_region, ↓wr_cons, ↓wr_nil, ↓wc_exit, ↓wc_ret, wo_some, opQ_eq, seqQ_normal, seqQ_exit, blockQ_exit, iterQ_exit, retQ_ret, pickC_false, Nat.reduceAdd, Nat.reduceMul, Nat.reduceLT, ↓reduceIte, planIds, List.contains_cons, List.contains_nil, Nat.reduceBEq, setC, List.length_set, eq_self, Int.ofNat_lt, Nat.zero_add, planIds, List.contains_cons, List.contains_nil, Nat.reduceBEq, Nat.reduceMul, Nat.reduceAdd, ↓reduceIte, hal, h23, h24, Nat.lt_irrefl, hv, Tryd.f18]
    exact hxS
  obtain ⟨s, hsi⟩ : ∃ s, segs[i]? = some s := ⟨segs[i], by simp⟩
  have ns := hs s (List.mem_of_getElem? hsi)
  rw [drop_at hsi, validF] at hv
  obtain ⟨u0, u1, u2, u3, u4, oU, tU⟩ := find_at (n := n) (p := p) s.f (by omega) (by omega)
  obtain ⟨q0, q1, q2, q3, q4, oV, tV⟩ := find_at (n := n) (p := p) s.t (by omega) (by omega)
  rw [hpe] at tU tV
  simp only [List.all_cons, List.all_nil, Bool.and_true, Bool.and_eq_true, D.one] at oU oV
  have hse : s.enc = [.str s.c, .int .i64 s.n, .int .i64 s.d, .str s.f, .str s.t, .int .i64 s.dep, .int .i64 s.arr] := rfl
  refine wc_scut (fun a T' => T' = T ∧ a.length = 69 ∧ a[1]? = some (.sl 4 (l.map Cnn.enc) x) ∧ a[2]? = some (sgD) ∧ a[3]? = some (.loc b 0 0) ∧ a[22]? = some (sgD) ∧ a[23]? = some (.int .i64 segs.length) ∧ a[24]? = some (.int .i64 i) ∧ a[25]? = some (.bool true)) ?_ ?_
  · simp (maxSteps := 1000000) (disch := omega) only [push_cast, ↓wc_region, ↓wr_cons, ↓wr_nil, wo_some, opQ_eq, Nat.reduceAdd, Nat.reduceMul, Nat.reduceLT, Nat.reduceEqDiff, ↓reduceIte, planIds, List.contains_cons, List.contains_nil, Nat.reduceBEq, setC, List.length_set, eq_self, Int.ofNat_lt, Nat.zero_add, planIds, List.contains_cons, List.contains_nil, Nat.reduceBEq, Nat.reduceMul, Nat.reduceAdd, ↓reduceIte, hal, h1, h2, h3, h22, h23, h24, hlt]
  clear hal h1 h2 h3 h22 h23 h24 a
  rintro a T' ⟨rfl, hal, h1, h2, h3, h22, h23, h24, h25⟩
  refine wc_scut (fun a T => T = T' ∧ a.length = 69 ∧ a[1]? = some (.sl 4 (l.map Cnn.enc) x) ∧ a[2]? = some (sgD) ∧ a[3]? = some (.loc b 0 0) ∧ a[22]? = some (sgD) ∧ a[23]? = some (.int .i64 segs.length) ∧ a[24]? = some (.int .i64 i)) ?_ ?_
  · simp (maxSteps := 1000000) (disch := omega) only [push_cast, ↓wc_condL, ↓wc_skip, pickC_true, eq_self, hal, h1, h2, h3, h22, h23, h24, h25]
  clear hal h1 h2 h3 h22 h23 h24 h25 a
  rintro a T ⟨rfl, hal, h1, h2, h3, h22, h23, h24⟩
  rw [wc_seq, wc_block]
  generalize hq : T.length = q
  have hsT := hlen _ hxS
  refine wc_scut (fun a T' => a.length = 69 ∧ a[1]? = some (.sl 4 (l.map Cnn.enc) x) ∧ a[2]? = some (sgD) ∧ a[3]? = some (.loc b 0 0) ∧ a[7]? = some (.int .i64 i) ∧ a[8]? = some (.loc q 0 0) ∧ a[22]? = some (sgD) ∧ a[23]? = some (.int .i64 segs.length) ∧ a[24]? = some (.int .i64 i) ∧ T' = T ++ [.row 7 [s.enc]]) ?_ ?_
  · rw [hse]
    subst hq
    rcases hsT with ⟨rfl, hse0⟩ | ⟨y, rfl⟩ | ⟨k, rfl, hk⟩
    · rw [hse0] at hsi; simp at hsi
    · simp (maxSteps := 1000000) (disch := omega) only [push_cast, ↓wc_region, ↓wr_cons, ↓wr_nil, wo_some, opQ_eq, Nat.reduceAdd, Nat.reduceMul, Nat.reduceLT, Nat.reduceLeDiff, Nat.reduceEqDiff, ↓reduceIte, planIds, List.contains_cons, List.contains_nil, Nat.reduceBEq, setC, List.length_set, eq_self, Int.natCast_nonneg, Int.toNat_natCast, Nat.zero_add, planIds, List.contains_cons, List.contains_nil, Nat.reduceBEq, Nat.reduceMul, Nat.reduceAdd, ↓reduceIte, hal, h1, h2, h3, h22, h23, h24, hsi, hse, List.getElem?_map, set_end, get_end]
    · have hk' : ∀ o, (T ++ [o])[k]? = some (.row 7 (segs.map Sgm.enc)) := fun o => get_old hk
      simp (maxSteps := 1000000) (disch := omega) only [push_cast, ↓wc_region, ↓wr_cons, ↓wr_nil, wo_some, opQ_eq, Nat.reduceAdd, Nat.reduceMul, Nat.reduceLT, Nat.reduceLeDiff, Nat.reduceEqDiff, ↓reduceIte, planIds, List.contains_cons, List.contains_nil, Nat.reduceBEq, setC, List.length_set, eq_self, Int.natCast_nonneg, Int.toNat_natCast, Int.ofNat_lt, Nat.zero_add, planIds, List.contains_cons, List.contains_nil, Nat.reduceBEq, Nat.reduceMul, Nat.reduceAdd, ↓reduceIte, hal, h1, h2, h3, h22, h23, h24, hlt, hk, hsi, hse, List.getElem?_map, set_end, get_end]
  clear hal h1 h2 h3 h22 h23 h24 a
  rintro a T' ⟨hal, h1, h2, h3, h7, h8, h22, h23, h24, hT'⟩
  have kx : ExtS S T' := by rw [hT']; exact hxS.push _
  have k0 : T'[b]? = some (.row 2 [[.sl 5 (p.aps.map Apt.enc) p.apsx, .sl 3 (p.dts.map Dst.enc) p.dtsx]]) := by rw [hT']; exact get_old hT0
  have k1 : T'[q]? = some (.row 7 [s.enc]) := by rw [hT', ← hq]; exact get_end
  clear hT' hT0
  refine wc_scut (fun a T => a.length = 69 ∧ a[1]? = some (.sl 4 (l.map Cnn.enc) x) ∧ a[2]? = some (sgD) ∧ a[3]? = some (.loc b 0 0) ∧ a[7]? = some (.int .i64 i) ∧ a[8]? = some (.loc q 0 0) ∧ a[10]? = some (.bool (isF p s.f)) ∧ a[22]? = some (sgD) ∧ a[23]? = some (.int .i64 segs.length) ∧ a[24]? = some (.int .i64 i) ∧ ExtS T' T) ?_ ?_
  · rw [hse] at k1
    simp (maxSteps := 1000000) (disch := omega) only [push_cast, ↓wc_region, ↓wr_cons, ↓wr_nil, ↓wo_callf, wo_some, opQ_eq, Nat.reduceAdd, Nat.reduceMul, Nat.reduceLT, Nat.reduceLeDiff, Nat.reduceEqDiff, ↓reduceIte, planIds, hasExt, cntFs, idxFs, clnFs, ovlFs, List.contains_cons, List.contains_nil, List.any_nil, Nat.reduceBEq, setC, List.length_set, eq_self, Nat.zero_add, planIds, hasExt, cntFs, idxFs, clnFs, ovlFs, List.contains_cons, List.contains_nil, List.any_nil, Nat.reduceBEq, Nat.reduceMul, Nat.reduceAdd, ↓reduceIte, hal, h1, h2, h3, h7, h8, h22, h23, h24, k0, k1, tU, oU, set_end, get_end]
    exact ExtS.refl.push _
  clear hal h1 h2 h3 h7 h8 h22 h23 h24 a
  rintro a T2 ⟨hal, h1, h2, h3, h7, h8, h10, h22, h23, h24, hx⟩
  replace k0 := hx _ _ k0
  replace k1 := hx _ _ k1
  replace kx := kx.trans hx
  clear hx
  refine wc_scut (fun a T => a.length = 69 ∧ a[1]? = some (.sl 4 (l.map Cnn.enc) x) ∧ a[2]? = some (sgD) ∧ a[3]? = some (.loc b 0 0) ∧ a[7]? = some (.int .i64 i) ∧ a[8]? = some (.loc q 0 0) ∧ a[10]? = some (.bool (isF p s.f)) ∧ a[12]? = some (.bool (isF p s.t)) ∧ a[22]? = some (sgD) ∧ a[23]? = some (.int .i64 segs.length) ∧ a[24]? = some (.int .i64 i) ∧ ExtS T2 T) ?_ ?_
  · rw [hse] at k1
    simp (maxSteps := 1000000) (disch := omega) only [push_cast, ↓wc_region, ↓wr_cons, ↓wr_nil, ↓wo_callf, wo_some, opQ_eq, Nat.reduceAdd, Nat.reduceMul, Nat.reduceLT, Nat.reduceLeDiff, Nat.reduceEqDiff, ↓reduceIte, planIds, hasExt, cntFs, idxFs, clnFs, ovlFs, List.contains_cons, List.contains_nil, List.any_nil, Nat.reduceBEq, setC, List.length_set, eq_self, Nat.zero_add, planIds, hasExt, cntFs, idxFs, clnFs, ovlFs, List.contains_cons, List.contains_nil, List.any_nil, Nat.reduceBEq, Nat.reduceMul, Nat.reduceAdd, ↓reduceIte, hal, h1, h2, h3, h7, h8, h10, h22, h23, h24, k0, k1, tV, oV, set_end, get_end]
    exact ExtS.refl.push _
  clear hal h1 h2 h3 h7 h8 h10 h22 h23 h24 a
  rintro a T3 ⟨hal, h1, h2, h3, h7, h8, h10, h12, h22, h23, h24, hx⟩
  replace k0 := hx _ _ k0
  replace k1 := hx _ _ k1
  replace kx := kx.trans hx
  clear hx
  rw [hse] at k1
  clear tU tV oU oV
  have fin : ∀ z, vstep p l (prv segs i) s = z → z ≠ 0 → validF p l none segs = z := fun z h h0 => by
    rw [hv, h, if_neg h0]
  cases e1 : isF p s.f
  · have hz := fin 14 (by unfold vstep; rw [if_pos (.inl e1)]) (by decide)
    simp (maxSteps := 1000000) (disch := omega) only [push_cast, ↓wc_seq, ↓wc_condL, ↓wc_region, ↓wr_cons, ↓wr_consgL, ↓wr_nil, ↓wo_pickL, ↓wc_ret, wo_some, opQ_eq, seqQ_normal, seqQ_ret, blockQ_ret, iterQ_ret, retQ_ret, pickC_true, pickO_true, gstep_tf, Nat.reduceAdd, Nat.reduceMul, Nat.reduceLT, Nat.reduceEqDiff, ↓reduceIte, planIds, List.contains_cons, List.contains_nil, Nat.reduceBEq, setC, List.length_set, eq_self, Nat.zero_add, planIds, List.contains_cons, List.contains_nil, Nat.reduceBEq, Nat.reduceMul, Nat.reduceAdd, ↓reduceIte, hal, h10, e1, hz, Tryd.f18]
    exact kx
  cases e2 : isF p s.t
  · have hz := fin 14 (by unfold vstep; rw [if_pos (.inr e2)]) (by decide)
    simp (maxSteps := 1000000) (disch := omega) only [push_cast, ↓wc_seq, ↓wc_condL, ↓wc_region, ↓wr_cons, ↓wr_consgL, ↓wr_nil, ↓wo_pickL, ↓wc_ret, wo_some, opQ_eq, seqQ_normal, seqQ_ret, blockQ_ret, iterQ_ret, retQ_ret, pickC_true, pickO_false, gstep_ff, Nat.reduceAdd, Nat.reduceMul, Nat.reduceLT, Nat.reduceEqDiff, ↓reduceIte, planIds, List.contains_cons, List.contains_nil, Nat.reduceBEq, setC, List.length_set, eq_self, Nat.zero_add, planIds, List.contains_cons, List.contains_nil, Nat.reduceBEq, Nat.reduceMul, Nat.reduceAdd, ↓reduceIte, hal, h10, h12, e1, e2, hz, Tryd.f18]
    exact kx
  by_cases e3 : s.arr ≤ s.dep
  · have hz := fin 13 (by unfold vstep; rw [if_neg (by simp [e1, e2]), if_pos e3]) (by decide)
    simp (maxSteps := 1000000) (disch := omega) only [push_cast, ↓wc_seq, ↓wc_condL, ↓wc_region, ↓wr_cons, ↓wr_consgL, ↓wr_nil, ↓wo_pickL, ↓wc_ret, ↓wc_skip, wo_some, opQ_eq, seqQ_normal, seqQ_ret, blockQ_ret, iterQ_ret, retQ_ret, pickC_true, pickC_false, pickO_false, gstep_ff, Nat.reduceAdd, Nat.reduceMul, Nat.reduceLT, Nat.reduceEqDiff, ↓reduceIte, planIds, List.contains_cons, List.contains_nil, Nat.reduceBEq, setC, List.length_set, eq_self, Nat.zero_add, planIds, List.contains_cons, List.contains_nil, Nat.reduceBEq, Nat.reduceMul, Nat.reduceAdd, ↓reduceIte, hal, h8, h10, h12, e1, e2, e3, k1, hz, Tryd.f18]
    exact kx
  have hs0 : ∀ pr, vstep p l pr s = match pr with
    | none => 0
    | some a => stepE p l a s := fun pr => by unfold vstep; rw [if_neg (by simp [e1, e2]), if_neg e3]; cases pr <;> rfl
  have k0' : T3[b]? = some (.row 2 [p.enc]) := by rw [k0, hpe]
  by_cases hi0 : i = 0
  · subst hi0
    rw [hs0, prv, if_pos rfl] at hv
    simp only [Int.natCast_zero] at h7 h24
    simp (maxSteps := 1000000) (disch := omega) only [push_cast, ↓wc_seq, ↓wc_condL, ↓wc_region, ↓wr_cons, ↓wr_consgL, ↓wr_nil, ↓wo_pickL, ↓wc_exit, ↓wc_skip, wo_some, opQ_eq, seqQ_normal, seqQ_exit, blockQ_exit, iterQ_normal, pickC_true, pickC_false, pickO_false, gstep_ff, int_beq, Nat.reduceAdd, Nat.reduceMul, Nat.reduceLT, Nat.reduceEqDiff, ↓reduceIte, planIds, List.contains_cons, List.contains_nil, Nat.reduceBEq, setC, List.length_set, eq_self, Nat.zero_add, planIds, List.contains_cons, List.contains_nil, Nat.reduceBEq, Nat.reduceMul, Nat.reduceAdd, ↓reduceIte, hal, h1, h2, h3, h7, h8, h10, h12, h22, h23, h24, e1, e2, e3, k1, Int.zero_add, wrap_ok, Int.natCast_one]
    exact ⟨hlt, k0', kx, by rw [hv, prv, hsi]⟩
  obtain ⟨j, hj⟩ : ∃ j, i = j + 1 := ⟨i - 1, by omega⟩
  have hw : IntKind.i64.wrap ((i : Int) - 1) = (j : Int) := by rw [wrap_ok (by omega) (by omega)]; omega
  have hw2 : IntKind.i64.wrap ((i : Int) + 1) = (i : Int) + 1 := wrap_ok (by omega) (by omega)
  have hi0' : ¬ (i : Int) = 0 := by omega
  obtain ⟨sj, hsj⟩ : ∃ sj, segs[j]? = some sj := ⟨segs[j]'(by omega), by simp⟩
  have hjl : j < segs.length := by omega
  have nj := hs sj (List.mem_of_getElem? hsj)
  have hp : prv segs i = some sj := by rw [hj, prv, hsj]
  have hst := hs0 (prv segs i)
  rw [hp] at hst hv
  simp only at hst
  have cf := follows_c (n := n) (p := p) (l := l) (x := x) (by omega) hpl hl nj ns
  rw [hp] at fin
  rw [hst] at hv fin
  generalize stepE p l sj s = z at *
  rw [hpe, hse, show sj.enc = [.str sj.c, .int .i64 sj.n, .int .i64 sj.d, .str sj.f, .str sj.t, .int .i64 sj.dep, .int .i64 sj.arr] from rfl] at cf
  have hsj' : sj.enc = [.str sj.c, .int .i64 sj.n, .int .i64 sj.d, .str sj.f, .str sj.t, .int .i64 sj.dep, .int .i64 sj.arr] := rfl
  by_cases e4 : z = 0
  · rw [if_pos e4] at hv
    rcases hlen _ kx with ⟨rfl, hse0⟩ | ⟨y, rfl⟩ | ⟨k, rfl, hk⟩
    · rw [hse0] at hsi; simp at hsi
    · simp (maxSteps := 1000000) (disch := omega) only [push_cast, ↓wc_seq, ↓wc_condL, ↓wc_region, ↓wr_cons, ↓wr_consgL, ↓wr_nil, ↓wo_pickL, ↓wo_callf, ↓wc_skip, wo_some, opQ_eq, seqQ_normal, blockQ_normal, iterQ_normal, pickC_false, pickO_false, gstep_ff, int_bne, int_beq, Nat.reduceAdd, Nat.reduceMul, Nat.reduceLT, Nat.reduceLeDiff, Nat.reduceEqDiff, ↓reduceIte, planIds, hasExt, cntFs, idxFs, clnFs, ovlFs, List.contains_cons, List.contains_nil, List.any_nil, Nat.reduceBEq, setC, List.length_set, eq_self, Int.natCast_nonneg, Int.toNat_natCast, Option.some.injEq, Nat.zero_add, not_true_eq_false, planIds, hasExt, cntFs, idxFs, clnFs, ovlFs, List.contains_cons, List.contains_nil, List.any_nil, Nat.reduceBEq, Nat.reduceMul, Nat.reduceAdd, ↓reduceIte, hal, h1, h2, h3, h7, h8, h10, h12, h22, h23, h24, e1, e2, e3, k0, k1, hi0', hw, hw2, hsj, hsj', cf, e4, List.getElem?_map, Int.natCast_add, Int.natCast_one]
      exact ⟨hlt, by rw [hpe], kx, by rw [hv, prv, hsi]⟩
    · simp (maxSteps := 1000000) (disch := omega) only [push_cast, ↓wc_seq, ↓wc_condL, ↓wc_region, ↓wr_cons, ↓wr_consgL, ↓wr_nil, ↓wo_pickL, ↓wo_callf, ↓wc_skip, wo_some, opQ_eq, seqQ_normal, blockQ_normal, iterQ_normal, pickC_false, pickO_false, gstep_ff, int_bne, int_beq, Nat.reduceAdd, Nat.reduceMul, Nat.reduceLT, Nat.reduceLeDiff, Nat.reduceEqDiff, ↓reduceIte, planIds, hasExt, cntFs, idxFs, clnFs, ovlFs, List.contains_cons, List.contains_nil, List.any_nil, Nat.reduceBEq, setC, List.length_set, eq_self, Int.natCast_nonneg, Int.toNat_natCast, Int.ofNat_lt, Option.some.injEq, Nat.zero_add, not_true_eq_false, planIds, hasExt, cntFs, idxFs, clnFs, ovlFs, List.contains_cons, List.contains_nil, List.any_nil, Nat.reduceBEq, Nat.reduceMul, Nat.reduceAdd, ↓reduceIte, hal, h1, h2, h3, h7, h8, h10, h12, h22, h23, h24, e1, e2, e3, k0, k1, hi0', hw, hw2, hjl, hk, hsj, hsj', cf, e4, List.getElem?_map, Int.natCast_add, Int.natCast_one]
      exact ⟨hlt, by rw [hpe], kx, by rw [hv, prv, hsi]⟩
  · have hz := fin z rfl e4
    rcases hlen _ kx with ⟨rfl, hse0⟩ | ⟨y, rfl⟩ | ⟨k, rfl, hk⟩
    · rw [hse0] at hsi; simp at hsi
    · simp (maxSteps := 1000000) (disch := omega) only [push_cast, ↓wc_seq, ↓wc_condL, ↓wc_region, ↓wr_cons, ↓wr_consgL, ↓wr_nil, ↓wo_pickL, ↓wo_callf, ↓wc_ret, ↓wc_skip, wo_some, opQ_eq, seqQ_normal, seqQ_ret, blockQ_ret, iterQ_ret, retQ_ret, pickC_true, pickC_false, pickO_false, gstep_ff, int_bne, int_beq, Nat.reduceAdd, Nat.reduceMul, Nat.reduceLT, Nat.reduceLeDiff, Nat.reduceEqDiff, ↓reduceIte, planIds, hasExt, cntFs, idxFs, clnFs, ovlFs, List.contains_cons, List.contains_nil, List.any_nil, Nat.reduceBEq, setC, List.length_set, eq_self, Int.natCast_nonneg, Int.toNat_natCast, Nat.zero_add, not_false_eq_true, planIds, hasExt, cntFs, idxFs, clnFs, ovlFs, List.contains_cons, List.contains_nil, List.any_nil, Nat.reduceBEq, Nat.reduceMul, Nat.reduceAdd, ↓reduceIte, hal, h1, h2, h3, h7, h8, h10, h12, e1, e2, e3, k0, k1, hi0', hw, hsj, hsj', cf, e4, hz, List.getElem?_map, Tryd.f18]
      exact kx
    · simp (maxSteps := 1000000) (disch := omega) only [push_cast, ↓wc_seq, ↓wc_condL, ↓wc_region, ↓wr_cons, ↓wr_consgL, ↓wr_nil, ↓wo_pickL, ↓wo_callf, ↓wc_ret, ↓wc_skip, wo_some, opQ_eq, seqQ_normal, seqQ_ret, blockQ_ret, iterQ_ret, retQ_ret, pickC_true, pickC_false, pickO_false, gstep_ff, int_bne, int_beq, Nat.reduceAdd, Nat.reduceMul, Nat.reduceLT, Nat.reduceLeDiff, Nat.reduceEqDiff, ↓reduceIte, planIds, hasExt, cntFs, idxFs, clnFs, ovlFs, List.contains_cons, List.contains_nil, List.any_nil, Nat.reduceBEq, setC, List.length_set, eq_self, Int.natCast_nonneg, Int.toNat_natCast, Int.ofNat_lt, Nat.zero_add, not_false_eq_true, planIds, hasExt, cntFs, idxFs, clnFs, ovlFs, List.contains_cons, List.contains_nil, List.any_nil, Nat.reduceBEq, Nat.reduceMul, Nat.reduceAdd, ↓reduceIte, hal, h1, h2, h3, h7, h8, h10, h12, e1, e2, e3, k0, k1, hi0', hw, hjl, hk, hsj, hsj', cf, e4, hz, List.getElem?_map, Tryd.f18]
      exact kx

theorem dfs_len3 {l segs fr to m} {q : List Nat} (h : q ∈ dfs l segs fr to m []) : (∀ j ∈ q, j < segs.length) ∧ q ≠ [] ∧ q.length ≤ m := by
  obtain ⟨a, b, -, d⟩ := dfs_mem (by simp) h
  exact ⟨a, b, by simpa using d⟩
/-- What a pure call of Paths hands back. -/
theorem Paths_c {n : Nat} {l : List Cnn} {segs : List Sgm} {lD sgD : D} {fr to : ByteArray} {mo : Int} (hn : segs.length + l.length + 2600 ≤ n) (hFit : ∀ n, l.length + 40 ≤ n → ∀ st S a b, Near a → Near b → callD E (dcall E n) st S 15 [lD, .agg a.enc, .agg b.enc] = some (.bool (fitB l a b), S)) (hl1 : lD.one = true) (hg1 : sgD.one = true) (hl2 : lD.pure = true) (hg2 : sgD.pure = true) (hnear : ∀ s ∈ segs, Near s) (hsl : segs.length ≤ 200) (hs : SegD [] sgD segs) :
    ∃ d e ps, (∀ st S, callD E (dcall E n) st S 20 [lD, sgD, .str fr, .str to, .int .i64 mo] = some (.tup [d, .int .i64 e], S)) ∧ FP d ps ∧
      (((mo < 1 ∨ 3 < mo) ∧ ps = [] ∧ e = 2) ∨ ∃ m : Nat, mo = ((m + 1 : Nat) : Int) ∧ m ≤ 2 ∧ ((1024 < (dfs l segs fr to (m + 1) []).length ∧ ps = [] ∧ e = 4) ∨ ((dfs l segs fr to (m + 1) []).length ≤ 1024 ∧ e = 0 ∧ ps.Perm (dfs l segs fr to (m + 1) []) ∧ ps.Pairwise fun x y => ¬ ahd segs y x))) := by
  obtain ⟨n, rfl⟩ : ∃ m, n = m + 1 := ⟨n - 1, by omega⟩
  obtain ⟨r, T, ho, h⟩ := Paths_d (n := n) (fr := fr) (to := to) (mo := mo) (S := []) (by omega) hFit hl1 hg1 hnear hsl hs
  have hp : pureL [lD, sgD, .str fr, .str to, .int .i64 mo] = true := by simp [pureL_cons, pureL_nil, D.pure, hl2, hg2]
  rcases h with ⟨h1, rfl⟩ | ⟨m, h1, h2, ⟨h3, rfl⟩ | ⟨h3, d, o, rfl, h5, h6, h7, h8⟩⟩
  · exact ⟨_, _, [], fun st S => callD_pure rfl hp ho rfl, .inl ⟨rfl, rfl⟩, .inl ⟨h1, rfl, rfl⟩⟩
  · exact ⟨_, _, [], fun st S => callD_pure rfl hp ho rfl, .inl ⟨rfl, rfl⟩, .inr ⟨m, h1, h2, .inl ⟨h3, rfl, rfl⟩⟩⟩
  · obtain ⟨d', hf, hfp⟩ := freeze_paths h5 h6
    have hfz : freeze T 40 (.tup [d, .int .i64 0]) = some (.tup [d', .int .i64 0]) := by
      unfold freeze
      by_cases hd : (D.tup [d, .int .i64 0]).pure = true
      · rw [if_pos hd]
        have hdp : d.pure = true := by simpa [D.pure, pureL_cons, pureL_nil] using hd
        rw [freeze_pure hdp] at hf
        cases hf; rfl
      · rw [if_neg hd]
        simp only [mapO, hf, freeze_pure (show (D.int .i64 0).pure = true from rfl), Option.map_some]
    exact ⟨_, _, o.map (·.2), fun st S => callD_pure rfl hp ho hfz, hfp, .inr ⟨m, h1, h2, .inr ⟨h3, rfl, h7, h8⟩⟩⟩
set_option maxHeartbeats 32000000 in
set_option maxRecDepth 100000 in
theorem ConnectFollows_d {n : Nat} (hn : 4000 ≤ n) {p : Plc} {l : List Cnn} {x y : Bool} {segs : List Sgm} {mo : Int} (hlp : p.aps.length ≤ 9223372036854775807) (hlq : p.dts.length ≤ 9223372036854775807) (hll : l.length ≤ 9223372036854775807) (hls : segs.length ≤ 9223372036854775807) (hN : segs.length + 2 < n) (hz : ∀ c ∈ p.aps, AptR (n - 2) c) :
    WO (dcall E (n + 1) 7 [.agg p.enc, .agg [.sl 4 (l.map Cnn.enc) x, .sl 7 (segs.map Sgm.enc) y], .int .i64 mo] []) fun d _ => d = .bool true := by
  have hpe : p.enc = [.sl 5 (p.aps.map Apt.enc) p.apsx, .sl 3 (p.dts.map Dst.enc) p.dtsx] := rfl
  have ck := knows_c (n := n) (by omega)
  have cf := far_c (n := n) (l := segs) (x := y) (by omega) (by omega)
  refine wo_dcall Tryd.func7 rfl (by decide) rfl 232 rfl (fun a hal ha => ?_)
  have h0 : a[0]? = some (.agg p.enc) := ha 0 (by simp)
  have h1 : a[1]? = some (.agg [.sl 4 (l.map Cnn.enc) x, .sl 7 (segs.map Sgm.enc) y]) := ha 1 (by simp)
  have h2 : a[2]? = some (.int .i64 mo) := ha 2 (by simp)
  clear ha
  rw [hpe] at h0
  by_cases g1 : (30 : Int) < l.length
  · simp (maxSteps := 1000000) (disch := omega) only [push_cast, ↓wc_seq, ↓wc_condL, ↓wc_region, ↓wr_cons, ↓wr_consgL, ↓wr_nil, ↓wo_pickL, ↓wo_callf, ↓wc_ret, wo_some, opQ_eq, seqQ_normal, seqQ_ret, retQ_ret, pickC_true, pickO_true, gstep_tf, Nat.reduceAdd, Nat.reduceMul, Nat.reduceLT, Nat.reduceEqDiff, ↓reduceIte, planIds, hasExt, cntFs, idxFs, clnFs, ovlFs, List.contains_cons, List.contains_nil, List.any_nil, Nat.reduceBEq, setC, List.length_set, eq_self, Nat.zero_add, Nat.add_zero, gt_iff_lt, planIds, hasExt, cntFs, idxFs, clnFs, ovlFs, List.contains_cons, List.contains_nil, List.any_nil, Nat.reduceBEq, Nat.reduceMul, Nat.reduceAdd, ↓reduceIte, hal, h0, h1, List.length_map, g1, ck, Tryd.f7]
  by_cases g2 : (30 : Int) < segs.length
  · simp (maxSteps := 1000000) (disch := omega) only [push_cast, ↓wc_seq, ↓wc_condL, ↓wc_region, ↓wr_cons, ↓wr_consgL, ↓wr_nil, ↓wo_pickL, ↓wo_callf, ↓wc_ret, wo_some, opQ_eq, seqQ_normal, seqQ_ret, retQ_ret, pickC_true, pickO_true, pickO_false, gstep_ff, gstep_tf, Nat.reduceAdd, Nat.reduceMul, Nat.reduceLT, Nat.reduceEqDiff, ↓reduceIte, planIds, hasExt, cntFs, idxFs, clnFs, ovlFs, List.contains_cons, List.contains_nil, List.any_nil, Nat.reduceBEq, setC, List.length_set, eq_self, Nat.zero_add, Nat.add_zero, gt_iff_lt, planIds, hasExt, cntFs, idxFs, clnFs, ovlFs, List.contains_cons, List.contains_nil, List.any_nil, Nat.reduceBEq, Nat.reduceMul, Nat.reduceAdd, ↓reduceIte, hal, h0, h1, List.length_map, g1, g2, ck, Tryd.f7]
  cases e1 : segs.any farB
  case true =>
    rw [e1] at cf
    simp (maxSteps := 1000000) (disch := omega) only [push_cast, ↓wc_seq, ↓wc_condL, ↓wc_region, ↓wr_cons, ↓wr_consgL, ↓wr_nil, ↓wo_pickL, ↓wo_callf, ↓wc_ret, wo_some, opQ_eq, seqQ_normal, seqQ_ret, retQ_ret, pickC_true, pickO_true, pickO_false, gstep_ff, gstep_tf, Nat.reduceAdd, Nat.reduceMul, Nat.reduceLT, Nat.reduceEqDiff, ↓reduceIte, planIds, hasExt, cntFs, idxFs, clnFs, ovlFs, List.contains_cons, List.contains_nil, List.any_nil, Nat.reduceBEq, setC, List.length_set, eq_self, Nat.zero_add, Nat.add_zero, gt_iff_lt, planIds, hasExt, cntFs, idxFs, clnFs, ovlFs, List.contains_cons, List.contains_nil, List.any_nil, Nat.reduceBEq, Nat.reduceMul, Nat.reduceAdd, ↓reduceIte, hal, h0, h1, List.length_map, g1, g2, cf, ck, Tryd.f7]
  rw [e1] at cf
  by_cases g3 : (p.aps.length : Int) < 2
  · simp (maxSteps := 1000000) (disch := omega) only [push_cast, ↓wc_seq, ↓wc_condL, ↓wc_region, ↓wr_cons, ↓wr_consgL, ↓wr_nil, ↓wo_pickL, ↓wo_callf, ↓wc_ret, wo_some, opQ_eq, seqQ_normal, seqQ_ret, retQ_ret, pickC_true, pickO_true, pickO_false, gstep_ff, gstep_tf, Nat.reduceAdd, Nat.reduceMul, Nat.reduceLT, Nat.reduceEqDiff, ↓reduceIte, planIds, hasExt, cntFs, idxFs, clnFs, ovlFs, List.contains_cons, List.contains_nil, List.any_nil, Nat.reduceBEq, setC, List.length_set, eq_self, Nat.zero_add, Nat.add_zero, gt_iff_lt, planIds, hasExt, cntFs, idxFs, clnFs, ovlFs, List.contains_cons, List.contains_nil, List.any_nil, Nat.reduceBEq, Nat.reduceMul, Nat.reduceAdd, ↓reduceIte, hal, h0, h1, List.length_map, g1, g2, cf, g3, ck, Tryd.f7]
  by_cases g4 : (20 : Int) < p.aps.length
  · simp (maxSteps := 1000000) (disch := omega) only [push_cast, ↓wc_seq, ↓wc_condL, ↓wc_region, ↓wr_cons, ↓wr_consgL, ↓wr_nil, ↓wo_pickL, ↓wo_callf, ↓wc_ret, wo_some, opQ_eq, seqQ_normal, seqQ_ret, retQ_ret, pickC_true, pickO_true, pickO_false, gstep_ff, gstep_tf, Nat.reduceAdd, Nat.reduceMul, Nat.reduceLT, Nat.reduceEqDiff, ↓reduceIte, planIds, hasExt, cntFs, idxFs, clnFs, ovlFs, List.contains_cons, List.contains_nil, List.any_nil, Nat.reduceBEq, setC, List.length_set, eq_self, Nat.zero_add, Nat.add_zero, gt_iff_lt, planIds, hasExt, cntFs, idxFs, clnFs, ovlFs, List.contains_cons, List.contains_nil, List.any_nil, Nat.reduceBEq, Nat.reduceMul, Nat.reduceAdd, ↓reduceIte, hal, h0, h1, List.length_map, g1, g2, cf, g3, g4, ck, Tryd.f7]
  by_cases g5 : (40 : Int) < p.dts.length
  · simp (maxSteps := 1000000) (disch := omega) only [push_cast, ↓wc_seq, ↓wc_condL, ↓wc_region, ↓wr_cons, ↓wr_consgL, ↓wr_nil, ↓wo_pickL, ↓wo_callf, ↓wc_ret, wo_some, opQ_eq, seqQ_normal, seqQ_ret, retQ_ret, pickC_true, pickO_true, pickO_false, gstep_ff, gstep_tf, Nat.reduceAdd, Nat.reduceMul, Nat.reduceLT, Nat.reduceEqDiff, ↓reduceIte, planIds, hasExt, cntFs, idxFs, clnFs, ovlFs, List.contains_cons, List.contains_nil, List.any_nil, Nat.reduceBEq, setC, List.length_set, eq_self, Nat.zero_add, Nat.add_zero, gt_iff_lt, planIds, hasExt, cntFs, idxFs, clnFs, ovlFs, List.contains_cons, List.contains_nil, List.any_nil, Nat.reduceBEq, Nat.reduceMul, Nat.reduceAdd, ↓reduceIte, hal, h0, h1, List.length_map, g1, g2, cf, g3, g4, g5, ck, Tryd.f7]
  obtain ⟨dc, fs, hfz, hfl, cc⟩ := PCheck_c (n := n) (p := p) (by omega) (by omega) (by omega) hz
  rw [hpe] at cc
  have near : ∀ s ∈ segs, Near s := fun s hs => far_near (by
    rw [List.any_eq_false] at e1
    simpa using e1 s hs)
  obtain ⟨lD, hlD⟩ : ∃ lD, lD = D.sl 4 (l.map Cnn.enc) x := ⟨_, rfl⟩
  obtain ⟨sgD, hsgD⟩ : ∃ sgD, sgD = D.sl 7 (segs.map Sgm.enc) y := ⟨_, rfl⟩
  by_cases g6 : (0 : Int) < fs.length
  · rcases hfz with ⟨rfl, rfl⟩ | ⟨z, rfl⟩
    · simp at g6
    · simp (maxSteps := 1000000) (disch := omega) only [push_cast, ↓wc_seq, ↓wc_condL, ↓wc_region, ↓wr_cons, ↓wr_consgL, ↓wr_nil, ↓wo_pickL, ↓wo_callf, ↓wc_ret, wo_some, opQ_eq, seqQ_normal, seqQ_ret, retQ_ret, pickC_true, pickO_false, gstep_ff, Nat.reduceAdd, Nat.reduceMul, Nat.reduceLT, Nat.reduceLeDiff, Nat.reduceEqDiff, ↓reduceIte, planIds, hasExt, cntFs, idxFs, clnFs, ovlFs, List.contains_cons, List.contains_nil, List.any_nil, Nat.reduceBEq, setC, List.length_set, eq_self, Nat.zero_add, Nat.add_zero, gt_iff_lt, planIds, hasExt, cntFs, idxFs, clnFs, ovlFs, List.contains_cons, List.contains_nil, List.any_nil, Nat.reduceBEq, Nat.reduceMul, Nat.reduceAdd, ↓reduceIte, hal, h0, h1, List.length_map, g1, g2, cf, g3, g4, g5, cc, g6, ck, Tryd.f7]
  obtain ⟨a0, ha0⟩ : ∃ a, p.aps[0]? = some a := ⟨p.aps[0]'(by omega), by simp⟩
  obtain ⟨a1, ha1⟩ : ∃ a, p.aps[1]? = some a := ⟨p.aps[1]'(by omega), by simp⟩
  have hl0 : 0 < p.aps.length := by omega
  have hl1 : 1 < p.aps.length := by omega
  rw [wc_asc]
  refine wc_scut (fun a T => a.length = 232 ∧ a[2]? = some (.int .i64 mo) ∧ a[3]? = some (.loc 0 0 0) ∧ a[4]? = some (.loc 1 0 0) ∧ T = [.row 2 [p.enc], .row 2 [[lD, sgD]]]) ?_ ?_
  · rw [hpe, hlD, hsgD]
    rcases hfz with ⟨rfl, rfl⟩ | ⟨z, rfl⟩
    · simp (maxSteps := 1000000) (disch := omega) only [push_cast, ↓wc_seq, ↓wc_condL, ↓wc_region, ↓wr_cons, ↓wr_consgL, ↓wr_nil, ↓wo_pickL, ↓wo_callf, ↓wc_skip, wo_some, opQ_eq, seqQ_normal, pickC_false, pickO_false, gstep_ff, Nat.reduceAdd, Nat.reduceMul, Nat.reduceLT, Nat.reduceLeDiff, Nat.reduceEqDiff, ↓reduceIte, planIds, hasExt, cntFs, idxFs, clnFs, ovlFs, List.contains_cons, List.contains_nil, List.any_nil, Nat.reduceBEq, setC, List.length_set, eq_self, Nat.zero_add, Nat.add_zero, gt_iff_lt, planIds, hasExt, cntFs, idxFs, clnFs, ovlFs, List.contains_cons, List.contains_nil, List.any_nil, Nat.reduceBEq, Nat.reduceMul, Nat.reduceAdd, ↓reduceIte, hal, h0, h1, h2, List.length_map, g1, g2, cf, g3, g4, g5, cc, Int.lt_irrefl]
    · simp (maxSteps := 1000000) (disch := omega) only [push_cast, ↓wc_seq, ↓wc_condL, ↓wc_region, ↓wr_cons, ↓wr_consgL, ↓wr_nil, ↓wo_pickL, ↓wo_callf, ↓wc_skip, wo_some, opQ_eq, seqQ_normal, pickC_false, pickO_false, gstep_ff, Nat.reduceAdd, Nat.reduceMul, Nat.reduceLT, Nat.reduceLeDiff, Nat.reduceEqDiff, ↓reduceIte, planIds, hasExt, cntFs, idxFs, clnFs, ovlFs, List.contains_cons, List.contains_nil, List.any_nil, Nat.reduceBEq, setC, List.length_set, eq_self, Nat.zero_add, Nat.add_zero, gt_iff_lt, planIds, hasExt, cntFs, idxFs, clnFs, ovlFs, List.contains_cons, List.contains_nil, List.any_nil, Nat.reduceBEq, Nat.reduceMul, Nat.reduceAdd, ↓reduceIte, hal, h0, h1, h2, List.length_map, g1, g2, cf, g3, g4, g5, cc, g6]
  clear hal h0 h1 h2 a
  rintro a T ⟨hal, h2, h3, h4, rfl⟩
  refine wc_scut (fun a T => a.length = 232 ∧ a[2]? = some (.int .i64 mo) ∧ a[3]? = some (.loc 0 0 0) ∧ a[4]? = some (.loc 1 0 0) ∧ a[7]? = some (.str a0.code) ∧ a[8]? = some (.str a1.code) ∧ T = [.row 2 [p.enc], .row 2 [[lD, sgD]]]) ?_ ?_
  · rw [hpe]
    simp (maxSteps := 1000000) (disch := omega) only [push_cast, ↓wc_region, ↓wr_cons, ↓wr_nil, wo_some, opQ_eq, Nat.reduceAdd, Nat.reduceMul, Nat.reduceLT, Nat.reduceEqDiff, Int.reduceLE, ↓reduceIte, planIds, List.contains_cons, List.contains_nil, Nat.reduceBEq, setC, List.length_set, eq_self, Nat.zero_add, Nat.add_zero, planIds, List.contains_cons, List.contains_nil, Nat.reduceBEq, Nat.reduceMul, Nat.reduceAdd, ↓reduceIte, hal, h2, h3, h4, List.getElem?_map, ha0, ha1, Apt.enc, Int.toNat_one, Int.toNat_zero]
  clear hal h2 h3 h4 a
  rintro a T ⟨hal, h2, h3, h4, h7, h8, rfl⟩
  have hFit : ∀ n, l.length + 40 ≤ n → ∀ st S a b, Near a → Near b → callD E (dcall E n) st S 15 [lD, .agg a.enc, .agg b.enc] = some (.bool (fitB l a b), S) := fun n hn st S a b ha hb => by
    rw [hlD]; exact Fits_c (by omega) (by omega) ha hb st S
  obtain ⟨d, e, ps, cp, hfp, hps⟩ := Paths_c (n := n) (l := l) (segs := segs) (lD := lD) (sgD := sgD) (fr := a0.code) (to := a1.code) (mo := mo) (by omega) hFit (by rw [hlD]; rfl) (by rw [hsgD]; rfl) (by rw [hlD]; exact cnn_pure l) (by rw [hsgD]; exact sgm_pure segs) near (by omega) (.inr (.inl ⟨y, hsgD⟩))
  have hq : ∀ q ∈ ps, ∃ m : Nat, mo = ((m + 1 : Nat) : Int) ∧ m ≤ 2 ∧ q ∈ dfs l segs a0.code a1.code (m + 1) [] := fun q hq => by
    rcases hps with ⟨-, h, -⟩ | ⟨m, h1, h2, ⟨-, h, -⟩ | ⟨-, -, h, -⟩⟩
    · rw [h] at hq; simp at hq
    · rw [h] at hq; simp at hq
    · exact ⟨m, h1, h2, h.subset hq⟩
  have hord : ps.Pairwise fun x y => ¬ ahd segs y x := by
    rcases hps with ⟨-, h, -⟩ | ⟨m, h1, h2, ⟨-, h, -⟩ | ⟨-, -, -, h⟩⟩
    · rw [h]; exact List.Pairwise.nil
    · rw [h]; exact List.Pairwise.nil
    · exact h
  have hpl : ps.length ≤ 1024 := by
    rcases hps with ⟨-, h, -⟩ | ⟨m, h1, h2, ⟨-, h, -⟩ | ⟨h3, -, h, -⟩⟩
    · rw [h]; simp
    · rw [h]; simp
    · rw [h.length_eq]; exact h3
  clear hps
  refine wc_scut (fun a T => a.length = 232 ∧ a[2]? = some (.int .i64 mo) ∧ a[3]? = some (.loc 0 0 0) ∧ a[4]? = some (.loc 1 0 0) ∧ a[7]? = some (.str a0.code) ∧ a[8]? = some (.str a1.code) ∧ a[9]? = some (d) ∧ T = [.row 2 [p.enc], .row 2 [[lD, sgD]]]) ?_ ?_
  · simp (maxSteps := 1000000) (disch := omega) only [push_cast, ↓wc_region, ↓wr_cons, ↓wr_nil, ↓wo_callf, wo_some, opQ_eq, Nat.reduceAdd, Nat.reduceMul, Nat.reduceLT, Nat.reduceEqDiff, ↓reduceIte, planIds, hasExt, cntFs, idxFs, clnFs, ovlFs, List.contains_cons, List.contains_nil, List.any_nil, Nat.reduceBEq, setC, List.length_set, eq_self, Nat.zero_add, Nat.add_zero, planIds, hasExt, cntFs, idxFs, clnFs, ovlFs, List.contains_cons, List.contains_nil, List.any_nil, Nat.reduceBEq, Nat.reduceMul, Nat.reduceAdd, ↓reduceIte, hal, h2, h3, h4, h7, h8, cp]
  clear hal h2 h3 h4 h7 h8 a
  clear cp
  rintro a T ⟨hal, h2, h3, h4, h7, h8, h9, hT⟩
  simp (maxSteps := 1000000) (disch := omega) only [push_cast, ↓wc_seq, ↓wc_block, ↓wc_region, ↓wr_cons, ↓wr_nil, ↓wc_wl, wo_some, opQ_eq, seqQ_normal, Nat.reduceAdd, Nat.reduceMul, ↓reduceIte, planIds, List.contains_cons, List.contains_nil, Nat.reduceBEq, Nat.zero_add, planIds, List.contains_cons, List.contains_nil, Nat.reduceBEq, Nat.reduceMul, Nat.reduceAdd, ↓reduceIte]
  refine wl_loop (fun i a T => a.length = 232 ∧ a[2]? = some (.int .i64 mo) ∧ a[3]? = some (.loc 0 0 0) ∧ a[4]? = some (.loc 1 0 0) ∧ a[7]? = some (.str a0.code) ∧ a[8]? = some (.str a1.code) ∧ a[9]? = some (d) ∧ a[11]? = some (.int .i64 i) ∧ T[0]? = some (.row 2 [p.enc]) ∧ T[1]? = some (.row 2 [[lD, sgD]])) ps.length ?_ (by omega) ?_
  · rw [hT]
    simp (maxSteps := 1000000) (disch := omega) only [push_cast, Nat.reduceLT, Nat.reduceEqDiff, ↓reduceIte, setC, List.length_set, eq_self, ↓reduceIte, hal, h2, h3, h4, h7, h8, h9, Int.natCast_zero]
  clear hal h2 h3 h4 h7 h8 h9 a
  clear hT
  rintro i a T hi ⟨hal, h2, h3, h4, h7, h8, h9, h11, hT0, hT1⟩
  rcases hfp with ⟨hd, hpe0⟩ | hd
  · subst hd
    obtain rfl : i = 0 := by rw [hpe0] at hi; simpa using hi
    simp only [Int.natCast_zero] at h11
    simp (maxSteps := 1000000) (disch := omega) only [push_cast, ↓wc_seq, ↓wc_condL, ↓wc_region, ↓wr_cons, ↓wr_nil, ↓wo_callf, ↓wc_exit, ↓wc_ret, wo_some, opQ_eq, seqQ_normal, seqQ_exit, blockQ_exit, iterQ_exit, retQ_ret, pickC_false, Nat.reduceAdd, Nat.reduceMul, Nat.reduceLT, Nat.reduceEqDiff, ↓reduceIte, planIds, hasExt, cntFs, idxFs, clnFs, ovlFs, List.contains_cons, List.contains_nil, List.any_nil, Nat.reduceBEq, setC, List.length_set, eq_self, Nat.zero_add, planIds, hasExt, cntFs, idxFs, clnFs, ovlFs, List.contains_cons, List.contains_nil, List.any_nil, Nat.reduceBEq, Nat.reduceMul, Nat.reduceAdd, ↓reduceIte, hal, h9, h11, Int.lt_irrefl, ck, Tryd.f7]
  have hlen : (ps.map pthD).length = ps.length := by simp
  subst hd
  rcases Nat.lt_or_eq_of_le hi with hlt | rfl
  case inr =>
    simp (maxSteps := 1000000) (disch := omega) only [push_cast, ↓wc_seq, ↓wc_condL, ↓wc_region, ↓wr_cons, ↓wr_nil, ↓wo_callf, ↓wc_exit, ↓wc_ret, wo_some, opQ_eq, seqQ_normal, seqQ_exit, blockQ_exit, iterQ_exit, retQ_ret, pickC_false, Nat.reduceAdd, Nat.reduceMul, Nat.reduceLT, Nat.reduceEqDiff, ↓reduceIte, planIds, hasExt, cntFs, idxFs, clnFs, ovlFs, List.contains_cons, List.contains_nil, List.any_nil, Nat.reduceBEq, setC, List.length_set, eq_self, Int.ofNat_lt, Nat.zero_add, planIds, hasExt, cntFs, idxFs, clnFs, ovlFs, List.contains_cons, List.contains_nil, List.any_nil, Nat.reduceBEq, Nat.reduceMul, Nat.reduceAdd, ↓reduceIte, hal, h9, h11, List.length_map, Nat.lt_irrefl, ck, Tryd.f7]
  obtain ⟨q, hqi⟩ : ∃ q, ps[i]? = some q := ⟨ps[i], by simp⟩
  obtain ⟨m, hm, hm2, hqd⟩ := hq q (List.mem_of_getElem? hqi)
  obtain ⟨hqj, hqn, hql⟩ := dfs_len3 hqd
  obtain ⟨wk, wf, wt⟩ := dfs_way (p := []) (by simp) trivial (by simp [wayL]) hqd
  obtain ⟨n1, hn1⟩ : ∃ n1, q.length = n1 + 1 := ⟨q.length - 1, by have := List.length_pos_iff.2 hqn; omega⟩
  have hwl : (wayL segs q).length = q.length := by simp [wayL]
  have hd9 : (ps.map pthD)[i]? = some [.sl 1 (q.map fun a => [intV a]) false] := by rw [List.getElem?_map, hqi]; rfl
  obtain ⟨es, hes⟩ : ∃ es, es = ps.map pthD := ⟨_, rfl⟩
  rw [← hes] at hd9 hlen h9
  refine wc_scut (fun a T' => T' = T ∧ a.length = 232 ∧ a[2]? = some (.int .i64 mo) ∧ a[3]? = some (.loc 0 0 0) ∧ a[4]? = some (.loc 1 0 0) ∧ a[7]? = some (.str a0.code) ∧ a[8]? = some (.str a1.code) ∧ a[9]? = some (.sl 1 es false) ∧ a[11]? = some (.int .i64 i)) ?_ ?_
  · simp (maxSteps := 1000000) (disch := omega) only [push_cast, ↓wc_seq, ↓wc_condL, ↓wc_region, ↓wr_cons, ↓wr_nil, ↓wc_skip, wo_some, opQ_eq, seqQ_normal, pickC_true, Nat.reduceAdd, Nat.reduceMul, Nat.reduceLT, Nat.reduceEqDiff, ↓reduceIte, planIds, List.contains_cons, List.contains_nil, Nat.reduceBEq, setC, List.length_set, eq_self, Int.ofNat_lt, Nat.zero_add, planIds, List.contains_cons, List.contains_nil, Nat.reduceBEq, Nat.reduceMul, Nat.reduceAdd, ↓reduceIte, hal, h2, h3, h4, h7, h8, h9, h11, hlen, hlt]
  clear hal h2 h3 h4 h7 h8 h9 h11 a
  rintro a T' ⟨rfl, hal, h2, h3, h4, h7, h8, h9, h11⟩
  rw [wc_seq, wc_block, wc_asc]
  refine wc_scut (fun a T => T = T' ∧ a.length = 232 ∧ a[2]? = some (.int .i64 mo) ∧ a[3]? = some (.loc 0 0 0) ∧ a[4]? = some (.loc 1 0 0) ∧ a[7]? = some (.str a0.code) ∧ a[8]? = some (.str a1.code) ∧ a[9]? = some (.sl 1 es false) ∧ a[11]? = some (.int .i64 i) ∧ a[12]? = some (.nils) ∧ a[13]? = some (.bool true)) ?_ ?_
  · simp (maxSteps := 1000000) (disch := omega) only [push_cast, ↓wc_seq, ↓wc_region, ↓wr_cons, ↓wr_nil, wo_some, opQ_eq, seqQ_normal, Nat.reduceAdd, Nat.reduceMul, Nat.reduceLT, Nat.reduceEqDiff, ↓reduceIte, planIds, List.contains_cons, List.contains_nil, Nat.reduceBEq, setC, List.length_set, eq_self, Nat.zero_add, planIds, List.contains_cons, List.contains_nil, Nat.reduceBEq, Nat.reduceMul, Nat.reduceAdd, ↓reduceIte, hal, h2, h3, h4, h7, h8, h9, h11]
  clear hal h2 h3 h4 h7 h8 h9 h11 a
  rintro a T' ⟨rfl, hal, h2, h3, h4, h7, h8, h9, h11, h12, h13⟩
  have hil : i < es.length := by omega
  refine wc_scut (fun a T => ∃ (dw : D) (tk : Bool), a.length = 232 ∧ a[2]? = some (.int .i64 mo) ∧ a[3]? = some (.loc 0 0 0) ∧ a[4]? = some (.loc 1 0 0) ∧ a[7]? = some (.str a0.code) ∧ a[8]? = some (.str a1.code) ∧ a[9]? = some (.sl 1 es false) ∧ a[11]? = some (.int .i64 i) ∧ a[12]? = some (dw) ∧ a[13]? = some (.bool tk) ∧ GL 7 Sgm.enc T dw (wayL segs q) ∧ (tk = true → ∀ s ∈ wayL segs q, isF p s.t = true ∧ s.dep < s.arr) ∧ T[0]? = some (.row 2 [p.enc]) ∧ T[1]? = some (.row 2 [[lD, sgD]])) ?_ ?_
  · simp (maxSteps := 1000000) (disch := omega) only [push_cast, ↓wc_seq, ↓wc_block, ↓wc_region, ↓wr_cons, ↓wr_nil, ↓wc_wl, wo_some, opQ_eq, seqQ_normal, Nat.reduceAdd, Nat.reduceMul, ↓reduceIte, planIds, List.contains_cons, List.contains_nil, Nat.reduceBEq, Nat.zero_add, planIds, List.contains_cons, List.contains_nil, Nat.reduceBEq, Nat.reduceMul, Nat.reduceAdd, ↓reduceIte]
    refine wl_loop (fun k a T => ∃ (dw : D) (tk : Bool), a.length = 232 ∧ a[2]? = some (.int .i64 mo) ∧ a[3]? = some (.loc 0 0 0) ∧ a[4]? = some (.loc 1 0 0) ∧ a[7]? = some (.str a0.code) ∧ a[8]? = some (.str a1.code) ∧ a[9]? = some (.sl 1 es false) ∧ a[11]? = some (.int .i64 i) ∧ a[12]? = some (dw) ∧ a[13]? = some (.bool tk) ∧ a[14]? = some (.int .i64 k) ∧ GL 7 Sgm.enc T dw (wayL segs (q.take k)) ∧ (tk = true → ∀ s ∈ wayL segs (q.take k), isF p s.t = true ∧ s.dep < s.arr) ∧ T[0]? = some (.row 2 [p.enc]) ∧ T[1]? = some (.row 2 [[lD, sgD]])) q.length ?_ (by omega) ?_
    · simp (maxSteps := 1000000) (disch := omega) only [push_cast, Nat.reduceLT, Nat.reduceEqDiff, ↓reduceIte, setC, List.length_set, eq_self, Option.some.injEq, ↓reduceIte, hal, h2, h3, h4, h7, h8, h9, h11, h12, h13, Int.natCast_zero]
      exact ⟨_, _, rfl, rfl, .inl ⟨rfl, rfl⟩, by simp [wayL], hT0, hT1⟩
    clear hal h2 h3 h4 h7 h8 h9 h11 h12 h13 a
    clear hT0 hT1
    rintro k a T hk ⟨dw, tk, hal, h2, h3, h4, h7, h8, h9, h11, h12, h13, h14, hgw, htk, hT0, hT1⟩
    rcases Nat.lt_or_eq_of_le hk with hkl | rfl
    case inr =>
      rw [List.take_length] at hgw htk
      simp (maxSteps := 1000000) (disch := omega) only [push_cast, ↓wc_seq, ↓wc_condL, ↓wc_region, ↓wr_cons, ↓wr_nil, ↓wc_exit, wo_some, opQ_eq, seqQ_normal, seqQ_exit, blockQ_exit, iterQ_exit, pickC_false, Nat.reduceAdd, Nat.reduceMul, Nat.reduceLT, Nat.reduceEqDiff, ↓reduceIte, planIds, List.contains_cons, List.contains_nil, Nat.reduceBEq, setC, List.length_set, eq_self, Int.natCast_nonneg, Int.toNat_natCast, Int.ofNat_lt, Option.some.injEq, Nat.zero_add, planIds, List.contains_cons, List.contains_nil, Nat.reduceBEq, Nat.reduceMul, Nat.reduceAdd, ↓reduceIte, hal, h2, h3, h4, h7, h8, h9, h11, h12, h13, h14, hd9, List.length_map, Nat.lt_irrefl]
      exact ⟨dw, tk, rfl, rfl, hgw, htk, hT0, hT1⟩
    obtain ⟨j, hj⟩ : ∃ j, q[k]? = some j := ⟨q[k], by simp⟩
    have hjl := hqj j (List.mem_of_getElem? hj)
    have hsj := sAt_get hjl
    have hwk : (wayL segs q)[k]? = some (sAt segs j) := by rw [wayL, List.getElem?_map, hj]; rfl
    have htake : wayL segs (q.take (k + 1)) = wayL segs (q.take k) ++ [sAt segs j] := by
      rw [List.take_add_one, hj]; simp [wayL]
    have hprev : ∀ k', k = k' + 1 → ∃ sp, (wayL segs (q.take k))[k']? = some sp ∧ fitB l sp (sAt segs j) = true := fun k' hk' => by
      obtain ⟨j', hj'⟩ : ∃ j', q[k']? = some j' := ⟨q[k']'(by omega), by simp⟩
      refine ⟨sAt segs j', ?_, Lk.at l wk (k := k') (by rw [wayL, List.getElem?_map, hj']; rfl) (by rw [← hk']; exact hwk)⟩
      rw [wayL, List.getElem?_map, List.getElem?_take_of_lt (by omega), hj']; rfl
    have hnsp : ∀ sp ∈ wayL segs q, Near sp := fun sp h => by
      obtain ⟨j', h1, rfl⟩ := List.mem_map.1 h
      exact near _ (List.mem_of_getElem? (sAt_get (hqj j' h1)))
    have ns := hnsp _ (List.mem_of_getElem? hwk)
    obtain ⟨s, hs0⟩ : ∃ s, s = sAt segs j := ⟨_, rfl⟩
    rw [← hs0] at hsj hwk htake hprev ns
    clear hs0
    have hse : s.enc = [.str s.c, .int .i64 s.n, .int .i64 s.d, .str s.f, .str s.t, .int .i64 s.dep, .int .i64 s.arr] := rfl
    have hnj : ¬ ((j : Int) < 0) := by omega
    have hnj2 : ¬ (segs.length ≤ j) := by omega
    have hw2 : IntKind.i64.wrap ((k : Int) + 1) = (k : Int) + 1 := wrap_ok (by omega) (by omega)
    rw [hsgD] at hT1
    refine wc_scut (fun a T' => T' = T ∧ a.length = 232 ∧ a[2]? = some (.int .i64 mo) ∧ a[3]? = some (.loc 0 0 0) ∧ a[4]? = some (.loc 1 0 0) ∧ a[7]? = some (.str a0.code) ∧ a[8]? = some (.str a1.code) ∧ a[9]? = some (.sl 1 es false) ∧ a[11]? = some (.int .i64 i) ∧ a[12]? = some (dw) ∧ a[13]? = some (.bool tk) ∧ a[14]? = some (.int .i64 k)) ?_ ?_
    · simp (maxSteps := 1000000) (disch := omega) only [push_cast, ↓wc_seq, ↓wc_condL, ↓wc_region, ↓wr_cons, ↓wr_nil, ↓wc_skip, wo_some, opQ_eq, seqQ_normal, pickC_true, Nat.reduceAdd, Nat.reduceMul, Nat.reduceLT, Nat.reduceEqDiff, ↓reduceIte, planIds, List.contains_cons, List.contains_nil, Nat.reduceBEq, setC, List.length_set, eq_self, Int.natCast_nonneg, Int.toNat_natCast, Int.ofNat_lt, Nat.zero_add, planIds, List.contains_cons, List.contains_nil, Nat.reduceBEq, Nat.reduceMul, Nat.reduceAdd, ↓reduceIte, hal, h2, h3, h4, h7, h8, h9, h11, h12, h13, h14, hd9, List.length_map, hkl]
    clear hal h2 h3 h4 h7 h8 h9 h11 h12 h13 h14 a
    rintro a T' ⟨rfl, hal, h2, h3, h4, h7, h8, h9, h11, h12, h13, h14⟩
    rw [wc_seq, wc_block]
    obtain ⟨b, hb⟩ : ∃ b, b = T'.length := ⟨_, rfl⟩
    rw [wc_asc]
    refine wc_scut (fun a T => a.length = 232 ∧ a[2]? = some (.int .i64 mo) ∧ a[3]? = some (.loc 0 0 0) ∧ a[4]? = some (.loc 1 0 0) ∧ a[7]? = some (.str a0.code) ∧ a[8]? = some (.str a1.code) ∧ a[9]? = some (.sl 1 es false) ∧ a[11]? = some (.int .i64 i) ∧ a[12]? = some (dw) ∧ a[13]? = some (.bool tk) ∧ a[14]? = some (.int .i64 k) ∧ a[15]? = some (.loc b 0 0) ∧ T = T' ++ [.row 7 [s.enc]]) ?_ ?_
    · rw [hse, hb]
      simp (maxSteps := 1000000) (disch := omega) only [push_cast, ↓wc_seq, ↓wc_condL, ↓wc_region, ↓wr_cons, ↓wr_consgL, ↓wr_nil, ↓wo_pickL, ↓wc_skip, wo_some, opQ_eq, seqQ_normal, pickC_false, pickO_false, gstep_ff, Nat.reduceAdd, Nat.reduceMul, Nat.reduceLT, Nat.reduceLeDiff, Nat.reduceEqDiff, ↓reduceIte, planIds, List.contains_cons, List.contains_nil, Nat.reduceBEq, setC, List.length_set, eq_self, Int.natCast_nonneg, Int.toNat_natCast, Nat.zero_add, planIds, List.contains_cons, List.contains_nil, Nat.reduceBEq, Nat.reduceMul, Nat.reduceAdd, ↓reduceIte, hal, h2, h3, h4, h7, h8, h9, h11, h12, h13, h14, hd9, List.length_map, List.getElem?_map, hj, hnj, hT1, ge_iff_le, Int.ofNat_le, hnj2, hsj, hse, set_end, get_end]
    clear hal h2 h3 h4 h7 h8 h9 h11 h12 h13 h14 a
    rintro a T2 ⟨hal, h2, h3, h4, h7, h8, h9, h11, h12, h13, h14, h15, hT2⟩
    have k0 : T2[0]? = some (.row 2 [p.enc]) := by rw [hT2]; exact get_old hT0
    have k1 : T2[1]? = some (.row 2 [[lD, .sl 7 (segs.map Sgm.enc) y]]) := by rw [hT2]; exact get_old hT1
    have kb : T2[b]? = some (.row 7 [s.enc]) := by rw [hT2, hb]; exact get_end
    have hgw2 : GL 7 Sgm.enc T2 dw (wayL segs (q.take k)) := by rw [hT2]; exact hgw.push _
    clear hT2 hT0 hT1 hgw hb
    obtain ⟨u0, u1, u2, u3, u4, oU, tU⟩ := rfind_at (n := n) (p := p) s.t (by omega) (by omega)
    rw [hpe] at tU
    simp only [List.all_cons, List.all_nil, Bool.and_true, Bool.and_eq_true, D.one] at oU
    rw [wc_asc]
    obtain ⟨tk2, htk2⟩ : ∃ tk2, tk2 = (tk && decide (s.dep < s.arr) && isF p s.t) := ⟨_, rfl⟩
    refine wc_scut (fun a T => a.length = 232 ∧ a[2]? = some (.int .i64 mo) ∧ a[3]? = some (.loc 0 0 0) ∧ a[4]? = some (.loc 1 0 0) ∧ a[7]? = some (.str a0.code) ∧ a[8]? = some (.str a1.code) ∧ a[9]? = some (.sl 1 es false) ∧ a[11]? = some (.int .i64 i) ∧ a[12]? = some (dw) ∧ a[13]? = some (.bool tk2) ∧ a[14]? = some (.int .i64 k) ∧ a[15]? = some (.loc b 0 0) ∧ ExtS T2 T) ?_ ?_
    · rw [hpe] at k0
      rw [hse] at kb
      have kb' : ∀ o, (T2 ++ [o])[b]? = _ := fun o => get_old kb
      rw [htk2]
      generalize isF p s.t = fl at *
      cases tk
      · simp (maxSteps := 1000000) (disch := omega) only [push_cast, ↓wc_seq, ↓wc_region, ↓wr_cons, ↓wr_consgL, ↓wr_nil, ↓wo_pickL, ↓wo_callf, wo_some, opQ_eq, seqQ_normal, pickO_false, gstep_ft, Nat.reduceAdd, Nat.reduceMul, Nat.reduceLT, Nat.reduceLeDiff, Nat.reduceEqDiff, ↓reduceIte, planIds, hasExt, cntFs, idxFs, clnFs, ovlFs, List.contains_cons, List.contains_nil, List.any_nil, Nat.reduceBEq, setC, List.length_set, eq_self, Nat.zero_add, planIds, hasExt, cntFs, idxFs, clnFs, ovlFs, List.contains_cons, List.contains_nil, List.any_nil, Nat.reduceBEq, Nat.reduceMul, Nat.reduceAdd, ↓reduceIte, hal, h2, h3, h4, h7, h8, h9, h11, h12, h13, h14, h15, k0, kb, tU, oU, set_end, get_end, Bool.false_and]
        exact ExtS.refl.push _
      · by_cases e5 : s.dep < s.arr
        · simp (maxSteps := 1000000) (disch := omega) only [push_cast, ↓wc_seq, ↓wc_region, ↓wr_cons, ↓wr_consgL, ↓wr_nil, ↓wo_pickL, ↓wo_callf, wo_some, opQ_eq, seqQ_normal, pickO_true, gstep_tt, Nat.reduceAdd, Nat.reduceMul, Nat.reduceLT, Nat.reduceLeDiff, Nat.reduceEqDiff, ↓reduceIte, planIds, hasExt, cntFs, idxFs, clnFs, ovlFs, List.contains_cons, List.contains_nil, List.any_nil, Nat.reduceBEq, setC, List.length_set, eq_self, Nat.zero_add, gt_iff_lt, planIds, hasExt, cntFs, idxFs, clnFs, ovlFs, List.contains_cons, List.contains_nil, List.any_nil, Nat.reduceBEq, Nat.reduceMul, Nat.reduceAdd, ↓reduceIte, hal, h2, h3, h4, h7, h8, h9, h11, h12, h13, h14, h15, k0, kb, kb', tU, oU, e5, gt_iff_lt, set_end, get_end, decide_true, Bool.true_and]
          exact ExtS.refl.push _
        · simp (maxSteps := 1000000) (disch := omega) only [push_cast, ↓wc_seq, ↓wc_region, ↓wr_cons, ↓wr_consgL, ↓wr_nil, ↓wo_pickL, ↓wo_callf, wo_some, opQ_eq, seqQ_normal, pickO_true, pickO_false, gstep_tt, gstep_ft, Nat.reduceAdd, Nat.reduceMul, Nat.reduceLT, Nat.reduceLeDiff, Nat.reduceEqDiff, ↓reduceIte, planIds, hasExt, cntFs, idxFs, clnFs, ovlFs, List.contains_cons, List.contains_nil, List.any_nil, Nat.reduceBEq, setC, List.length_set, eq_self, Nat.zero_add, gt_iff_lt, planIds, hasExt, cntFs, idxFs, clnFs, ovlFs, List.contains_cons, List.contains_nil, List.any_nil, Nat.reduceBEq, Nat.reduceMul, Nat.reduceAdd, ↓reduceIte, hal, h2, h3, h4, h7, h8, h9, h11, h12, h13, h14, h15, k0, kb, kb', tU, oU, e5, gt_iff_lt, set_end, get_end, decide_false, Bool.and_false, Bool.false_and]
          exact ExtS.refl.push _
    clear hal h2 h3 h4 h7 h8 h9 h11 h12 h13 h14 h15 a
    rintro a T3 ⟨hal, h2, h3, h4, h7, h8, h9, h11, h12, h13, h14, h15, hx⟩
    replace k0 := hx _ _ k0
    replace k1 := hx _ _ k1
    replace kb := hx _ _ kb
    have hgw3 := hgw2.ext hx
    clear hx hgw2 tU oU
    rw [hse] at kb
    refine wc_scut (fun a T => T = T3 ∧ a.length = 232 ∧ a[2]? = some (.int .i64 mo) ∧ a[3]? = some (.loc 0 0 0) ∧ a[4]? = some (.loc 1 0 0) ∧ a[7]? = some (.str a0.code) ∧ a[8]? = some (.str a1.code) ∧ a[9]? = some (.sl 1 es false) ∧ a[11]? = some (.int .i64 i) ∧ a[12]? = some (dw) ∧ a[13]? = some (.bool tk2) ∧ a[14]? = some (.int .i64 k) ∧ a[15]? = some (.loc b 0 0)) ?_ ?_
    · by_cases hk0 : k = 0
      · have g0 : ¬ (0 : Int) < (k : Int) := by omega
        simp (maxSteps := 1000000) (disch := omega) only [push_cast, ↓wc_seq, ↓wc_condL, ↓wc_region, ↓wr_cons, ↓wr_consgL, ↓wr_nil, ↓wo_pickL, ↓wc_skip, wo_some, opQ_eq, seqQ_normal, pickC_false, pickO_false, gstep_ft, Nat.reduceAdd, Nat.reduceMul, Nat.reduceLT, Nat.reduceEqDiff, ↓reduceIte, planIds, List.contains_cons, List.contains_nil, Nat.reduceBEq, setC, List.length_set, eq_self, Nat.zero_add, gt_iff_lt, planIds, List.contains_cons, List.contains_nil, Nat.reduceBEq, Nat.reduceMul, Nat.reduceAdd, ↓reduceIte, hal, h2, h3, h4, h7, h8, h9, h11, h12, h13, h14, h15, g0, gt_iff_lt]
      · obtain ⟨k', hk'⟩ : ∃ k', k = k' + 1 := ⟨k - 1, by omega⟩
        obtain ⟨sp, hsp, hfit⟩ := hprev k' hk'
        have nsp := hnsp sp (by
          have := List.mem_of_getElem? hsp
          simp only [wayL, List.mem_map] at this ⊢
          obtain ⟨z, h1, h2⟩ := this
          exact ⟨z, List.mem_of_mem_take h1, h2⟩)
        have g0 : (0 : Int) < (k : Int) := by omega
        have w1 : IntKind.i64.wrap ((k : Int) - 1) = (k' : Int) := by rw [wrap_ok (by omega) (by omega)]; omega
        have cF := fun st => hFit n (by omega) st T3 sp s nsp ns
        rw [hfit, hse, show sp.enc = [.str sp.c, .int .i64 sp.n, .int .i64 sp.d, .str sp.f, .str sp.t, .int .i64 sp.dep, .int .i64 sp.arr] from rfl] at cF
        have hspe : sp.enc = [.str sp.c, .int .i64 sp.n, .int .i64 sp.d, .str sp.f, .str sp.t, .int .i64 sp.dep, .int .i64 sp.arr] := rfl
        have hwtl : (wayL segs (q.take k)).length = k := by simp [wayL]; omega
        rcases hgw3 with ⟨-, h⟩ | ⟨kw, hkw, hrow⟩
        · rw [h] at hwtl; simp at hwtl; omega
        · rw [hwtl] at hkw
          subst hkw
          have hk'l : k' < k := by omega
          simp (maxSteps := 1000000) (disch := omega) only [push_cast, ↓wc_seq, ↓wc_condL, ↓wc_region, ↓wr_cons, ↓wr_consgL, ↓wr_nil, ↓wo_pickL, ↓wo_callf, ↓wc_skip, wo_some, opQ_eq, seqQ_normal, pickC_false, pickO_true, gstep_tt, Nat.reduceAdd, Nat.reduceMul, Nat.reduceLT, Nat.reduceLeDiff, Nat.reduceEqDiff, ↓reduceIte, planIds, hasExt, cntFs, idxFs, clnFs, ovlFs, List.contains_cons, List.contains_nil, List.any_nil, Nat.reduceBEq, setC, List.length_set, eq_self, Int.natCast_nonneg, Int.toNat_natCast, Int.ofNat_lt, Nat.zero_add, Nat.add_zero, gt_iff_lt, planIds, hasExt, cntFs, idxFs, clnFs, ovlFs, List.contains_cons, List.contains_nil, List.any_nil, Nat.reduceBEq, Nat.reduceMul, Nat.reduceAdd, ↓reduceIte, hal, h2, h3, h4, h7, h8, h9, h11, h12, h13, h14, h15, g0, gt_iff_lt, w1, k1, kb, hrow, hk'l, List.getElem?_map, hsp, hspe, cF]
    clear hal h2 h3 h4 h7 h8 h9 h11 h12 h13 h14 h15 a
    rintro a T4 ⟨rfl, hal, h2, h3, h4, h7, h8, h9, h11, h12, h13, h14, h15⟩
    obtain ⟨W, hW, hgW, hWl, -, hkW⟩ := app_gl (t := 26) (e := 24) (n := 6) (z := .agg [.str (ByteArray.mk #[]), .int .i64 0, .int .i64 0, .str (ByteArray.mk #[]), .str (ByteArray.mk #[]), .int .i64 0, .int .i64 0]) (by kernel_rfl) (by kernel_rfl) (by kernel_rfl) rfl (Nat.le_of_ble_eq_true (by kernel_rfl)) hgw3 (by simp [wayL]; omega) s
    have j0 := hkW _ _ _ (by decide) k0
    have j1 := hkW _ _ _ (by decide) k1
    rw [hse] at hW
    simp (maxSteps := 1000000) (disch := omega) only [push_cast, ↓wc_region, ↓wr_cons, ↓wr_nil, wo_some, opQ_eq, seqQ_normal, blockQ_normal, iterQ_normal, Nat.reduceAdd, Nat.reduceMul, Nat.reducePow, Nat.reduceLT, Nat.reduceLeDiff, Nat.reduceEqDiff, ↓wo_buildSlice, evParts, ↓reduceIte, planIds, List.contains_cons, List.contains_nil, Nat.reduceBEq, setC, List.length_set, eq_self, Option.some.injEq, Nat.zero_add, planIds, List.contains_cons, List.contains_nil, Nat.reduceBEq, Nat.reduceMul, Nat.reduceAdd, ↓reduceIte, hal, h2, h3, h4, h7, h8, h9, h11, h12, h13, h14, h15, kb, hW, hw2, Int.natCast_add, Int.natCast_one]
    rw [htake]
    refine ⟨hkl, _, _, rfl, rfl, hgW, fun h2 s' hs' => ?_, j0, by rw [j1, hsgD]⟩
    rw [htk2] at h2
    simp only [Bool.and_eq_true, decide_eq_true_eq] at h2
    rcases List.mem_append.1 hs' with h | h
    · exact htk h2.1.1 s' h
    · obtain rfl : s' = s := by simpa using h
      exact ⟨h2.2, h2.1.2⟩
  clear hal h2 h3 h4 h7 h8 h9 h11 h12 h13 a
  clear hT0 hT1 T'
  rintro a T ⟨dw, tk, hal, h2, h3, h4, h7, h8, h9, h11, h12, h13, hgw, htk, hT0, hT1⟩
  rcases hgw with ⟨-, h⟩ | ⟨kw, hkw, hrow⟩
  · rw [h] at hwl; simp at hwl; omega
  rw [hwl] at hkw
  subst hkw
  have sge : ∀ s : Sgm, s.enc = [.str s.c, .int .i64 s.n, .int .i64 s.d, .str s.f, .str s.t, .int .i64 s.dep, .int .i64 s.arr] := fun _ => rfl
  obtain ⟨s0, hs0⟩ : ∃ s, (wayL segs q)[0]? = some s := ⟨(wayL segs q)[0]'(by omega), by simp⟩
  obtain ⟨sz, hsz⟩ : ∃ s, (wayL segs q)[n1]? = some s := ⟨(wayL segs q)[n1]'(by omega), by simp⟩
  replace wf := wf _ hs0
  replace wt := wt sz (by rw [hn1]; exact hsz)
  have d1 : ¬ (q.length : Int) < 1 := by omega
  have d2 : ¬ mo < (q.length : Int) := by omega
  have w1 : IntKind.i64.wrap ((q.length : Int) - 1) = (n1 : Int) := by rw [wrap_ok (by omega) (by omega)]; omega
  have hn1l : n1 < q.length := by omega
  have hq0 : (0 : Int) < (q.length : Int) := by omega
  have nw : ∀ s ∈ wayL segs q, Near s := fun sp h => by
    obtain ⟨j', h1, rfl⟩ := List.mem_map.1 h
    exact near _ (List.mem_of_getElem? (sAt_get (hqj j' h1)))
  have f0 : isF p s0.f = true := by
    rw [isF_congr wf]
    unfold isF
    rw [List.find?_isSome]
    exact ⟨a0, List.mem_of_getElem? ha0, by simp⟩
  rw [wc_asc]
  refine wc_scut (fun a T' => a.length = 232 ∧ a[2]? = some (.int .i64 mo) ∧ a[3]? = some (.loc 0 0 0) ∧ a[4]? = some (.loc 1 0 0) ∧ a[7]? = some (.str a0.code) ∧ a[8]? = some (.str a1.code) ∧ a[9]? = some (.sl 1 es false) ∧ a[11]? = some (.int .i64 i) ∧ a[12]? = some (.os kw 0 q.length false) ∧ a[13]? = some (.bool tk) ∧ a[18]? = some (.int .i64 q.length) ∧ ExtS T T') ?_ ?_
  · obtain ⟨n', hn'⟩ : ∃ n', n = n' + 1 := ⟨n - 1, by omega⟩
    obtain ⟨_, T', c1, rfl, hx⟩ := ValidS_d (n := n') (p := p) (l := l) (x := x) (segs := wayL segs q) (sgD := .os kw 0 q.length false) (S := T) (.inr (.inr ⟨kw, by rw [hwl], hrow⟩)) (by omega) (by omega) (by omega) (by omega) nw
    rw [← hn'] at c1
    replace c1 := (callD_own (f := 18) rfl (by simp [pureL_cons, D.pure])).trans c1
    rw [hpe] at c1 hT0
    rw [hlD] at hT1
    cases tk
    · simp (maxSteps := 1000000) (disch := omega) only [push_cast, ↓wc_seq, ↓wc_condL, ↓wc_region, ↓wr_cons, ↓wr_consgL, ↓wr_nil, ↓wo_pickL, ↓wc_skip, wo_some, opQ_eq, seqQ_normal, pickC_false, pickO_false, gstep_ff, gstep_ft, Nat.reduceAdd, Nat.reduceMul, Nat.reduceLT, Nat.reduceEqDiff, Int.reduceLE, ↓reduceIte, planIds, List.contains_cons, List.contains_nil, Nat.reduceBEq, setC, List.length_set, eq_self, Int.natCast_nonneg, Int.toNat_natCast, Int.ofNat_lt, Nat.zero_add, Nat.add_zero, gt_iff_lt, planIds, List.contains_cons, List.contains_nil, Nat.reduceBEq, Nat.reduceMul, Nat.reduceAdd, ↓reduceIte, hal, h2, h3, h4, h7, h8, h9, h11, h12, h13, hrow, List.getElem?_map, hs0, hsz, sge, d1, d2, w1, hn1l, hq0, wf, wt]
      exact ExtS.refl
    · have hv : validE p l (wayL segs q) = 0 := by
        unfold validE
        rw [if_neg (by omega)]
        exact validF_ok wk (htk rfl) (fun s h => by cases h) (fun _ s h => by rw [hs0] at h; cases h; exact f0)
      rw [hv] at c1
      simp (maxSteps := 1000000) (disch := omega) only [push_cast, ↓wc_seq, ↓wc_condL, ↓wc_region, ↓wr_cons, ↓wr_consgL, ↓wr_nil, ↓wo_pickL, ↓wo_callf, ↓wc_skip, wo_some, opQ_eq, seqQ_normal, pickC_false, pickO_true, pickO_false, gstep_tt, gstep_ff, int_bne, Nat.reduceAdd, Nat.reduceMul, Nat.reduceLT, Nat.reduceLeDiff, Nat.reduceEqDiff, Int.reduceLE, ↓reduceIte, planIds, hasExt, cntFs, idxFs, clnFs, ovlFs, List.contains_cons, List.contains_nil, List.any_nil, Nat.reduceBEq, setC, List.length_set, eq_self, Int.natCast_nonneg, Int.toNat_natCast, Int.ofNat_lt, Nat.zero_add, Nat.add_zero, gt_iff_lt, not_true_eq_false, planIds, hasExt, cntFs, idxFs, clnFs, ovlFs, List.contains_cons, List.contains_nil, List.any_nil, Nat.reduceBEq, Nat.reduceMul, Nat.reduceAdd, ↓reduceIte, hal, h2, h3, h4, h7, h8, h9, h11, h12, h13, hrow, hT0, hT1, List.getElem?_map, hs0, hsz, sge, d1, d2, w1, hn1l, hq0, wf, wt, c1]
      exact hx
  clear hal h2 h3 h4 h7 h8 h9 h11 h12 h13 a
  clear htk
  rintro a T' ⟨hal, h2, h3, h4, h7, h8, h9, h11, h12, h13, h18, hx⟩
  replace hT0 := hx _ _ hT0
  replace hT1 := hx _ _ hT1
  replace hrow := hx _ _ hrow
  clear hx
  have w2 : IntKind.i64.wrap ((i : Int) + 1) = (i : Int) + 1 := wrap_ok (by omega) (by omega)
  have hT1' := hT1
  rw [hsgD] at hT1
  by_cases hi0 : i = 0
  · have g0 : ¬ (0 : Int) < (i : Int) := by omega
    simp (maxSteps := 1000000) (disch := omega) only [push_cast, ↓wc_seq, ↓wc_condL, ↓wc_region, ↓wr_cons, ↓wr_consgL, ↓wr_nil, ↓wo_pickL, ↓wc_skip, wo_some, opQ_eq, seqQ_normal, blockQ_normal, iterQ_normal, pickC_false, pickO_false, gstep_ft, Nat.reduceAdd, Nat.reduceMul, Nat.reduceLT, Nat.reduceEqDiff, ↓reduceIte, planIds, List.contains_cons, List.contains_nil, Nat.reduceBEq, setC, List.length_set, eq_self, Option.some.injEq, Nat.zero_add, gt_iff_lt, planIds, List.contains_cons, List.contains_nil, Nat.reduceBEq, Nat.reduceMul, Nat.reduceAdd, ↓reduceIte, hal, h2, h3, h4, h7, h8, h9, h11, g0, gt_iff_lt, w2, Int.natCast_add, Int.natCast_one]
    exact ⟨hlt, by rw [hes], hT0, hT1'⟩
  obtain ⟨i', hi'⟩ : ∃ i', i = i' + 1 := ⟨i - 1, by omega⟩
  have g0 : (0 : Int) < (i : Int) := by omega
  have w3 : IntKind.i64.wrap ((i : Int) - 1) = (i' : Int) := by rw [wrap_ok (by omega) (by omega)]; omega
  have hi'l : i' < es.length := by omega
  obtain ⟨q', hqi'⟩ : ∃ q, ps[i']? = some q := ⟨ps[i']'(by omega), by simp⟩
  obtain ⟨m', hm', hm2', hqd'⟩ := hq q' (List.mem_of_getElem? hqi')
  obtain ⟨hqj', hqn', hql'⟩ := dfs_len3 hqd'
  obtain ⟨n2, hn2⟩ : ∃ n2, q'.length = n2 + 1 := ⟨q'.length - 1, by have := List.length_pos_iff.2 hqn'; omega⟩
  have hd9' : es[i']? = some [.sl 1 (q'.map fun a => [intV a]) false] := by rw [hes, List.getElem?_map, hqi']; rfl
  obtain ⟨j, hj⟩ : ∃ j, q'[n2]? = some j := ⟨q'[n2]'(by omega), by simp⟩
  have hjl := hqj' j (List.mem_of_getElem? hj)
  have hsj := sAt_get hjl
  obtain ⟨jz, hjz⟩ : ∃ j, q[n1]? = some j := ⟨q[n1]'(by omega), by simp⟩
  have hnj : ¬ ((j : Int) < 0) := by omega
  have hn2l : n2 < q'.length := by omega
  have w4 : IntKind.i64.wrap ((q'.length : Int) - 1) = (n2 : Int) := by rw [wrap_ok (by omega) (by omega)]; omega
  have hle : ¬ sz.arr < (sAt segs j).arr := by
    have hp := List.pairwise_iff_getElem.1 hord i' i (by omega) (by omega) (by omega)
    rw [(List.getElem?_eq_some_iff.1 hqi').2, (List.getElem?_eq_some_iff.1 hqi).2] at hp
    have e1 : lastArr segs q' = (sAt segs j).arr := by
      unfold lastArr arrAt
      rw [hn2, Nat.add_sub_cancel, hj]
      dsimp only
      rw [hsj]
    have e2 : lastArr segs q = sz.arr := by
      rw [wayL, List.getElem?_map, hjz] at hsz
      simp only [Option.map_some, Option.some.injEq] at hsz
      unfold lastArr arrAt
      rw [hn1, Nat.add_sub_cancel, hjz]
      dsimp only
      rw [sAt_get (hqj jz (List.mem_of_getElem? hjz)), hsz]
    intro h
    exact hp (.inl (by rw [e1, e2]; exact h))
  generalize sAt segs j = sj at *
  simp (maxSteps := 1000000) (disch := omega) only [push_cast, ↓wc_seq, ↓wc_condL, ↓wc_region, ↓wr_cons, ↓wr_consgL, ↓wr_nil, ↓wo_pickL, ↓wc_skip, wo_some, opQ_eq, seqQ_normal, blockQ_normal, iterQ_normal, pickC_false, pickO_true, gstep_tt, Nat.reduceAdd, Nat.reduceMul, Nat.reduceLT, Nat.reduceEqDiff, ↓reduceIte, planIds, List.contains_cons, List.contains_nil, Nat.reduceBEq, setC, List.length_set, eq_self, Int.natCast_nonneg, Int.toNat_natCast, Int.ofNat_lt, Option.some.injEq, Nat.zero_add, gt_iff_lt, planIds, List.contains_cons, List.contains_nil, Nat.reduceBEq, Nat.reduceMul, Nat.reduceAdd, ↓reduceIte, hal, h2, h3, h4, h7, h8, h9, h11, h12, h18, g0, gt_iff_lt, w2, w3, w4, hd9', hj, hsj, hT1, hrow, hsz, hn1l, w1, hle, sge, List.length_map, List.getElem?_map, Int.natCast_add, Int.natCast_one]
  exact ⟨hlt, by rw [hes], hT0, by rw [← hsgD]⟩
end Go.Proofs.YtgomkmamgflbeaaDoor.Dm
