/-
  StockLimits as plain data: nothing is sold beyond the limits, and what is sold is what was sold less what was cancelled.
  The walks of StockExact, StockResizes and StockLimits: first what they share.
-/
import Derived.Test.YtajhgnefcddenaaGreatDoorSkV
import Derived.Test.YtajhgnefcddenaaGreatDoorWq
namespace Go.Proofs.YtajhgnefcddenaaGreatDoor.Dm
open Go Gw
set_option linter.unusedSimpArgs false

/-- No class of a leg is sold beyond its limit. -/
def InLim (x : Leg) : Prop := ∀ (i : Nat) (y : Cab) (r : List Int), x.cfg.cabs[i]? = some y → x.sold[i]? = some r → ∀ j, j < r.length → 0 ≤ spF y r j
def totF (s : Stk) (id : Lid) : Int := match s.get id with
  | none => 0
  | some x => tot x
def LimOk (s : Stk) : Prop := ∀ id x, s.get id = some x → InLim x
theorem addL_lim {l : List Cfg} {B : Int} {x : Leg} (ok : LegOk l B x) (h : InLim x) {cl : ByteArray} {w : Int} (hw : w ≤ 0 ∨ w ≤ leftF x cl) : InLim (addL cl w x) := by
  unfold addL
  rcases hp : placeF cl 0 x.cfg.cabs with _ | ⟨a, b⟩
  · exact h
  obtain ⟨y, r, z, v, e1, e2, e3, e4, e5, e6, e7⟩ := ok.at_ hp
  have hb : b < r.length := lt_of_get e5
  intro i y' r' hy hr j hj
  dsimp only at hy hr
  unfold addAt at hr
  obtain ⟨r0, hr0, rfl⟩ := modify_get hr
  by_cases e : a = i
  · subst e
    rw [e1] at hy
    cases hy
    rw [e2] at hr0
    cases hr0
    rw [if_pos rfl] at hj ⊢
    rw [List.length_modify] at hj
    rw [spF_add y r b w j hb]
    have h0 := h a y r e1 e2 j hj
    by_cases hjb : j ≤ b
    · rw [if_pos hjb]
      rcases hw with hw | hw
      · omega
      · have hl : leftF x cl = max 0 (avF y r b) := by
          unfold leftF
          rw [hp]
          dsimp only
          rw [e1, e2]
        have := avF_le (y := y) (r := r) hjb
        omega
    · rw [if_neg hjb]; omega
  · rw [if_neg e] at hj ⊢
    exact h i y' r0 hy hr0 j hj
theorem addL_tot {l : List Cfg} {B : Int} {x : Leg} (ok : LegOk l B x) {cl : ByteArray} {w : Int} {q : Nat × Nat} (hp : placeF cl 0 x.cfg.cabs = some q) : tot (addL cl w x) = tot x + w := by
  obtain ⟨a, b⟩ := q
  obtain ⟨y, r, z, v, e1, e2, e3, e4, e5, e6, e7⟩ := ok.at_ hp
  unfold addL
  rw [hp]
  exact sums_modify x.sold a b w e2 (lt_of_get e5)
theorem sell_inv {s : Stk} {ids : List Lid} {cl : ByteArray} {w : Int} (h : (s.sell ids cl w).1 = 0) : (s.sell ids cl w).2 = { s with legs := addIds cl w ids s.legs } ∧ s.named ids cl w true = 0 ∧ ∀ id ∈ ids, ∀ x, s.get id = some x → w ≤ leftF x cl := by
  unfold Stk.sell at h ⊢
  split at h
  · rename_i h1; exact absurd h h1
  · rename_i h1
    rw [if_neg h1]
    split at h
    · simp at h
    · rename_i h2
      rw [if_neg h2]
      refine ⟨rfl, Classical.not_not.1 h1, fun id hid x hx => ?_⟩
      rw [Bool.not_eq_true, List.any_eq_false] at h2
      have := h2 id hid
      rw [hx] at this
      simp at this
      exact this
theorem cancel_inv {s : Stk} {ids : List Lid} {cl : ByteArray} {w : Int} (h : (s.cancel ids cl w).1 = 0) : (s.cancel ids cl w).2 = { s with legs := addIds cl (-w) ids s.legs } ∧ s.named ids cl w false = 0 := by
  unfold Stk.cancel at h ⊢
  split at h
  · rename_i h1; exact absurd h h1
  · rename_i h1
    rw [if_neg h1]
    split at h
    · simp at h
    · rename_i h2
      rw [if_neg h2]
      exact ⟨rfl, Classical.not_not.1 h1⟩
theorem cancel_err {s : Stk} {ids : List Lid} {cl : ByteArray} {w : Int} (h : (s.cancel ids cl w).1 ≠ 0) : (s.cancel ids cl w).2 = s := by
  unfold Stk.cancel at h ⊢
  split at h
  · rename_i h1; rw [if_pos h1]
  · rename_i h1
    rw [if_neg h1]
    split at h
    · rename_i h2; rw [if_pos h2]
    · simp at h
theorem emptyF_lim {l : List Cfg} (hl : CfgsOk l) {c : Cfg} (hc : c ∈ l) : InLim ⟨c, false, emptyF c⟩ := by
  intro i y r hy hr j hj
  dsimp only at hy hr
  unfold emptyF at hr
  rw [List.getElem?_map, hy] at hr
  have hr : List.replicate y.cls.length (0 : Int) = r := by simpa using hr
  subst hr
  have hyo := (hl.cfg c hc).cab y (List.mem_of_getElem? hy)
  have := limF_pos hyo j
  unfold spF
  rw [List.drop_replicate, sum_rep]
  omega
theorem emptyF_tot (c : Cfg) : tot ⟨c, false, emptyF c⟩ = 0 := sum_emptyF c.cabs
/-! ### What is wanted -/
/-- What a call of act a adds on its legs. -/
def byF (a : Cal) : Int := if a.kind % 7 = 5 then -a.n else a.n
def addW (ws : List Int) (k : Nat) (b : Int) : List Int := ws.set k (ws.getD k 0 + b)
def wantS (ws : List Int) (a : Cal) : List Int := if a.more % 4 = 0 then addW (addW ws (a.leg % 6) (byF a)) (a.more / 4 % 6) (byF a) else addW ws (a.leg % 6) (byF a)
/-- One call's share. -/
def limS (p : Stk × List Int) (a : Cal) : Stk × List Int :=
  if a.kind % 7 = 6 then p else if (doF p.1 a).1 ≠ 0 ∨ a.kind % 7 < 2 then ((doF p.1 a).2, p.2) else ((doF p.1 a).2, wantS p.2 a)
structure LimInv (B : Int) (p : Stk × List Int) : Prop where
  ok : StkOk B p.1
  lim : LimOk p.1
  len : p.2.length = 6
  want : ∀ k v, p.2[k]? = some v → v = totF p.1 (idF k)
def limF6 (l : List Cfg) (x : Bool) (acts : List Cal) : Stk × List Int := acts.foldl limS (⟨l, x, []⟩, List.replicate 6 0)
set_option linter.unusedSimpArgs false

theorem awake15_c {n : Nat} (hn : 1 ≤ n) (st : Bool) (S : List Ob) : callD E (dcall E n) st S 24 [] = some (.bool true, S) := by
  obtain ⟨q, rfl⟩ : ∃ q, n = q + 1 := ⟨n - 1, by omega⟩
  exact callD_pure (T := []) rfl rfl rfl rfl
section
variable {S : List Ob} {lab : Lab} {o k m n : Nat} {s : Stk} {ps : List (D × D)} {id : Lid}
/-- The numbers sold on a leg. -/
def soldV (s : Stk) (id : Lid) : List Int := (s.counts id).map (·.2)
theorem soldV_rng (ok : StkOk 9999 s) (id : Lid) : rngI (soldV s id) ∧ (soldV s id).length ≤ 1000 ∧ (soldV s id).sum = totF s id := by
  unfold soldV Stk.counts totF
  rcases e : s.get id with _ | x
  · exact ⟨fun v h => by simp at h, by simp, rfl⟩
  · have hok := ok.get e
    have hl4 := hok.cfg.l2
    have h1 := slC_len hok.cfg.sm.cls x.cfg.cabs.length
    have e2 : (countsF x).map (·.2) = (slotsF x.cfg).map fun q => soldAt x.sold q.1 q.2.1 := by unfold countsF; rw [List.map_map]; rfl
    dsimp only
    rw [e2]
    refine ⟨fun v hv => ?_, ?_, slots_tot hok⟩
    · obtain ⟨q, -, rfl⟩ := List.mem_map.1 hv
      exact soldAt_bd hok (by omega) _ _
    · rw [List.length_map]
      unfold slotsF
      omega
set_option maxHeartbeats 4000000 in
set_option maxRecDepth 100000 in
theorem sum_c (hn : 1010 ≤ n) (h : StkAt S lab o kL (.loc k 0 0) s k m ps) (ok : StkOk 9999 s) (hid : id.Ok) (st : Bool) :
    callD E (dcall E n) st S 33 [.loc k 0 0, .agg id.enc] = some (.int .i64 (totF s id), S) := by
  obtain ⟨q, rfl⟩ : ∃ q, n = q + 1 := ⟨n - 1, by omega⟩
  obtain ⟨hr, hl, hsum⟩ := soldV_rng ok id
  have hT := h.push [.row 4 [id.enc]]
  obtain ⟨d, T, cc, hg, hx, -⟩ := Counts_c (n := q) (by omega) hT ok hid
  have hSx : ExtS S T := fun j y hj => hx j y (get_old hj)
  have hlc : (s.counts id).length = (soldV s id).length := by unfold soldV; rw [List.length_map]
  have : WO (dcall E (q + 1) 33 [.loc k 0 0, .agg id.enc] S) fun r U => r = .int .i64 (totF s id) ∧ ExtS S U := by
    refine wo_dcall Tryz.func33 rfl (by decide) rfl 25 rfl (fun a hal ha => ?_)
    have h0 : a[0]? = some (.loc k 0 0) := ha 0 (by simp)
    have h1 : a[1]? = some (.agg id.enc) := ha 1 (by simp)
    clear ha
    simp only [Lid.enc] at h1 cc
    rcases hg with ⟨rfl, hnil⟩ | ⟨r, rfl, hk⟩
    · have hv : soldV s id = [] := by unfold soldV; rw [hnil]; rfl
      rw [hv] at hsum
      rw [← hsum]
      simp (maxSteps := 1000000) (disch := omega) only [push_cast, ↓wc_seq, ↓wc_block, ↓wc_region, ↓wr_cons, ↓wr_nil, ↓wo_callf, ↓wc_wl, wo_some, opQ_eq, seqQ_normal, Nat.reduceAdd, Nat.reduceMul, Nat.reduceLT, Nat.reduceLeDiff, Nat.reduceEqDiff, ↓reduceIte, planIds, hasExt, cntFs, idxFs, clnFs, ovlFs, List.contains_cons, List.contains_nil, List.any_cons, List.any_nil, Nat.reduceBEq, setC, List.length_set, reduceCtorEq, eq_self, Nat.zero_add, hal, h0, h1, get_end, cc]
      refine wl_loop (fun i a U => i = 0 ∧ U = T ∧ a.length = 25 ∧ a[5]? = some (.int .i64 0) ∧ a[6]? = some (.nils) ∧ a[7]? = some (.int .i64 0)) 0 ?_ (by omega) ?_
      · simp (maxSteps := 1000000) (disch := omega) only [push_cast, Nat.reduceLT, Nat.reduceEqDiff, ↓reduceIte, setC, List.length_set, eq_self, hal]
      clear hal h0 h1 a
      rintro i a U _ ⟨rfl, rfl, hal, h5, h6, h7⟩
      simp (maxSteps := 1000000) (disch := omega) only [push_cast, ↓wc_seq, ↓wc_condL, ↓wc_region, ↓wr_cons, ↓wr_nil, ↓wc_exit, ↓wc_ret, wo_some, opQ_eq, seqQ_normal, seqQ_exit, blockQ_exit, iterQ_exit, retQ_ret, pickC_false, Nat.reduceAdd, Nat.reduceMul, Nat.reduceLT, Nat.reduceEqDiff, ↓reduceIte, planIds, List.contains_cons, List.contains_nil, Nat.reduceBEq, setC, List.length_set, eq_self, Nat.zero_add, hal, h5, h6, h7, Int.lt_irrefl, List.sum_nil, Tryz.f33]
      exact hSx
    · simp (maxSteps := 1000000) (disch := omega) only [push_cast, ↓wc_seq, ↓wc_block, ↓wc_region, ↓wr_cons, ↓wr_nil, ↓wo_callf, ↓wc_wl, wo_some, opQ_eq, seqQ_normal, Nat.reduceAdd, Nat.reduceMul, Nat.reduceLT, Nat.reduceLeDiff, Nat.reduceEqDiff, ↓reduceIte, planIds, hasExt, cntFs, idxFs, clnFs, ovlFs, List.contains_cons, List.contains_nil, List.any_cons, List.any_nil, Nat.reduceBEq, setC, List.length_set, reduceCtorEq, eq_self, Nat.zero_add, hal, h0, h1, get_end, cc]
      refine wl_loop (fun i a U => U = T ∧ a.length = 25 ∧ a[5]? = some (.int .i64 ((soldV s id).take i).sum) ∧ a[6]? = some (.os r 0 (s.counts id).length false) ∧ a[7]? = some (.int .i64 i)) (s.counts id).length ?_ (by omega) ?_
      · simp (maxSteps := 1000000) (disch := omega) only [push_cast, Nat.reduceLT, Nat.reduceEqDiff, ↓reduceIte, setC, List.length_set, eq_self, hal, Int.natCast_zero, List.take_zero, List.sum_nil]
      clear hal h0 h1 a
      rintro i a U hi ⟨rfl, hal, h5, h6, h7⟩
      rcases Nat.lt_or_eq_of_le hi with hlt | rfl
      case inr =>
        rw [hlc, List.take_length, hsum] at h5
        simp (maxSteps := 1000000) (disch := omega) only [push_cast, ↓wc_seq, ↓wc_condL, ↓wc_region, ↓wr_cons, ↓wr_nil, ↓wc_exit, ↓wc_ret, wo_some, opQ_eq, seqQ_normal, seqQ_exit, blockQ_exit, iterQ_exit, retQ_ret, pickC_false, Nat.reduceAdd, Nat.reduceMul, Nat.reduceLT, Nat.reduceEqDiff, ↓reduceIte, planIds, List.contains_cons, List.contains_nil, Nat.reduceBEq, setC, List.length_set, eq_self, Nat.zero_add, hal, h5, h6, h7, Int.lt_irrefl, Tryz.f33]
        exact hSx
      have hlc' : (i : Int) < (s.counts id).length := by omega
      obtain ⟨w, hw⟩ : ∃ w, (s.counts id)[i]? = some w := ⟨(s.counts id)[i], by simp⟩
      have hv : (soldV s id)[i]? = some w.2 := by unfold soldV; rw [List.getElem?_map, hw]; rfl
      have htk := take_sum hv
      have h9 := sum_le9 hr i
      have hwb := hr w.2 (mem_at hv)
      simp (maxSteps := 1000000) (disch := omega) only [push_cast, ↓wc_seq, ↓wc_block, ↓wc_condL, ↓wc_region, ↓wr_cons, ↓wr_nil, ↓wc_skip, wo_some, opQ_eq, seqQ_normal, blockQ_normal, iterQ_normal, pickC_true, Nat.reduceAdd, Nat.reduceMul, Nat.reduceLT, Nat.reduceEqDiff, ↓reduceIte, planIds, List.contains_cons, List.contains_nil, Nat.reduceBEq, setC, List.length_set, eq_self, Int.natCast_nonneg, Int.toNat_natCast, Nat.zero_add, hal, h5, h6, h7, hlt, hlc', hk, hw, htk, List.getElem?_map, encC, wrap_ok, Int.natCast_add, Int.natCast_one]
  obtain ⟨_, U, ho, rfl, hx'⟩ := this
  exact callD_obsS rfl rfl ho hx' rfl
end
/-! ### Resize as plain data -/
/-! ### StockExact -/
end Go.Proofs.YtajhgnefcddenaaGreatDoor.Dm
