/-
  The number of seats at a value, the reference's; the walk of OfferBids.
-/
import Derived.Test.YtlamgjbngblefaaGreatDoorRoB
namespace Go.Proofs.YtlamgjbngblefaaGreatDoor.Dm
open Go Gw
set_option linter.unusedSimpArgs false
set_option linter.unusedSimpArgs false

theorem cntF_up (p : Nat → Bool) : ∀ k n, cntF p n k ≤ n + k
  | 0, n => Nat.le_refl _
  | k + 1, n => by
    unfold cntF
    split
    · have := cntF_up p k (n + 1); omega
    · omega
theorem bidF_open {s : Stk} {cs : List Crv} {ids : List Lid} {cl : ByteArray} {v : Int} : bidF s cs ids cl v ≤ openF s ids cl := by
  have h0 := openF_pos s ids cl
  unfold bidF seatsF
  split
  · have := cntF_up (fun n => accF (pairsF s cs ids cl) v n) (min (openF s ids cl) 999).toNat 0
    omega
  · exact h0
set_option maxHeartbeats 4000000 in
set_option maxRecDepth 100000 in
theorem rPrice_c {n : Nat} (hn : 1 ≤ n) (c : Crv) (hc : c.l.length ≤ 60) {left : Int} (b1 : -100000 ≤ left) (b2 : left ≤ 100000) (st : Bool) (S : List Ob) :
    callD E (dcall E n) st S 107 [c.d, .int .i64 left] = some (.int .i64 (priceF c.l left), S) := by
  obtain ⟨q, rfl⟩ : ∃ q, n = q + 1 := ⟨n - 1, by omega⟩
  obtain ⟨d, l, ok⟩ := c
  dsimp only at *
  have hp : d.pure = true := ok.pure (zs_pure l)
  have : WO (dcall E (q + 1) 107 [d, .int .i64 left] []) fun r T => r = .int .i64 (priceF l left) := by
    refine wo_dcall Tryz.func107 rfl (by decide) rfl 16 rfl (fun a hal ha => ?_)
    have h0 : a[0]? = some (d) := ha 0 (by simp)
    have h1 : a[1]? = some (.int .i64 left) := ha 1 (by simp)
    clear ha
    unfold priceF
    by_cases e1 : left < 1
    · rw [if_pos e1]
      simp (maxSteps := 1000000) (disch := omega) only [push_cast, ↓wc_seq, ↓wc_condL, ↓wc_region, ↓wr_cons, ↓wr_nil, ↓wc_ret, wo_some, opQ_eq, seqQ_normal, seqQ_ret, retQ_ret, pickC_true, Nat.reduceAdd, Nat.reduceMul, Nat.reduceLT, Nat.reduceEqDiff, Int.reduceNeg, ↓reduceIte, planIds, List.contains_cons, List.contains_nil, Nat.reduceBEq, setC, List.length_set, eq_self, Nat.zero_add, planIds, List.contains_cons, List.contains_nil, Nat.reduceBEq, Nat.reduceMul, Nat.reduceAdd, ↓reduceIte, hal, h1, e1, Tryz.f107]
    rw [if_neg e1]
    by_cases e2 : (l.length : Int) < left
    · rw [if_pos e2]
      rcases ok with ⟨rfl, rfl⟩ | ⟨x, rfl⟩
      · simp only [List.length_nil] at e2
        have e2' : (0 : Int) < left := by omega
        simp (maxSteps := 1000000) (disch := omega) only [push_cast, ↓wc_seq, ↓wc_condL, ↓wc_region, ↓wr_cons, ↓wr_nil, ↓wc_ret, ↓wc_skip, wo_some, opQ_eq, seqQ_normal, seqQ_ret, retQ_ret, pickC_true, pickC_false, Nat.reduceAdd, Nat.reduceMul, Nat.reduceLT, Nat.reduceEqDiff, Int.reduceNeg, ↓reduceIte, planIds, List.contains_cons, List.contains_nil, Nat.reduceBEq, setC, List.length_set, reduceCtorEq, eq_self, Nat.zero_add, gt_iff_lt, planIds, List.contains_cons, List.contains_nil, Nat.reduceBEq, Nat.reduceMul, Nat.reduceAdd, ↓reduceIte, hal, h0, h1, e1, e2', gt_iff_lt, Tryz.f107]
      · simp (maxSteps := 1000000) (disch := omega) only [push_cast, ↓wc_seq, ↓wc_condL, ↓wc_region, ↓wr_cons, ↓wr_nil, ↓wc_ret, ↓wc_skip, wo_some, opQ_eq, seqQ_normal, seqQ_ret, retQ_ret, pickC_true, pickC_false, Nat.reduceAdd, Nat.reduceMul, Nat.reduceLT, Nat.reduceEqDiff, Int.reduceNeg, ↓reduceIte, planIds, List.contains_cons, List.contains_nil, Nat.reduceBEq, setC, List.length_set, reduceCtorEq, eq_self, Nat.zero_add, gt_iff_lt, planIds, List.contains_cons, List.contains_nil, Nat.reduceBEq, Nat.reduceMul, Nat.reduceAdd, ↓reduceIte, hal, h0, h1, e1, e2, gt_iff_lt, List.length_map, Tryz.f107]
    rw [if_neg e2]
    obtain ⟨j, rfl⟩ : ∃ j : Nat, left = j + 1 := ⟨(left - 1).toNat, by omega⟩
    have hj : j < l.length := by omega
    have e3 : ((j : Int) + 1 - 1).toNat = j := by omega
    have e4 : (j : Int) + 1 - 1 = j := by omega
    rcases ok with ⟨rfl, rfl⟩ | ⟨x, rfl⟩
    · simp at hj
    have hg : l[j]? = some l[j] := List.getElem?_eq_getElem hj
    rw [e3, List.getD_eq_getElem?_getD, hg]
    simp (maxSteps := 1000000) (disch := omega) only [push_cast, ↓wc_seq, ↓wc_condL, ↓wc_region, ↓wr_cons, ↓wr_nil, ↓wc_ret, ↓wc_skip, wo_some, opQ_eq, seqQ_normal, retQ_ret, pickC_false, Nat.reduceAdd, Nat.reduceMul, Nat.reduceLT, Nat.reduceEqDiff, Int.reduceNeg, ↓reduceIte, planIds, List.contains_cons, List.contains_nil, Nat.reduceBEq, setC, List.length_set, reduceCtorEq, eq_self, Int.natCast_nonneg, Int.toNat_natCast, Nat.zero_add, gt_iff_lt, planIds, List.contains_cons, List.contains_nil, Nat.reduceBEq, Nat.reduceMul, Nat.reduceAdd, ↓reduceIte, hal, h0, h1, e1, e2, e4, hg, gt_iff_lt, List.length_map, List.getElem?_map, encZ, wrap_ok, Tryz.f107]
  obtain ⟨_, U, ho, rfl⟩ := this
  exact callD_pure rfl (by simp [pureL_cons, pureL_nil, D.pure, hp]) ho rfl
theorem seats_stop {ps : List (Crv × Int)} {v most : Int} {i : Nat} (hall : ∀ j, j < i → accF ps v j = true) (hlt : i < (min most 999).toNat) (hb : accF ps v i = false) : seatsF ps v most = i := by
  unfold seatsF
  rw [cntF_stop (fun n => accF ps v n) hall (by omega)]
  obtain ⟨m, hm⟩ : ∃ m, (min most 999).toNat - i = m + 1 := ⟨(min most 999).toNat - i - 1, by omega⟩
  rw [hm, cntF, if_neg (by rw [hb]; simp)]
set_option maxHeartbeats 4000000 in
set_option maxRecDepth 100000 in
theorem rSeats_c {n kl : Nat} {S : List Ob} (hn : 1030 ≤ n) {ps : List (Crv × Int)} (ok : PsOk ps) (hne : ps ≠ []) {cu : D} (hcu : FLs 1 Crv.enc cu (ps.map (·.1))) (hk : S[kl]? = some (.row 1 ((ps.map (·.2)).map encZ))) (v most : Int) (st : Bool) :
    callD E (dcall E n) st S 68 [cu, .os kl 0 ps.length false, .int .i64 v, .int .i64 most] = some (.int .i64 (seatsF ps v most), S) := by
  obtain ⟨q, rfl⟩ : ∃ q, n = q + 1 := ⟨n - 1, by omega⟩
  have hl := ok.1
  have hpl : 0 < ps.length := List.length_pos_iff.2 hne
  have hpl' : ¬ (ps.length : Int) = 0 := by omega
  have : WO (dcall E (q + 1) 68 [cu, .os kl 0 ps.length false, .int .i64 v, .int .i64 most] S) fun r T => r = .int .i64 (seatsF ps v most) ∧ T = S := by
    refine wo_dcall Tryz.func68 rfl (by decide) rfl 64 rfl (fun a hal ha => ?_)
    have h0 : a[0]? = some (cu) := ha 0 (by simp)
    have h1 : a[1]? = some (.os kl 0 ps.length false) := ha 1 (by simp)
    have h2 : a[2]? = some (.int .i64 v) := ha 2 (by simp)
    have h3 : a[3]? = some (.int .i64 most) := ha 3 (by simp)
    clear ha
    rcases hcu with ⟨rfl, e⟩ | ⟨x, rfl⟩
    · have e' : ps = [] := by simpa using e
      exact absurd e' hne
    simp (maxSteps := 1000000) (disch := omega) only [push_cast, ↓wc_seq, ↓wc_block, ↓wc_condL, ↓wc_region, ↓wr_cons, ↓wr_consgL, ↓wr_nil, ↓wo_pickL, ↓wc_skip, ↓wc_wl, wo_some, opQ_eq, seqQ_normal, pickC_false, pickO_false, gstep_ff, int_bne, int_beq, Nat.reduceAdd, Nat.reduceMul, Nat.reduceLT, Nat.reduceEqDiff, ↓reduceIte, planIds, List.contains_cons, List.contains_nil, Nat.reduceBEq, setC, List.length_set, reduceCtorEq, eq_self, Nat.zero_add, not_true_eq_false, planIds, List.contains_cons, List.contains_nil, Nat.reduceBEq, Nat.reduceMul, Nat.reduceAdd, ↓reduceIte, hal, h0, h1, List.length_map, hpl', not_true_eq_false]
    have hK : (min most 999).toNat ≤ 999 := by omega
    refine wl_loop (fun i a T => T = S ∧ a.length = 64 ∧ a[0]? = some (.sl 1 ((ps.map (·.1)).map Crv.enc) x) ∧ a[1]? = some (.os kl 0 ps.length false) ∧ a[2]? = some (.int .i64 v) ∧ a[3]? = some (.int .i64 most) ∧ a[9]? = some (.int .i64 i) ∧ ∀ j, j < i → accF ps v j = true) (min most 999).toNat ?_ (by omega) ?_
    · simp (maxSteps := 1000000) (disch := omega) only [push_cast, Nat.reduceLT, Nat.reduceEqDiff, ↓reduceIte, setC, List.length_set, reduceCtorEq, eq_self, ↓reduceIte, hal, h0, h1, h2, h3, Int.natCast_zero]
      exact fun j hj => by omega
    clear hal h0 h1 h2 h3 a
    rintro i a T hi ⟨rfl, hal, h0, h1, h2, h3, h9, hall⟩
    rcases Nat.lt_or_eq_of_le hi with hlt | rfl
    case inr =>
      have hs : seatsF ps v most = (min most 999).toNat := by
        unfold seatsF
        rw [cntF_stop (fun n => accF ps v n) hall hi, Nat.sub_self, cntF]
      rw [hs]
      have hmm : (if (999 : Int) < most then 999 else most) = min most 999 := by split <;> omega
      have hmx : (if (0 : Int) < min most 999 then min most 999 else 0) = ((min most 999).toNat : Int) := by split <;> omega
      by_cases hz : (((min most 999).toNat : Nat) : Int) < most
      · have hz2 : ¬ (((min most 999).toNat : Nat) : Int) < 999 := by omega
        simp (maxSteps := 1000000) (disch := omega) only [push_cast, ↓wc_seq, ↓wc_condL, ↓wc_region, ↓wr_cons, ↓wr_consgL, ↓wr_nil, ↓wo_pickL, ↓wc_exit, ↓wc_ret, wo_some, opQ_eq, seqQ_normal, seqQ_exit, blockQ_exit, iterQ_exit, retQ_ret, pickC_false, pickO_true, gstep_tt, Nat.reduceAdd, Nat.reduceMul, Nat.reduceLT, Nat.reduceEqDiff, ↓reduceIte, planIds, List.contains_cons, List.contains_nil, Nat.reduceBEq, setC, List.length_set, eq_self, Nat.zero_add, planIds, List.contains_cons, List.contains_nil, Nat.reduceBEq, Nat.reduceMul, Nat.reduceAdd, ↓reduceIte, hal, h3, h9, hz, hz2, hmm, hmx, Tryz.f68]
      · simp (maxSteps := 1000000) (disch := omega) only [push_cast, ↓wc_seq, ↓wc_condL, ↓wc_region, ↓wr_cons, ↓wr_consgL, ↓wr_nil, ↓wo_pickL, ↓wc_exit, ↓wc_ret, wo_some, opQ_eq, seqQ_normal, seqQ_exit, blockQ_exit, iterQ_exit, retQ_ret, pickC_false, pickO_false, gstep_ft, Nat.reduceAdd, Nat.reduceMul, Nat.reduceLT, Nat.reduceEqDiff, ↓reduceIte, planIds, List.contains_cons, List.contains_nil, Nat.reduceBEq, setC, List.length_set, eq_self, Nat.zero_add, planIds, List.contains_cons, List.contains_nil, Nat.reduceBEq, Nat.reduceMul, Nat.reduceAdd, ↓reduceIte, hal, h3, h9, hz, hmm, hmx, Tryz.f68]
    have hz : (i : Int) < most := by omega
    have hz2 : (i : Int) < 999 := by omega
    simp (maxSteps := 1000000) (disch := omega) only [push_cast, ↓wc_seq, ↓wc_block, ↓wc_condL, ↓wc_region, ↓wr_cons, ↓wr_consgL, ↓wr_nil, ↓wo_pickL, ↓wc_skip, ↓wc_wl, wo_some, opQ_eq, seqQ_normal, pickC_true, pickO_true, gstep_tt, Nat.reduceAdd, Nat.reduceMul, Nat.reduceLT, Nat.reduceEqDiff, ↓reduceIte, planIds, List.contains_cons, List.contains_nil, Nat.reduceBEq, setC, List.length_set, eq_self, Nat.zero_add, planIds, List.contains_cons, List.contains_nil, Nat.reduceBEq, Nat.reduceMul, Nat.reduceAdd, ↓reduceIte, hal, h3, h9, hz, hz2]
    refine wl_loop (fun j a U => U = T ∧ a.length = 64 ∧ a[0]? = some (.sl 1 ((ps.map (·.1)).map Crv.enc) x) ∧ a[1]? = some (.os kl 0 ps.length false) ∧ a[2]? = some (.int .i64 v) ∧ a[3]? = some (.int .i64 most) ∧ a[9]? = some (.int .i64 i) ∧ a[10]? = some (.int .i64 (costF i (ps.take j))) ∧ a[11]? = some (.int .i64 j) ∧ ∀ j' p, j' < j → ps[j']? = some p → (i : Int) < p.2) ps.length ?_ (by omega) ?_
    · simp (maxSteps := 1000000) (disch := omega) only [push_cast, Nat.reduceLT, Nat.reduceEqDiff, ↓reduceIte, setC, List.length_set, reduceCtorEq, eq_self, ↓reduceIte, hal, h0, h1, h2, h3, h9, Int.natCast_zero, List.take_zero, costF]
      exact fun j' p hj => by omega
    clear hal h0 h1 h2 h3 h9 a
    rintro j a U hj ⟨rfl, hal, h0, h1, h2, h3, h9, h10, h11, hq⟩
    rcases Nat.lt_or_eq_of_le hj with hlj | rfl
    case inr =>
      rw [List.take_length] at h10
      have hpa : (ps.all fun p => decide ((i : Int) < p.2)) = true := List.all_eq_true.2 fun p hp => by
        obtain ⟨j', hj'⟩ := List.mem_iff_getElem?.1 hp
        exact decide_eq_true (hq j' p (lt_of_get hj') hj')
      by_cases hv : v < costF i ps
      · have hacc : accF ps v i = false := by
          unfold accF
          rw [hpa, Bool.true_and]
          exact decide_eq_false (by omega)
        rw [seats_stop hall hlt hacc]
        simp (maxSteps := 1000000) (disch := omega) only [push_cast, ↓wc_seq, ↓wc_condL, ↓wc_region, ↓wr_cons, ↓wr_nil, ↓wc_exit, ↓wc_ret, wo_some, opQ_eq, seqQ_normal, seqQ_exit, seqQ_ret, blockQ_exit, blockQ_ret, iterQ_exit, iterQ_ret, retQ_ret, pickC_true, pickC_false, Nat.reduceAdd, Nat.reduceMul, Nat.reduceLT, Nat.reduceEqDiff, ↓reduceIte, planIds, List.contains_cons, List.contains_nil, Nat.reduceBEq, setC, List.length_set, eq_self, Nat.zero_add, gt_iff_lt, planIds, List.contains_cons, List.contains_nil, Nat.reduceBEq, Nat.reduceMul, Nat.reduceAdd, ↓reduceIte, hal, h1, h2, h9, h10, h11, Int.lt_irrefl, hv, gt_iff_lt, Tryz.f68]
      · have hacc : accF ps v i = true := by
          unfold accF
          rw [hpa, Bool.true_and]
          exact decide_eq_true (by omega)
        simp (maxSteps := 1000000) (disch := omega) only [push_cast, ↓wc_seq, ↓wc_condL, ↓wc_region, ↓wr_cons, ↓wr_nil, ↓wc_exit, ↓wc_skip, wo_some, opQ_eq, seqQ_normal, seqQ_exit, blockQ_normal, blockQ_exit, iterQ_normal, iterQ_exit, pickC_false, Nat.reduceAdd, Nat.reduceMul, Nat.reduceLT, Nat.reduceEqDiff, ↓reduceIte, planIds, List.contains_cons, List.contains_nil, Nat.reduceBEq, setC, List.length_set, reduceCtorEq, eq_self, Nat.zero_add, gt_iff_lt, planIds, List.contains_cons, List.contains_nil, Nat.reduceBEq, Nat.reduceMul, Nat.reduceAdd, ↓reduceIte, hal, h0, h1, h2, h3, h9, h10, h11, Int.lt_irrefl, hv, gt_iff_lt, wrap_ok, Int.natCast_add, Int.natCast_one]
        refine ⟨hlt, fun j' hj' => ?_⟩
        by_cases ej : j' = i
        · subst ej; exact hacc
        · exact hall j' (by omega)
    have hljc : (j : Int) < ps.length := by omega
    obtain ⟨p, hp⟩ : ∃ p, ps[j]? = some p := ⟨ps[j], by simp⟩
    obtain ⟨p1, p2, p3⟩ := ok.2 p (mem_at hp)
    by_cases hle : p.2 ≤ i
    · have hacc : accF ps v i = false := by
        unfold accF
        rw [show (ps.all fun p => decide ((i : Int) < p.2)) = false from List.all_eq_false.2 ⟨p, mem_at hp, by simpa using hle⟩, Bool.false_and]
      rw [seats_stop hall hlt hacc]
      simp (maxSteps := 1000000) (disch := omega) only [push_cast, ↓wc_seq, ↓wc_block, ↓wc_condL, ↓wc_region, ↓wr_cons, ↓wr_nil, ↓wc_ret, ↓wc_skip, wo_some, opQ_eq, seqQ_normal, seqQ_ret, blockQ_ret, iterQ_ret, retQ_ret, pickC_true, Nat.reduceAdd, Nat.reduceMul, Nat.reduceLT, Nat.reduceEqDiff, ↓reduceIte, planIds, List.contains_cons, List.contains_nil, Nat.reduceBEq, setC, List.length_set, eq_self, Int.natCast_nonneg, Int.toNat_natCast, Nat.zero_add, planIds, List.contains_cons, List.contains_nil, Nat.reduceBEq, Nat.reduceMul, Nat.reduceAdd, ↓reduceIte, hal, h1, h9, h11, hljc, hk, hp, hle, List.getElem?_map, encZ, Tryz.f68]
    · have hpr := rPrice_c (n := q) (by omega) p.1 p1.1 (left := p.2 - i) (by omega) (by omega)
      have hct := costF_take (t := (i : Int)) hp
      have hrg := costF_rng (t := (i : Int)) (ps := ps.take j) (fun q hq => (ok.2 q (List.mem_of_mem_take hq)).1)
      have hpf := priceF_rng p1 (p.2 - i)
      have hlt2 : ((ps.take j).length : Int) ≤ 6 := by rw [List.length_take]; omega
      have hmul : (1099511627776 : Int) * ((ps.take j).length : Int) ≤ 1099511627776 * 6 := by omega
      simp (maxSteps := 1000000) (disch := omega) only [push_cast, ↓wc_seq, ↓wc_block, ↓wc_condL, ↓wc_region, ↓wr_cons, ↓wr_nil, ↓wo_callf, ↓wc_skip, wo_some, opQ_eq, seqQ_normal, blockQ_normal, iterQ_normal, pickC_true, pickC_false, Nat.reduceAdd, Nat.reduceMul, Nat.reduceLT, Nat.reduceEqDiff, ↓reduceIte, planIds, hasExt, cntFs, idxFs, clnFs, ovlFs, List.contains_cons, List.contains_nil, List.any_nil, Nat.reduceBEq, setC, List.length_set, reduceCtorEq, eq_self, Int.natCast_nonneg, Int.toNat_natCast, Nat.zero_add, planIds, hasExt, cntFs, idxFs, clnFs, ovlFs, List.contains_cons, List.contains_nil, List.any_nil, Nat.reduceBEq, Nat.reduceMul, Nat.reduceAdd, ↓reduceIte, hal, h0, h1, h2, h3, h9, h10, h11, hlj, hljc, hk, hp, hle, hpr, ← hct, List.getElem?_map, encZ, Crv.enc, wrap_ok, Int.natCast_add, Int.natCast_one]
      intro j' p' hj' hp'
      by_cases ej : j' = j
      · subst ej
        rw [hp] at hp'
        cases hp'
        omega
      · exact hq j' p' (by omega) hp'
  obtain ⟨_, U, ho, rfl, rfl⟩ := this
  exact callD_obsS rfl (by simp [pureL_cons, D.pure]) ho (ExtS.refl) rfl
section
variable {S : List Ob} {lab : Lab} {o k n : Nat} {s : Stk} {rd : D} {rows : List RRow} {ids : List Lid} {cs : List Crv}
set_option maxHeartbeats 8000000 in
set_option maxRecDepth 100000 in
theorem rBid_c (hn : 1100 ≤ n) (h : RefAt S lab o s k rd rows) (ok : StkOk 9999 s) (hrl : rows.length ≤ 100) (hls : s.l.length ≤ 100) (hl : ids.length ≤ 6) {di : D} (hdi : FLs 4 Lid.enc di ids) (hcs : cs.length ≤ 6) (hcr : ∀ c ∈ cs, RightI c.l) {cu : D} (hcu : FLs 1 Crv.enc cu cs) (cl : ByteArray) (v : Int) (st : Bool) :
    callD E (dcall E n) st S 25 [.loc k 0 0, cu, di, .str cl, .int .i64 v] = some (.int .i64 (bidF s cs ids cl v), S) := by
  obtain ⟨q, rfl⟩ : ∃ q, n = q + 1 := ⟨n - 1, by omega⟩
  have cus := rusable_c (n := q) (by omega) h hrl (by omega) hdi
  have : WO (dcall E (q + 1) 25 [.loc k 0 0, cu, di, .str cl, .int .i64 v] S) fun r T => r = .int .i64 (bidF s cs ids cl v) ∧ ExtS S T := by
    refine wo_dcall Tryz.func25 rfl (by decide) rfl 48 rfl (fun a hal ha => ?_)
    have h0 : a[0]? = some (.loc k 0 0) := ha 0 (by simp)
    have h1 : a[1]? = some (cu) := ha 1 (by simp)
    have h2 : a[2]? = some (di) := ha 2 (by simp)
    have h3 : a[3]? = some (.str cl) := ha 3 (by simp)
    have h4 : a[4]? = some (.int .i64 v) := ha 4 (by simp)
    clear ha
    unfold bidF
    cases hu : usF s ids
    · rw [hu] at cus
      rw [if_neg (by simp)]
      simp (maxSteps := 1000000) (disch := omega) only [push_cast, ↓wc_seq, ↓wc_condL, ↓wc_region, ↓wr_cons, ↓wr_consgL, ↓wr_nil, ↓wo_pickL, ↓wo_callf, ↓wc_ret, wo_some, opQ_eq, seqQ_normal, seqQ_ret, retQ_ret, pickC_true, pickO_true, gstep_tf, Nat.reduceAdd, Nat.reduceMul, Nat.reduceLT, Nat.reduceEqDiff, ↓reduceIte, planIds, hasExt, cntFs, idxFs, clnFs, ovlFs, List.contains_cons, List.contains_nil, List.any_nil, Nat.reduceBEq, setC, List.length_set, reduceCtorEq, eq_self, Nat.zero_add, planIds, hasExt, cntFs, idxFs, clnFs, ovlFs, List.contains_cons, List.contains_nil, List.any_nil, Nat.reduceBEq, Nat.reduceMul, Nat.reduceAdd, ↓reduceIte, hal, h0, h2, cus, dUn, Tryz.f25]
      exact ExtS.refl
    rw [hu] at cus
    have hne : ids ≠ [] := by
      rintro rfl
      simp [usF] at hu
    have hpos : 0 < ids.length := List.length_pos_iff.2 hne
    obtain ⟨x, rfl⟩ : ∃ x, di = .sl 4 (ids.map Lid.enc) x := by
      rcases hdi with ⟨-, e⟩ | h
      · exact absurd e hne
      · exact h
    by_cases hlen : cs.length = ids.length
    case neg =>
      rw [if_neg (by simp [hlen])]
      have hlen' : ¬ (cs.length : Int) = ids.length := by omega
      rcases hcu with ⟨rfl, rfl⟩ | ⟨x', rfl⟩
      · simp only [List.length_nil, Int.natCast_zero] at hlen'
        simp (maxSteps := 1000000) (disch := omega) only [push_cast, ↓wc_seq, ↓wc_condL, ↓wc_region, ↓wr_cons, ↓wr_consgL, ↓wr_nil, ↓wo_pickL, ↓wo_callf, ↓wc_ret, wo_some, opQ_eq, seqQ_normal, seqQ_ret, retQ_ret, pickC_true, pickO_false, gstep_ff, int_bne, Nat.reduceAdd, Nat.reduceMul, Nat.reduceLT, Nat.reduceEqDiff, ↓reduceIte, planIds, hasExt, cntFs, idxFs, clnFs, ovlFs, List.contains_cons, List.contains_nil, List.any_nil, Nat.reduceBEq, setC, List.length_set, reduceCtorEq, eq_self, Nat.zero_add, not_false_eq_true, planIds, hasExt, cntFs, idxFs, clnFs, ovlFs, List.contains_cons, List.contains_nil, List.any_nil, Nat.reduceBEq, Nat.reduceMul, Nat.reduceAdd, ↓reduceIte, hal, h0, h1, h2, cus, dUn, List.length_map, hlen', not_false_eq_true, Tryz.f25]
        exact ExtS.refl
      · simp (maxSteps := 1000000) (disch := omega) only [push_cast, ↓wc_seq, ↓wc_condL, ↓wc_region, ↓wr_cons, ↓wr_consgL, ↓wr_nil, ↓wo_pickL, ↓wo_callf, ↓wc_ret, wo_some, opQ_eq, seqQ_normal, seqQ_ret, retQ_ret, pickC_true, pickO_false, gstep_ff, int_bne, Nat.reduceAdd, Nat.reduceMul, Nat.reduceLT, Nat.reduceEqDiff, ↓reduceIte, planIds, hasExt, cntFs, idxFs, clnFs, ovlFs, List.contains_cons, List.contains_nil, List.any_nil, Nat.reduceBEq, setC, List.length_set, reduceCtorEq, eq_self, Nat.zero_add, not_false_eq_true, planIds, hasExt, cntFs, idxFs, clnFs, ovlFs, List.contains_cons, List.contains_nil, List.any_nil, Nat.reduceBEq, Nat.reduceMul, Nat.reduceAdd, ↓reduceIte, hal, h0, h1, h2, cus, dUn, List.length_map, hlen', not_false_eq_true, Tryz.f25]
        exact ExtS.refl
    rw [if_pos ⟨rfl, hlen⟩]
    have hcu' := hcu
    obtain ⟨x', rfl⟩ : ∃ x, cu = .sl 1 (cs.map Crv.enc) x := by
      rcases hcu with ⟨-, e⟩ | h
      · rw [e] at hlen; simp only [List.length_nil] at hlen; omega
      · exact h
    have hlen' : (cs.length : Int) = ids.length := by omega
    simp (maxSteps := 1000000) (disch := omega) only [push_cast, ↓wc_seq, ↓wc_block, ↓wc_condL, ↓wc_region, ↓wr_cons, ↓wr_consgL, ↓wr_nil, ↓wo_pickL, ↓wo_callf, ↓wc_skip, ↓wc_wl, wo_some, opQ_eq, seqQ_normal, pickC_false, pickO_false, gstep_ff, int_bne, Nat.reduceAdd, Nat.reduceMul, Nat.reduceLT, Nat.reduceEqDiff, ↓reduceIte, planIds, hasExt, cntFs, idxFs, clnFs, ovlFs, List.contains_cons, List.contains_nil, List.any_nil, Nat.reduceBEq, setC, List.length_set, reduceCtorEq, eq_self, Nat.zero_add, not_true_eq_false, planIds, hasExt, cntFs, idxFs, clnFs, ovlFs, List.contains_cons, List.contains_nil, List.any_nil, Nat.reduceBEq, Nat.reduceMul, Nat.reduceAdd, ↓reduceIte, hal, h0, h1, h2, cus, dUn, List.length_map, hlen', not_true_eq_false]
    refine wl_loop (fun i a T => a.length = 48 ∧ a[0]? = some (.loc k 0 0) ∧ a[1]? = some (.sl 1 (cs.map Crv.enc) x') ∧ a[2]? = some (.sl 4 (ids.map Lid.enc) x) ∧ a[3]? = some (.str cl) ∧ a[4]? = some (.int .i64 v) ∧ a[12]? = some (.int .i64 i) ∧ ExtS S T ∧ ∃ d, a[11]? = some d ∧ GL 1 encZ T d ((ids.take i).map fun id => s.free id cl) ∧ ∀ k n, d = .os k 0 n false → S.length ≤ k) ids.length ?_ (by omega) ?_
    · simp (maxSteps := 1000000) (disch := omega) only [push_cast, Nat.reduceLT, Nat.reduceEqDiff, ↓reduceIte, setC, List.length_set, reduceCtorEq, eq_self, Option.some.injEq, ↓reduceIte, hal, h0, h1, h2, h3, h4, Int.natCast_zero, List.take_zero]
      exact ⟨ExtS.refl, _, rfl, GL.nil, fun k n h => by cases h⟩
    clear hal h0 h1 h2 h3 h4 a
    rintro i a T hi ⟨hal, h0, h1, h2, h3, h4, h12, hx, d, h11, hg, hd⟩
    rcases Nat.lt_or_eq_of_le hi with hlt | rfl
    case inr =>
      rw [List.take_length] at hg
      have hpf : (pairsF s cs ids cl).map (·.1) = cs := zip_fst (by simp [hlen])
      have hps : (pairsF s cs ids cl).map (·.2) = ids.map fun id => s.free id cl := zip_snd (by simp [hlen])
      have hpl : (pairsF s cs ids cl).length = ids.length := by unfold pairsF; rw [List.length_zip, List.length_map, hlen, Nat.min_self]
      have hT := h.keep (KeepO.ext hx)
      have co := rOOpen_c (n := q) (by omega) hT ok hrl hls (by omega) hdi cl
      obtain ⟨kl, rfl, hk⟩ : ∃ kl, d = .os kl 0 ids.length false ∧ T[kl]? = some (.row 1 ((ids.map fun id => s.free id cl).map encZ)) := by
        rcases hg with ⟨-, e⟩ | ⟨kl, e, hk⟩
        · exact absurd (by simpa using e) hne
        · rw [List.length_map] at e
          exact ⟨kl, e, hk⟩
      have cse := rSeats_c (n := q) (by omega) (S := T) (kl := kl) (ps := pairsF s cs ids cl) ⟨by omega, fun p hp => ⟨hcr _ (by rw [← hpf]; exact List.mem_map_of_mem hp), by
          have hm : p.2 ∈ (pairsF s cs ids cl).map (·.2) := List.mem_map_of_mem hp
          rw [hps] at hm
          obtain ⟨id, -, e⟩ := List.mem_map.1 hm
          have := free_rng ok id cl
          omega⟩⟩ (by intro e; rw [e] at hpl; simp only [List.length_nil] at hpl; omega) (by rw [hpf]; exact hcu') (by rw [hps]; exact hk) v (openF s ids cl)
      rw [hpl] at cse
      simp (maxSteps := 1000000) (disch := omega) only [push_cast, ↓wc_seq, ↓wc_condL, ↓wc_region, ↓wr_cons, ↓wr_nil, ↓wo_callf, ↓wc_exit, ↓wc_ret, wo_some, opQ_eq, seqQ_normal, seqQ_exit, blockQ_exit, iterQ_exit, retQ_ret, pickC_false, Nat.reduceAdd, Nat.reduceMul, Nat.reduceLT, Nat.reduceEqDiff, ↓reduceIte, planIds, hasExt, cntFs, idxFs, clnFs, ovlFs, List.contains_cons, List.contains_nil, List.any_nil, Nat.reduceBEq, setC, List.length_set, reduceCtorEq, eq_self, Nat.zero_add, planIds, hasExt, cntFs, idxFs, clnFs, ovlFs, List.contains_cons, List.contains_nil, List.any_nil, Nat.reduceBEq, Nat.reduceMul, Nat.reduceAdd, ↓reduceIte, hal, h0, h1, h2, h3, h4, h11, h12, Int.lt_irrefl, co, cse, List.length_map, Tryz.f25]
      exact hx
    have hltc : (i : Int) < ids.length := by omega
    obtain ⟨id, hid⟩ : ∃ id, ids[i]? = some id := ⟨ids[i], by simp⟩
    have cf := rFree_c (n := q) (id := id) (by omega) (h.keep (KeepO.ext hx)) ok hrl hls cl
    obtain ⟨T', ha, hg', hlen2, hkeep, hrw⟩ := app_gl el_intG sz_intG ze_intG rfl by_intG hg (by rw [List.length_map, List.length_take]; omega) (s.free id cl)
    have hee : encZ (s.free id cl) = [.int .i64 (s.free id cl)] := rfl
    rw [hee] at ha
    have hst : ((ids.take i).map fun id => s.free id cl) ++ [s.free id cl] = (ids.take (i + 1)).map fun id => s.free id cl := by rw [List.take_add_one, hid]; simp
    have hti : ((ids.take i).map fun id => s.free id cl).length = i := by rw [List.length_map, List.length_take]; omega
    rw [hst, hti] at hg'
    rw [hti] at ha
    simp only [Lid.enc] at cf
    simp (maxSteps := 1000000) (disch := omega) only [push_cast, ↓wc_seq, ↓wc_block, ↓wc_condL, ↓wc_region, ↓wr_cons, ↓wr_nil, ↓wo_callf, ↓wc_skip, wo_some, opQ_eq, seqQ_normal, blockQ_normal, iterQ_normal, pickC_true, Nat.reduceAdd, Nat.reduceMul, Nat.reducePow, Nat.reduceLT, Nat.reduceLeDiff, Nat.reduceEqDiff, ↓wo_buildSlice, evParts, ↓reduceIte, planIds, hasExt, cntFs, idxFs, clnFs, ovlFs, List.contains_cons, List.contains_nil, List.any_nil, Nat.reduceBEq, setC, List.length_set, reduceCtorEq, eq_self, Int.natCast_nonneg, Int.toNat_natCast, Option.some.injEq, Nat.zero_add, planIds, hasExt, cntFs, idxFs, clnFs, ovlFs, List.contains_cons, List.contains_nil, List.any_nil, Nat.reduceBEq, Nat.reduceMul, Nat.reduceAdd, ↓reduceIte, hal, h0, h1, h2, h3, h4, h11, h12, hlt, hltc, hid, cf, ha, List.getElem?_map, Lid.enc, List.length_map, wrap_ok, Int.natCast_add, Int.natCast_one]
    refine ⟨fun j o hj => hkeep j o (fun n e => ?_) (hx j o hj), _, rfl, hg', fun k n e => ?_⟩
    · have := hd _ _ e
      have := lt_of_get hj
      omega
    · injection e with e1
      have := hx.len
      omega
  obtain ⟨_, U, ho, rfl, hx⟩ := this
  exact callD_obsS rfl (by simp [pureL_cons, D.pure]) ho hx rfl
end
theorem rightB18_of' {cs : List Crv} {v : Int} (h : rightB18 cs v = true) : cs.length ≤ 6 ∧ ∀ c ∈ cs, RightI c.l := by
  simp only [rightB18, Bool.and_eq_true, decide_eq_true_eq] at h
  refine ⟨h.1.1.1, fun c hc => ?_⟩
  have := List.all_eq_true.1 h.2 c hc
  simp only [crvB, Bool.and_eq_true, decide_eq_true_eq] at this
  exact ⟨this.1, rightV_rng this.2⟩
set_option maxHeartbeats 16000000 in
set_option maxRecDepth 100000 in
theorem OfferBids_d {n kc : Nat} (hn : 1300 ≤ n) {l : List Cfg} {acts : List Cal} {lx ax : Bool} {ld cu : D} {lu : List Nat} {cs : List Crv} (hlu : FLs 1 encU ld lu) (hu : ∀ k ∈ lu, k ≤ 255) (hk : kc ≤ 255) (hcu : FLs 1 Crv.enc cu cs) (v : Int) (hz : ∀ c ∈ l, CfgZ (n - 5) c) (hacts : ∀ a ∈ acts, a.Ok) :
    ∃ T, dcall E (n + 1) 5 [.sl 2 (l.map Cfg.enc) lx, .sl 6 (acts.map Cal.enc) ax, ld, .int .u8 kc, cu, .int .i64 v] [] = some (.bool true, T) := by
  have cw : ∀ st S, callD E (dcall E n) st S 14 [] = some (.bool true, S) := fun st S => by
    obtain ⟨T, hT⟩ := awake18_d
    exact callD_pure rfl rfl (dcall_le (by omega) _ _ _ _ hT) rfl
  obtain ⟨rb, cr, hr⟩ := Right_c (n := n) (l := l) (acts := acts) (lx := lx) (ax := ax) (by omega) (fun c hc => (hz c hc).mono' (by omega))
  have c1 := right18_c (n := n) (by omega) hcu v
  obtain ⟨di, hdi, clg⟩ := legs_c (n := n) (by omega) hlu hu
  have cc := Class_c (n := n) (k := kc) (by omega) hk
  have : WO (dcall E (n + 1) 5 [.sl 2 (l.map Cfg.enc) lx, .sl 6 (acts.map Cal.enc) ax, ld, .int .u8 kc, cu, .int .i64 v] []) fun r T => r = .bool true := by
    refine wo_dcall Tryz.func5 rfl (by decide) rfl 68 rfl (fun a hal ha => ?_)
    have h0 : a[0]? = some (.sl 2 (l.map Cfg.enc) lx) := ha 0 (by simp)
    have h1 : a[1]? = some (.sl 6 (acts.map Cal.enc) ax) := ha 1 (by simp)
    have h2 : a[2]? = some (ld) := ha 2 (by simp)
    have h3 : a[3]? = some (.int .u8 kc) := ha 3 (by simp)
    have h4 : a[4]? = some (cu) := ha 4 (by simp)
    have h5 : a[5]? = some (.int .i64 v) := ha 5 (by simp)
    clear ha
    cases rb
    · simp (maxSteps := 1000000) (disch := omega) only [push_cast, ↓wc_seq, ↓wc_condL, ↓wc_region, ↓wr_cons, ↓wr_consgL, ↓wr_nil, ↓wo_pickL, ↓wo_callf, ↓wc_ret, wo_some, opQ_eq, seqQ_normal, seqQ_ret, retQ_ret, pickC_true, pickO_true, gstep_tf, Nat.reduceAdd, Nat.reduceMul, Nat.reduceLT, Nat.reduceEqDiff, ↓reduceIte, planIds, hasExt, cntFs, idxFs, clnFs, ovlFs, List.contains_cons, List.contains_nil, List.any_nil, Nat.reduceBEq, setC, List.length_set, reduceCtorEq, eq_self, Nat.zero_add, planIds, hasExt, cntFs, idxFs, clnFs, ovlFs, List.contains_cons, List.contains_nil, List.any_nil, Nat.reduceBEq, Nat.reduceMul, Nat.reduceAdd, ↓reduceIte, hal, h0, h1, cr, cw, dUn, Tryz.f5]
    obtain ⟨hr1, hr2, hr3⟩ := hr rfl
    cases q1 : rightB18 cs v
    · rw [q1] at c1
      simp (maxSteps := 1000000) (disch := omega) only [push_cast, ↓wc_seq, ↓wc_condL, ↓wc_region, ↓wr_cons, ↓wr_consgL, ↓wr_nil, ↓wo_pickL, ↓wo_callf, ↓wc_ret, wo_some, opQ_eq, seqQ_normal, seqQ_ret, retQ_ret, pickC_true, pickO_false, gstep_ff, Nat.reduceAdd, Nat.reduceMul, Nat.reduceLT, Nat.reduceEqDiff, ↓reduceIte, planIds, hasExt, cntFs, idxFs, clnFs, ovlFs, List.contains_cons, List.contains_nil, List.any_nil, Nat.reduceBEq, setC, List.length_set, reduceCtorEq, eq_self, Nat.zero_add, planIds, hasExt, cntFs, idxFs, clnFs, ovlFs, List.contains_cons, List.contains_nil, List.any_nil, Nat.reduceBEq, Nat.reduceMul, Nat.reduceAdd, ↓reduceIte, hal, h0, h1, h4, h5, cr, c1, cw, dUn, Tryz.f5]
    rw [q1] at c1
    have hsm : ∀ c ∈ l, Sm c := fun c hc => ((cfgs_ok hr3).cfg c hc).sm
    obtain ⟨d, T, cb, p, r, lab, rfl, hs, hR, hok⟩ := gen_of (n := n) (by omega) rfl (built_d (n := n - 1) (lx := lx) (ax := ax) (by omega) (fun c hc => (hz c hc).mono' (by omega)) hr1 hsm hr3 hr2 hacts)
    obtain ⟨pl, px⟩ := playF_l ⟨l, lx, []⟩ acts
    have hlg : (playF ⟨l, lx, []⟩ acts).legs.length ≤ 100 := by
      have := playF_legs ⟨l, lx, []⟩ acts
      simp at this
      omega
    generalize playF ⟨l, lx, []⟩ acts = s at *
    have hls : s.l.length ≤ 100 := by rw [pl]; dsimp only; omega
    generalize clsN kc = cl at *
    obtain ⟨h6, hids⟩ := legsF_ok lu
    generalize legsF lu = ids at *
    have ok9 : StkOk 9999 s := hok.mono (by omega)
    obtain ⟨hf, m, ps, hst⟩ := id hs
    obtain ⟨-, rd, rows, hRr⟩ := id hR
    have hrl : rows.length ≤ 100 := by rw [← hRr.legs, List.length_map] at hlg; exact hlg
    obtain ⟨g1, g2⟩ := rightB18_of' q1
    have b1 := Bid_c (n := n) (by omega) hst ok9 h6 hids hdi g1 g2 hcu cl v
    have b2 := rBid_c (n := n) (by omega) hRr ok9 hrl hls h6 hdi g1 g2 hcu cl v
    have o1 := OOpen_c (n := n) (by omega) hst ok9 (by omega) hids hdi cl
    have hle : bidF s cs ids cl v ≤ openF s ids cl := bidF_open
    simp (maxSteps := 1000000) (disch := omega) only [push_cast, ↓wc_seq, ↓wc_condL, ↓wc_region, ↓wr_cons, ↓wr_consgL, ↓wr_nil, ↓wo_pickL, ↓wo_callf, ↓wc_ret, ↓wc_skip, wo_some, opQ_eq, seqQ_normal, retQ_ret, pickC_false, pickO_true, pickO_false, gstep_tt, gstep_ff, int_beq, Nat.reduceAdd, Nat.reduceMul, Nat.reduceLT, Nat.reduceEqDiff, ↓reduceIte, planIds, hasExt, cntFs, idxFs, clnFs, ovlFs, List.contains_cons, List.contains_nil, List.any_nil, Nat.reduceBEq, setC, List.length_set, reduceCtorEq, eq_self, Nat.zero_add, planIds, hasExt, cntFs, idxFs, clnFs, ovlFs, List.contains_cons, List.contains_nil, List.any_nil, Nat.reduceBEq, Nat.reduceMul, Nat.reduceAdd, ↓reduceIte, hal, h0, h1, h2, h3, h4, h5, cr, c1, cw, cb, clg, cc, b1, b2, o1, hle, dUn, Tryz.f5]
  obtain ⟨_, T, ho, rfl⟩ := this
  exact ⟨T, ho⟩
end Go.Proofs.YtlamgjbngblefaaGreatDoor.Dm
namespace Go.Proofs.YtlamgjbngblefaaGreatDoor
open Go Go.ChangeShapes Go.WideShapes Go.ChangeAt Go.RowKit Dm
theorem OfferBids_walk {W : World} {xs : List D} {vs : Array Value} (ht : TVs Tryz.prog [22, 23, 24, 5, 45, 3] xs) (hv : VRs W ⟨Tryz.prog, fun _ => none, fun g => g < W.heap.size⟩ xs vs.toList) (hp : pureL xs = true) :
    Calls Tryz.prog 5 vs W fun e W' => e = .returned (.bool true) ∧ Below W.heap.size W W' := by
  obtain ⟨d1, _, rfl, h1, ht⟩ := ht.inv
  obtain ⟨d2, _, rfl, h2, ht⟩ := ht.inv
  obtain ⟨d3, _, rfl, h3, ht⟩ := ht.inv
  obtain ⟨k, _, rfl, hk, ht⟩ := TVs.int1 Tryz.underlying5 ht
  obtain ⟨d5, _, rfl, h5, ht⟩ := ht.inv
  obtain ⟨a, _, rfl, -, ht⟩ := TVs.int1 Tryz.underlying3 ht
  have := ht.inv0
  subst this
  have hkb := u8_bd hk
  obtain ⟨k, rfl⟩ : ∃ n : Nat, k = n := ⟨k.toNat, by omega⟩
  obtain ⟨v1, v2, v3, v4, v5, v6, hvs⟩ : ∃ v1 v2 v3 v4 v5 v6, vs.toList = [v1, v2, v3, v4, v5, v6] := by
    have := hv.1
    match vs.toList, this with
    | [v1, v2, v3, v4, v5, v6], _ => exact ⟨v1, v2, v3, v4, v5, v6, rfl⟩
  rw [hvs] at hv
  have r1 := hv.head
  have r2 := hv.tail.head
  have r3 := hv.tail.tail.head
  have r5 := hv.tail.tail.tail.tail.head
  obtain ⟨n, hn⟩ : ∃ n : Nat, 9223372036854775807 + 6000 ≤ n := ⟨_, Nat.le_refl _⟩
  obtain ⟨l, lx, z1, w1⟩ := Cfgs_front h1 (n := n - 2) (by omega)
  obtain ⟨acts, ax, z2, w2⟩ := Acts_front h2
  obtain ⟨lu, ux, ⟨z3, -⟩, w3⟩ := slices_rel (enc := encU) (n := 1) Tryz.underlying24 cells_gu8 (fun c h => U8_of h) (h3.one agg_u8s)
  obtain ⟨cs, cx, -, w5⟩ := slices_rel (enc := Crv.enc) (n := 1) Tryz.underlying45 cells_slI (fun c h => Crv_of h) (h5.one agg_crvs)
  obtain ⟨T, hT⟩ := OfferBids_d (n := n) (kc := k) (lx := lx) (ax := ax) (by omega) (ld := .sl 1 (lu.map encU) ux) (cu := .sl 1 (cs.map Crv.enc) cx) (.inr ⟨_, rfl⟩) z3 (by omega) (.inr ⟨_, rfl⟩) a (fun c hc => (z1 c hc).mono' (by omega)) z2
  refine true_of_dcall envOk (I := fun g => g < W.heap.size) hT (fun g h => h) (fun g cs hg => by cases hg) ?_
  rw [hvs]
  exact VRs.cons (w1 _ _ _ r1) (VRs.cons (w2 _ _ _ r2) (VRs.cons (w3 _ _ _ r3) (VRs.cons hv.tail.tail.tail.head (VRs.cons (w5 _ _ _ r5) hv.tail.tail.tail.tail.tail))))
end Go.Proofs.YtlamgjbngblefaaGreatDoor
