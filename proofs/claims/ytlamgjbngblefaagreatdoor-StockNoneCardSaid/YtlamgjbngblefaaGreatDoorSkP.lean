/-
  The machine at the program's inventory: what is sold, class by class.
-/
import Derived.Test.YtlamgjbngblefaaGreatDoorSkO
namespace Go.Proofs.YtlamgjbngblefaaGreatDoor.Dm
open Go Gw
set_option linter.unusedSimpArgs false
set_option linter.unusedSimpArgs false

abbrev encC (p : ByteArray × Int) : List D := [.str p.1, .int .i64 p.2]
theorem el_cnt : elemT Tryz.prog 39 = some 43 := by kernel_rfl
theorem sz_cnt : sizeT Tryz.prog 43 = some 2 := by kernel_rfl
theorem ze_cnt : zeroT Tryz.prog 43 = some (.agg [.str (ByteArray.mk #[]), .int .i64 0]) := by kernel_rfl
theorem by_cnt : bytesT Tryz.prog 43 ≤ 100000 := by
  have : bytesT Tryz.prog 43 = 24 := by kernel_rfl
  rw [this]; omega
/-- An append of a count. -/
theorem app_cnt {S : List Ob} {d : D} {l : List (ByteArray × Int)} (h : GL 2 encC S d l) (hl : l.length ≤ 100000) (c : ByteArray) (v : Int) :
    ∃ S', dAppend Tryz.prog S 39 39 d (.sl 2 [[.str c, .int .i64 v]] true) = some (.os S.length 0 (l.length + 1) false, S') ∧ GL 2 encC S' (.os S.length 0 (l.length + 1) false) (l ++ [(c, v)]) ∧ S'.length = S.length + 1 ∧ (∀ k o, (∀ n, d = .os k 0 n false → False) → S[k]? = some o → S'[k]? = some o) ∧ (∀ (k sz : Nat) (es : List (List D)), sz ≠ 2 → S[k]? = some (.row sz es) → S'[k]? = some (.row sz es)) :=
  app_gl el_cnt sz_cnt ze_cnt rfl by_cnt h hl (c, v)
theorem KeepO.ext {o : Nat} {S T : List Ob} {lab : Lab} (h : ExtS S T) : KeepO o S lab T lab := fun x ob _ hx hl => ⟨h x ob hx, hl⟩
theorem slJ_succ {c : Nat} {y : Cab} {j : Nat} {z : Cls} (h : y.cls[j]? = some z) : slJ c y (j + 1) = slJ c y j ++ [(c, j, z)] := by rw [slJ, h]
theorem slC_succ {cabs : List Cab} {c : Nat} {y : Cab} (h : cabs[c]? = some y) : slC cabs (c + 1) = slC cabs c ++ slJ c y y.cls.length := by rw [slC, h]
theorem slJ_len (c : Nat) (y : Cab) : ∀ j, (slJ c y j).length ≤ j
  | 0 => Nat.le_refl _
  | j + 1 => by
    have := slJ_len c y j
    rw [slJ, List.length_append]
    split <;> simp <;> omega
theorem slC_len {cabs : List Cab} (h : ∀ y ∈ cabs, y.cls.length ≤ 30) : ∀ c, (slC cabs c).length ≤ 30 * c
  | 0 => Nat.le_refl _
  | c + 1 => by
    have := slC_len h c
    rw [slC, List.length_append]
    rcases e : cabs[c]? with _ | y
    · simp; omega
    · have h1 := h y (List.mem_of_getElem? e)
      have h2 := slJ_len c y y.cls.length
      dsimp only; omega
def cntQ (x : Leg) (q : Nat × Nat × Cls) : ByteArray × Int := (q.2.2.code, soldAt x.sold q.1 q.2.1)
theorem countsF_eq (x : Leg) : countsF x = (slC x.cfg.cabs x.cfg.cabs.length).map (cntQ x) := rfl
section
variable {S : List Ob} {lab : Lab} {o k m n : Nat} {s : Stk} {ps : List (D × D)} {id : Lid}
set_option maxHeartbeats 8000000 in
set_option maxRecDepth 100000 in
theorem Counts_d (hn : 180 ≤ n) (h : StkAt S lab o kL (.loc k 0 0) s k m ps) (ok : StkOk 9999 s) (hid : id.Ok) :
    WO (dcall E (n + 1) 43 [.loc k 0 0, .agg id.enc] S) fun d T => GL 2 encC T d (s.counts id) ∧ ExtS S T ∧ ∀ k n, d = .os k 0 n false → S.length ≤ k := by
  refine wo_dcall Tryz.func43 rfl (by decide) rfl 54 rfl (fun a hal ha => ?_)
  have h0 : a[0]? = some (.loc k 0 0) := ha 0 (by simp)
  have h1 : a[1]? = some (.agg id.enc) := ha 1 (by simp)
  clear ha
  unfold Stk.counts
  rcases get_at (n := n) (by omega) (h.push [.row 4 [id.enc]]) hid with ⟨e, cg⟩ | ⟨i, p, x, e, cg, hx⟩
  · rw [e]
    simp only [Lid.enc] at h1 cg
    simp (maxSteps := 1000000) (disch := omega) only [push_cast, ↓wc_seq, ↓wc_condL, ↓wc_region, ↓wr_cons, ↓wr_nil, ↓wo_callf, ↓wc_ret, wo_some, opQ_eq, seqQ_normal, seqQ_ret, retQ_ret, pickC_true, Nat.reduceAdd, Nat.reduceMul, Nat.reduceLT, Nat.reduceLeDiff, Nat.reduceEqDiff, ↓reduceIte, planIds, hasExt, cntFs, idxFs, clnFs, ovlFs, List.contains_cons, List.contains_nil, List.any_nil, Nat.reduceBEq, setC, List.length_set, false_implies, forall_const, reduceCtorEq, eq_self, Nat.zero_add, planIds, hasExt, cntFs, idxFs, clnFs, ovlFs, List.contains_cons, List.contains_nil, List.any_nil, Nat.reduceBEq, Nat.reduceMul, Nat.reduceAdd, ↓reduceIte, hal, h0, h1, get_end, cg, eqp_leg0, Tryz.f43]
    exact ⟨GL.nil, fun j y hj => get_old (get_old hj)⟩
  rw [e]
  have hok := ok.get e
  have hsm := hok.cfg.sm
  have hl4 := hok.cfg.l2
  dsimp only
  rw [countsF_eq]
  have hx1 := legAt_push hx [.row 4 [id.enc]]
  obtain ⟨qq, es, hp, -, -, -⟩ := hx1.parts
  have hS1 : ExtS S (S ++ [Ob.row 4 [id.enc]] ++ [Ob.row 4 [id.enc]]) := fun j y hj => get_old (get_old hj)
  simp only [Lid.enc] at h1 cg hp
  simp (maxSteps := 1000000) (disch := omega) only [push_cast, ↓wc_seq, ↓wc_block, ↓wc_condL, ↓wc_region, ↓wr_cons, ↓wr_nil, ↓wo_callf, ↓wc_skip, ↓wc_wl, wo_some, opQ_eq, seqQ_normal, pickC_false, Nat.reduceAdd, Nat.reduceMul, Nat.reduceLT, Nat.reduceLeDiff, Nat.reduceEqDiff, ↓reduceIte, planIds, hasExt, cntFs, idxFs, clnFs, ovlFs, List.contains_cons, List.contains_nil, List.any_nil, Nat.reduceBEq, setC, List.length_set, reduceCtorEq, eq_self, Nat.zero_add, Nat.add_zero, planIds, hasExt, cntFs, idxFs, clnFs, ovlFs, List.contains_cons, List.contains_nil, List.any_nil, Nat.reduceBEq, Nat.reduceMul, Nat.reduceAdd, ↓reduceIte, hal, h0, h1, get_end, cg, eqp_leg, hp, List.length_map]
  change ExtS S (S ++ [Ob.row 4 [id.enc]] ++ [Ob.row 4 [id.enc]]) at hS1
  simp only [Lid.enc] at hS1 hx1
  generalize hU : S ++ [Ob.row 4 [[D.str id.c, D.int .i64 id.n, D.int .i64 id.d, D.str id.f]]] ++ [Ob.row 4 [[D.str id.c, D.int .i64 id.n, D.int .i64 id.d, D.str id.f]]] = U at *
  refine wl_loop (fun c a T => a.length = 54 ∧ a[5]? = some (.loc p 0 0) ∧ a[20]? = some (.sl 4 (x.cfg.cabs.map Cab.enc) x.cfg.cabsx) ∧ a[21]? = some (.int .i64 x.cfg.cabs.length) ∧ a[22]? = some (.int .i64 c) ∧ ExtS U T ∧ ∃ d, a[6]? = some d ∧ GL 2 encC T d ((slC x.cfg.cabs c).map (cntQ x)) ∧ ∀ k n, d = .os k 0 n false → U.length ≤ k) x.cfg.cabs.length ?_ (by omega) ?_
  · simp (maxSteps := 1000000) (disch := omega) only [push_cast, Nat.reduceLT, Nat.reduceEqDiff, ↓reduceIte, setC, List.length_set, eq_self, Option.some.injEq, ↓reduceIte, hal, Int.natCast_zero]
    exact ⟨ExtS.refl, _, rfl, GL.nil, fun k n h => by cases h⟩
  clear hal h0 h1 a
  rintro c a T hc ⟨hal, h5, h20, h21, h22, hx0, d, h6, hg, hd⟩
  rcases Nat.lt_or_eq_of_le hc with hlt | rfl
  case inr =>
    simp (maxSteps := 1000000) (disch := omega) only [push_cast, ↓wc_seq, ↓wc_condL, ↓wc_region, ↓wr_cons, ↓wr_nil, ↓wc_exit, ↓wc_ret, wo_some, opQ_eq, seqQ_normal, seqQ_exit, blockQ_exit, iterQ_exit, retQ_ret, pickC_false, Nat.reduceAdd, Nat.reduceMul, Nat.reduceLT, Nat.reduceEqDiff, ↓reduceIte, planIds, List.contains_cons, List.contains_nil, Nat.reduceBEq, setC, List.length_set, eq_self, Int.ofNat_lt, Nat.zero_add, planIds, List.contains_cons, List.contains_nil, Nat.reduceBEq, Nat.reduceMul, Nat.reduceAdd, ↓reduceIte, hal, h6, h21, h22, Nat.lt_irrefl, Tryz.f43]
    exact ⟨hg, hS1.trans hx0, fun k n e => Nat.le_trans hS1.len (hd k n e)⟩
  obtain ⟨y, hy⟩ : ∃ y, x.cfg.cabs[c]? = some y := ⟨x.cfg.cabs[c], by simp [hlt]⟩
  obtain ⟨row, hrow, hrl, hyo⟩ := leg_sizes hok hy
  have hl26 := hyo.l2
  have hcs : c < x.sold.length := lt_of_get hrow
  have hlen := slC_len hsm.cls c
  simp (maxSteps := 1000000) (disch := omega) only [push_cast, ↓wc_seq, ↓wc_block, ↓wc_condL, ↓wc_region, ↓wr_cons, ↓wr_nil, ↓wc_skip, ↓wc_wl, wo_some, opQ_eq, seqQ_normal, pickC_true, Nat.reduceAdd, Nat.reduceMul, Nat.reduceLT, Nat.reduceLeDiff, Nat.reduceEqDiff, ↓reduceIte, planIds, List.contains_cons, List.contains_nil, Nat.reduceBEq, setC, List.length_set, eq_self, Int.natCast_nonneg, Int.toNat_natCast, Int.ofNat_lt, Nat.zero_add, planIds, List.contains_cons, List.contains_nil, Nat.reduceBEq, Nat.reduceMul, Nat.reduceAdd, ↓reduceIte, hal, h20, h21, h22, hlt, hy, set_end, get_end, List.length_map, List.getElem?_map, Cab.enc]
  refine wl_loop (fun j a T => a.length = 54 ∧ a[5]? = some (.loc p 0 0) ∧ a[7]? = some (.int .i64 c) ∧ a[20]? = some (.sl 4 (x.cfg.cabs.map Cab.enc) x.cfg.cabsx) ∧ a[21]? = some (.int .i64 x.cfg.cabs.length) ∧ a[22]? = some (.int .i64 c) ∧ a[28]? = some (.sl 2 (y.cls.map Cls.enc) y.clsx) ∧ a[29]? = some (.int .i64 y.cls.length) ∧ a[30]? = some (.int .i64 j) ∧ ExtS U T ∧ ∃ d, a[6]? = some d ∧ GL 2 encC T d ((slC x.cfg.cabs c ++ slJ c y j).map (cntQ x)) ∧ ∀ k n, d = .os k 0 n false → U.length ≤ k) y.cls.length ?_ (by omega) ?_
  · simp (maxSteps := 1000000) (disch := omega) only [push_cast, Nat.reduceLT, Nat.reduceEqDiff, ↓reduceIte, setC, List.length_set, eq_self, Option.some.injEq, ↓reduceIte, hal, h5, h6, h20, h21, h22, Int.natCast_zero, slJ]
    exact ⟨fun j o hj => get_old (hx0 j o hj), _, rfl, hg.push _, hd⟩
  clear h6 hg hd hx0
  clear hal h5 h20 h21 h22 a
  clear d T
  rintro j a T hj ⟨hal, h5, h7, h20, h21, h22, h28, h29, h30, hx0, d, h6, hg, hd⟩
  rcases Nat.lt_or_eq_of_le hj with hlj | rfl
  case inr =>
    rw [← slC_succ hy] at hg
    simp (maxSteps := 1000000) (disch := omega) only [push_cast, ↓wc_seq, ↓wc_condL, ↓wc_region, ↓wr_cons, ↓wr_nil, ↓wc_exit, wo_some, opQ_eq, seqQ_normal, seqQ_exit, blockQ_normal, blockQ_exit, iterQ_normal, iterQ_exit, pickC_false, Nat.reduceAdd, Nat.reduceMul, Nat.reduceLT, Nat.reduceEqDiff, ↓reduceIte, planIds, List.contains_cons, List.contains_nil, Nat.reduceBEq, setC, List.length_set, eq_self, Int.ofNat_lt, Option.some.injEq, Nat.zero_add, planIds, List.contains_cons, List.contains_nil, Nat.reduceBEq, Nat.reduceMul, Nat.reduceAdd, ↓reduceIte, hal, h5, h6, h20, h21, h22, h29, h30, Nat.lt_irrefl, hlt, wrap_ok, Int.natCast_add, Int.natCast_one]
    exact ⟨hx0, _, rfl, hg, hd⟩
  obtain ⟨z, hz⟩ : ∃ z, y.cls[j]? = some z := ⟨y.cls[j], by simp [hlj]⟩
  have hlenj := slJ_len c y j
  have hxl := (hx1.keep (KeepO.ext hx0)).keep (KeepO.push (J := [Ob.row 2 [[.str z.code, .int .i64 z.prot]]]))
  obtain ⟨qq, es, hp, hq, -, hr⟩ := hxl.parts
  obtain ⟨r, hr1, -, hr3⟩ := hr c row hrow
  obtain ⟨v, hv⟩ : ∃ v, row[j]? = some v := ⟨row[j], by simp [hrl, hlj]⟩
  have hjr : j < row.length := by omega
  have hcq : cntQ x (c, j, z) = (z.code, v) := by simp [cntQ, soldAt, hrow, hv]
  obtain ⟨T', ha, hg', hlen', hkeep, hrw⟩ := app_cnt (hg.push (Ob.row 2 [[.str z.code, .int .i64 z.prot]])) (by rw [List.length_map, List.length_append]; omega) z.code v
  rw [List.length_map] at ha hg'
  rw [← hcq, ← List.map_singleton (f := cntQ x), ← List.map_append, List.append_assoc, ← slJ_succ hz] at hg'
  simp (maxSteps := 1000000) (disch := omega) only [push_cast, ↓wc_seq, ↓wc_block, ↓wc_condL, ↓wc_region, ↓wr_cons, ↓wr_nil, ↓wc_skip, wo_some, opQ_eq, seqQ_normal, blockQ_normal, iterQ_normal, pickC_true, Nat.reduceAdd, Nat.reduceMul, Nat.reducePow, Nat.reduceLT, Nat.reduceLeDiff, Nat.reduceEqDiff, ↓wo_build, ↓wo_buildSlice, evParts, ↓reduceIte, planIds, List.contains_cons, List.contains_nil, Nat.reduceBEq, setC, List.length_set, eq_self, Int.natCast_nonneg, Int.toNat_natCast, Int.ofNat_lt, Option.some.injEq, Nat.zero_add, Nat.add_zero, planIds, List.contains_cons, List.contains_nil, Nat.reduceBEq, Nat.reduceMul, Nat.reduceAdd, ↓reduceIte, hal, h5, h6, h7, h20, h21, h22, h28, h29, h30, hlj, hz, set_end, get_end, hp, hq, hr1, hr3, hcs, hjr, hv, ha, List.getElem?_map, Cls.enc, wrap_ok, Int.natCast_add, Int.natCast_one]
  refine ⟨fun j' o hj' => hkeep j' o (fun n e => ?_) (get_old (hx0 j' o hj')), _, rfl, hg', fun k n e => ?_⟩
  · have := hd _ _ e
    have := lt_of_get hj'
    omega
  · injection e with e1
    have := hx0.len
    rw [← e1, List.length_append]
    omega
theorem Counts_c (hn : 190 ≤ n) (h : StkAt S lab o kL (.loc k 0 0) s k m ps) (ok : StkOk 9999 s) (hid : id.Ok) :
    ∃ d T, (∀ st, callD E (dcall E n) st S 43 [.loc k 0 0, .agg id.enc] = some (d, T)) ∧ GL 2 encC T d (s.counts id) ∧ ExtS S T ∧ ∀ k n, d = .os k 0 n false → S.length ≤ k := by
  obtain ⟨q, rfl⟩ : ∃ q, n = q + 1 := ⟨n - 1, by omega⟩
  obtain ⟨d, T, ho, h1, h2, h3⟩ := Counts_d (n := q) (by omega) h ok hid
  exact ⟨d, T, fun st => callD_extS rfl ho h2, h1, h2, h3⟩
end
end Go.Proofs.YtlamgjbngblefaaGreatDoor.Dm
