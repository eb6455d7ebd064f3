/-
  The machine at the program's inventory: what is sold, class by class.
  The machine at tables without sales, the program's and the reference's.
-/
import Derived.Test.YtajhgnefcddenaaGreatDoorSkO
namespace Go.Proofs.YtajhgnefcddenaaGreatDoor.Dm
open Go Gw
set_option linter.unusedSimpArgs false
set_option linter.unusedSimpArgs false

abbrev encC (p : ByteArray × Int) : List D := [.str p.1, .int .i64 p.2]
theorem el_cnt : elemT Tryz.prog 74 = some 134 := by kernel_rfl
theorem sz_cnt : sizeT Tryz.prog 134 = some 2 := by kernel_rfl
theorem ze_cnt : zeroT Tryz.prog 134 = some (.agg [.str (ByteArray.mk #[]), .int .i64 0]) := by kernel_rfl
theorem by_cnt : bytesT Tryz.prog 134 ≤ 100000 := by
  have : bytesT Tryz.prog 134 = 24 := by kernel_rfl
  rw [this]; omega
/-- An append of a count. -/
theorem app_cnt {S : List Ob} {d : D} {l : List (ByteArray × Int)} (h : GL 2 encC S d l) (hl : l.length ≤ 100000) (c : ByteArray) (v : Int) :
    ∃ S', dAppend Tryz.prog S 74 74 d (.sl 2 [[.str c, .int .i64 v]] true) = some (.os S.length 0 (l.length + 1) false, S') ∧ GL 2 encC S' (.os S.length 0 (l.length + 1) false) (l ++ [(c, v)]) ∧ S'.length = S.length + 1 ∧ (∀ k o, (∀ n, d = .os k 0 n false → False) → S[k]? = some o → S'[k]? = some o) ∧ (∀ (k sz : Nat) (es : List (List D)), sz ≠ 2 → S[k]? = some (.row sz es) → S'[k]? = some (.row sz es)) :=
  app_gl el_cnt sz_cnt ze_cnt rfl by_cnt h hl (c, v)
theorem KeepO.ext {o : Nat} {S T : List Ob} {lab : Lab} (h : ExtS S T) : KeepO o S lab T lab := fun x ob _ hx hl => ⟨h x ob hx, hl⟩
theorem slJ_succ {c : Nat} {y : Cab} {j : Nat} {z : Cls} (h : y.cls[j]? = some z) : slJ c y (j + 1) = slJ c y j ++ [(c, j, z)] := by rw [slJ, h]
theorem slC_succ {cabs : List Cab} {c : Nat} {y : Cab} (h : cabs[c]? = some y) : slC cabs (c + 1) = slC cabs c ++ slJ c y y.cls.length := by rw [slC, h]
theorem slJ_len (c : Nat) (y : Cab) : ∀ j, (slJ c y j).length ≤ j
  | 0 => Nat.le_refl _
  | j + 1 => by
    have := slJ_len c y j
    rw [slJ, List.length_append]
    split <;> simp <;> omega
theorem slC_len {cabs : List Cab} (h : ∀ y ∈ cabs, y.cls.length ≤ 30) : ∀ c, (slC cabs c).length ≤ 30 * c
  | 0 => Nat.le_refl _
  | c + 1 => by
    have := slC_len h c
    rw [slC, List.length_append]
    rcases e : cabs[c]? with _ | y
    · simp; omega
    · have h1 := h y (List.mem_of_getElem? e)
      have h2 := slJ_len c y y.cls.length
      dsimp only; omega
def cntQ (x : Leg) (q : Nat × Nat × Cls) : ByteArray × Int := (q.2.2.code, soldAt x.sold q.1 q.2.1)
theorem countsF_eq (x : Leg) : countsF x = (slC x.cfg.cabs x.cfg.cabs.length).map (cntQ x) := rfl
section
variable {S : List Ob} {lab : Lab} {o k m n : Nat} {s : Stk} {ps : List (D × D)} {id : Lid}
set_option maxHeartbeats 8000000 in
set_option maxRecDepth 100000 in
theorem Counts_d (hn : 180 ≤ n) (h : StkAt S lab o kL (.loc k 0 0) s k m ps) (ok : StkOk 9999 s) (hid : id.Ok) :
    WO (dcall E (n + 1) 35 [.loc k 0 0, .agg id.enc] S) fun d T => GL 2 encC T d (s.counts id) ∧ ExtS S T ∧ ∀ k n, d = .os k 0 n false → S.length ≤ k := by
  refine wo_dcall Tryz.func35 rfl (by decide) rfl 54 rfl (fun a hal ha => ?_)
  have h0 : a[0]? = some (.loc k 0 0) := ha 0 (by simp)
  have h1 : a[1]? = some (.agg id.enc) := ha 1 (by simp)
  clear ha
  unfold Stk.counts
  rcases get_at (n := n) (by omega) (h.push [.row 4 [id.enc]]) hid with ⟨e, cg⟩ | ⟨i, p, x, e, cg, hx⟩
  · rw [e]
    simp only [Lid.enc] at h1 cg
    simp (maxSteps := 1000000) (disch := omega) only [push_cast, ↓wc_seq, ↓wc_condL, ↓wc_region, ↓wr_cons, ↓wr_nil, ↓wo_callf, ↓wc_ret, wo_some, opQ_eq, seqQ_normal, seqQ_ret, retQ_ret, pickC_true, Nat.reduceAdd, Nat.reduceMul, Nat.reduceLT, Nat.reduceLeDiff, Nat.reduceEqDiff, ↓reduceIte, planIds, hasExt, cntFs, idxFs, clnFs, ovlFs, List.contains_cons, List.contains_nil, List.any_cons, List.any_nil, Nat.reduceBEq, setC, List.length_set, false_implies, forall_const, reduceCtorEq, eq_self, Nat.zero_add, hal, h0, h1, get_end, cg, eqp_leg0, Tryz.f35]
    exact ⟨GL.nil, fun j y hj => get_old (get_old hj)⟩
  rw [e]
  have hok := ok.get e
  have hsm := hok.cfg.sm
  have hl4 := hok.cfg.l2
  dsimp only
  rw [countsF_eq]
  have hx1 := legAt_push hx [.row 4 [id.enc]]
  obtain ⟨qq, es, hp, -, -, -⟩ := hx1.parts
  have hS1 : ExtS S (S ++ [Ob.row 4 [id.enc]] ++ [Ob.row 4 [id.enc]]) := fun j y hj => get_old (get_old hj)
  simp only [Lid.enc] at h1 cg hp
  simp (maxSteps := 1000000) (disch := omega) only [push_cast, ↓wc_seq, ↓wc_block, ↓wc_condL, ↓wc_region, ↓wr_cons, ↓wr_nil, ↓wo_callf, ↓wc_skip, ↓wc_wl, wo_some, opQ_eq, seqQ_normal, pickC_false, Nat.reduceAdd, Nat.reduceMul, Nat.reduceLT, Nat.reduceLeDiff, Nat.reduceEqDiff, ↓reduceIte, planIds, hasExt, cntFs, idxFs, clnFs, ovlFs, List.contains_cons, List.contains_nil, List.any_cons, List.any_nil, Nat.reduceBEq, setC, List.length_set, reduceCtorEq, eq_self, Nat.zero_add, Nat.add_zero, hal, h0, h1, get_end, cg, eqp_leg, hp, List.length_map]
  change ExtS S (S ++ [Ob.row 4 [id.enc]] ++ [Ob.row 4 [id.enc]]) at hS1
  simp only [Lid.enc] at hS1 hx1
  generalize hU : S ++ [Ob.row 4 [[D.str id.c, D.int .i64 id.n, D.int .i64 id.d, D.str id.f]]] ++ [Ob.row 4 [[D.str id.c, D.int .i64 id.n, D.int .i64 id.d, D.str id.f]]] = U at *
  refine wl_loop (fun c a T => a.length = 54 ∧ a[5]? = some (.loc p 0 0) ∧ a[20]? = some (.sl 4 (x.cfg.cabs.map Cab.enc) x.cfg.cabsx) ∧ a[21]? = some (.int .i64 x.cfg.cabs.length) ∧ a[22]? = some (.int .i64 c) ∧ ExtS U T ∧ ∃ d, a[6]? = some d ∧ GL 2 encC T d ((slC x.cfg.cabs c).map (cntQ x)) ∧ ∀ k n, d = .os k 0 n false → U.length ≤ k) x.cfg.cabs.length ?_ (by omega) ?_
  · simp (maxSteps := 1000000) (disch := omega) only [push_cast, Nat.reduceLT, Nat.reduceEqDiff, ↓reduceIte, setC, List.length_set, eq_self, Option.some.injEq, hal, Int.natCast_zero]
    exact ⟨ExtS.refl, _, rfl, GL.nil, fun k n h => by cases h⟩
  clear hal h0 h1 a
  rintro c a T hc ⟨hal, h5, h20, h21, h22, hx0, d, h6, hg, hd⟩
  rcases Nat.lt_or_eq_of_le hc with hlt | rfl
  case inr =>
    simp (maxSteps := 1000000) (disch := omega) only [push_cast, ↓wc_seq, ↓wc_condL, ↓wc_region, ↓wr_cons, ↓wr_nil, ↓wc_exit, ↓wc_ret, wo_some, opQ_eq, seqQ_normal, seqQ_exit, blockQ_exit, iterQ_exit, retQ_ret, pickC_false, Nat.reduceAdd, Nat.reduceMul, Nat.reduceLT, Nat.reduceEqDiff, ↓reduceIte, planIds, List.contains_cons, List.contains_nil, Nat.reduceBEq, setC, List.length_set, eq_self, Int.ofNat_lt, Nat.zero_add, hal, h6, h21, h22, Nat.lt_irrefl, Tryz.f35]
    exact ⟨hg, hS1.trans hx0, fun k n e => Nat.le_trans hS1.len (hd k n e)⟩
  obtain ⟨y, hy⟩ : ∃ y, x.cfg.cabs[c]? = some y := ⟨x.cfg.cabs[c], by simp [hlt]⟩
  obtain ⟨row, hrow, hrl, hyo⟩ := leg_sizes hok hy
  have hl26 := hyo.l2
  have hcs : c < x.sold.length := lt_of_get hrow
  have hlen := slC_len hsm.cls c
  simp (maxSteps := 1000000) (disch := omega) only [push_cast, ↓wc_seq, ↓wc_block, ↓wc_condL, ↓wc_region, ↓wr_cons, ↓wr_nil, ↓wc_skip, ↓wc_wl, wo_some, opQ_eq, seqQ_normal, pickC_true, Nat.reduceAdd, Nat.reduceMul, Nat.reduceLT, Nat.reduceLeDiff, Nat.reduceEqDiff, ↓reduceIte, planIds, List.contains_cons, List.contains_nil, Nat.reduceBEq, setC, List.length_set, eq_self, Int.natCast_nonneg, Int.toNat_natCast, Int.ofNat_lt, Nat.zero_add, hal, h20, h21, h22, hlt, hy, set_end, get_end, List.length_map, List.getElem?_map, Cab.enc]
  refine wl_loop (fun j a T => a.length = 54 ∧ a[5]? = some (.loc p 0 0) ∧ a[7]? = some (.int .i64 c) ∧ a[20]? = some (.sl 4 (x.cfg.cabs.map Cab.enc) x.cfg.cabsx) ∧ a[21]? = some (.int .i64 x.cfg.cabs.length) ∧ a[22]? = some (.int .i64 c) ∧ a[28]? = some (.sl 2 (y.cls.map Cls.enc) y.clsx) ∧ a[29]? = some (.int .i64 y.cls.length) ∧ a[30]? = some (.int .i64 j) ∧ ExtS U T ∧ ∃ d, a[6]? = some d ∧ GL 2 encC T d ((slC x.cfg.cabs c ++ slJ c y j).map (cntQ x)) ∧ ∀ k n, d = .os k 0 n false → U.length ≤ k) y.cls.length ?_ (by omega) ?_
  · simp (maxSteps := 1000000) (disch := omega) only [push_cast, Nat.reduceLT, Nat.reduceEqDiff, ↓reduceIte, setC, List.length_set, eq_self, Option.some.injEq, hal, h5, h6, h20, h21, h22, Int.natCast_zero, slJ]
    exact ⟨fun j o hj => get_old (hx0 j o hj), _, rfl, hg.push _, hd⟩
  clear h6 hg hd hx0
  clear hal h5 h20 h21 h22 a
  clear d T
  rintro j a T hj ⟨hal, h5, h7, h20, h21, h22, h28, h29, h30, hx0, d, h6, hg, hd⟩
  rcases Nat.lt_or_eq_of_le hj with hlj | rfl
  case inr =>
    rw [← slC_succ hy] at hg
    simp (maxSteps := 1000000) (disch := omega) only [push_cast, ↓wc_seq, ↓wc_condL, ↓wc_region, ↓wr_cons, ↓wr_nil, ↓wc_exit, wo_some, opQ_eq, seqQ_normal, seqQ_exit, blockQ_normal, blockQ_exit, iterQ_normal, iterQ_exit, pickC_false, Nat.reduceAdd, Nat.reduceMul, Nat.reduceLT, Nat.reduceEqDiff, ↓reduceIte, planIds, List.contains_cons, List.contains_nil, Nat.reduceBEq, setC, List.length_set, eq_self, Int.ofNat_lt, Option.some.injEq, Nat.zero_add, hal, h5, h6, h20, h21, h22, h29, h30, Nat.lt_irrefl, hlt, wrap_ok, Int.natCast_add, Int.natCast_one]
    exact ⟨hx0, _, rfl, hg, hd⟩
  obtain ⟨z, hz⟩ : ∃ z, y.cls[j]? = some z := ⟨y.cls[j], by simp [hlj]⟩
  have hlenj := slJ_len c y j
  have hxl := (hx1.keep (KeepO.ext hx0)).keep (KeepO.push (J := [Ob.row 2 [[.str z.code, .int .i64 z.prot]]]))
  obtain ⟨qq, es, hp, hq, -, hr⟩ := hxl.parts
  obtain ⟨r, hr1, -, hr3⟩ := hr c row hrow
  obtain ⟨v, hv⟩ : ∃ v, row[j]? = some v := ⟨row[j], by simp [hrl, hlj]⟩
  have hjr : j < row.length := by omega
  have hcq : cntQ x (c, j, z) = (z.code, v) := by simp [cntQ, soldAt, hrow, hv]
  obtain ⟨T', ha, hg', hlen', hkeep, hrw⟩ := app_cnt (hg.push (Ob.row 2 [[.str z.code, .int .i64 z.prot]])) (by rw [List.length_map, List.length_append]; omega) z.code v
  rw [List.length_map] at ha hg'
  rw [← hcq, ← List.map_singleton (f := cntQ x), ← List.map_append, List.append_assoc, ← slJ_succ hz] at hg'
  simp (maxSteps := 1000000) (disch := omega) only [push_cast, ↓wc_seq, ↓wc_block, ↓wc_condL, ↓wc_region, ↓wr_cons, ↓wr_nil, ↓wc_skip, wo_some, opQ_eq, seqQ_normal, blockQ_normal, iterQ_normal, pickC_true, Nat.reduceAdd, Nat.reduceMul, Nat.reducePow, Nat.reduceLT, Nat.reduceLeDiff, Nat.reduceEqDiff, ↓wo_build, ↓wo_buildSlice, evParts, ↓reduceIte, planIds, List.contains_cons, List.contains_nil, Nat.reduceBEq, setC, List.length_set, eq_self, Int.natCast_nonneg, Int.toNat_natCast, Int.ofNat_lt, Option.some.injEq, Nat.zero_add, Nat.add_zero, hal, h5, h6, h7, h20, h21, h22, h28, h29, h30, hlj, hz, set_end, get_end, hp, hq, hr1, hr3, hcs, hjr, hv, ha, List.getElem?_map, Cls.enc, wrap_ok, Int.natCast_add, Int.natCast_one]
  refine ⟨fun j' o hj' => hkeep j' o (fun n e => ?_) (get_old (hx0 j' o hj')), _, rfl, hg', fun k n e => ?_⟩
  · have := hd _ _ e
    have := lt_of_get hj'
    omega
  · injection e with e1
    have := hx0.len
    rw [← e1, List.length_append]
    omega
theorem Counts_c (hn : 190 ≤ n) (h : StkAt S lab o kL (.loc k 0 0) s k m ps) (ok : StkOk 9999 s) (hid : id.Ok) :
    ∃ d T, (∀ st, callD E (dcall E n) st S 35 [.loc k 0 0, .agg id.enc] = some (d, T)) ∧ GL 2 encC T d (s.counts id) ∧ ExtS S T ∧ ∀ k n, d = .os k 0 n false → S.length ≤ k := by
  obtain ⟨q, rfl⟩ : ∃ q, n = q + 1 := ⟨n - 1, by omega⟩
  obtain ⟨d, T, ho, h1, h2, h3⟩ := Counts_d (n := q) (by omega) h ok hid
  exact ⟨d, T, fun st => callD_extS rfl ho h2, h1, h2, h3⟩
end
end Go.Proofs.YtajhgnefcddenaaGreatDoor.Dm
namespace Go.Proofs.YtajhgnefcddenaaGreatDoor.Dm
open Go Gw
set_option linter.unusedSimpArgs false
set_option linter.unusedSimpArgs false

abbrev encR (p : Nat × Nat) : List D := [.os p.1 0 p.2 false]
theorem el_tab : elemT Tryz.prog 118 = some 128 := by kernel_rfl
theorem sz_tab : sizeT Tryz.prog 128 = some 1 := by kernel_rfl
theorem ze_tab : zeroT Tryz.prog 128 = some .nils := by kernel_rfl
theorem by_tab : bytesT Tryz.prog 128 ≤ 100000 := by
  have : bytesT Tryz.prog 128 = 24 := by kernel_rfl
  rw [this]; omega
/-- A table that grows. -/
structure TabG (S0 : Nat) (T : List Ob) (lab : Lab) (o i : Nat) (d : D) (l : List (Nat × Nat)) (t : List (List Int)) : Prop where
  gl : GL 1 encR T d l
  len : l.length = t.length
  own : ∀ k n, d = .os k 0 n false → S0 ≤ k ∧ lab k = [o, 2, i]
  row : ∀ (j r n : Nat) (row : List Int), l[j]? = some (r, n) → t[j]? = some row → n = row.length ∧ S0 ≤ r ∧ lab r = [o, 3, i, j] ∧ T[r]? = some (.row 1 (row.map encZ))
theorem TabG.nil {S0 : Nat} {T : List Ob} {lab : Lab} {o i : Nat} : TabG S0 T lab o i .nils [] [] := ⟨GL.nil, rfl, fun k n h => (by cases h), fun j r n row h => by simp at h⟩
theorem TabG.push {S0 : Nat} {T : List Ob} {lab : Lab} {o i : Nat} {d : D} {l : List (Nat × Nat)} {t : List (List Int)} (h : TabG S0 T lab o i d l t) (x : Ob) : TabG S0 (T ++ [x]) lab o i d l t :=
  ⟨h.gl.push x, h.len, h.own, fun j r n row h1 h2 => by
    obtain ⟨g1, g2, g3, g4⟩ := h.row j r n row h1 h2
    exact ⟨g1, g2, g3, get_old g4⟩⟩
theorem get_snoc {α : Type} {l : List α} {x y : α} {j : Nat} (h : (l ++ [x])[j]? = some y) : l[j]? = some y ∨ (j = l.length ∧ y = x) := by
  by_cases hj : j < l.length
  · rw [List.getElem?_append_left hj] at h; exact .inl h
  · rw [List.getElem?_append_right (by omega)] at h
    by_cases e : j = l.length
    · subst e
      rw [Nat.sub_self] at h
      exact .inr ⟨rfl, by simpa using h.symm⟩
    · rw [List.getElem?_eq_none (by simp; omega)] at h; cases h
theorem TabG.add {S0 : Nat} {T : List Ob} {lab : Lab} {o i : Nat} {d : D} {l : List (Nat × Nat)} {t : List (List Int)} (h : TabG S0 T lab o i d l t) (hf : FreshL T lab) (hS : S0 ≤ T.length) (hl : l.length ≤ 1000) (row : List Int) :
    ∃ T2 lab2, dAppend Tryz.prog (T ++ [.row 1 (row.map encZ)]) 118 118 d (.sl 1 [[.os T.length 0 row.length false]] true) = some (.os (T.length + 1) 0 (l.length + 1) false, T2) ∧
      TabG S0 T2 lab2 o i (.os (T.length + 1) 0 (l.length + 1) false) (l ++ [(T.length, row.length)]) (t ++ [row]) ∧ FreshL T2 lab2 ∧ T.length ≤ T2.length ∧ (∀ x, x < T.length → lab2 x = lab x) ∧ (∀ (x : Nat) (ob : Ob), x < S0 → T[x]? = some ob → T2[x]? = some ob) ∧ (∀ (x sz : Nat) (es : List (List D)), sz ≠ 1 → T[x]? = some (.row sz es) → T2[x]? = some (.row sz es)) := by
  obtain ⟨T2, ha, hg, hlen, hkeep, hrw⟩ := app_gl (enc := encR) el_tab sz_tab ze_tab rfl by_tab (h.gl.push (.row 1 (row.map encZ))) (by omega) (T.length, row.length)
  have hL : (T ++ [Ob.row 1 (row.map encZ)]).length = T.length + 1 := by simp
  rw [hL] at ha hg hlen
  have hown : ∀ k n, d = .os k 0 n false → k < T.length := fun k n e => by
    rcases h.gl with ⟨e', -⟩ | ⟨k', e', hk⟩
    · rw [e] at e'; cases e'
    · rw [e] at e'; cases e'; exact lt_of_get hk
  refine ⟨T2, setL (setL lab T.length [o, 3, i, l.length]) (T.length + 1) [o, 2, i], ha, ⟨hg, by simp [h.len], fun k n e => ?_, fun j r n row' h1 h2 => ?_⟩, fun x hx => ?_, by omega, fun x hx => ?_, fun x ob hx h1 => ?_, fun x sz es hz h1 => hrw x sz es hz (get_old h1)⟩
  · injection e with e1
    subst e1
    exact ⟨by omega, setL_self⟩
  · rcases get_snoc h1 with h1 | ⟨rfl, e2⟩
    · have hj : j < t.length := by rw [← h.len]; exact lt_of_get h1
      rw [List.getElem?_append_left hj] at h2
      obtain ⟨g1, g2, g3, g4⟩ := h.row j r n row' h1 h2
      have hr := lt_of_get g4
      refine ⟨g1, g2, ?_, hkeep r _ (fun n' e => ?_) (get_old g4)⟩
      · rw [setL_ne (by omega), setL_ne (by omega)]; exact g3
      · have := (h.own r n' e).2
        rw [g3] at this
        simp at this
    · injection e2 with e2 e3
      subst e2 e3
      rw [h.len, List.getElem?_append_right (Nat.le_refl _), Nat.sub_self] at h2
      have : row = row' := by simpa using h2
      subst this
      refine ⟨rfl, hS, ?_, hkeep _ _ (fun n' e => ?_) get_end⟩
      · rw [setL_ne (by omega), setL_self]
      · have := hown _ _ e; omega
  · rw [setL_ne (by omega), setL_ne (by omega)]
    exact hf x (by omega)
  · rw [setL_ne (by omega), setL_ne (by omega)]
  · refine hkeep x ob (fun n e => ?_) (get_old h1)
    have := (h.own x n e).1
    omega
theorem TabG.tab {S0 : Nat} {T : List Ob} {lab : Lab} {o i : Nat} {d : D} {l : List (Nat × Nat)} {t : List (List Int)} (h : TabG S0 T lab o i d l t) (ht : t ≠ []) : TabAt T lab o i d t := by
  rcases h.gl with ⟨-, e⟩ | ⟨k, e, hk⟩
  · have := h.len
    rw [e] at this
    exact absurd (List.eq_nil_of_length_eq_zero this.symm) ht
  · refine ⟨k, fun j => ((l[j]?).map (·.1)).getD 0, l.map encR, by rw [e, h.len], (h.own k _ e).2, hk, by rw [List.length_map, h.len], fun j row hj => ?_⟩
    have hjl : j < l.length := by rw [h.len]; exact lt_of_get hj
    obtain ⟨g1, g2, g3, g4⟩ := h.row j (l[j]).1 (l[j]).2 row (List.getElem?_eq_getElem hjl) hj
    simp only [List.getElem?_map, List.getElem?_eq_getElem hjl, Option.map_some, Option.getD_some]
    exact ⟨by rw [← g1], g3, g4⟩
theorem TabG.ge {S0 : Nat} {T : List Ob} {lab : Lab} {o i : Nat} {d : D} {l : List (Nat × Nat)} {t : List (List Int)} (h : TabG S0 T lab o i d l t) {s0 : Nat} (hs : s0 ≤ S0) : TabG s0 T lab o i d l t :=
  ⟨h.gl, h.len, fun k n e => ⟨Nat.le_trans hs (h.own k n e).1, (h.own k n e).2⟩, fun j r n row h1 h2 => by
    obtain ⟨g1, g2, g3, g4⟩ := h.row j r n row h1 h2
    exact ⟨g1, Nat.le_trans hs g2, g3, g4⟩⟩
/-- Labels from a place on. -/
def cutL (S0 : Nat) (lab : Lab) : Lab := fun z => if S0 ≤ z then lab z else []
theorem cutL_eq {S0 z a : Nat} {t : List Nat} {lab : Lab} (h : cutL S0 lab z = a :: t) : S0 ≤ z ∧ lab z = a :: t := by
  unfold cutL at h
  split at h
  · rename_i h1; exact ⟨h1, h⟩
  · cases h
theorem TabG.cut {S0 : Nat} {T : List Ob} {lab : Lab} {o i : Nat} {d : D} {l : List (Nat × Nat)} {t : List (List Int)} (h : TabG S0 T lab o i d l t) : TabG S0 T (cutL S0 lab) o i d l t :=
  ⟨h.gl, h.len, fun k n e => ⟨(h.own k n e).1, by unfold cutL; rw [if_pos (h.own k n e).1]; exact (h.own k n e).2⟩, fun j r n row h1 h2 => by
    obtain ⟨g1, g2, g3, g4⟩ := h.row j r n row h1 h2
    exact ⟨g1, g2, by unfold cutL; rw [if_pos g2]; exact g3, g4⟩⟩
theorem TabAt.uncut {S0 : Nat} {T : List Ob} {lab : Lab} {o i : Nat} {d : D} {t : List (List Int)} (h : TabAt T (cutL S0 lab) o i d t) : TabAt T lab o i d t := by
  obtain ⟨q, r, es, h1, h2, h3, h4, h5⟩ := h
  refine ⟨q, r, es, h1, (cutL_eq h2).2, h3, h4, fun j row hj => ?_⟩
  obtain ⟨g1, g2, g3⟩ := h5 j row hj
  exact ⟨g1, (cutL_eq g2).2, g3⟩
/-- The table without sales of the first cabins. -/
def emptyT (cabs : List Cab) (c : Nat) : List (List Int) := (cabs.take c).map fun y => List.replicate y.cls.length 0
theorem emptyT_succ {cabs : List Cab} {c : Nat} {y : Cab} (h : cabs[c]? = some y) : emptyT cabs (c + 1) = emptyT cabs c ++ [List.replicate y.cls.length 0] := by
  unfold emptyT
  rw [List.take_add_one, h, List.map_append]
  rfl
theorem emptyT_len {cabs : List Cab} {c : Nat} (h : c ≤ cabs.length) : (emptyT cabs c).length = c := by
  unfold emptyT
  rw [List.length_map, List.length_take]; omega
theorem rep_row (n : Nat) : (List.replicate n (0 : Int)).map encZ = rowH n fun _ => 0 := by
  rw [List.map_replicate]; exact rowH_zero n
theorem mkI' {S : List Ob} {n : Nat} (hn : n ≤ 100000) : dMakeSlice Tryz.prog S 128 n n = some (.os S.length 0 n false, S ++ [.row 1 ((List.replicate n (0 : Int)).map encZ)]) := by
  rw [rep_row]; exact mkI hn
set_option maxHeartbeats 4000000 in
set_option maxRecDepth 100000 in
theorem empty_d {n o i : Nat} {c : Cfg} {S : List Ob} {lab : Lab} (hn : 110 ≤ n) (hc : CfgOk c) (hf : FreshL S lab) :
    WO (dcall E (n + 1) 91 [.agg c.enc] S) fun d T => ∃ l lab2, TabG S.length T lab2 o i d l (emptyF c) ∧ FreshL T lab2 ∧ (∀ x, x < S.length → lab2 x = lab x) ∧ ExtS S T := by
  have hl4 := hc.l2
  refine wo_dcall Tryz.func91 rfl (by decide) rfl 22 rfl (fun a hal ha => ?_)
  have h0 : a[0]? = some (.agg c.enc) := ha 0 (by simp)
  clear ha
  simp only [Cfg.enc] at h0
  simp (maxSteps := 1000000) (disch := omega) only [push_cast, ↓wc_seq, ↓wc_block, ↓wc_region, ↓wr_cons, ↓wr_nil, ↓wc_wl, wo_some, opQ_eq, seqQ_normal, Nat.reduceAdd, Nat.reduceMul, Nat.reduceLT, Nat.reduceEqDiff, ↓reduceIte, planIds, List.contains_cons, List.contains_nil, Nat.reduceBEq, setC, List.length_set, eq_self, Nat.zero_add, hal, h0, get_end, List.length_map]
  refine wl_loop (fun k a T => a.length = 22 ∧ a[7]? = some (.sl 4 (c.cabs.map Cab.enc) c.cabsx) ∧ a[8]? = some (.int .i64 c.cabs.length) ∧ a[9]? = some (.int .i64 k) ∧ ∃ d l lab2, a[3]? = some d ∧ TabG S.length T lab2 o i d l (emptyT c.cabs k) ∧ FreshL T lab2 ∧ (∀ x, x < S.length → lab2 x = lab x) ∧ ExtS S T) c.cabs.length ?_ (by omega) ?_
  · simp (maxSteps := 1000000) (disch := omega) only [push_cast, Nat.reduceLT, Nat.reduceEqDiff, ↓reduceIte, setC, List.length_set, eq_self, Option.some.injEq, hal, Int.natCast_zero]
    exact ⟨_, [], lab, rfl, TabG.nil, hf.push _, fun _ _ => rfl, ExtS.app⟩
  clear hal h0 a
  rintro k a T hk ⟨hal, h7, h8, h9, d, l, lab2, h3, hg, hf2, hlab, hx⟩
  rcases Nat.lt_or_eq_of_le hk with hlt | rfl
  case inr =>
    have he : emptyT c.cabs c.cabs.length = emptyF c := by unfold emptyT emptyF; rw [List.take_length]
    rw [he] at hg
    simp (maxSteps := 1000000) (disch := omega) only [push_cast, ↓wc_seq, ↓wc_condL, ↓wc_region, ↓wr_cons, ↓wr_nil, ↓wc_exit, ↓wc_ret, wo_some, opQ_eq, seqQ_normal, seqQ_exit, blockQ_exit, iterQ_exit, retQ_ret, pickC_false, Nat.reduceAdd, Nat.reduceMul, Nat.reduceLT, Nat.reduceEqDiff, ↓reduceIte, planIds, List.contains_cons, List.contains_nil, Nat.reduceBEq, setC, List.length_set, eq_self, Int.ofNat_lt, Nat.zero_add, hal, h3, h8, h9, Nat.lt_irrefl, Tryz.f91]
    exact ⟨_, _, hg, hf2, hlab, hx⟩
  obtain ⟨y, hy⟩ : ∃ y, c.cabs[k]? = some y := ⟨c.cabs[k], by simp [hlt]⟩
  have hyo := hc.cab y (List.mem_of_getElem? hy)
  have hl26 := hyo.l2
  have hgl := hg.len
  rw [emptyT_len (by omega)] at hgl
  have hSl := hx.len
  obtain ⟨T', lab3, ha, hg', hf3, hlen, hlab3, hkeep, -⟩ := (hg.push (cabR y)).add (hf2.push [cabR y]) (by rw [List.length_append]; omega) (by omega) (List.replicate y.cls.length 0)
  rw [← emptyT_succ hy] at hg'
  have mk := mkI' (S := T ++ [cabR y]) (n := y.cls.length) (by omega)
  rw [List.length_replicate] at ha
  have hL : (T ++ [cabR y]).length = T.length + 1 := by simp
  rw [hL] at ha mk
  rw [hL, List.length_replicate] at hg'
  simp (maxSteps := 1000000) (disch := omega) only [push_cast, ↓wc_seq, ↓wc_block, ↓wc_condL, ↓wc_region, ↓wr_cons, ↓wr_nil, ↓wc_skip, wo_some, opQ_eq, seqQ_normal, blockQ_normal, iterQ_normal, pickC_true, Nat.reduceAdd, Nat.reduceMul, Nat.reducePow, Nat.reduceLT, Nat.reduceLeDiff, Nat.reduceEqDiff, ↓wo_buildSlice, evParts, ↓reduceIte, planIds, List.contains_cons, List.contains_nil, Nat.reduceBEq, setC, List.length_set, eq_self, Int.natCast_nonneg, Int.toNat_natCast, Int.ofNat_lt, Option.some.injEq, Nat.zero_add, hal, h3, h7, h8, h9, hlt, hy, set_end, get_end, mk, ha, List.length_map, List.getElem?_map, Cab.enc, wrap_ok, Int.natCast_add, Int.natCast_one]
  exact ⟨_, _, _, rfl, hg', hf3, fun x hx' => (hlab3 x (by rw [hL]; omega)).trans (hlab x hx'), fun x ob hob => hkeep x ob (lt_of_get hob) (get_old (hx x ob hob))⟩
theorem emptyF_ne {c : Cfg} (hc : CfgOk c) : emptyF c ≠ [] := fun e => by
  have h : (emptyF c).length = 0 := by rw [e]; rfl
  unfold emptyF at h
  rw [List.length_map] at h
  have := hc.l1
  omega
theorem empty_c {n o i : Nat} {c : Cfg} {S : List Ob} {lab : Lab} (hn : 120 ≤ n) (hc : CfgOk c) (hf : FreshL S lab) :
    ∃ d T lab2, (∀ st, callD E (dcall E n) st S 91 [.agg c.enc] = some (d, T)) ∧ TabAt T (cutL S.length lab2) o i d (emptyF c) ∧ (∃ q len, d = .os q 0 len false) ∧ FreshL T lab2 ∧ (∀ x, x < S.length → lab2 x = lab x) ∧ ExtS S T := by
  obtain ⟨q, rfl⟩ : ∃ q, n = q + 1 := ⟨n - 1, by omega⟩
  obtain ⟨d, T, ho, l, lab2, h1, h2, h3, h4⟩ := empty_d (n := q) (o := o) (i := i) (by omega) hc hf
  have hne := emptyF_ne hc
  have ht := h1.cut.tab hne
  obtain ⟨q', r, es, e, -⟩ := id ht
  exact ⟨d, T, lab2, fun st => callD_extS rfl ho h4, ht, ⟨q', _, e⟩, h2, h3, h4⟩
set_option maxHeartbeats 4000000 in
set_option maxRecDepth 100000 in
theorem rempty_d {n o i : Nat} {c : Cfg} {S : List Ob} {lab : Lab} (hn : 110 ≤ n) (hc : CfgOk c) (hf : FreshL S lab) :
    WO (dcall E (n + 1) 107 [.agg c.enc] S) fun d T => ∃ l lab2, TabG S.length T lab2 o i d l (emptyF c) ∧ FreshL T lab2 ∧ (∀ x, x < S.length → lab2 x = lab x) ∧ ExtS S T := by
  have hl4 := hc.l2
  refine wo_dcall Tryz.func107 rfl (by decide) rfl 24 rfl (fun a hal ha => ?_)
  have h0 : a[0]? = some (.agg c.enc) := ha 0 (by simp)
  clear ha
  simp only [Cfg.enc] at h0
  simp (maxSteps := 1000000) (disch := omega) only [push_cast, ↓wc_seq, ↓wc_block, ↓wc_region, ↓wr_cons, ↓wr_nil, ↓wc_wl, wo_some, opQ_eq, seqQ_normal, Nat.reduceAdd, Nat.reduceMul, ↓reduceIte, planIds, List.contains_cons, List.contains_nil, Nat.reduceBEq, eq_self, Nat.zero_add, h0]
  refine wl_loop (fun k a T => a.length = 24 ∧ a[1]? = some (.loc S.length 0 0) ∧ a[4]? = some (.int .i64 k) ∧ T[S.length]? = some (.row 2 [[.str c.equip, .sl 4 (c.cabs.map Cab.enc) c.cabsx]]) ∧ ∃ d l lab2, a[3]? = some d ∧ TabG (S.length + 1) T lab2 o i d l (emptyT c.cabs k) ∧ FreshL T lab2 ∧ (∀ x, x < S.length → lab2 x = lab x) ∧ ExtS S T) c.cabs.length ?_ (by omega) ?_
  · simp (maxSteps := 1000000) (disch := omega) only [push_cast, Nat.reduceLT, Nat.reduceEqDiff, ↓reduceIte, setC, List.length_set, eq_self, Option.some.injEq, hal, Int.natCast_zero]
    exact ⟨get_end, _, [], lab, rfl, TabG.nil, hf.push _, fun _ _ => rfl, ExtS.app⟩
  clear hal h0 a
  rintro k a T hk ⟨hal, h1, h4, hT0, d, l, lab2, h3, hg, hf2, hlab, hx⟩
  rcases Nat.lt_or_eq_of_le hk with hlt | rfl
  case inr =>
    have he : emptyT c.cabs c.cabs.length = emptyF c := by unfold emptyT emptyF; rw [List.take_length]
    rw [he] at hg
    simp (maxSteps := 1000000) (disch := omega) only [push_cast, ↓wc_seq, ↓wc_condL, ↓wc_region, ↓wr_cons, ↓wr_nil, ↓wc_exit, ↓wc_ret, wo_some, opQ_eq, seqQ_normal, seqQ_exit, blockQ_exit, iterQ_exit, retQ_ret, pickC_false, Nat.reduceAdd, Nat.reduceMul, Nat.reduceLT, Nat.reduceEqDiff, ↓reduceIte, planIds, List.contains_cons, List.contains_nil, Nat.reduceBEq, setC, List.length_set, eq_self, Int.ofNat_lt, Nat.zero_add, hal, h1, h3, h4, Nat.lt_irrefl, hT0, List.length_map, Tryz.f107]
    exact ⟨_, _, hg.ge (by omega), hf2, hlab, hx⟩
  obtain ⟨y, hy⟩ : ∃ y, c.cabs[k]? = some y := ⟨c.cabs[k], by simp [hlt]⟩
  have hyo := hc.cab y (List.mem_of_getElem? hy)
  have hl26 := hyo.l2
  have hgl := hg.len
  rw [emptyT_len (by omega)] at hgl
  have hSl := hx.len
  have hlT := lt_of_get hT0
  obtain ⟨T', lab3, ha, hg', hf3, hlen, hlab3, hkeep, -⟩ := hg.add hf2 (by omega) (by omega) (List.replicate y.cls.length 0)
  rw [← emptyT_succ hy] at hg'
  have mk := mkI' (S := T) (n := y.cls.length) (by omega)
  rw [List.length_replicate] at ha hg'
  simp (maxSteps := 1000000) (disch := omega) only [push_cast, ↓wc_seq, ↓wc_block, ↓wc_condL, ↓wc_region, ↓wr_cons, ↓wr_nil, ↓wc_skip, wo_some, opQ_eq, seqQ_normal, blockQ_normal, iterQ_normal, pickC_true, Nat.reduceAdd, Nat.reduceMul, Nat.reducePow, Nat.reduceLT, Nat.reduceLeDiff, Nat.reduceEqDiff, ↓wo_buildSlice, evParts, ↓reduceIte, planIds, List.contains_cons, List.contains_nil, Nat.reduceBEq, setC, List.length_set, eq_self, Int.natCast_nonneg, Int.toNat_natCast, Int.ofNat_lt, Option.some.injEq, Nat.zero_add, hal, h1, h3, h4, hlt, hy, hT0, mk, ha, List.length_map, List.getElem?_map, Cab.enc, wrap_ok, Int.natCast_add, Int.natCast_one]
  exact ⟨hkeep _ _ (by omega) hT0, _, _, _, rfl, hg', hf3, fun x hx' => (hlab3 x (by omega)).trans (hlab x hx'), fun x ob hob => hkeep x ob (by have := lt_of_get hob; omega) (hx x ob hob)⟩
theorem rempty_c {n o i : Nat} {c : Cfg} {S : List Ob} {lab : Lab} (hn : 120 ≤ n) (hc : CfgOk c) (hf : FreshL S lab) :
    ∃ d T lab2, (∀ st, callD E (dcall E n) st S 107 [.agg c.enc] = some (d, T)) ∧ TabAt T (cutL S.length lab2) o i d (emptyF c) ∧ (∃ q len, d = .os q 0 len false) ∧ FreshL T lab2 ∧ (∀ x, x < S.length → lab2 x = lab x) ∧ ExtS S T := by
  obtain ⟨q, rfl⟩ : ∃ q, n = q + 1 := ⟨n - 1, by omega⟩
  obtain ⟨d, T, ho, l, lab2, h1, h2, h3, h4⟩ := rempty_d (n := q) (o := o) (i := i) (by omega) hc hf
  have hne := emptyF_ne hc
  have ht := h1.cut.tab hne
  obtain ⟨q', r, es, e, -⟩ := id ht
  exact ⟨d, T, lab2, fun st => callD_extS rfl ho h4, ht, ⟨q', _, e⟩, h2, h3, h4⟩
end Go.Proofs.YtajhgnefcddenaaGreatDoor.Dm
