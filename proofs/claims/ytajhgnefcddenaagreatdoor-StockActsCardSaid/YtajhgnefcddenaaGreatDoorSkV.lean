/-
  The machine at calls of the inventory: Id, ids, equip, Class, Do.
  The machine at calls of the inventory: Do, New, Played, Right.
-/
import Derived.Test.YtajhgnefcddenaaGreatDoorSkF
import Derived.Test.YtajhgnefcddenaaGreatDoorSkC
import Derived.Test.YtajhgnefcddenaaGreatDoorSkQ
namespace Go.Proofs.YtajhgnefcddenaaGreatDoor.Dm
open Go Gw
set_option linter.unusedSimpArgs false
set_option linter.unusedSimpArgs false

/-! ### Resize keeps what is sold -/
theorem take_sumI {l : List Int} {i : Nat} {v : Int} (h : l[i]? = some v) : (l.take (i + 1)).sum = (l.take i).sum + v := by
  rw [List.take_add_one, h]
  simp
theorem slJ_sum {t : List (List Int)} {c : Nat} {y : Cab} {r : List Int} (hr : t[c]? = some r) (hl : r.length = y.cls.length) : ∀ j, j ≤ y.cls.length → ((slJ c y j).map fun q => soldAt t q.1 q.2.1).sum = (r.take j).sum
  | 0, _ => by simp [slJ]
  | j + 1, hj => by
    have ih := slJ_sum hr hl j (by omega)
    have hz : y.cls[j]? = some (y.cls[j]'(by omega)) := List.getElem?_eq_getElem (by omega)
    have hv : r[j]? = some (r[j]'(by omega)) := List.getElem?_eq_getElem (by omega)
    rw [slJ_succ hz, List.map_append, List.sum_append, ih, take_sumI hv]
    simp [soldAt, hr, hv]
theorem slC_sum {l : List Cfg} {B : Int} {x : Leg} (ok : LegOk l B x) : ∀ c, c ≤ x.cfg.cabs.length → ((slC x.cfg.cabs c).map fun q => soldAt x.sold q.1 q.2.1).sum = ((x.sold.take c).map List.sum).sum
  | 0, _ => by simp [slC]
  | c + 1, hc => by
    have ih := slC_sum ok c (by omega)
    have hy : x.cfg.cabs[c]? = some (x.cfg.cabs[c]'(by omega)) := List.getElem?_eq_getElem (by omega)
    have hcs : c < x.sold.length := by rw [ok.len]; omega
    have hr : x.sold[c]? = some x.sold[c] := List.getElem?_eq_getElem hcs
    have hl := ok.rows c _ _ hy hr
    have e : x.sold.take (c + 1) = x.sold.take c ++ [x.sold[c]] := by rw [List.take_add_one, hr]; rfl
    rw [slC_succ hy, List.map_append, List.sum_append, ih, slJ_sum hr hl _ (Nat.le_refl _), ← hl, List.take_length, e, List.map_append, List.sum_append]
    simp only [List.map_cons, List.map_nil, List.sum_cons, List.sum_nil]
    omega
theorem slots_tot {l : List Cfg} {B : Int} {x : Leg} (ok : LegOk l B x) : ((slotsF x.cfg).map fun q => soldAt x.sold q.1 q.2.1).sum = tot x := by
  unfold slotsF tot
  rw [slC_sum ok _ (Nat.le_refl _), ← ok.len, List.take_length]
theorem soldAt_bd {l : List Cfg} {B : Int} {x : Leg} (ok : LegOk l B x) (hB : 0 ≤ B) (i k : Nat) : 0 ≤ soldAt x.sold i k ∧ soldAt x.sold i k ≤ B := by
  unfold soldAt
  cases hr : x.sold[i]? with
  | none => simp; exact hB
  | some r =>
    obtain ⟨h1, h2⟩ := ok.row hr
    rw [Option.bind_some]
    cases hv : r[k]? with
    | none => simp; exact hB
    | some v =>
      have := sum_at h1 hv
      have := h1 v (List.mem_of_getElem? hv)
      simp; omega
theorem moves_ok {a b : Cfg} (hb : CfgOk b) {old : List (List Int)} (ho : ∀ i k, 0 ≤ soldAt old i k ∧ soldAt old i k ≤ 9999) : ∀ (L : List (Nat × Nat × Cls)) (t : List (List Int)) (M : Int), Tab b M t →
    (∃ M', Tab b M' (L.foldl (moveF a b old) t)) ∧ ((L.foldl (moveF a b old) t).map List.sum).sum = (t.map List.sum).sum + (L.map fun q => soldAt old q.1 q.2.1).sum
  | [], t, M, h => ⟨⟨M, h⟩, by simp⟩
  | q :: L, t, M, h => by
    obtain ⟨h1, h2⟩ := ho q.1 q.2.1
    obtain ⟨r, v, w1, w2, -, -⟩ := to_at (a := a) hb h q.2.2.code
    have ht := h.add (i := (toF a b q.2.2.code).1) (k := (toF a b q.2.2.code).2) h1 h2
    obtain ⟨g1, g2⟩ := moves_ok hb ho L _ _ ht
    refine ⟨g1, ?_⟩
    rw [List.foldl_cons]
    show ((L.foldl (moveF a b old) (addAt t _ _ _)).map List.sum).sum = _
    rw [g2, sums_modify t _ _ _ w1 (List.getElem?_eq_some_iff.1 w2).1, List.map_cons, List.sum_cons]
    omega
theorem resizeF_ok {l : List Cfg} {B : Int} {x : Leg} {b : Cfg} (ok : LegOk l B x) (hB : 0 ≤ B) (hB2 : B ≤ 9999) (hb : CfgOk b) (hf : findF l b.equip = some b) : LegOk l B (resizeF x b) ∧ tot (resizeF x b) = tot x := by
  obtain ⟨⟨M, hT⟩, hs⟩ := moves_ok (a := x.cfg) hb (old := x.sold) (fun i k => by have := soldAt_bd ok hB i k; omega) (slotsF x.cfg) (emptyF b) 0 Tab.empty
  have he : ((emptyF b).map List.sum).sum = 0 := by unfold emptyF; exact sum_emptyF _
  have ht : tot (resizeF x b) = tot x := by
    show (((slotsF x.cfg).foldl (moveF x.cfg b x.sold) (emptyF b)).map List.sum).sum = _
    rw [hs, he, slots_tot ok]; omega
  refine ⟨⟨hb, hf, hT.len, hT.row, fun i r hr v hv => (hT.bd i r hr v hv).1, by rw [ht]; exact ok.tot⟩, ht⟩
theorem resize_keeps {B : Int} {s : Stk} (h : StkOk B s) (hB : 0 ≤ B) (hB2 : B ≤ 9999) (id : Lid) (e : ByteArray) : StkOk B (s.resize id e).2 := by
  unfold Stk.resize
  split
  · rename_i x b hx hb
    have hm := findF_mem hb
    exact upd_ok h (Int.le_refl _) id _ fun y hy => (resizeF_ok (h.get hy) hB hB2 (h.cfgs.cfg b hm.1) (findF_self hb)).1
  · exact h
/-! ### Identifiers, classes, equipments -/
def baS : ByteArray := ByteArray.mk #[66, 65]
def afS : ByteArray := ByteArray.mk #[65, 70]
def lhrS : ByteArray := ByteArray.mk #[76, 72, 82]
def cdgS : ByteArray := ByteArray.mk #[67, 68, 71]
def jfkS : ByteArray := ByteArray.mk #[74, 70, 75]
def idF (k : Nat) : Lid := match k % 6 with
  | 0 => ⟨baS, 2, 9, lhrS⟩
  | 1 => ⟨baS, 2, 9, cdgS⟩
  | 2 => ⟨afS, 7, 9, cdgS⟩
  | 3 => ⟨baS, 2, 8, lhrS⟩
  | 4 => ⟨baS, 11, 8, lhrS⟩
  | _ => ⟨baS, 1, 9, jfkS⟩
def clsN (k : Nat) : ByteArray := match k % 7 with
  | 0 => ByteArray.mk #[89]
  | 1 => ByteArray.mk #[77]
  | 2 => ByteArray.mk #[81]
  | 3 => ByteArray.mk #[70]
  | 4 => ByteArray.mk #[89]
  | 5 => ByteArray.mk #[77]
  | _ => ByteArray.mk #[88]
theorem idF_ok (k : Nat) : (idF k).Ok := by
  unfold idF
  split <;> exact ⟨by decide, by decide, by decide, by decide, trivial⟩
def isD (o : Option (D × List Ob)) (d : D) : Bool := match o with
  | some (x, _) => beqD x d
  | none => false
theorem isD_spec {o : Option (D × List Ob)} {d : D} (h : isD o d = true) : ∃ T, o = some (d, T) := by
  unfold isD at h
  split at h
  · rename_i x T
    rw [beqD_eq _ _ h]
    exact ⟨T, rfl⟩
  · cases h
theorem id_all : (List.range 256).all (fun n => isD (dcall E 40 29 [.int .u8 n] []) (.agg (idF n).enc)) = true := by kernel_rfl
theorem cls_all : (List.range 256).all (fun n => isD (dcall E 40 32 [.int .u8 n] []) (.str (clsN n))) = true := by kernel_rfl
theorem Id_c {n k : Nat} (hn : 40 ≤ n) (hk : k ≤ 255) (st : Bool) (S : List Ob) : callD E (dcall E n) st S 29 [.int .u8 k] = some (.agg (idF k).enc, S) := by
  obtain ⟨T, e⟩ := isD_spec (List.all_eq_true.1 id_all k (List.mem_range.2 (by omega)))
  exact callD_up hn (callD_pure rfl rfl e (freeze_pure (Lid_pure _)))
theorem Class_c {n k : Nat} (hn : 40 ≤ n) (hk : k ≤ 255) (st : Bool) (S : List Ob) : callD E (dcall E n) st S 32 [.int .u8 k] = some (.str (clsN k), S) := by
  obtain ⟨T, e⟩ := isD_spec (List.all_eq_true.1 cls_all k (List.mem_range.2 (by omega)))
  exact callD_up hn (callD_pure rfl rfl e rfl)
theorem u8_all : (List.range 256).all (fun n => decide (IntKind.u8.wrap (n : Int) = n)) = true := by kernel_rfl
theorem wrap_u8 {k : Nat} (hk : k ≤ 255) : IntKind.u8.wrap (k : Int) = k := of_decide_eq_true (List.all_eq_true.1 u8_all k (List.mem_range.2 (by omega)))
theorem tmod_nat (a b : Nat) : (a : Int).tmod b = ((a % b : Nat) : Int) := by
  rw [Int.tmod_eq_emod_of_nonneg (by omega)]; omega
/-- A call. -/
structure Cal where
  kind : Nat
  leg : Nat
  more : Nat
  eq : Nat
  cl : Nat
  n : Int
structure Cal.Ok (a : Cal) : Prop where
  kind : a.kind ≤ 255
  leg : a.leg ≤ 255
  more : a.more ≤ 255
  eq : a.eq ≤ 255
  cl : a.cl ≤ 255
  n1 : -128 ≤ a.n
  n2 : a.n ≤ 127
def Cal.enc (a : Cal) : List D := [.int .u8 a.kind, .int .u8 a.leg, .int .u8 a.more, .int .u8 a.eq, .int .u8 a.cl, .int .i8 a.n]
def idsF (a : Cal) : List Lid := if a.more % 4 = 0 then [idF a.leg, idF (a.more / 4)] else if a.more = 255 then [] else [idF a.leg]
theorem idsF_ok (a : Cal) : ∀ id ∈ idsF a, id.Ok := by
  intro id h
  unfold idsF at h
  split at h
  · rcases List.mem_cons.1 h with rfl | h
    · exact idF_ok _
    · have : id = idF (a.more / 4) := by simpa using h
      rw [this]
      exact idF_ok _
  · split at h
    · cases h
    · have : id = idF a.leg := by simpa using h
      rw [this]
      exact idF_ok _
theorem idsF_len (a : Cal) : (idsF a).length ≤ 2 := by
  unfold idsF
  split
  · exact Nat.le_refl _
  · split <;> simp
set_option maxHeartbeats 4000000 in
set_option maxRecDepth 100000 in
theorem ids_c {n : Nat} {a : Cal} (hn : 50 ≤ n) (ha : a.Ok) : ∃ d, FLs 4 Lid.enc d (idsF a) ∧ ∀ st S, callD E (dcall E n) st S 71 [.agg a.enc] = some (d, S) := by
  obtain ⟨m, rfl⟩ : ∃ m, n = m + 1 := ⟨n - 1, by omega⟩
  obtain ⟨k, l, mo, eq, cl, w⟩ := a
  have hmo := ha.more
  have hle := ha.leg
  dsimp only at hmo hle
  have ci := Id_c (n := m) (k := l) (by omega) hle
  have cj := Id_c (n := m) (k := mo / 4) (by omega) (by omega)
  have t4 : (mo : Int).tmod 4 = (mo : Int) % 4 := Int.tmod_eq_emod_of_nonneg (by omega)
  have d4 : (mo : Int).tdiv 4 = (mo : Int) / 4 := Int.tdiv_eq_ediv_of_nonneg (by omega)
  have w8 := wrap_u8 (k := mo / 4) (by omega)
  have hcast : ((mo / 4 : Nat) : Int) = (mo : Int) / 4 := by omega
  rw [hcast] at w8 cj
  have q255 : Int.tmod 255 4 = 3 := rfl
  simp only [Lid.enc] at ci cj
  have key : ∃ d, FLs 4 Lid.enc d (idsF ⟨k, l, mo, eq, cl, w⟩) ∧ d.pure = true ∧ WO (dcall E (m + 1) 71 [.agg (Cal.enc ⟨k, l, mo, eq, cl, w⟩)] []) fun r T => r = d := by
    unfold idsF
    dsimp only
    by_cases e : mo % 4 = 0
    · rw [if_pos e]
      refine ⟨.sl 4 ([idF l, idF (mo / 4)].map Lid.enc) true, .inr ⟨true, rfl⟩, rfl, ?_⟩
      have e' : (mo : Int) % 4 = 0 := by omega
      refine wo_dcall Tryz.func71 rfl (by decide) rfl 22 rfl (fun a hal ha => ?_)
      have h0 : a[0]? = some (.agg (Cal.enc ⟨k, l, mo, eq, cl, w⟩)) := ha 0 (by simp)
      clear ha
      simp only [Cal.enc] at h0
      simp (maxSteps := 1000000) (disch := omega) only [push_cast, ↓wc_seq, ↓wc_condL, ↓wc_region, ↓wr_cons, ↓wr_nil, ↓wo_callf, ↓wc_ret, wo_some, opQ_eq, seqQ_normal, seqQ_ret, retQ_ret, pickC_true, int_beq, Nat.reduceAdd, Nat.reduceMul, Nat.reducePow, Nat.reduceLT, Nat.reduceLeDiff, Nat.reduceEqDiff, Int.reduceEq, ↓wo_buildSlice, evParts, ↓reduceIte, planIds, hasExt, cntFs, idxFs, clnFs, ovlFs, List.contains_cons, List.contains_nil, List.any_cons, List.any_nil, Nat.reduceBEq, setC, List.length_set, eq_self, Nat.zero_add, hal, h0, t4, d4, w8, e', ci, cj, Lid.enc, Tryz.f71]
    · rw [if_neg e]
      have e' : ¬ (mo : Int) % 4 = 0 := by omega
      by_cases e2 : mo = 255
      · rw [if_pos e2]
        refine ⟨.nils, .inl ⟨rfl, rfl⟩, rfl, ?_⟩
        have e2' : (mo : Int) = 255 := by omega
        refine wo_dcall Tryz.func71 rfl (by decide) rfl 22 rfl (fun a hal ha => ?_)
        have h0 : a[0]? = some (.agg (Cal.enc ⟨k, l, mo, eq, cl, w⟩)) := ha 0 (by simp)
        clear ha
        simp only [Cal.enc] at h0
        simp (maxSteps := 1000000) (disch := omega) only [push_cast, ↓wc_seq, ↓wc_condL, ↓wc_region, ↓wr_cons, ↓wr_nil, ↓wc_ret, ↓wc_skip, wo_some, opQ_eq, seqQ_normal, seqQ_ret, retQ_ret, pickC_true, pickC_false, int_beq, Nat.reduceAdd, Nat.reduceMul, Nat.reduceLT, Nat.reduceEqDiff, Int.reduceEq, ↓reduceIte, planIds, List.contains_cons, List.contains_nil, Nat.reduceBEq, setC, List.length_set, eq_self, Nat.zero_add, hal, h0, e2', q255, Tryz.f71]
      · rw [if_neg e2]
        refine ⟨.sl 4 ([idF l].map Lid.enc) true, .inr ⟨true, rfl⟩, rfl, ?_⟩
        have e2' : ¬ (mo : Int) = 255 := by omega
        refine wo_dcall Tryz.func71 rfl (by decide) rfl 22 rfl (fun a hal ha => ?_)
        have h0 : a[0]? = some (.agg (Cal.enc ⟨k, l, mo, eq, cl, w⟩)) := ha 0 (by simp)
        clear ha
        simp only [Cal.enc] at h0
        simp (maxSteps := 1000000) (disch := omega) only [push_cast, ↓wc_seq, ↓wc_condL, ↓wc_region, ↓wr_cons, ↓wr_nil, ↓wo_callf, ↓wc_ret, ↓wc_skip, wo_some, opQ_eq, seqQ_normal, retQ_ret, pickC_false, int_beq, Nat.reduceAdd, Nat.reduceMul, Nat.reducePow, Nat.reduceLT, Nat.reduceLeDiff, Nat.reduceEqDiff, Int.reduceEq, ↓wo_buildSlice, evParts, ↓reduceIte, planIds, hasExt, cntFs, idxFs, clnFs, ovlFs, List.contains_cons, List.contains_nil, List.any_cons, List.any_nil, Nat.reduceBEq, setC, List.length_set, eq_self, Nat.zero_add, hal, h0, t4, e', e2', ci, Lid.enc, Tryz.f71]
  obtain ⟨d, h1, h2, r, T, ho, rfl⟩ := key
  exact ⟨r, h1, fun st S => callD_pure rfl rfl ho (freeze_pure h2)⟩
def xxxS : ByteArray := ByteArray.mk #[88, 88, 88]
def equipF (l : List Cfg) (k : Nat) : ByteArray := if 200 ≤ k ∨ l.length = 0 then xxxS else ((l[k % l.length]?).map (·.equip)).getD xxxS
theorem equip_c {n k : Nat} {l : List Cfg} {lx : Bool} (hn : 10 ≤ n) (hk : k ≤ 255) (st : Bool) (S : List Ob) : callD E (dcall E n) st S 70 [.sl 2 (l.map Cfg.enc) lx, .int .u8 k] = some (.str (equipF l k), S) := by
  obtain ⟨m, rfl⟩ : ∃ m, n = m + 1 := ⟨n - 1, by omega⟩
  have : WO (dcall E (m + 1) 70 [.sl 2 (l.map Cfg.enc) lx, .int .u8 k] []) fun d T => d = .str (equipF l k) := by
    refine wo_dcall Tryz.func70 rfl (by decide) rfl 22 rfl (fun a hal ha => ?_)
    have h0 : a[0]? = some (.sl 2 (l.map Cfg.enc) lx) := ha 0 (by simp)
    have h1 : a[1]? = some (.int .u8 k) := ha 1 (by simp)
    clear ha
    unfold equipF
    by_cases b1 : 200 ≤ k
    · rw [if_pos (.inl b1)]
      have b1' : (200 : Int) ≤ k := by omega
      simp (maxSteps := 1000000) (disch := omega) only [push_cast, ↓wc_seq, ↓wc_condL, ↓wc_region, ↓wr_cons, ↓wr_consgL, ↓wr_nil, ↓wo_pickL, ↓wc_ret, wo_some, opQ_eq, seqQ_normal, seqQ_ret, retQ_ret, pickC_true, pickO_true, gstep_tf, Nat.reduceAdd, Nat.reduceMul, Nat.reduceLT, Nat.reduceEqDiff, ↓reduceIte, planIds, List.contains_cons, List.contains_nil, Nat.reduceBEq, setC, List.length_set, eq_self, Nat.zero_add, hal, h1, b1', wrap_ok, xxxS, Tryz.f70]
    have b1' : ¬ (200 : Int) ≤ k := by omega
    by_cases b2 : l.length = 0
    · rw [if_pos (.inr b2)]
      have b2' : (l.length : Int) = 0 := by omega
      simp (maxSteps := 1000000) (disch := omega) only [push_cast, ↓wc_seq, ↓wc_condL, ↓wc_region, ↓wr_cons, ↓wr_consgL, ↓wr_nil, ↓wo_pickL, ↓wc_ret, wo_some, opQ_eq, seqQ_normal, seqQ_ret, retQ_ret, pickC_true, pickO_false, gstep_ff, int_beq, Nat.reduceAdd, Nat.reduceMul, Nat.reduceLT, Nat.reduceEqDiff, ↓reduceIte, planIds, List.contains_cons, List.contains_nil, Nat.reduceBEq, setC, List.length_set, reduceCtorEq, eq_self, Nat.zero_add, hal, h0, h1, b1', b2', wrap_ok, xxxS, List.length_map, Tryz.f70]
    rw [if_neg (by omega)]
    have b2' : ¬ (l.length : Int) = 0 := by omega
    have ht := tmod_nat k l.length
    have hlt : k % l.length < l.length := Nat.mod_lt _ (by omega)
    generalize k % l.length = r at *
    obtain ⟨c, hc⟩ : ∃ c, l[r]? = some c := ⟨l[r], by simp [hlt]⟩
    simp (maxSteps := 1000000) (disch := omega) only [push_cast, ↓wc_seq, ↓wc_condL, ↓wc_region, ↓wr_cons, ↓wr_consgL, ↓wr_nil, ↓wo_pickL, ↓wc_ret, ↓wc_skip, wo_some, opQ_eq, seqQ_normal, retQ_ret, pickC_false, pickO_false, gstep_ff, int_beq, Nat.reduceAdd, Nat.reduceMul, Nat.reduceLT, Nat.reduceEqDiff, ↓reduceIte, planIds, List.contains_cons, List.contains_nil, Nat.reduceBEq, setC, List.length_set, reduceCtorEq, eq_self, Int.natCast_nonneg, Int.toNat_natCast, Nat.zero_add, Nat.add_zero, hal, h0, h1, b1', b2', ht, hc, wrap_ok, List.length_map, List.getElem?_map, Cfg.enc, Tryz.f70]
  obtain ⟨d, T, ho, rfl⟩ := this
  exact callD_pure rfl (by simp [pureL_cons, pureL_nil, D.pure, Cfgs_pure]) ho rfl
set_option linter.unusedSimpArgs false

def doF (s : Stk) (a : Cal) : Int × Stk := match a.kind % 7 with
  | 0 => s.open (idF a.leg) (equipF s.l a.eq)
  | 1 => s.close (idF a.leg)
  | 5 => s.cancel (idsF a) (clsN a.cl) a.n
  | 6 => s.resize (idF a.leg) (equipF s.l a.eq)
  | _ => s.sell (idsF a) (clsN a.cl) a.n
theorem doF_ok {B : Int} {s : Stk} (h : StkOk B s) (hB : 0 ≤ B) (hB2 : B ≤ 9999) {a : Cal} (ha : a.Ok) : StkOk (B + 127) (doF s a).2 := by
  unfold doF
  split
  · exact (open_ok h hB _ _).mono (by omega)
  · exact (close_ok h _).mono (by omega)
  · exact (cancel_keeps h _ _ _).mono (by omega)
  · exact (resize_keeps h hB hB2 _ _).mono (by omega)
  · exact sell_keeps h _ _ _ ha.n2 (by omega)
theorem sell_l (s : Stk) (ids : List Lid) (cl : ByteArray) (w : Int) : (s.sell ids cl w).2.l = s.l ∧ (s.sell ids cl w).2.x = s.x := by
  unfold Stk.sell
  split
  · exact ⟨rfl, rfl⟩
  · split <;> exact ⟨rfl, rfl⟩
theorem cancel_l (s : Stk) (ids : List Lid) (cl : ByteArray) (w : Int) : (s.cancel ids cl w).2.l = s.l ∧ (s.cancel ids cl w).2.x = s.x := by
  unfold Stk.cancel
  split
  · exact ⟨rfl, rfl⟩
  · split <;> exact ⟨rfl, rfl⟩
theorem open_l (s : Stk) (id : Lid) (e : ByteArray) : (s.open id e).2.l = s.l ∧ (s.open id e).2.x = s.x := by
  unfold Stk.open
  split
  · exact ⟨rfl, rfl⟩
  · split <;> exact ⟨rfl, rfl⟩
theorem close_l (s : Stk) (id : Lid) : (s.close id).2.l = s.l ∧ (s.close id).2.x = s.x := by
  unfold Stk.close
  split
  · exact ⟨rfl, rfl⟩
  · split <;> exact ⟨rfl, rfl⟩
theorem resize_l (s : Stk) (id : Lid) (e : ByteArray) : (s.resize id e).2.l = s.l ∧ (s.resize id e).2.x = s.x := by
  unfold Stk.resize
  split <;> exact ⟨rfl, rfl⟩
theorem doF_l (s : Stk) (a : Cal) : (doF s a).2.l = s.l ∧ (doF s a).2.x = s.x := by
  unfold doF
  split
  · exact open_l _ _ _
  · exact close_l _ _
  · exact cancel_l _ _ _ _
  · exact resize_l _ _ _
  · exact sell_l _ _ _ _
theorem callD_gen {call : Call} {st : Bool} {S : List Ob} {f : FuncId} {args : List D} (hm : E.mode f = .gen) : callD E call st S f args = call f args S := by
  unfold callD
  rw [hm]
section
variable {S : List Ob} {lab : Lab} {o k n : Nat} {s : Stk}
theorem SOpen_c {id : Lid} (hn : 190 ≤ n) (h : SAt S lab o k s) (hs : s.l.length ≤ 100) (hc : CfgsOk s.l) (hid : id.Ok) (e : ByteArray) : ∃ T lab', (∀ st, callD E (dcall E n) st S 38 [.loc k 0 0, .agg id.enc, .str e] = some (.int .i64 (s.open id e).1, T)) ∧ SAt T lab' o k (s.open id e).2 ∧ Step o S lab T lab' := by
  obtain ⟨q, rfl⟩ : ∃ q, n = q + 1 := ⟨n - 1, by omega⟩
  obtain ⟨_, T, ho, rfl, lab', h1, h2⟩ := SOpen_d (n := q) (by omega) h hs hc hid e
  exact ⟨T, lab', fun st => (callD_gen rfl).trans ho, h1, h2⟩
theorem SClose_c {id : Lid} (hn : 190 ≤ n) (h : SAt S lab o k s) (hnd : (s.legs.map (·.1)).Nodup) (hid : id.Ok) : ∃ T lab', (∀ st, callD E (dcall E n) st S 68 [.loc k 0 0, .agg id.enc] = some (.int .i64 (s.close id).1, T)) ∧ SAt T lab' o k (s.close id).2 ∧ Step o S lab T lab' := by
  obtain ⟨q, rfl⟩ : ∃ q, n = q + 1 := ⟨n - 1, by omega⟩
  obtain ⟨_, T, ho, rfl, lab', h1, h2⟩ := SClose_d (n := q) (by omega) h hnd hid
  exact ⟨T, lab', fun st => (callD_gen rfl).trans ho, h1, h2⟩
theorem Sell_c {ids : List Lid} (hn : 210 ≤ n) (h : SAt S lab o k s) (ok : StkOk 9999 s) (hl : ids.length ≤ 20) (hids : ∀ id ∈ ids, id.Ok) {di : D} (hdi : FLs 4 Lid.enc di ids) (cl : ByteArray) (w : Int) : ∃ T lab', (∀ st, callD E (dcall E n) st S 31 [.loc k 0 0, di, .str cl, .int .i64 w] = some (.int .i64 (s.sell ids cl w).1, T)) ∧ SAt T lab' o k (s.sell ids cl w).2 ∧ Step o S lab T lab' := by
  obtain ⟨q, rfl⟩ : ∃ q, n = q + 1 := ⟨n - 1, by omega⟩
  obtain ⟨_, T, ho, rfl, lab', h1, h2⟩ := Sell_d (n := q) (by omega) h ok hl hids hdi cl w
  exact ⟨T, lab', fun st => (callD_gen rfl).trans ho, h1, h2⟩
theorem Cancel_c {ids : List Lid} (hn : 210 ≤ n) (h : SAt S lab o k s) (ok : StkOk 9999 s) (hl : ids.length ≤ 20) (hids : ∀ id ∈ ids, id.Ok) {di : D} (hdi : FLs 4 Lid.enc di ids) (cl : ByteArray) (w : Int) : ∃ T lab', (∀ st, callD E (dcall E n) st S 53 [.loc k 0 0, di, .str cl, .int .i64 w] = some (.int .i64 (s.cancel ids cl w).1, T)) ∧ SAt T lab' o k (s.cancel ids cl w).2 ∧ Step o S lab T lab' := by
  obtain ⟨q, rfl⟩ : ∃ q, n = q + 1 := ⟨n - 1, by omega⟩
  obtain ⟨_, T, ho, rfl, lab', h1, h2⟩ := Cancel_d (n := q) (by omega) h ok hl hids hdi cl w
  exact ⟨T, lab', fun st => (callD_gen rfl).trans ho, h1, h2⟩
theorem SResize_c {id : Lid} (hn : 210 ≤ n) (h : SAt S lab o k s) (ok : StkOk 9999 s) (hs : s.l.length ≤ 100) (hid : id.Ok) (e : ByteArray) : ∃ T lab', (∀ st, callD E (dcall E n) st S 66 [.loc k 0 0, .agg id.enc, .str e] = some (.int .i64 (s.resize id e).1, T)) ∧ SAt T lab' o k (s.resize id e).2 ∧ Step o S lab T lab' := by
  obtain ⟨q, rfl⟩ : ∃ q, n = q + 1 := ⟨n - 1, by omega⟩
  obtain ⟨_, T, ho, rfl, lab', h1, h2⟩ := SResize_d (n := q) (by omega) h ok hs hid e
  exact ⟨T, lab', fun st => (callD_gen rfl).trans ho, h1, h2⟩
set_option maxHeartbeats 8000000 in
set_option maxRecDepth 100000 in
theorem Do_d {a : Cal} {lx : Bool} (hn : 220 ≤ n) (h : SAt S lab o k s) (ok : StkOk 9999 s) (hs : s.l.length ≤ 100) (ha : a.Ok) :
    WO (dcall E (n + 1) 25 [.loc k 0 0, .sl 2 (s.l.map Cfg.enc) lx, .agg a.enc] S) fun r T => r = .int .i64 (doF s a).1 ∧ ∃ lab', SAt T lab' o k (doF s a).2 ∧ Step o S lab T lab' := by
  have hf := h.1
  have hx := h.push [.row 6 [a.enc]]
  have hst : Step o S lab (S ++ [.row 6 [a.enc]]) lab := Step.push hf _
  obtain ⟨kd, l, mo, eq, cl, w⟩ := a
  obtain ⟨ha1, ha2, ha3, ha4, ha5, ha6, ha7⟩ := id ha
  dsimp only at ha1 ha2 ha3 ha4 ha5 ha6 ha7
  have ci := Id_c (n := n) (k := l) (by omega) ha2
  have ce := equip_c (n := n) (k := eq) (l := s.l) (lx := lx) (by omega) ha4
  have ck := Class_c (n := n) (k := cl) (by omega) ha5
  obtain ⟨di, hdi, cd⟩ := ids_c (n := n) (by omega) ha
  have t7 : (kd : Int).tmod 7 = ((kd % 7 : Nat) : Int) := tmod_nat kd 7

  have hlen := idsF_len ⟨kd, l, mo, eq, cl, w⟩
  have hids := idsF_ok ⟨kd, l, mo, eq, cl, w⟩
  obtain ⟨r, hr⟩ : ∃ r, kd % 7 = r := ⟨_, rfl⟩
  have hr7 : r < 7 := by rw [← hr]; exact Nat.mod_lt _ (by decide)
  unfold doF
  dsimp only
  rw [hr] at t7 ⊢
  refine wo_dcall Tryz.func25 rfl (by decide) rfl 61 rfl (fun a hal ha => ?_)
  have h0 : a[0]? = some (.loc k 0 0) := ha 0 (by simp)
  have h1 : a[1]? = some (.sl 2 (s.l.map Cfg.enc) lx) := ha 1 (by simp)
  have h2 : a[2]? = some (.agg (Cal.enc ⟨kd, l, mo, eq, cl, w⟩)) := ha 2 (by simp)
  clear ha
  simp only [Cal.enc] at h2 cd hx hst
  rcases (by omega : r = 0 ∨ r = 1 ∨ r = 5 ∨ r = 6 ∨ (r = 2 ∨ r = 3 ∨ r = 4)) with rfl | rfl | rfl | rfl | hr
  · obtain ⟨T, lab', c1, c2, c3⟩ := SOpen_c (n := n) (by omega) hx hs ok.cfgs (idF_ok l) (equipF s.l eq)
    simp (maxSteps := 1000000) (disch := omega) only [push_cast, ↓wc_seq, ↓wc_block, ↓wc_condL, ↓wc_region, ↓wr_cons, ↓wr_nil, ↓wo_callf, ↓wc_ret, wo_some, opQ_eq, seqQ_normal, seqQ_ret, blockQ_ret, retQ_ret, pickC_true, int_beq, Nat.reduceAdd, Nat.reduceMul, Nat.reduceLT, Nat.reduceEqDiff, Int.reduceEq, ↓reduceIte, planIds, hasExt, cntFs, idxFs, clnFs, ovlFs, List.contains_cons, List.contains_nil, List.any_cons, List.any_nil, Nat.reduceBEq, setC, List.length_set, reduceCtorEq, eq_self, Nat.zero_add, Nat.add_zero, hal, h0, h1, h2, get_end, t7, ci, ce, c1, Int.natCast_zero, Tryz.f25]
    exact ⟨lab', c2, hst.trans c3⟩
  · obtain ⟨T, lab', c1, c2, c3⟩ := SClose_c (n := n) (by omega) hx ok.ids (idF_ok l)
    simp (maxSteps := 1000000) (disch := omega) only [push_cast, ↓wc_seq, ↓wc_block, ↓wc_condL, ↓wc_region, ↓wr_cons, ↓wr_nil, ↓wo_callf, ↓wc_ret, wo_some, opQ_eq, seqQ_normal, seqQ_ret, blockQ_ret, retQ_ret, pickC_true, pickC_false, int_beq, Nat.reduceAdd, Nat.reduceMul, Nat.reduceLT, Nat.reduceEqDiff, Int.reduceEq, ↓reduceIte, planIds, hasExt, cntFs, idxFs, clnFs, ovlFs, List.contains_cons, List.contains_nil, List.any_cons, List.any_nil, Nat.reduceBEq, setC, List.length_set, reduceCtorEq, eq_self, Nat.zero_add, Nat.add_zero, hal, h0, h2, get_end, t7, ci, c1, Int.natCast_one, Tryz.f25]
    exact ⟨lab', c2, hst.trans c3⟩
  · obtain ⟨T, lab', c1, c2, c3⟩ := Cancel_c (n := n) (by omega) hx ok (by omega) hids hdi (clsN cl) w
    simp (maxSteps := 1000000) (disch := omega) only [push_cast, ↓wc_seq, ↓wc_block, ↓wc_condL, ↓wc_region, ↓wr_cons, ↓wr_nil, ↓wo_callf, ↓wc_ret, wo_some, opQ_eq, seqQ_normal, seqQ_ret, blockQ_ret, retQ_ret, pickC_true, pickC_false, int_beq, Nat.reduceAdd, Nat.reduceMul, Nat.reduceLT, Nat.reduceLeDiff, Nat.reduceEqDiff, Int.reduceEq, ↓reduceIte, planIds, hasExt, cntFs, idxFs, clnFs, ovlFs, List.contains_cons, List.contains_nil, List.any_cons, List.any_nil, Nat.reduceBEq, setC, List.length_set, reduceCtorEq, eq_self, Nat.zero_add, Nat.add_zero, hal, h0, h2, get_end, t7, cd, ck, c1, wrap_ok, Int.cast_ofNat_Int, Tryz.f25]
    exact ⟨lab', c2, hst.trans c3⟩
  · obtain ⟨T, lab', c1, c2, c3⟩ := SResize_c (n := n) (by omega) hx ok hs (idF_ok l) (equipF s.l eq)
    simp (maxSteps := 1000000) (disch := omega) only [push_cast, ↓wc_seq, ↓wc_block, ↓wc_condL, ↓wc_region, ↓wr_cons, ↓wr_nil, ↓wo_callf, ↓wc_ret, wo_some, opQ_eq, seqQ_normal, seqQ_ret, blockQ_ret, retQ_ret, pickC_true, pickC_false, int_beq, Nat.reduceAdd, Nat.reduceMul, Nat.reduceLT, Nat.reduceEqDiff, Int.reduceEq, ↓reduceIte, planIds, hasExt, cntFs, idxFs, clnFs, ovlFs, List.contains_cons, List.contains_nil, List.any_cons, List.any_nil, Nat.reduceBEq, setC, List.length_set, reduceCtorEq, eq_self, Nat.zero_add, Nat.add_zero, hal, h0, h1, h2, get_end, t7, ci, ce, c1, Int.cast_ofNat_Int, Tryz.f25]
    exact ⟨lab', c2, hst.trans c3⟩
  · obtain ⟨T, lab', c1, c2, c3⟩ := Sell_c (n := n) (by omega) hx ok (by omega) hids hdi (clsN cl) w
    rcases hr with rfl | rfl | rfl
    · simp (maxSteps := 1000000) (disch := omega) only [push_cast, ↓wc_seq, ↓wc_block, ↓wc_condL, ↓wc_region, ↓wr_cons, ↓wr_nil, ↓wo_callf, ↓wc_ret, ↓wc_skip, wo_some, opQ_eq, seqQ_normal, blockQ_normal, retQ_ret, pickC_false, int_beq, Nat.reduceAdd, Nat.reduceMul, Nat.reduceLT, Nat.reduceLeDiff, Nat.reduceEqDiff, Int.reduceEq, ↓reduceIte, planIds, hasExt, cntFs, idxFs, clnFs, ovlFs, List.contains_cons, List.contains_nil, List.any_cons, List.any_nil, Nat.reduceBEq, setC, List.length_set, reduceCtorEq, eq_self, Nat.zero_add, Nat.add_zero, hal, h0, h2, get_end, t7, cd, ck, c1, wrap_ok, Int.cast_ofNat_Int, Tryz.f25]
      exact ⟨lab', c2, hst.trans c3⟩
    · simp (maxSteps := 1000000) (disch := omega) only [push_cast, ↓wc_seq, ↓wc_block, ↓wc_condL, ↓wc_region, ↓wr_cons, ↓wr_nil, ↓wo_callf, ↓wc_ret, ↓wc_skip, wo_some, opQ_eq, seqQ_normal, blockQ_normal, retQ_ret, pickC_false, int_beq, Nat.reduceAdd, Nat.reduceMul, Nat.reduceLT, Nat.reduceLeDiff, Nat.reduceEqDiff, Int.reduceEq, ↓reduceIte, planIds, hasExt, cntFs, idxFs, clnFs, ovlFs, List.contains_cons, List.contains_nil, List.any_cons, List.any_nil, Nat.reduceBEq, setC, List.length_set, reduceCtorEq, eq_self, Nat.zero_add, Nat.add_zero, hal, h0, h2, get_end, t7, cd, ck, c1, wrap_ok, Int.cast_ofNat_Int, Tryz.f25]
      exact ⟨lab', c2, hst.trans c3⟩
    · simp (maxSteps := 1000000) (disch := omega) only [push_cast, ↓wc_seq, ↓wc_block, ↓wc_condL, ↓wc_region, ↓wr_cons, ↓wr_nil, ↓wo_callf, ↓wc_ret, ↓wc_skip, wo_some, opQ_eq, seqQ_normal, blockQ_normal, retQ_ret, pickC_false, int_beq, Nat.reduceAdd, Nat.reduceMul, Nat.reduceLT, Nat.reduceLeDiff, Nat.reduceEqDiff, Int.reduceEq, ↓reduceIte, planIds, hasExt, cntFs, idxFs, clnFs, ovlFs, List.contains_cons, List.contains_nil, List.any_cons, List.any_nil, Nat.reduceBEq, setC, List.length_set, reduceCtorEq, eq_self, Nat.zero_add, Nat.add_zero, hal, h0, h2, get_end, t7, cd, ck, c1, wrap_ok, Int.cast_ofNat_Int, Tryz.f25]
      exact ⟨lab', c2, hst.trans c3⟩
theorem Do_c {a : Cal} {lx : Bool} (hn : 230 ≤ n) (h : SAt S lab o k s) (ok : StkOk 9999 s) (hs : s.l.length ≤ 100) (ha : a.Ok) : ∃ T lab', (∀ st, callD E (dcall E n) st S 25 [.loc k 0 0, .sl 2 (s.l.map Cfg.enc) lx, .agg a.enc] = some (.int .i64 (doF s a).1, T)) ∧ SAt T lab' o k (doF s a).2 ∧ Step o S lab T lab' := by
  obtain ⟨q, rfl⟩ : ∃ q, n = q + 1 := ⟨n - 1, by omega⟩
  obtain ⟨_, T, ho, rfl, lab', h1, h2⟩ := Do_d (n := q) (lx := lx) (by omega) h ok hs ha
  exact ⟨T, lab', fun st => (callD_gen rfl).trans ho, h1, h2⟩
end

/-! ### Configurations without violations -/
structure GoodL (n : Nat) (l : List Cfg) : Prop where
  len : l.length ≤ 30
  ok : CfgsOk l
  good : ∀ (i : Nat) (x : Cfg), l[i]? = some x → CfgGood x ∧ inB x.equip ((l.take i).map (·.equip)) = false
  z : ∀ c ∈ l, c.equip.size + 21 < n ∧ c.equip.size ≤ 9223372036854775807 ∧ ∀ y ∈ c.cabs, y.name.size + 21 < n ∧ y.name.size ≤ 9223372036854775807 ∧ ∀ z ∈ y.cls, z.code.size ≤ 9223372036854775807
theorem good_of {n : Nat} {l : List Cfg} (hl : l.length ≤ 30) (h : cfgL l l.length = []) (hz : ∀ c ∈ l, CfgZ (n - 1) c) : GoodL n l :=
  ⟨hl, cfgs_ok h, fun i x hx => cfg_good (cfgL_nil h i x (lt_of_get hx) hx), fun c hc => by
    have h1 := hz c hc
    have h2 := h1.eq
    exact ⟨by omega, h2.2, fun y hy => by
      have h3 := h1.nm y hy
      exact ⟨by omega, h3.2, fun z hz' => (h1.cl y hy z hz').2⟩⟩⟩
section
variable {S : List Ob} {lab : Lab} {o n : Nat}
theorem New_c {l : List Cfg} {lx : Bool} (hn : 320 ≤ n) (hg : GoodL (n - 1) l) (hf : FreshL S lab) : ∃ T lab' k, (∀ st, callD E (dcall E n) st S 10 [.sl 2 (l.map Cfg.enc) lx] = some (.tup [.loc k 0 0, .nils], T)) ∧ SAt T lab' o k ⟨l, lx, []⟩ ∧ Step o S lab T lab' := by
  obtain ⟨m, rfl⟩ : ∃ m, n = m + 1 := ⟨n - 1, by omega⟩
  have cc := Check_good_c (n := m) (lx := lx) (by omega) hg.len hg.good hg.z
  have : WO (dcall E (m + 1) 10 [.sl 2 (l.map Cfg.enc) lx] S) fun d T => d = .tup [.loc (S ++ [Ob.map kL []]).length 0 0, .nils] ∧ T = S ++ [Ob.map kL []] ++ [.row 2 [[.sl 2 (l.map Cfg.enc) lx, .map S.length]]] := by
    refine wo_dcall Tryz.func10 rfl (by decide) rfl 15 rfl (fun a hal ha => ?_)
    have h0 : a[0]? = some (.sl 2 (l.map Cfg.enc) lx) := ha 0 (by simp)
    clear ha
    simp (maxSteps := 1000000) (disch := omega) only [push_cast, ↓wc_seq, ↓wc_condL, ↓wc_region, ↓wr_cons, ↓wr_nil, ↓wo_callf, ↓wc_ret, ↓wc_skip, wo_some, opQ_eq, seqQ_normal, retQ_ret, pickC_false, Nat.reduceAdd, Nat.reduceMul, Nat.reduceLT, Nat.reduceLeDiff, Nat.reduceEqDiff, Int.reduceLT, ↓wo_build, evParts, ↓reduceIte, planIds, hasExt, cntFs, idxFs, clnFs, ovlFs, List.contains_cons, List.contains_nil, List.any_cons, List.any_nil, Nat.reduceBEq, setC, List.length_set, reduceCtorEq, eq_self, Nat.zero_add, gt_iff_lt, hal, h0, cc, Tryz.f10]
  obtain ⟨d, T, ho, rfl, rfl⟩ := this
  have hL : (S ++ [Ob.map kL []]).length = S.length + 1 := by simp
  have s1 := Step.add (o := o) hf (Ob.map kL []) [o, 4]
  have s2 := Step.add (o := o) s1.fresh (.row 2 [[.sl 2 (l.map Cfg.enc) lx, .map S.length]]) [o, 0]
  refine ⟨_, _, (S ++ [Ob.map kL []]).length, fun st => (callD_gen rfl).trans ho, ⟨s2.fresh, S.length, [], ?_⟩, s1.trans s2⟩
  exact {
    dat := rfl
    labk := setL_self
    labm := by rw [setL_ne (by omega), setL_self]
    row := get_end
    map := get_end0
    len := rfl
    leg := fun i id x h => by simp at h }
def playF (s : Stk) (acts : List Cal) : Stk := acts.foldl (fun s a => (doF s a).2) s
theorem playF_succ {s : Stk} {acts : List Cal} {i : Nat} {a : Cal} (h : acts[i]? = some a) : playF s (acts.take (i + 1)) = (doF (playF s (acts.take i)) a).2 := by
  unfold playF
  rw [List.take_add_one, h, List.foldl_append]
  rfl
theorem playF_l (s : Stk) : ∀ acts : List Cal, (playF s acts).l = s.l ∧ (playF s acts).x = s.x
  | [] => ⟨rfl, rfl⟩
  | a :: acts => by
    obtain ⟨h1, h2⟩ := playF_l (doF s a).2 acts
    obtain ⟨g1, g2⟩ := doF_l s a
    exact ⟨h1.trans g1, h2.trans g2⟩
set_option maxHeartbeats 8000000 in
set_option maxRecDepth 100000 in
theorem Played_d {l : List Cfg} {acts : List Cal} {lx ax : Bool} (hn : 330 ≤ n) (hg : GoodL (n - 1) l) (hf : FreshL S lab) (hl : acts.length ≤ 60) (ha : ∀ a ∈ acts, a.Ok) :
    WO (dcall E (n + 1) 28 [.sl 2 (l.map Cfg.enc) lx, .sl 6 (acts.map Cal.enc) ax] S) fun d T => ∃ k lab', d = .tup [.loc k 0 0, .bool true] ∧ SAt T lab' o k (playF ⟨l, lx, []⟩ acts) ∧ StkOk 7620 (playF ⟨l, lx, []⟩ acts) ∧ Step o S lab T lab' := by
  obtain ⟨T0, lab0, k, cn, h0s, st0⟩ := New_c (o := o) (n := n) (lx := lx) (by omega) hg hf
  refine wo_dcall Tryz.func28 rfl (by decide) rfl 35 rfl (fun a hal ha => ?_)
  have h0 : a[0]? = some (.sl 2 (l.map Cfg.enc) lx) := ha 0 (by simp)
  have h1 : a[1]? = some (.sl 6 (acts.map Cal.enc) ax) := ha 1 (by simp)
  clear ha
  simp (maxSteps := 1000000) (disch := omega) only [push_cast, ↓wc_seq, ↓wc_block, ↓wc_condL, ↓wc_region, ↓wr_cons, ↓wr_consgL, ↓wr_nil, ↓wo_pickL, ↓wo_callf, ↓wc_skip, ↓wc_wl, wo_some, opQ_eq, seqQ_normal, pickC_false, pickO_false, gstep_ff, Nat.reduceAdd, Nat.reduceMul, Nat.reduceLT, Nat.reduceEqDiff, Int.reduceLT, ↓reduceIte, planIds, hasExt, cntFs, idxFs, clnFs, ovlFs, List.contains_cons, List.contains_nil, List.any_cons, List.any_nil, Nat.reduceBEq, setC, List.length_set, reduceCtorEq, eq_self, Nat.zero_add, gt_iff_lt, hal, h0, cn, eqp_stk]
  refine wl_loop (fun i a T => a.length = 35 ∧ a[0]? = some (.sl 2 (l.map Cfg.enc) lx) ∧ a[1]? = some (.sl 6 (acts.map Cal.enc) ax) ∧ a[6]? = some (.loc k 0 0) ∧ a[8]? = some (.int .i64 i) ∧ ∃ lab', SAt T lab' o k (playF ⟨l, lx, []⟩ (acts.take i)) ∧ StkOk (127 * i) (playF ⟨l, lx, []⟩ (acts.take i)) ∧ Step o S lab T lab') acts.length ?_ (by omega) ?_
  · simp (maxSteps := 1000000) (disch := omega) only [push_cast, Nat.reduceLT, Nat.reduceEqDiff, Int.reduceMul, ↓reduceIte, setC, List.length_set, reduceCtorEq, eq_self, hal, h0, h1, Int.natCast_zero, List.take_zero]
    exact ⟨lab0, h0s, ⟨hg.ok, List.nodup_nil, fun p hp => by cases hp⟩, st0⟩
  clear hal h0 h1 a
  rintro i a T hi ⟨hal, h0, h1, h6, h8, lab1, hs, hok, hst⟩
  rcases Nat.lt_or_eq_of_le hi with hlt | rfl
  case inr =>
    rw [List.take_length] at hs hok
    simp (maxSteps := 1000000) (disch := omega) only [push_cast, ↓wc_seq, ↓wc_condL, ↓wc_region, ↓wr_cons, ↓wr_nil, ↓wc_exit, ↓wc_ret, wo_some, opQ_eq, seqQ_normal, seqQ_exit, blockQ_exit, iterQ_exit, retQ_ret, pickC_false, Nat.reduceAdd, Nat.reduceMul, Nat.reduceLT, Nat.reduceEqDiff, ↓reduceIte, planIds, List.contains_cons, List.contains_nil, Nat.reduceBEq, setC, List.length_set, eq_self, Int.ofNat_lt, Nat.zero_add, hal, h1, h6, h8, Nat.lt_irrefl, List.length_map, Tryz.f28]
    exact ⟨k, lab1, rfl, hs, hok.mono (by omega), hst⟩
  obtain ⟨c, hc⟩ : ∃ c, acts[i]? = some c := ⟨acts[i], by simp⟩
  have hco := ha c (List.mem_of_getElem? hc)
  obtain ⟨pl, px⟩ := playF_l ⟨l, lx, []⟩ (acts.take i)
  have hll : (playF ⟨l, lx, []⟩ (acts.take i)).l.length ≤ 100 := by rw [pl]; have := hg.len; exact Nat.le_trans this (by omega)
  obtain ⟨T', lab2, cd, h1s, st1⟩ := Do_c (n := n) (lx := lx) (by omega) hs (hok.mono (by omega)) hll hco
  have hok2 := doF_ok hok (by omega) (by omega) hco
  rw [← playF_succ hc] at h1s hok2
  rw [pl] at cd
  dsimp only at cd
  simp only [Cal.enc] at cd
  simp (maxSteps := 1000000) (disch := omega) only [push_cast, ↓wc_seq, ↓wc_block, ↓wc_condL, ↓wc_region, ↓wr_cons, ↓wr_nil, ↓wo_callf, ↓wc_skip, wo_some, opQ_eq, seqQ_normal, blockQ_normal, iterQ_normal, pickC_true, Nat.reduceAdd, Nat.reduceMul, Nat.reduceLT, Nat.reduceLeDiff, Nat.reduceEqDiff, ↓reduceIte, planIds, hasExt, cntFs, idxFs, clnFs, ovlFs, List.contains_cons, List.contains_nil, List.any_cons, List.any_nil, Nat.reduceBEq, setC, List.length_set, reduceCtorEq, eq_self, Int.natCast_nonneg, Int.toNat_natCast, Int.ofNat_lt, Nat.zero_add, hal, h0, h1, h6, h8, hlt, hc, cd, List.length_map, List.getElem?_map, Cal.enc, wrap_ok, Int.natCast_add, Int.natCast_one]
  exact ⟨lab2, h1s, hok2.mono (by omega), hst.trans st1⟩
theorem Played_c {l : List Cfg} {acts : List Cal} {lx ax : Bool} (hn : 340 ≤ n) (hg : GoodL (n - 2) l) (hf : FreshL S lab) (hl : acts.length ≤ 60) (ha : ∀ a ∈ acts, a.Ok) :
    ∃ T lab' k, (∀ st, callD E (dcall E n) st S 28 [.sl 2 (l.map Cfg.enc) lx, .sl 6 (acts.map Cal.enc) ax] = some (.tup [.loc k 0 0, .bool true], T)) ∧ SAt T lab' o k (playF ⟨l, lx, []⟩ acts) ∧ StkOk 7620 (playF ⟨l, lx, []⟩ acts) ∧ Step o S lab T lab' := by
  obtain ⟨q, rfl⟩ : ∃ q, n = q + 1 := ⟨n - 1, by omega⟩
  obtain ⟨_, T, ho, k, lab', rfl, h1, h2, h3⟩ := Played_d (o := o) (n := q) (lx := lx) (ax := ax) (by omega) hg hf hl ha
  exact ⟨T, lab', k, fun st => (callD_gen rfl).trans ho, h1, h2, h3⟩
end

/-! ### Right -/
def smallC (c : Cfg) : Bool := decide (c.cabs.length ≤ 8) && c.cabs.all fun y => decide (y.cls.length ≤ 30)
def smallB (l : List Cfg) : Bool := decide (l.length ≤ 8) && l.all smallC
theorem all_take {α : Type} {l : List α} {p : α → Bool} {i : Nat} {x : α} (hx : l[i]? = some x) : (l.take (i + 1)).all p = ((l.take i).all p && p x) := by
  rw [List.take_add_one, hx, List.all_append]; simp
theorem all_false {α : Type} {l : List α} {p : α → Bool} {i : Nat} {x : α} (hx : l[i]? = some x) (hp : p x = false) : l.all p = false := by
  rw [List.all_eq_false]
  exact ⟨x, List.mem_of_getElem? hx, by simp [hp]⟩
set_option maxHeartbeats 4000000 in
set_option maxRecDepth 100000 in
theorem Small_c {n : Nat} {l : List Cfg} {lx : Bool} (hn : 50 ≤ n) (st : Bool) (S : List Ob) : callD E (dcall E n) st S 63 [.sl 2 (l.map Cfg.enc) lx] = some (.bool (smallB l), S) := by
  obtain ⟨m, rfl⟩ : ∃ m, n = m + 1 := ⟨n - 1, by omega⟩
  have : WO (dcall E (m + 1) 63 [.sl 2 (l.map Cfg.enc) lx] []) fun d T => d = .bool (smallB l) := by
    refine wo_dcall Tryz.func63 rfl (by decide) rfl 42 rfl (fun a hal ha => ?_)
    have h0 : a[0]? = some (.sl 2 (l.map Cfg.enc) lx) := ha 0 (by simp)
    clear ha
    unfold smallB
    by_cases b1 : l.length ≤ 8
    case neg =>
      have b1' : (8 : Int) < l.length := by omega
      rw [decide_eq_false b1, Bool.false_and]
      simp (maxSteps := 1000000) (disch := omega) only [push_cast, ↓wc_seq, ↓wc_condL, ↓wc_region, ↓wr_cons, ↓wr_nil, ↓wc_ret, wo_some, opQ_eq, seqQ_normal, seqQ_ret, retQ_ret, pickC_true, Nat.reduceAdd, Nat.reduceMul, Nat.reduceLT, ↓reduceIte, planIds, List.contains_cons, List.contains_nil, Nat.reduceBEq, setC, List.length_set, reduceCtorEq, eq_self, Nat.zero_add, gt_iff_lt, hal, h0, b1', List.length_map, Tryz.f63]
    have b1' : ¬ (8 : Int) < l.length := by omega
    rw [decide_eq_true b1, Bool.true_and]
    simp (maxSteps := 1000000) (disch := omega) only [push_cast, ↓wc_seq, ↓wc_block, ↓wc_condL, ↓wc_region, ↓wr_cons, ↓wr_nil, ↓wc_skip, ↓wc_wl, wo_some, opQ_eq, seqQ_normal, pickC_false, Nat.reduceAdd, Nat.reduceMul, Nat.reduceLT, ↓reduceIte, planIds, List.contains_cons, List.contains_nil, Nat.reduceBEq, setC, List.length_set, reduceCtorEq, eq_self, Nat.zero_add, gt_iff_lt, hal, h0, b1', List.length_map]
    refine wl_loop (fun i a T => a.length = 42 ∧ a[0]? = some (.sl 2 (l.map Cfg.enc) lx) ∧ a[3]? = some (.int .i64 i) ∧ (l.take i).all smallC = true) l.length ?_ (by omega) ?_
    · simp (maxSteps := 1000000) (disch := omega) only [push_cast, Nat.reduceLT, ↓reduceIte, setC, List.length_set, reduceCtorEq, eq_self, hal, h0, Int.natCast_zero, List.take_zero, List.all_nil]
    clear hal h0 a
    rintro i a T hi ⟨hal, h0, h3, hv⟩
    rcases Nat.lt_or_eq_of_le hi with hlt | rfl
    case inr =>
      rw [List.take_length] at hv
      simp (maxSteps := 1000000) (disch := omega) only [push_cast, ↓wc_seq, ↓wc_condL, ↓wc_region, ↓wr_cons, ↓wr_nil, ↓wc_exit, ↓wc_ret, wo_some, opQ_eq, seqQ_normal, seqQ_exit, blockQ_exit, iterQ_exit, retQ_ret, pickC_false, Nat.reduceAdd, Nat.reduceMul, Nat.reduceLT, Nat.reduceEqDiff, ↓reduceIte, planIds, List.contains_cons, List.contains_nil, Nat.reduceBEq, setC, List.length_set, reduceCtorEq, eq_self, Int.ofNat_lt, Nat.zero_add, hal, h0, h3, Nat.lt_irrefl, List.length_map, Tryz.f63]
      rw [hv]
    obtain ⟨c, hc⟩ : ∃ c, l[i]? = some c := ⟨l[i], by simp⟩
    have hst := all_take (p := smallC) hc
    rw [hv, Bool.true_and] at hst
    by_cases b2 : c.cabs.length ≤ 8
    case neg =>
      have b2' : (8 : Int) < c.cabs.length := by omega
      have hf : smallC c = false := by unfold smallC; rw [decide_eq_false b2, Bool.false_and]
      have hall := all_false (p := smallC) hc hf
      simp (maxSteps := 1000000) (disch := omega) only [push_cast, ↓wc_seq, ↓wc_block, ↓wc_condL, ↓wc_region, ↓wr_cons, ↓wr_nil, ↓wc_ret, ↓wc_skip, wo_some, opQ_eq, seqQ_normal, seqQ_ret, blockQ_ret, iterQ_ret, retQ_ret, pickC_true, Nat.reduceAdd, Nat.reduceMul, Nat.reduceLT, Nat.reduceEqDiff, ↓reduceIte, planIds, List.contains_cons, List.contains_nil, Nat.reduceBEq, setC, List.length_set, reduceCtorEq, eq_self, Int.natCast_nonneg, Int.toNat_natCast, Int.ofNat_lt, Nat.zero_add, gt_iff_lt, hal, h0, h3, hlt, hc, b2', List.length_map, List.getElem?_map, Cfg.enc, Tryz.f63]
      rw [hall]
    have b2' : ¬ (8 : Int) < c.cabs.length := by omega
    simp (maxSteps := 1000000) (disch := omega) only [push_cast, ↓wc_seq, ↓wc_block, ↓wc_condL, ↓wc_region, ↓wr_cons, ↓wr_nil, ↓wc_skip, ↓wc_wl, wo_some, opQ_eq, seqQ_normal, pickC_true, pickC_false, Nat.reduceAdd, Nat.reduceMul, Nat.reduceLT, Nat.reduceEqDiff, ↓reduceIte, planIds, List.contains_cons, List.contains_nil, Nat.reduceBEq, setC, List.length_set, reduceCtorEq, eq_self, Int.natCast_nonneg, Int.toNat_natCast, Int.ofNat_lt, Nat.zero_add, gt_iff_lt, hal, h0, h3, hlt, hc, b2', List.length_map, List.getElem?_map, Cfg.enc]
    refine wl_loop (fun k a T => a.length = 42 ∧ a[0]? = some (.sl 2 (l.map Cfg.enc) lx) ∧ a[3]? = some (.int .i64 i) ∧ a[4]? = some (.int .i64 k) ∧ ((c.cabs.take k).all fun y => decide (y.cls.length ≤ 30)) = true) c.cabs.length ?_ (by omega) ?_
    · simp (maxSteps := 1000000) (disch := omega) only [push_cast, Nat.reduceLT, Nat.reduceEqDiff, ↓reduceIte, setC, List.length_set, reduceCtorEq, eq_self, hal, h0, h3, Int.natCast_zero, List.take_zero, List.all_nil]
    clear hal h0 h3 a
    rintro k a T hk ⟨hal, h0, h3, h4, hw⟩
    rcases Nat.lt_or_eq_of_le hk with hlk | rfl
    case inr =>
      rw [List.take_length] at hw
      have hs : smallC c = true := by unfold smallC; rw [decide_eq_true b2, hw]; rfl
      rw [hs] at hst
      simp (maxSteps := 1000000) (disch := omega) only [push_cast, ↓wc_seq, ↓wc_condL, ↓wc_region, ↓wr_cons, ↓wr_nil, ↓wc_exit, wo_some, opQ_eq, seqQ_normal, seqQ_exit, blockQ_normal, blockQ_exit, iterQ_normal, iterQ_exit, pickC_false, Nat.reduceAdd, Nat.reduceMul, Nat.reduceLT, Nat.reduceEqDiff, ↓reduceIte, planIds, List.contains_cons, List.contains_nil, Nat.reduceBEq, setC, List.length_set, reduceCtorEq, eq_self, Int.natCast_nonneg, Int.toNat_natCast, Int.ofNat_lt, Nat.zero_add, hal, h0, h3, h4, Nat.lt_irrefl, hlt, hc, List.length_map, List.getElem?_map, Cfg.enc, wrap_ok, Int.natCast_add, Int.natCast_one]
      exact hst
    obtain ⟨y, hy⟩ : ∃ y, c.cabs[k]? = some y := ⟨c.cabs[k], by simp⟩
    have hst2 := all_take (p := fun y => decide (y.cls.length ≤ 30)) hy
    rw [hw, Bool.true_and] at hst2
    by_cases b3 : y.cls.length ≤ 30
    case neg =>
      have b3' : (30 : Int) < y.cls.length := by omega
      have hf : smallC c = false := by
        unfold smallC
        rw [all_false (p := fun y => decide (y.cls.length ≤ 30)) hy (decide_eq_false b3), Bool.and_false]
      have hall := all_false (p := smallC) hc hf
      simp (maxSteps := 1000000) (disch := omega) only [push_cast, ↓wc_seq, ↓wc_block, ↓wc_condL, ↓wc_region, ↓wr_cons, ↓wr_nil, ↓wc_ret, ↓wc_skip, wo_some, opQ_eq, seqQ_normal, seqQ_ret, blockQ_ret, iterQ_ret, retQ_ret, pickC_true, Nat.reduceAdd, Nat.reduceMul, Nat.reduceLT, Nat.reduceEqDiff, ↓reduceIte, planIds, List.contains_cons, List.contains_nil, Nat.reduceBEq, setC, List.length_set, reduceCtorEq, eq_self, Int.natCast_nonneg, Int.toNat_natCast, Int.ofNat_lt, Nat.zero_add, gt_iff_lt, hal, h0, h3, h4, hlk, hc, hy, b3', List.length_map, List.getElem?_map, Cfg.enc, Cab.enc, Tryz.f63]
      rw [hall]
    have b3' : ¬ (30 : Int) < y.cls.length := by omega
    rw [decide_eq_true b3] at hst2
    simp (maxSteps := 1000000) (disch := omega) only [push_cast, ↓wc_seq, ↓wc_block, ↓wc_condL, ↓wc_region, ↓wr_cons, ↓wr_nil, ↓wc_skip, wo_some, opQ_eq, seqQ_normal, blockQ_normal, iterQ_normal, pickC_true, pickC_false, Nat.reduceAdd, Nat.reduceMul, Nat.reduceLT, Nat.reduceEqDiff, ↓reduceIte, planIds, List.contains_cons, List.contains_nil, Nat.reduceBEq, setC, List.length_set, reduceCtorEq, eq_self, Int.natCast_nonneg, Int.toNat_natCast, Int.ofNat_lt, Nat.zero_add, gt_iff_lt, hal, h0, h3, h4, hlk, hc, hy, b3', List.length_map, List.getElem?_map, Cfg.enc, Cab.enc, wrap_ok, Int.natCast_add, Int.natCast_one]
    exact hst2
  obtain ⟨d, T, ho, rfl⟩ := this
  exact callD_pure rfl (by simp [pureL_cons, pureL_nil, D.pure, Cfgs_pure]) ho rfl
theorem smallB_sm {l : List Cfg} (h : smallB l = true) : l.length ≤ 8 ∧ ∀ c ∈ l, Sm c := by
  simp only [smallB, smallC, Bool.and_eq_true, decide_eq_true_eq, List.all_eq_true] at h
  exact ⟨h.1, fun c hc => ⟨by have := (h.2 c hc).1; omega, (h.2 c hc).2⟩⟩
theorem cals_pure (l : List Cal) : pureLL (l.map Cal.enc) = true := by
  induction l with
  | nil => rfl
  | cons f fs ih => rw [List.map_cons, pureLL_cons, ih]; rfl
set_option maxHeartbeats 4000000 in
theorem Right_c {n : Nat} {l : List Cfg} {acts : List Cal} {lx ax : Bool} (hn : 260 ≤ n) (hz : ∀ c ∈ l, CfgZ (n - 3) c) : ∃ b : Bool, (∀ st S, callD E (dcall E n) st S 23 [.sl 2 (l.map Cfg.enc) lx, .sl 6 (acts.map Cal.enc) ax] = some (.bool b, S)) ∧ (b = true → l.length ≤ 8 ∧ acts.length ≤ 60 ∧ cfgL l l.length = []) := by
  obtain ⟨m, rfl⟩ : ∃ m, n = m + 1 := ⟨n - 1, by omega⟩
  have cs := Small_c (n := m) (l := l) (lx := lx) (by omega)
  have hpure : pureL [.sl 2 (l.map Cfg.enc) lx, .sl 6 (acts.map Cal.enc) ax] = true := by simp [pureL_cons, pureL_nil, D.pure, Cfgs_pure, cals_pure]
  cases hs : smallB l
  · rw [hs] at cs
    have : WO (dcall E (m + 1) 23 [.sl 2 (l.map Cfg.enc) lx, .sl 6 (acts.map Cal.enc) ax] []) fun d T => d = .bool false := by
      refine wo_dcall Tryz.func23 rfl (by decide) rfl 18 rfl (fun a hal ha => ?_)
      have h0 : a[0]? = some (.sl 2 (l.map Cfg.enc) lx) := ha 0 (by simp)
      have h1 : a[1]? = some (.sl 6 (acts.map Cal.enc) ax) := ha 1 (by simp)
      clear ha
      simp (maxSteps := 1000000) (disch := omega) only [push_cast, ↓wc_seq, ↓wc_region, ↓wr_cons, ↓wr_consgL, ↓wr_nil, ↓wo_pickL, ↓wo_callf, ↓wc_ret, wo_some, opQ_eq, seqQ_normal, retQ_ret, pickO_false, gstep_ft, Nat.reduceAdd, Nat.reduceMul, Nat.reduceLT, Nat.reduceEqDiff, ↓reduceIte, planIds, hasExt, cntFs, idxFs, clnFs, ovlFs, List.contains_cons, List.contains_nil, List.any_cons, List.any_nil, Nat.reduceBEq, setC, List.length_set, reduceCtorEq, eq_self, Nat.zero_add, hal, h0, cs, Tryz.f23]
    obtain ⟨d, T, ho, rfl⟩ := this
    exact ⟨false, fun st S => callD_pure rfl hpure ho rfl, fun h => by cases h⟩
  rw [hs] at cs
  obtain ⟨l8, hsm⟩ := smallB_sm hs
  obtain ⟨x, hx, cc⟩ := rCheck_c (n := m) (lx := lx) (by omega) (by omega) hsm (fun c hc => hz c hc)
  by_cases b2 : acts.length ≤ 60
  case neg =>
    have b2' : ¬ (acts.length : Int) ≤ 60 := by omega
    have : WO (dcall E (m + 1) 23 [.sl 2 (l.map Cfg.enc) lx, .sl 6 (acts.map Cal.enc) ax] []) fun d T => d = .bool false := by
      refine wo_dcall Tryz.func23 rfl (by decide) rfl 18 rfl (fun a hal ha => ?_)
      have h0 : a[0]? = some (.sl 2 (l.map Cfg.enc) lx) := ha 0 (by simp)
      have h1 : a[1]? = some (.sl 6 (acts.map Cal.enc) ax) := ha 1 (by simp)
      clear ha
      simp (maxSteps := 1000000) (disch := omega) only [push_cast, ↓wc_seq, ↓wc_region, ↓wr_cons, ↓wr_consgL, ↓wr_nil, ↓wo_pickL, ↓wo_callf, ↓wc_ret, wo_some, opQ_eq, seqQ_normal, retQ_ret, pickO_true, pickO_false, gstep_tt, gstep_ft, Nat.reduceAdd, Nat.reduceMul, Nat.reduceLT, Nat.reduceEqDiff, ↓reduceIte, planIds, hasExt, cntFs, idxFs, clnFs, ovlFs, List.contains_cons, List.contains_nil, List.any_cons, List.any_nil, Nat.reduceBEq, setC, List.length_set, reduceCtorEq, eq_self, Nat.zero_add, hal, h0, h1, cs, b2', List.length_map, Tryz.f23]
    obtain ⟨d, T, ho, rfl⟩ := this
    exact ⟨false, fun st S => callD_pure rfl hpure ho rfl, fun h => by cases h⟩
  have b2' : (acts.length : Int) ≤ 60 := by omega
  have : WO (dcall E (m + 1) 23 [.sl 2 (l.map Cfg.enc) lx, .sl 6 (acts.map Cal.enc) ax] []) fun d T => d = .bool (decide ((cfgL l l.length).length = 0)) := by
    rcases hx with ⟨rfl, hx⟩ | ⟨y, rfl⟩
    · rw [hx]
      refine wo_dcall Tryz.func23 rfl (by decide) rfl 18 rfl (fun a hal ha => ?_)
      have h0 : a[0]? = some (.sl 2 (l.map Cfg.enc) lx) := ha 0 (by simp)
      have h1 : a[1]? = some (.sl 6 (acts.map Cal.enc) ax) := ha 1 (by simp)
      clear ha
      simp (maxSteps := 1000000) (disch := omega) only [push_cast, ↓wc_seq, ↓wc_region, ↓wr_cons, ↓wr_consgL, ↓wr_nil, ↓wo_pickL, ↓wo_callf, ↓wc_ret, wo_some, opQ_eq, seqQ_normal, retQ_ret, pickO_true, gstep_tt, int_beq, Nat.reduceAdd, Nat.reduceMul, Nat.reduceLT, Nat.reduceEqDiff, ↓reduceIte, planIds, hasExt, cntFs, idxFs, clnFs, ovlFs, List.contains_cons, List.contains_nil, List.any_cons, List.any_nil, Nat.reduceBEq, setC, List.length_set, reduceCtorEq, eq_self, Nat.zero_add, hal, h0, h1, cs, cc, b2', List.length_map, Tryz.f23]
    · refine wo_dcall Tryz.func23 rfl (by decide) rfl 18 rfl (fun a hal ha => ?_)
      have h0 : a[0]? = some (.sl 2 (l.map Cfg.enc) lx) := ha 0 (by simp)
      have h1 : a[1]? = some (.sl 6 (acts.map Cal.enc) ax) := ha 1 (by simp)
      clear ha
      by_cases b3 : (cfgL l l.length).length = 0
      · have b3' : ((cfgL l l.length).length : Int) = 0 := by omega
        rw [decide_eq_true b3]
        simp (maxSteps := 1000000) (disch := omega) only [push_cast, ↓wc_seq, ↓wc_region, ↓wr_cons, ↓wr_consgL, ↓wr_nil, ↓wo_pickL, ↓wo_callf, ↓wc_ret, wo_some, opQ_eq, seqQ_normal, retQ_ret, pickO_true, gstep_tt, int_beq, Nat.reduceAdd, Nat.reduceMul, Nat.reduceLT, Nat.reduceEqDiff, ↓reduceIte, planIds, hasExt, cntFs, idxFs, clnFs, ovlFs, List.contains_cons, List.contains_nil, List.any_cons, List.any_nil, Nat.reduceBEq, setC, List.length_set, reduceCtorEq, eq_self, Nat.zero_add, hal, h0, h1, cs, cc, b2', b3', List.length_map, Tryz.f23]
      · have b3' : ¬ ((cfgL l l.length).length : Int) = 0 := by omega
        rw [decide_eq_false b3]
        simp (maxSteps := 1000000) (disch := omega) only [push_cast, ↓wc_seq, ↓wc_region, ↓wr_cons, ↓wr_consgL, ↓wr_nil, ↓wo_pickL, ↓wo_callf, ↓wc_ret, wo_some, opQ_eq, seqQ_normal, retQ_ret, pickO_true, gstep_tt, int_beq, Nat.reduceAdd, Nat.reduceMul, Nat.reduceLT, Nat.reduceEqDiff, ↓reduceIte, planIds, hasExt, cntFs, idxFs, clnFs, ovlFs, List.contains_cons, List.contains_nil, List.any_cons, List.any_nil, Nat.reduceBEq, setC, List.length_set, reduceCtorEq, eq_self, Nat.zero_add, hal, h0, h1, cs, cc, b2', b3', List.length_map, Tryz.f23]
  obtain ⟨d, T, ho, rfl⟩ := this
  exact ⟨_, fun st S => callD_pure rfl hpure ho rfl, fun h => ⟨l8, b2, List.eq_nil_of_length_eq_zero (of_decide_eq_true h)⟩⟩
end Go.Proofs.YtajhgnefcddenaaGreatDoor.Dm
