/-
  A copy of an inventory: whichever way the map's order goes, an inventory of its own with the same legs.
-/
import Derived.Test.YtajhgnefcddenaaGreatDoorMwC
import Derived.Test.YtajhgnefcddenaaGreatDoorSlT
import Derived.Test.YtajhgnefcddenaaGreatDoorLgC
namespace Go.Proofs.YtajhgnefcddenaaGreatDoor.Dm
open Go Gw
set_option linter.unusedSimpArgs false
set_option linter.unusedSimpArgs false

theorem rowH_of (row : List Int) : row.map encZ = rowH row.length fun j => (row[j]?).getD 0 := by
  unfold rowH
  refine List.ext_getElem? fun j => ?_
  rw [List.getElem?_map, List.getElem?_map]
  by_cases hj : j < row.length
  · rw [List.getElem?_range hj, List.getElem?_eq_getElem hj]; simp [hj]
  · rw [List.getElem?_eq_none (by omega), List.getElem?_eq_none (by simp; omega)]; rfl
theorem Clone_row {n r : Nat} {row : List Int} {U : List Ob} (hn : 2 ≤ n) (hl : 1 ≤ row.length) (hl2 : row.length ≤ 1000) (hk : U[r]? = some (.row 1 (row.map encZ))) (st : Bool) :
    callD E (dcall E n) st U 82 [.os r 0 row.length false] = some (.os U.length 0 row.length false, U ++ [.row 1 (row.map encZ)]) := by
  have h := rowH_of row
  rw [h] at hk
  have := Clone_c (h := fun j => (row[j]?).getD 0) hn hl hl2 hk st
  rw [← h] at this
  exact this
theorem TabG.setlow {S0 p : Nat} {T : List Ob} {lab : Lab} {o i : Nat} {d : D} {l : List (Nat × Nat)} {t : List (List Int)} (h : TabG S0 T lab o i d l t) (hp : p < S0) (ob : Ob) : TabG S0 (T.set p ob) lab o i d l t where
  gl := by
    rcases h.gl with h1 | ⟨k, h1, h2⟩
    · exact .inl h1
    · refine .inr ⟨k, h1, ?_⟩
      have := (h.own k _ h1).1
      rw [List.getElem?_set_ne (by omega)]
      exact h2
  len := h.len
  own := h.own
  row j r n row h1 h2 := by
    obtain ⟨g1, g2, g3, g4⟩ := h.row j r n row h1 h2
    exact ⟨g1, g2, g3, by rw [List.getElem?_set_ne (by omega)]; exact g4⟩
theorem build_leg0 (a b : D) (c : Bool) (h1 : a.one = true) (h2 : b.one = true) : dBuild Tryz.prog 120 [(0, .agg [a, b]), (2, .bool c)] = some (.agg [a, b, .nils, .bool c]) := by
  have h3 : zeroT Tryz.prog 120 = some (.agg [.str (ByteArray.mk #[]), .nils, .nils, .bool false]) := by kernel_rfl
  have h4 : placesT Tryz.prog 120 = some [(0, 2), (2, 1), (3, 1)] := by kernel_rfl
  unfold dBuild
  rw [h3, h4]
  have h5 : (D.bool c).one = true := rfl
  simp [dFill, D.cells, setFrom, h1, h2, h5]
/-- The copies of the legs that are done. -/
structure CopI (S : List Ob) (lab : Lab) (o' m : Nat) (s : Stk) (done : List (D × D)) (T : List Ob) (lab' : Lab) (f : D → D) : Prop where
  dead : T[m]? = some .dead
  keep : ∀ (j : Nat) (ob : Ob), j ≠ m → S[j]? = some ob → T[j]? = some ob
  len : S.length + 3 ≤ T.length
  stk : T[S.length + 1]? = some (.row 2 [[.sl 2 (s.l.map Cfg.enc) s.x, .map S.length]])
  fresh : FreshL T lab'
  labs : ∀ z, z < S.length → lab' z = lab z
  labm : lab' S.length = [o', 4]
  labk : lab' (S.length + 1) = [o', 0]
  map : T[S.length]? = some (.map kL (done.map fun q => (q.1, f q.1)))
  leg : ∀ q ∈ done, ∀ (i : Nat) (id : Lid) (x : Leg), s.legs[i]? = some (id, x) → q.1 = .agg id.enc → ∃ p, f q.1 = .loc p 0 0 ∧ LegAt T lab' o' i p x
/-- The legs of an inventory, by the pairs of its map. -/
theorem StkAt.of_pair {S : List Ob} {lab : Lab} {o k m : Nat} {s : Stk} {ps : List (D × D)} (h : StkAt S lab o kL (.loc k 0 0) s k m ps) {p : D × D} (hp : p ∈ ps) : ∃ (i : Nat) (id : Lid) (x : Leg) (pp : Nat), s.legs[i]? = some (id, x) ∧ p = (.agg id.enc, .loc pp 0 0) ∧ LegAt S lab o i pp x := by
  obtain ⟨i, hi⟩ := List.mem_iff_getElem?.1 hp
  have hl : i < s.legs.length := by rw [← h.len]; exact lt_of_get hi
  obtain ⟨pp, h1, h2⟩ := h.leg i s.legs[i].1 s.legs[i].2 (by rw [List.getElem?_eq_getElem hl])
  refine ⟨i, s.legs[i].1, s.legs[i].2, pp, by rw [List.getElem?_eq_getElem hl], ?_, h2⟩
  rw [hi] at h1
  exact Option.some.inj h1
theorem enc_inj {a b : Lid} (h : D.agg a.enc = D.agg b.enc) : a = b := by
  have := key_eq a b
  rw [h, key_eq] at this
  simpa using this.symm
theorem keys_nodup {S : List Ob} {lab : Lab} {o k m : Nat} {s : Stk} {ps : List (D × D)} (h : StkAt S lab o kL (.loc k 0 0) s k m ps) (hn : (s.legs.map (·.1)).Nodup) : (ps.map (·.1)).Nodup := by
  have e : ps.map (·.1) = (s.legs.map (·.1)).map fun id => D.agg id.enc := by
    refine List.ext_getElem? fun i => ?_
    rw [List.getElem?_map, List.getElem?_map, List.getElem?_map]
    rcases hi : s.legs[i]? with _ | ⟨id, x⟩
    · have : ps[i]? = none := by
        rw [List.getElem?_eq_none_iff] at hi ⊢
        rw [h.len]; exact hi
      rw [this]; rfl
    · obtain ⟨p, hp, -⟩ := h.leg i id x hi
      rw [hp]; rfl
  rw [e]
  exact List.Pairwise.map _ (fun a b hab hc => hab (enc_inj hc)) hn
theorem idx_of {legs : List (Lid × Leg)} (hn : (legs.map (·.1)).Nodup) {i j : Nat} {id : Lid} {x y : Leg} (hi : legs[i]? = some (id, x)) (hj : legs[j]? = some (id, y)) : i = j := by
  have h1 : (legs.map (·.1))[i]? = some id := by rw [List.getElem?_map, hi]; rfl
  have h2 : (legs.map (·.1))[j]? = some id := by rw [List.getElem?_map, hj]; rfl
  rcases Nat.lt_trichotomy i j with hlt | e | hlt
  · exact absurd hn (dup_of hlt h1 h2)
  · exact e
  · exact absurd hn (dup_of hlt h2 h1)
set_option maxHeartbeats 8000000 in
set_option maxRecDepth 100000 in
theorem Copy_mw {W : World} {C : Cx} {S : List Ob} {lab : Lab} {o o' k m : Nat} {s : Stk} {ps : List (D × D)} {vargs : Array Value} (hs : SR W C S) (hP : C.P = E.P) (hG : GR W C E.G) (hv : VRs W C [.loc k 0 0] vargs.toList)
    (hf : FreshL S lab) (h : StkAt S lab o kL (.loc k 0 0) s k m ps) (ok : StkOk 9999 s) (hok : ∀ p ∈ ps, keyOk Tryz.prog kL p.1 = true) :
    Calls Tryz.prog 30 vargs W fun e W' => ∃ v C' d T, e = .returned v ∧ (d = .loc (S.length + 1) 0 0 ∧ ∃ lab' f done, done.Perm ps ∧ ∃ T0, CopI S lab o' m s done T0 lab' f ∧ T = T0.set m (.map kL ps)) ∧ VR W' C' d v ∧ SR W' C' T ∧ Fr W C S W' C' T := by
  have hC : CallOk E (dcall E 200) := dcall_ok envOk 200
  refine calls_of_mw (E := E) envOk (f := 30) Tryz.func30 rfl ?_ hs hP hG hv
  obtain ⟨a, ha⟩ : ∃ a, a = ([D.loc k 0 0] ++ List.replicate (Tryz.f30.ntmps - [D.loc k 0 0].length) (.tup [])) := ⟨_, rfl⟩
  rw [← ha]
  have hal : a.length = Tryz.f30.ntmps := by rw [ha]; rfl
  have h0 : a[0]? = some (.loc k 0 0) := by rw [ha]; rfl
  clear ha
  
  replace hal : a.length = 67 := hal
  have hk := h.row
  have hm := h.map
  have hnd := keys_nodup h ok.ids
  have c1 := made_c (n := 200) (by omega) hk false
  refine MW.cut (n := 200) envOk hC (fun a T => S = T ∧ a.length = 67 ∧ a[0]? = some (.loc k 0 0)) (by kernel_rfl) ?_ ?_
  · simp (maxSteps := 1000000) (disch := omega) only [push_cast, ↓wc_region, ↓wr_cons, ↓wr_nil, wo_some, opQ_eq, Nat.reduceAdd, Nat.reduceMul, ↓reduceIte, planIds, List.contains_cons, List.contains_nil, Nat.reduceBEq, setC, List.length_set, reduceCtorEq, eq_self, Nat.zero_add, hal, h0]
  clear hal h0 a
  rintro a T ⟨rfl, hal, h0⟩
  refine MW.cut (n := 200) envOk hC (fun a T => S = T ∧ a.length = 67 ∧ a[0]? = some (.loc k 0 0)) (by kernel_rfl) ?_ ?_
  · simp (maxSteps := 1000000) (disch := omega) only [push_cast, ↓wc_seq, ↓wc_condL, ↓wc_region, ↓wr_cons, ↓wr_nil, ↓wo_callf, ↓wc_skip, wo_some, opQ_eq, seqQ_normal, pickC_false, Nat.reduceAdd, Nat.reduceMul, Nat.reduceLT, ↓reduceIte, planIds, hasExt, cntFs, idxFs, clnFs, ovlFs, List.contains_cons, List.contains_nil, List.any_cons, List.any_nil, Nat.reduceBEq, setC, List.length_set, reduceCtorEq, eq_self, Nat.zero_add, hal, h0, c1]
  clear hal h0 a
  rintro a T ⟨rfl, hal, h0⟩
  have hmS := lt_of_get hm
  obtain ⟨S3, hS3⟩ : ∃ S3, S3 = S ++ [Ob.map kL []] ++ [.row 2 [[.sl 2 (s.l.map Cfg.enc) s.x, .map S.length]]] := ⟨_, rfl⟩
  have hL3 : S3.length = S.length + 2 := by rw [hS3]; simp
  refine MW.cut (n := 200) envOk hC (fun a T => T = S3 ∧ a.length = 67 ∧ a[0]? = some (.loc k 0 0) ∧ a[3]? = some (.loc (S.length + 1) 0 0)) (by kernel_rfl) ?_ ?_
  · simp (maxSteps := 1000000) (disch := omega) only [push_cast, ↓wc_region, ↓wr_cons, ↓wr_nil, wo_some, opQ_eq, Nat.reduceAdd, Nat.reduceMul, Nat.reduceLT, Nat.reduceLeDiff, Nat.reduceEqDiff, ↓wo_build, evParts, ↓reduceIte, planIds, List.contains_cons, List.contains_nil, Nat.reduceBEq, setC, List.length_set, reduceCtorEq, eq_self, Nat.zero_add, Nat.add_zero, hal, h0, hk, hS3, List.length_append]
  clear hal h0 a
  rintro a S3 ⟨rfl, hal, h0, h3⟩
  have hm3 : S3[m]? = some (.map kL ps) := by rw [hS3]; exact get_old (get_old hm)
  have hk3 : S3[k]? = some (.row 2 [[.sl 2 (s.l.map Cfg.enc) s.x, .map m]]) := by rw [hS3]; exact get_old (get_old hk)
  refine MW.seq (MW.range_w (n := 200) envOk hC rfl ⟨rfl, rfl, rfl⟩ rfl ⟨rfl, rfl, rfl⟩ ⟨rfl, rfl, rfl⟩ rfl ⟨rfl, rfl, rfl⟩ (by decide) (by kernel_rfl) Tryz.underlying90 hm3 (fun a => a.length = 67 ∧ a[3]? = some (.loc (S.length + 1) 0 0)) ?_
    (fun done todo a T => a.length = 67 ∧ a[3]? = some (.loc (S.length + 1) 0 0) ∧ a[23]? = some (.loc S3.length 0 0) ∧ ∃ lab' f, CopI S lab o' m s done T lab' f) ?_ ?_ ?_ ?_)
  · simp only [List.dropLast]
    simp (maxSteps := 1000000) (disch := omega) only [push_cast, ↓wr_cons, ↓wr_nil, wo_some, opQ_eq, Nat.reduceLT, Nat.reduceEqDiff, ↓reduceIte, setC, List.length_set, eq_self, Nat.zero_add, hal, h0, h3, hk3]
  · rintro l' a1 ⟨hal, h3⟩ -
    refine ⟨by rw [List.length_set]; exact hal, by rw [List.getElem?_set_ne (by decide)]; exact h3, by rw [List.getElem?_set_self (by omega)], setL (setL lab S.length [o', 4]) (S.length + 1) [o', 0], fun d => d, ?_⟩
    exact {
      dead := get_old (List.getElem?_set_self (by omega))
      keep := fun j ob hj ho => get_old (by rw [List.getElem?_set_ne (Ne.symm hj), hS3]; exact get_old (get_old ho))
      len := by simp [hL3]
      stk := get_old (by rw [List.getElem?_set_ne (by omega), hS3]; exact get_end1)
      fresh := fun x hx => by
        rw [List.length_append, List.length_set, hL3] at hx
        rw [setL_ne (by simp at hx; omega), setL_ne (by simp at hx; omega)]
        exact hf x (by omega)
      labs := fun z hz => by rw [setL_ne (by omega), setL_ne (by omega)]
      labm := by rw [setL_ne (by omega), setL_self]
      labk := setL_self
      map := get_old (by rw [List.getElem?_set_ne (by omega), hS3]; exact get_end0)
      leg := fun q hq => by cases hq }
  · rintro done todo a T ⟨hal, h3, h23, lab', f, hc⟩
    exact ⟨h23, by omega, by omega, hc.dead⟩
  · rintro done todo j p a T hperm ⟨hal, h3, h23, lab', f, hc⟩ hj
    have hpm : p ∈ ps := hperm.mem_iff.1 (List.mem_append.2 (.inr (List.mem_of_getElem? hj)))
    obtain ⟨i, id, x, pp, hi, rfl, hx⟩ := h.of_pair hpm
    have hkp := hok _ hpm
    have hlo : LegOk s.l 9999 x := ok.leg (id, x) (List.mem_of_getElem? hi)
    have hnew : ∀ q ∈ done, keyBeq q.1 (.agg id.enc) = false := fun q hq => by
      have hnd2 : ((done ++ todo).map (·.1)).Nodup := (hperm.map _).nodup_iff.2 hnd
      rw [List.map_append, List.nodup_append] at hnd2
      have hne := hnd2.2.2 q.1 (List.mem_map_of_mem hq) (.agg id.enc) (List.mem_map.2 ⟨_, List.mem_of_getElem? hj, rfl⟩)
      obtain ⟨i', id', x', pp', -, rfl, -⟩ := h.of_pair (hperm.mem_iff.1 (List.mem_append.2 (.inl hq)))
      rw [key_eq]
      exact decide_eq_false fun e => hne (by rw [e])
    have hlp := hx.1
    have hlm := h.labm
    have hppm : pp ≠ m := by rintro rfl; rw [hlm] at hlp; simp at hlp
    obtain ⟨qq, es, hp1, hq1, hlq, hr⟩ := hx.parts
    have hqm : qq ≠ m := by rintro rfl; rw [hlm] at hlq; simp at hlq
    have hp1T := hc.keep pp _ hppm hp1
    have hlenT := hc.len
    have hcabs := hlo.cfg.l2
    have hsl := hlo.len
    have kl := hkp
    have ks := keys_lid
    have bl := build_leg0 (.str x.cfg.equip) (.sl 4 (x.cfg.cabs.map Cab.enc) x.cfg.cabsx) x.closed rfl rfl
    have hpU : ∀ ob, (T ++ [ob])[pp]? = some (.row 4 [[.str x.cfg.equip, .sl 4 (x.cfg.cabs.map Cab.enc) x.cfg.cabsx, .os qq 0 x.sold.length false, .bool x.closed]]) := fun ob => get_old hp1T
    have hpV : ∀ ob ob', (T ++ [ob] ++ [ob'])[pp]? = some (.row 4 [[.str x.cfg.equip, .sl 4 (x.cfg.cabs.map Cab.enc) x.cfg.cabsx, .os qq 0 x.sold.length false, .bool x.closed]]) := fun ob ob' => get_old (get_old hp1T)
    simp only [Lid.enc] at kl
    simp (maxSteps := 1000000) (disch := omega) only [push_cast, ↓wc_seq, ↓wc_block, ↓wc_region, ↓wr_cons, ↓wr_nil, ↓wc_wl, wo_some, opQ_eq, seqQ_normal, Nat.reduceAdd, Nat.reduceMul, Nat.reduceLT, Nat.reduceLeDiff, Nat.reduceEqDiff, ↓wo_build, evParts, ↓reduceIte, planIds, List.contains_cons, List.contains_nil, Nat.reduceBEq, setC, List.length_set, eq_self, Nat.zero_add, Nat.add_zero, hal, get_end, set_end, hpU, hpV, Lid.enc, List.length_append]
    have hfr : ∀ z, T.length ≤ z → lab' z = [] := hc.fresh
    refine wl_loop (fun c a T' => a.length = 67 ∧ a[3]? = some (.loc (S.length + 1) 0 0) ∧ a[4]? = some (.loc T.length 0 0) ∧ a[6]? = some (.loc (T.length + 1) 0 0) ∧ a[23]? = some (.loc S3.length 0 0) ∧ a[42]? = some (.os qq 0 x.sold.length false) ∧ a[43]? = some (.int .i64 x.sold.length) ∧ a[44]? = some (.int .i64 c) ∧ ∃ d l lab2, T'[T.length + 1]? = some (.row 4 [[.str x.cfg.equip, .sl 4 (x.cfg.cabs.map Cab.enc) x.cfg.cabsx, d, .bool x.closed]]) ∧ TabG (T.length + 2) T' lab2 o' i d l (x.sold.take c) ∧ FreshL T' lab2 ∧ (∀ z, z < T.length + 2 → lab2 z = lab' z) ∧ (∀ (z : Nat) (ob : Ob), z < T.length → T[z]? = some ob → T'[z]? = some ob) ∧ T'[T.length]? = some (.row 4 [id.enc]) ∧ T.length + 2 ≤ T'.length) x.sold.length ?_ (by omega) ?_
    · simp (maxSteps := 1000000) (disch := omega) only [push_cast, Nat.reduceLT, Nat.reduceEqDiff, ↓reduceIte, setC, List.length_set, eq_self, hal, h3, h23, Int.natCast_zero, List.take_zero]
      refine ⟨_, [], lab', get_end1, TabG.nil, fun z hz => hfr z (by simp at hz; omega), fun _ _ => rfl, fun z ob _ hz => get_old (get_old hz), get_end0, by simp⟩
    clear hal h3 h23 a
    rintro c a T' hcl ⟨hal, h3, h4, h6, h23, h42, h43, h44, d, l, lab2, hP', hg, hf2, hlab2, hold, hkey, hlen'⟩
    rcases Nat.lt_or_eq_of_le hcl with hlt | rfl
    case inr =>
      rw [List.take_length] at hg
      have hm' := hold S.length _ (by omega) hc.map
      have hs' := hold (S.length + 1) _ (by omega) hc.stk
      have hlk : lookM (done.map fun q => (q.1, f q.1)) (.agg id.enc) = none := by
        unfold lookM
        rw [List.find?_eq_none.2]
        · rfl
        · intro q hq
          obtain ⟨q', hq', rfl⟩ := List.mem_map.1 hq
          rw [hnew q' hq']
          simp
      have hpm' := putM_none (v := .loc (T.length + 1) 0 0) hlk
      simp only [Lid.enc] at hkey hpm'
      simp (maxSteps := 1000000) (disch := omega) only [push_cast, ↓wc_seq, ↓wc_condL, ↓wc_region, ↓wr_cons, ↓wr_nil, ↓wc_exit, wo_some, opQ_eq, seqQ_normal, seqQ_exit, blockQ_exit, iterQ_exit, pickC_false, Nat.reduceAdd, Nat.reduceMul, Nat.reduceLT, Nat.reduceLeDiff, Nat.reduceEqDiff, ↓reduceIte, planIds, List.contains_cons, List.contains_nil, Nat.reduceBEq, setC, List.length_set, eq_self, Int.ofNat_lt, Nat.zero_add, hal, h3, h4, h6, h23, h43, h44, Nat.lt_irrefl, hm', hs', hkey, hpm', kl, ks]
      have hkk : keyBeq (D.agg [.str id.c, .int .i64 id.n, .int .i64 id.d, .str id.f]) (.agg id.enc) = true := by
        show keyBeq (.agg id.enc) (.agg id.enc) = true
        rw [key_eq]; simp
      have hPl : lab2 (T.length + 1) = [] := by rw [hlab2 _ (by omega)]; exact hfr _ (by omega)
      have hSl : lab2 S.length = [o', 4] := by rw [hlab2 _ (by omega)]; exact hc.labm
      have hne : x.sold ≠ [] := fun e => by
        have h1 := hlo.cfg.l1
        rw [e] at hsl
        simp at hsl
        omega
      refine ⟨setL lab2 (T.length + 1) [o', 1, i], fun k => if keyBeq k (.agg id.enc) = true then .loc (T.length + 1) 0 0 else f k, ?_⟩
      exact {
        dead := by rw [List.getElem?_set_ne (by omega)]; exact hold m _ (by omega) hc.dead
        keep := fun j ob hj ho => by
          have := lt_of_get ho
          rw [List.getElem?_set_ne (by omega)]
          exact hold j ob (by omega) (hc.keep j ob hj ho)
        len := by rw [List.length_set]; omega
        stk := by rw [List.getElem?_set_ne (by omega)]; exact hs'
        fresh := fun z hz => by
          rw [List.length_set] at hz
          rw [setL_ne (by omega)]
          exact hf2 z hz
        labs := fun z hz => by rw [setL_ne (by omega), hlab2 z (by omega)]; exact hc.labs z hz
        labm := by rw [setL_ne (by omega)]; exact hSl
        labk := by rw [setL_ne (by omega), hlab2 _ (by omega)]; exact hc.labk
        map := by
          rw [List.getElem?_set_self (by omega), List.map_append]
          congr 3
          · exact List.map_congr_left fun q hq => by simp [hnew q hq]
          · simp [hkk]
        leg := fun q hq i' id' x' hi' hqe => by
          rcases List.mem_append.1 hq with hq | hq
          · obtain ⟨p', e1, e2⟩ := hc.leg q hq i' id' x' hi' hqe
            refine ⟨p', by simp only [hnew q hq]; exact e1, e2.keep' fun z ob hz hl => ?_⟩
            have hzl := lt_of_get hz
            have hzS : z ≠ S.length := by
              rintro rfl
              rw [hc.labm] at hl
              rcases hl with hl | hl | ⟨j, hl⟩ <;> simp at hl
            rw [List.getElem?_set_ne (Ne.symm hzS), setL_ne (by omega)]
            exact ⟨hold z ob hzl hz, hlab2 z (by omega)⟩
          · have hqp := List.mem_singleton.1 hq
            subst hqp
            have hid : id = id' := enc_inj hqe
            subst hid
            have hii := idx_of ok.ids hi hi'
            subst hii
            rw [hi] at hi'
            cases hi'
            refine ⟨T.length + 1, ?_, setL_self, d, by rw [List.getElem?_set_ne (by omega)]; exact hP', (hg.tab hne).keep fun z ob tl hz hl => ?_⟩
            · exact if_pos hkk
            · have hzS : z ≠ S.length := by
                rintro rfl
                rw [hSl] at hl
                rcases hl with hl | ⟨j, hl⟩ <;> simp at hl
              have hzP : z ≠ T.length + 1 := by
                rintro rfl
                rw [hPl] at hl
                rcases hl with hl | ⟨j, hl⟩ <;> simp at hl
              rw [List.getElem?_set_ne (Ne.symm hzS), setL_ne hzP]
              exact ⟨hz, rfl⟩ }
    have hcl' : c < x.sold.length := hlt
    obtain ⟨y, hy⟩ : ∃ y, x.cfg.cabs[c]? = some y := ⟨x.cfg.cabs[c]'(by omega), by simp⟩
    obtain ⟨row, hrow, hrl, hyo⟩ := leg_sizes hlo hy
    obtain ⟨r, hr1, hr2, hr3⟩ := hr c row hrow
    have hl1 := hyo.l1
    have hl2 := hyo.l2
    have hrm : r ≠ m := by rintro rfl; rw [hlm] at hr2; simp at hr2
    have hqT := hold qq _ (by have := lt_of_get hq1; omega) (hc.keep qq _ hqm hq1)
    have hrT := hold r _ (by have := lt_of_get hr3; omega) (hc.keep r _ hrm hr3)
    have cc := fun st => Clone_row (n := 200) (by omega) (by omega) (by omega) hrT st
    have hgl : l.length ≤ 1000 := by
      rw [hg.len, List.length_take]; omega
    obtain ⟨T2, lab3, ha, hg2, hf3, hlen3, hlab3, hkeep3, -⟩ := hg.add hf2 (by omega) hgl row
    have hP2 := hkeep3 _ _ (by omega) hP'
    have hPr : ∀ ob, (T' ++ [ob])[T.length + 1]? = some (.row 4 [[.str x.cfg.equip, .sl 4 (x.cfg.cabs.map Cab.enc) x.cfg.cabsx, d, .bool x.closed]]) := fun ob => get_old hP'
    have hes : c < x.sold.length := hlt
    have hT2 : T.length + 1 < T2.length := by omega
    simp (maxSteps := 1000000) (disch := omega) only [push_cast, ↓wc_seq, ↓wc_block, ↓wc_condL, ↓wc_region, ↓wr_cons, ↓wr_nil, ↓wo_callf, ↓wc_skip, wo_some, opQ_eq, seqQ_normal, blockQ_normal, iterQ_normal, pickC_true, Nat.reduceAdd, Nat.reduceMul, Nat.reducePow, Nat.reduceLT, Nat.reduceLeDiff, Nat.reduceEqDiff, ↓wo_buildSlice, evParts, ↓reduceIte, planIds, hasExt, cntFs, idxFs, clnFs, ovlFs, List.contains_cons, List.contains_nil, List.any_cons, List.any_nil, Nat.reduceBEq, setC, List.length_set, eq_self, Int.natCast_nonneg, Int.toNat_natCast, Int.ofNat_lt, Option.some.injEq, Nat.zero_add, hal, h3, h4, h6, h23, h42, h43, h44, hlt, hqT, hr1, hP', cc, ha, hP2, hT2, wrap_ok, Int.natCast_add, Int.natCast_one]
    refine ⟨_, l ++ [(T'.length, row.length)], lab3, rfl, ?_, fun z hz => hf3 z (by simpa using hz), fun z hz => (hlab3 z (by omega)).trans (hlab2 z hz), fun z ob hz hzo => ?_, ?_, by omega⟩
    · rw [List.take_add_one, hrow]
      exact hg2.setlow (by omega) _
    · rw [if_neg (by omega)]
      exact hkeep3 z ob (by omega) (hold z ob hz hzo)
    · rw [if_neg (by omega)]
      exact hkeep3 _ _ (by omega) hkey
  · rintro done a T hperm ⟨hal, h3, h23, lab', f, hc⟩
    show MW E _ _ _ _
    refine MW.wc (n := 200) envOk hC (by kernel_rfl) ?_
    simp (maxSteps := 1000000) (disch := omega) only [push_cast, ↓wc_seq, ↓wc_region, ↓wr_cons, ↓wr_nil, ↓wc_ret, wo_some, opQ_eq, seqQ_normal, Nat.reduceAdd, Nat.reduceMul, Nat.reduceLT, Nat.reduceEqDiff, ↓reduceIte, planIds, List.contains_cons, List.contains_nil, Nat.reduceBEq, setC, List.length_set, reduceCtorEq, eq_self, Nat.zero_add, hal, h3]
    refine ⟨.inr trivial, [.loc (S.length + 1) 0 0], by simp (maxSteps := 1000000) (disch := omega) only [push_cast, Nat.reduceLT, ↓reduceIte, setC, List.length_set, eq_self, hal, Tryz.f30], rfl, lab', f, done, hperm, T, hc, rfl⟩
/-- A copy of an inventory: an inventory of its own with the same legs. -/
theorem Copy_calls {S : List Ob} {lab : Lab} {o o' k : Nat} {s : Stk} (h : SAt S lab o k s) (ok : StkOk 9999 s) :
    CallsR E 30 [.loc k 0 0] S fun d T => d = .loc (S.length + 1) 0 0 ∧ ∃ lab', SAt T lab' o' (S.length + 1) s ∧ Step o' S lab T lab' := by
  refine ⟨⟨_, Tryz.func30, rfl⟩, fun W C vargs hs hP hG hv => ?_⟩
  obtain ⟨hf, m, ps, hst⟩ := h
  have hok : ∀ p ∈ ps, keyOk Tryz.prog kL p.1 = true := fun p hp => by
    obtain ⟨g, sz, tot, T', -, ⟨es, clock, mm, -, hpm, -, -, hk, -⟩, -⟩ := hs.ob m _ hst.map (by simp)
    have := hk p (hpm.mem_iff.2 hp)
    rw [hP] at this
    exact this
  refine (Copy_mw (o' := o') hs hP hG hv hf hst ok hok).mono ?_
  rintro e W' ⟨v, C', d, T, rfl, ⟨rfl, lab', f, done, hperm, T0, hc, rfl⟩, hv', hs', hf'⟩
  have hmS := lt_of_get hst.map
  have hlen := hc.len
  have hm1 : (T0.set m (.map kL ps))[S.length]? = some (.map kL (done.map fun q => (q.1, f q.1))) := by
    rw [List.getElem?_set_ne (by omega)]
    exact hc.map
  refine ⟨v, C', .loc (S.length + 1) 0 0, (T0.set m (.map kL ps)).set S.length (.map kL (ps.map fun q => (q.1, f q.1))), rfl, ⟨rfl, lab', ⟨fun z hz => ?_, S.length, ps.map fun q => (q.1, f q.1), ?_⟩, ?_⟩, hv', hs'.reorder hm1 (hperm.map _), hf'.reorder hm1⟩
  · rw [List.length_set, List.length_set] at hz
    exact hc.fresh z hz
  · exact {
      dat := rfl
      labk := hc.labk
      labm := hc.labm
      row := by rw [List.getElem?_set_ne (by omega), List.getElem?_set_ne (by omega)]; exact hc.stk
      map := List.getElem?_set_self (by rw [List.length_set]; omega)
      len := by rw [List.length_map]; exact hst.len
      leg := fun i id x hx => by
        obtain ⟨pp, h1, -⟩ := hst.leg i id x hx
        obtain ⟨p', e1, e2⟩ := hc.leg _ (hperm.mem_iff.2 (List.mem_of_getElem? h1)) i id x hx rfl
        refine ⟨p', by rw [List.getElem?_map, h1, Option.map_some]; dsimp only at e1 ⊢; rw [e1], e2.keep' fun z ob hz hl => ?_⟩
        have hzS : z ≠ S.length := by
          rintro rfl
          rw [hc.labm] at hl
          rcases hl with hl | hl | ⟨j, hl⟩ <;> simp at hl
        have hzm : z ≠ m := by
          rintro rfl
          rw [hc.labs _ hmS, hst.labm] at hl
          rcases hl with hl | hl | ⟨j, hl⟩ <;> simp at hl
        rw [List.getElem?_set_ne (Ne.symm hzS), List.getElem?_set_ne (Ne.symm hzm)]
        exact ⟨hz, rfl⟩ }
  · refine ⟨by rw [List.length_set, List.length_set]; omega, fun z hz => ?_, hc.labs, fun x hx _ => ?_⟩
    · rw [List.length_set, List.length_set] at hz
      exact hc.fresh z hz
    · rw [List.getElem?_set_ne (by omega)]
      by_cases e : x = m
      · subst e
        rw [List.getElem?_set_self (by omega), hst.map]
      · rw [List.getElem?_set_ne (Ne.symm e), List.getElem?_eq_getElem hx]
        exact hc.keep x _ e (List.getElem?_eq_getElem hx)
end Go.Proofs.YtajhgnefcddenaaGreatDoor.Dm
