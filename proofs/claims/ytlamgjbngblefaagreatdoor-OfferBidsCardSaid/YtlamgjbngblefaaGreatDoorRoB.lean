/-
  The walk of OfferOpens.
-/
import Derived.Test.YtlamgjbngblefaaGreatDoorRoA
import Derived.Test.YtlamgjbngblefaaGreatDoorSkG
namespace Go.Proofs.YtlamgjbngblefaaGreatDoor.Dm
open Go Gw
set_option linter.unusedSimpArgs false
set_option linter.unusedSimpArgs false

theorem openF_le {B : Int} {s : Stk} (h : StkOk B s) (ids : List Lid) (cl : ByteArray) : openF s ids cl ≤ 1998 := by
  unfold openF
  split
  · rcases ids with _ | ⟨id, rest⟩
    · dsimp only; omega
    · dsimp only
      have h1 := (minF_le s cl rest (s.left id cl)).1
      have h2 := left_le h id cl
      omega
  · omega
theorem legsF_ok (lu : List Nat) : (legsF lu).length ≤ 6 ∧ ∀ id ∈ legsF lu, id.Ok := by
  refine ⟨?_, fun id hid => ?_⟩
  · unfold legsF
    rw [List.length_map, List.length_take]; omega
  · obtain ⟨k, hk, rfl⟩ := List.mem_map.1 hid
    exact idF_ok k
set_option maxHeartbeats 16000000 in
set_option maxRecDepth 100000 in
theorem OfferOpens_d {n kc : Nat} (hn : 1300 ≤ n) {l : List Cfg} {acts : List Cal} {lx ax : Bool} {ld : D} {lu : List Nat} (hlu : FLs 1 encU ld lu) (hu : ∀ k ∈ lu, k ≤ 255) (hk : kc ≤ 255) (hz : ∀ c ∈ l, CfgZ (n - 5) c) (hacts : ∀ a ∈ acts, a.Ok) :
    ∃ T, dcall E (n + 1) 3 [.sl 2 (l.map Cfg.enc) lx, .sl 6 (acts.map Cal.enc) ax, ld, .int .u8 kc] [] = some (.bool true, T) := by
  have cw : ∀ st S, callD E (dcall E n) st S 14 [] = some (.bool true, S) := fun st S => by
    obtain ⟨T, hT⟩ := awake18_d
    exact callD_pure rfl rfl (dcall_le (by omega) _ _ _ _ hT) rfl
  obtain ⟨rb, cr, hr⟩ := Right_c (n := n) (l := l) (acts := acts) (lx := lx) (ax := ax) (by omega) (fun c hc => (hz c hc).mono' (by omega))
  obtain ⟨di, hdi, clg⟩ := legs_c (n := n) (by omega) hlu hu
  have cc := Class_c (n := n) (k := kc) (by omega) hk
  have : WO (dcall E (n + 1) 3 [.sl 2 (l.map Cfg.enc) lx, .sl 6 (acts.map Cal.enc) ax, ld, .int .u8 kc] []) fun r T => r = .bool true := by
    refine wo_dcall Tryz.func3 rfl (by decide) rfl 65 rfl (fun a hal ha => ?_)
    have h0 : a[0]? = some (.sl 2 (l.map Cfg.enc) lx) := ha 0 (by simp)
    have h1 : a[1]? = some (.sl 6 (acts.map Cal.enc) ax) := ha 1 (by simp)
    have h2 : a[2]? = some (ld) := ha 2 (by simp)
    have h3 : a[3]? = some (.int .u8 kc) := ha 3 (by simp)
    clear ha
    cases rb
    · simp (maxSteps := 1000000) (disch := omega) only [push_cast, ↓wc_seq, ↓wc_condL, ↓wc_region, ↓wr_cons, ↓wr_nil, ↓wo_callf, ↓wc_ret, wo_some, opQ_eq, seqQ_normal, seqQ_ret, retQ_ret, pickC_true, Nat.reduceAdd, Nat.reduceMul, Nat.reduceLT, Nat.reduceEqDiff, ↓reduceIte, planIds, hasExt, cntFs, idxFs, clnFs, ovlFs, List.contains_cons, List.contains_nil, List.any_nil, Nat.reduceBEq, setC, List.length_set, reduceCtorEq, eq_self, Nat.zero_add, planIds, hasExt, cntFs, idxFs, clnFs, ovlFs, List.contains_cons, List.contains_nil, List.any_nil, Nat.reduceBEq, Nat.reduceMul, Nat.reduceAdd, ↓reduceIte, hal, h0, h1, cr, cw, dUn, Tryz.f3]
    obtain ⟨hr1, hr2, hr3⟩ := hr rfl
    have hsm : ∀ c ∈ l, Sm c := fun c hc => ((cfgs_ok hr3).cfg c hc).sm
    obtain ⟨d, T, cb, p, r, lab, rfl, hs, hR, hok⟩ := gen_of (n := n) (by omega) rfl (built_d (n := n - 1) (lx := lx) (ax := ax) (by omega) (fun c hc => (hz c hc).mono' (by omega)) hr1 hsm hr3 hr2 hacts)
    obtain ⟨pl, px⟩ := playF_l ⟨l, lx, []⟩ acts
    have hlg : (playF ⟨l, lx, []⟩ acts).legs.length ≤ 100 := by
      have := playF_legs ⟨l, lx, []⟩ acts
      simp at this
      omega
    generalize playF ⟨l, lx, []⟩ acts = s at *
    have hls : s.l.length ≤ 100 := by rw [pl]; dsimp only; omega
    generalize clsN kc = cl at *
    obtain ⟨h6, hids⟩ := legsF_ok lu
    generalize legsF lu = ids at *
    have ok9 : StkOk 9999 s := hok.mono (by omega)
    obtain ⟨hf, m, ps, hst⟩ := id hs
    obtain ⟨-, rd, rows, hRr⟩ := id hR
    have hrl : rows.length ≤ 100 := by rw [← hRr.legs, List.length_map] at hlg; exact hlg
    have o1 := OOpen_c (n := n) (by omega) hst ok9 (by omega) hids hdi cl
    have o2 := rOOpen_c (n := n) (by omega) hRr ok9 hrl hls (by omega) hdi cl
    obtain ⟨e1, e2⟩ := opens_law s ids cl
    have e0 := openF_pos s ids cl
    have hle := openF_le ok9 ids cl
    obtain ⟨T2, lab2, s1, hs2, -⟩ := Sell_c (n := n) (ids := ids) (by omega) hs ok9 (by omega) hids hdi cl (openF s ids cl + 1)
    rw [sell_err e1] at hs2
    obtain ⟨T3, lab3, s2, hs3, -⟩ := Sell_c (n := n) (ids := ids) (by omega) hs2 ok9 (by omega) hids hdi cl (openF s ids cl)
    have hne : ¬ (s.sell ids cl (openF s ids cl + 1)).1 = 0 := e1
    by_cases hz0 : openF s ids cl = 0
    · simp only [hz0, Int.zero_add] at o1 o2 s1 hne
      simp (maxSteps := 1000000) (disch := omega) only [push_cast, ↓wc_seq, ↓wc_condL, ↓wc_region, ↓wr_cons, ↓wr_consgL, ↓wr_nil, ↓wo_pickL, ↓wo_callf, ↓wc_ret, ↓wc_skip, wo_some, opQ_eq, seqQ_normal, retQ_ret, pickC_false, pickO_true, gstep_tt, gstep_tf, int_bne, int_beq, Nat.reduceAdd, Nat.reduceMul, Nat.reduceLT, Nat.reduceEqDiff, ↓reduceIte, planIds, hasExt, cntFs, idxFs, clnFs, ovlFs, List.contains_cons, List.contains_nil, List.any_nil, Nat.reduceBEq, setC, List.length_set, reduceCtorEq, eq_self, Nat.zero_add, not_true_eq_false, planIds, hasExt, cntFs, idxFs, clnFs, ovlFs, List.contains_cons, List.contains_nil, List.any_nil, Nat.reduceBEq, Nat.reduceMul, Nat.reduceAdd, ↓reduceIte, hal, h0, h1, h2, h3, cr, cw, cb, clg, cc, o1, o2, s1, hne, Int.zero_add, wrap_ok, dUn, Tryz.f3]
    · rw [e2 hz0] at s2
      simp (maxSteps := 1000000) (disch := omega) only [push_cast, ↓wc_seq, ↓wc_condL, ↓wc_region, ↓wr_cons, ↓wr_consgL, ↓wr_nil, ↓wo_pickL, ↓wo_callf, ↓wc_ret, ↓wc_skip, wo_some, opQ_eq, seqQ_normal, retQ_ret, pickC_false, pickO_true, pickO_false, gstep_tt, gstep_ff, int_bne, int_beq, Nat.reduceAdd, Nat.reduceMul, Nat.reduceLT, Nat.reduceEqDiff, ↓reduceIte, planIds, hasExt, cntFs, idxFs, clnFs, ovlFs, List.contains_cons, List.contains_nil, List.any_nil, Nat.reduceBEq, setC, List.length_set, reduceCtorEq, eq_self, Nat.zero_add, not_true_eq_false, planIds, hasExt, cntFs, idxFs, clnFs, ovlFs, List.contains_cons, List.contains_nil, List.any_nil, Nat.reduceBEq, Nat.reduceMul, Nat.reduceAdd, ↓reduceIte, hal, h0, h1, h2, h3, cr, cw, cb, clg, cc, o1, o2, s1, s2, hne, hz0, wrap_ok, dUn, Tryz.f3]
  obtain ⟨_, T, ho, rfl⟩ := this
  exact ⟨T, ho⟩
end Go.Proofs.YtlamgjbngblefaaGreatDoor.Dm
namespace Go.Proofs.YtlamgjbngblefaaGreatDoor
open Go Go.ChangeShapes Go.WideShapes Go.ChangeAt Go.RowKit Dm
theorem OfferOpens_walk {W : World} {xs : List D} {vs : Array Value} (ht : TVs Tryz.prog [22, 23, 24, 5] xs) (hv : VRs W ⟨Tryz.prog, fun _ => none, fun g => g < W.heap.size⟩ xs vs.toList) (hp : pureL xs = true) :
    Calls Tryz.prog 3 vs W fun e W' => e = .returned (.bool true) ∧ Below W.heap.size W W' := by
  obtain ⟨d1, _, rfl, h1, ht⟩ := ht.inv
  obtain ⟨d2, _, rfl, h2, ht⟩ := ht.inv
  obtain ⟨d3, _, rfl, h3, ht⟩ := ht.inv
  obtain ⟨k, _, rfl, hk, ht⟩ := TVs.int1 Tryz.underlying5 ht
  have := ht.inv0
  subst this
  have hkb := u8_bd hk
  obtain ⟨k, rfl⟩ : ∃ n : Nat, k = n := ⟨k.toNat, by omega⟩
  obtain ⟨v1, v2, v3, v4, hvs⟩ : ∃ v1 v2 v3 v4, vs.toList = [v1, v2, v3, v4] := by
    have := hv.1
    match vs.toList, this with
    | [v1, v2, v3, v4], _ => exact ⟨v1, v2, v3, v4, rfl⟩
  rw [hvs] at hv
  have r1 := hv.head
  have r2 := hv.tail.head
  have r3 := hv.tail.tail.head
  obtain ⟨n, hn⟩ : ∃ n : Nat, 9223372036854775807 + 6000 ≤ n := ⟨_, Nat.le_refl _⟩
  obtain ⟨l, lx, z1, w1⟩ := Cfgs_front h1 (n := n - 2) (by omega)
  obtain ⟨acts, ax, z2, w2⟩ := Acts_front h2
  obtain ⟨lu, ux, ⟨z3, -⟩, w3⟩ := slices_rel (enc := encU) (n := 1) Tryz.underlying24 cells_gu8 (fun c h => U8_of h) (h3.one agg_u8s)
  obtain ⟨T, hT⟩ := OfferOpens_d (n := n) (kc := k) (lx := lx) (ax := ax) (by omega) (ld := .sl 1 (lu.map encU) ux) (.inr ⟨_, rfl⟩) z3 (by omega) (fun c hc => (z1 c hc).mono' (by omega)) z2
  refine true_of_dcall envOk (I := fun g => g < W.heap.size) hT (fun g h => h) (fun g cs hg => by cases hg) ?_
  rw [hvs]
  exact VRs.cons (w1 _ _ _ r1) (VRs.cons (w2 _ _ _ r2) (VRs.cons (w3 _ _ _ r3) hv.tail.tail.tail))
end Go.Proofs.YtlamgjbngblefaaGreatDoor
