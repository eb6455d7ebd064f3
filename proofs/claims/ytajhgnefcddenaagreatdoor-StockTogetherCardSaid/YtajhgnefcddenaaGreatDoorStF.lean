/-
  The walk of StockCopies.
-/
import Derived.Test.YtajhgnefcddenaaGreatDoorStB
import Derived.Test.YtajhgnefcddenaaGreatDoorStC
import Derived.Test.YtajhgnefcddenaaGreatDoorSkY
import Derived.Test.YtajhgnefcddenaaGreatDoorSlU
namespace Go.Proofs.YtajhgnefcddenaaGreatDoor.Dm
open Go Gw Go.RowKit
set_option linter.unusedSimpArgs false
set_option linter.unusedSimpArgs false

section
variable {S : List Ob} {lab : Lab} {o o2 k r n : Nat} {s : Stk}
set_option maxHeartbeats 16000000 in
set_option maxRecDepth 100000 in
theorem alike_d (hn : 1100 ≤ n) (hs : SAt S lab o k s) (hr : SAt S lab o2 r s) (ok : StkOk 9999 s) (h12 : s.legs.length ≤ 12) :
    WO (dcall E (n + 1) 36 [.loc k 0 0, .loc r 0 0] S) fun d T => d = .bool true ∧ ExtS S T := by
  refine wo_dcall Tryz.func36 rfl (by decide) rfl 71 rfl (fun a hal ha => ?_)
  have h0 : a[0]? = some (.loc k 0 0) := ha 0 (by simp)
  have h1 : a[1]? = some (.loc r 0 0) := ha 1 (by simp)
  clear ha
  simp (maxSteps := 1000000) (disch := omega) only [push_cast, ↓wc_seq, ↓wc_block, ↓wc_region, ↓wr_cons, ↓wr_nil, ↓wc_wl, wo_some, opQ_eq, seqQ_normal, Nat.reduceAdd, Nat.reduceMul, ↓reduceIte, planIds, List.contains_cons, List.contains_nil, Nat.reduceBEq, Nat.zero_add]
  refine wl_loop (fun j a T => a.length = 71 ∧ a[0]? = some (.loc k 0 0) ∧ a[1]? = some (.loc r 0 0) ∧ a[5]? = some (.int .u8 j) ∧ ExtS S T) 6 ?_ (by omega) ?_
  · simp (maxSteps := 1000000) (disch := omega) only [push_cast, Nat.reduceLT, Nat.reduceEqDiff, ↓reduceIte, setC, List.length_set, reduceCtorEq, eq_self, hal, h0, h1, Int.natCast_zero]
    exact ExtS.refl
  clear hal h0 h1 a
  rintro j a T hj ⟨hal, h0, h1, h5, hx⟩
  rcases Nat.lt_or_eq_of_le hj with hlj | rfl
  case inr =>
    have c1 := SLegs_c (n := n) (by omega) (hs.ext hx) h12
    have c2 := SLegs_c (n := n) (by omega) (hr.ext hx) h12
    have c3 := sameIds_c (n := n) (by omega) (by rw [Lg.sortL_len, List.length_map]; omega) (legsD_ls T (s.legs.map (·.1))) (legsD_ls T (s.legs.map (·.1)))
    simp (maxSteps := 1000000) (disch := omega) only [push_cast, ↓wc_seq, ↓wc_condL, ↓wc_region, ↓wr_cons, ↓wr_nil, ↓wo_callf, ↓wc_exit, ↓wc_ret, wo_some, opQ_eq, seqQ_normal, seqQ_exit, blockQ_exit, iterQ_exit, retQ_ret, pickC_false, Nat.reduceAdd, Nat.reduceMul, Nat.reduceLT, Nat.reduceEqDiff, Int.reduceLT, ↓reduceIte, planIds, hasExt, cntFs, idxFs, clnFs, ovlFs, List.contains_cons, List.contains_nil, List.any_cons, List.any_nil, Nat.reduceBEq, setC, List.length_set, reduceCtorEq, eq_self, Nat.zero_add, hal, h0, h1, h5, Int.cast_ofNat_Int, c1, c2, c3, Tryz.f36]
    exact hx
  have hljc : (j : Int) < 6 := by omega
  have ci := Id_c (n := n) (k := j) (by omega) (by omega)
  obtain ⟨id, hid⟩ : ∃ id, id = idF j := ⟨_, rfl⟩
  have hio : id.Ok := by rw [hid]; exact idF_ok j
  rw [← hid] at ci
  obtain ⟨hf, m, ps, hst⟩ := hs.ext hx
  obtain ⟨-, m2, ps2, hrt⟩ := hr.ext hx
  have c1 := Equip_c (n := n) (by omega) hst hio
  have c2 := Equip_c (n := n) (by omega) hrt hio
  obtain ⟨d1, T1, c5, hg1, hx1, -⟩ := Counts_c (n := n) (by omega) hst ok hio
  obtain ⟨d2, T2, c6, hg2, hx2, -⟩ := Counts_c (n := n) (by omega) (hrt.keep (KeepO.ext hx1)) ok hio
  have c7 := sameCounts_c (n := n) (by omega) (counts_len ok id) (hg1.ls.ext hx2) hg2.ls
  simp only [Lid.enc] at ci c1 c2 c5 c6
  obtain ⟨e, he⟩ : ∃ e : ByteArray × Bool, equipD (s.equip id) = .tup [.str e.1, .bool e.2] := by
    cases s.equip id <;> exact ⟨(_, _), rfl⟩
  rw [he] at c1 c2
  have hx3 : ExtS T T2 := hx1.trans hx2
  simp (maxSteps := 1000000) (disch := omega) only [push_cast, ↓wc_seq, ↓wc_block, ↓wc_condL, ↓wc_region, ↓wr_cons, ↓wr_consgL, ↓wr_nil, ↓wo_pickL, ↓wo_callf, ↓wc_skip, ↓wc_wl, wo_some, opQ_eq, seqQ_normal, pickC_true, pickC_false, pickO_false, gstep_ff, Nat.reduceAdd, Nat.reduceMul, Nat.reduceLT, Nat.reduceEqDiff, ↓reduceIte, planIds, hasExt, cntFs, idxFs, clnFs, ovlFs, List.contains_cons, List.contains_nil, List.any_cons, List.any_nil, Nat.reduceBEq, setC, List.length_set, reduceCtorEq, eq_self, Nat.zero_add, hal, h0, h1, h5, hljc, ci, c1, c2, c5, c6, c7, dEq, dUn]
  refine wl_loop (fun c a X => a.length = 71 ∧ a[0]? = some (.loc k 0 0) ∧ a[1]? = some (.loc r 0 0) ∧ a[5]? = some (.int .u8 j) ∧ a[10]? = some (.int .u8 c) ∧ ExtS T X) 7 ?_ (by omega) ?_
  · simp (maxSteps := 1000000) (disch := omega) only [push_cast, Nat.reduceLT, Nat.reduceEqDiff, ↓reduceIte, setC, List.length_set, reduceCtorEq, eq_self, hal, h0, h1, h5, Int.natCast_zero]
    exact hx3
  clear hal h0 h1 h5 a
  clear hx3
  rintro c a X hc ⟨hal, h0, h1, h5, h10, hx3⟩
  rcases Nat.lt_or_eq_of_le hc with hlc | rfl
  case inr =>
    have w8 := wrap_u8 (k := j + 1) (by omega)
    simp only [Int.natCast_add, Int.natCast_one] at w8
    simp (maxSteps := 1000000) (disch := omega) only [push_cast, ↓wc_seq, ↓wc_condL, ↓wc_region, ↓wr_cons, ↓wr_nil, ↓wc_exit, wo_some, opQ_eq, seqQ_normal, seqQ_exit, blockQ_normal, blockQ_exit, iterQ_normal, iterQ_exit, pickC_false, Nat.reduceAdd, Nat.reduceMul, Nat.reduceLT, Nat.reduceEqDiff, Int.reduceLT, ↓reduceIte, planIds, List.contains_cons, List.contains_nil, Nat.reduceBEq, setC, List.length_set, reduceCtorEq, eq_self, Nat.zero_add, hal, h0, h1, h5, h10, hlj, Int.cast_ofNat_Int, w8, Int.natCast_add]
    exact hx.trans hx3
  have hlcc : (c : Int) < 7 := by omega
  obtain ⟨cl, hcl⟩ : ∃ cl, cl = clsN c := ⟨_, rfl⟩
  have cc := Class_c (n := n) (k := c) (by omega) (by omega)
  rw [← hcl] at cc
  have l1 := Left_c (n := n) (by omega) (hst.keep (KeepO.ext hx3)) ok hio cl
  have l2 := Left_c (n := n) (by omega) (hrt.keep (KeepO.ext hx3)) ok hio cl
  have w8 := wrap_u8 (k := c + 1) (by omega)
  simp only [Int.natCast_add, Int.natCast_one] at w8
  simp only [Lid.enc] at l1 l2
  simp (maxSteps := 1000000) (disch := omega) only [push_cast, ↓wc_seq, ↓wc_block, ↓wc_condL, ↓wc_region, ↓wr_cons, ↓wr_nil, ↓wo_callf, ↓wc_skip, wo_some, opQ_eq, seqQ_normal, blockQ_normal, iterQ_normal, pickC_true, pickC_false, int_bne, Nat.reduceAdd, Nat.reduceMul, Nat.reduceLT, Nat.reduceEqDiff, ↓reduceIte, planIds, hasExt, cntFs, idxFs, clnFs, ovlFs, List.contains_cons, List.contains_nil, List.any_cons, List.any_nil, Nat.reduceBEq, setC, List.length_set, reduceCtorEq, eq_self, Nat.zero_add, not_true_eq_false, hal, h0, h1, h5, h10, hlc, hlcc, ci, cc, l1, l2, w8, Int.natCast_add, Int.natCast_one]
  exact hx3
theorem alike_c (hn : 1110 ≤ n) (hs : SAt S lab o k s) (hr : SAt S lab o2 r s) (ok : StkOk 9999 s) (h12 : s.legs.length ≤ 12) (st : Bool) :
    callD E (dcall E n) st S 36 [.loc k 0 0, .loc r 0 0] = some (.bool true, S) := by
  obtain ⟨q, rfl⟩ : ∃ q, n = q + 1 := ⟨n - 1, by omega⟩
  obtain ⟨_, T, ho, rfl, hx⟩ := alike_d (n := q) (by omega) hs hr ok h12
  exact callD_obsS rfl rfl ho hx rfl
end
theorem MW.callf_k {k : Nat} {i : Nat} {ops : Array Oper} {post : List Oper} {oc : Oper} {g : FuncId} {args : Array Operand} {tys : Array TypeId} {t : Nat} {call : Call} (hC : CallOk E call) (hops : ops.toList.drop k = oc :: post) (hop : oc.op = .call { callee := .value (.func g), args := args, argTypes := tys }) (hg : oc.guard = none) (hd : oc.dst = some t)
    {act : List D} {S : List Ob} {R : D → List Ob → Prop} {Q : DX → List D → List Ob → Prop}
    (h : WR (runD E call false ops (ops.toList.take k) act S) fun a1 S1 => CallsR E g (args.toList.map (evD E a1)) S1 R ∧ ∀ d T, R d T → WR (runD E call false ops post (a1.set t d) T) fun a2 T2 => Q .normal a2 T2) :
    MW E (.region i ops false) Q act S := MW.callf envOk hC (pre := ops.toList.take k) (by rw [← hops, List.take_append_drop]) hop hg hd h
/-- A piece of a law: the rest goes on, or the law ends there with true. -/
def RetQ (P : List D → List Ob → Prop) : PostX := fun r a T => (r = .normal ∧ P a T) ∨ (r = .ret ∧ a[6]? = some (.bool true))
theorem RetQ_ret {P : List D → List Ob → Prop} {a : List D} {T : List Ob} : RetQ P .ret a T = (a[6]? = some (.bool true)) := by simp [RetQ]
theorem RetQ_normal {P : List D → List Ob → Prop} {a : List D} {T : List Ob} : RetQ P .normal a T = P a T := by simp [RetQ]
theorem MW.cutR {x y : Code} {act : List D} {S : List Ob} {Q : DX → List D → List Ob → Prop} {n : Nat} {call : Call} (hC : CallOk E call) (P : List D → List Ob → Prop) (hl : linC E x = true) (h : WC (codeD E call n x act S) (RetQ P)) (hr : ∀ a T, a[6]? = some (.bool true) → Q .ret a T) (k : ∀ a T, P a T → MW E y Q a T) : MW E (.seq x y) Q act S := by
  refine MW.seq (MW.wc envOk hC hl (wc_mono h ?_))
  rintro r a T (⟨rfl, hp⟩ | ⟨rfl, ht⟩)
  · exact k a T hp
  · exact hr a T ht
theorem lin_seq {x y : Code} (h : linC E (.seq x y) = true) : linC E x = true ∧ linC E y = true := by
  have h' : (linC E x && linC E y) = true := h
  rwa [Bool.and_eq_true] at h'
theorem mw_gen {P : List D → Prop} {c : Code} {Q : DX → List D → List Ob → Prop} {b : List D} {V : List Ob} (h : P b) (k : ∀ a, P a → MW E c Q a V) : MW E c Q b V := k b h
/-- How a law ends. -/
def EndQ (f : Func) : DX → List D → List Ob → Prop := fun e act T => (e = .normal ∨ e = .ret) ∧ ∃ ds, resD E.P act T f.results.toList = some ds ∧ tupD ds = .bool true
theorem end_ret {f : Func} (hr : f.results = #[.tmp 6]) {a : List D} {T : List Ob} (h : a[6]? = some (.bool true)) : EndQ f .ret a T := by
  refine ⟨.inr rfl, [.bool true], ?_, rfl⟩
  rw [hr]
  simp [resD, h]
/-- A law in which a copy is made: from what its code comes to. -/
theorem true_of_mw {f : FuncId} {fn : Func} {c : Code} (hf : Tryz.prog.funcs[f]? = some fn) (hb : fn.body = some c) {args : List D} (h : MW E c (EndQ fn) (args ++ List.replicate (fn.ntmps - args.length) (.tup [])) [])
    {W : World} {I : Nat → Prop} {vargs : Array Value} (hI : ∀ g, I g → g < W.heap.size) (hv : VRs W ⟨Tryz.prog, fun _ => none, I⟩ args vargs.toList) :
    Calls Tryz.prog f vargs W fun e W' => e = .returned (.bool true) ∧ Below W.heap.size W W' := by
  have hs0 : SR W ⟨Tryz.prog, fun _ => none, I⟩ [] := ⟨fun k ob hk => (by simp at hk), fun k x hx => (by cases hx), fun k k' ob ob' x x' hk => (by simp at hk), hI⟩
  refine (calls_of_mw (E := E) envOk (R := fun d _ => d = .bool true) hf hb h hs0 rfl (fun g cs hg => by cases hg) hv).mono ?_
  rintro e W' ⟨v, C', d, T, rfl, rfl, hr, hs, hfr⟩
  cases hr
  refine ⟨rfl, ⟨hfr.os, hfr.tape, hfr.output, hfr.size, fun k hk => hfr.keep k hk ?_⟩⟩
  rintro ⟨i, o, s, t, T', h1, -⟩
  simp at h1
set_option maxHeartbeats 32000000 in
set_option maxRecDepth 100000 in
theorem StockCopies_mw {n : Nat} (hn : 1300 ≤ n) {l : List Cfg} {acts more : List Cal} {lx ax mx : Bool} (hz : ∀ c ∈ l, CfgZ (n - 3) c) (hacts : ∀ a ∈ acts, a.Ok) (hmore : ∀ a ∈ more, a.Ok) {a : List D}
    (hal : a.length = 88) (h0 : a[0]? = some (.sl 2 (l.map Cfg.enc) lx)) (h1 : a[1]? = some (.sl 6 (acts.map Cal.enc) ax)) (h2 : a[2]? = some (.sl 6 (more.map Cal.enc) mx)) {c : Code} (hb : Tryz.f7.body = some c) (hl : linC E c = true) :
    MW E c (EndQ Tryz.f7) a [] := by
  have hC : CallOk E (dcall E n) := dcall_ok envOk n
  have cw := fun st S => awake15_c (n := n) (by omega) st S
  obtain ⟨rb, cr, hr⟩ := Right_c (n := n) (l := l) (acts := acts) (lx := lx) (ax := ax) (by omega) hz
  have hend : ∀ a T, a[6]? = some (.bool true) → EndQ Tryz.f7 .ret a T := fun a T h => end_ret rfl h
  
  cases hb
  obtain ⟨l0, hl⟩ := lin_seq hl
  refine MW.cut (n := n) envOk hC (fun a T => T = [] ∧ a.length = 88 ∧ a[0]? = some (.sl 2 (l.map Cfg.enc) lx) ∧ a[1]? = some (.sl 6 (acts.map Cal.enc) ax) ∧ a[2]? = some (.sl 6 (more.map Cal.enc) mx)) l0 ?_ ?_
  · simp (maxSteps := 1000000) (disch := omega) only [push_cast, ↓wc_region, ↓wr_cons, ↓wr_nil, wo_some, opQ_eq, Nat.reduceAdd, Nat.reduceMul, Nat.reduceEqDiff, ↓reduceIte, planIds, List.contains_cons, List.contains_nil, Nat.reduceBEq, setC, List.length_set, reduceCtorEq, eq_self, Nat.zero_add, hal, h0, h1, h2]
  clear hal h0 h1 h2 a
  rintro a T ⟨rfl, hal, h0, h1, h2⟩
  obtain ⟨l1, hl⟩ := lin_seq hl
  refine MW.cutR (n := n) hC (fun a T => (rb = true ∧ more.length ≤ 20) ∧ T = [] ∧ a.length = 88 ∧ a[0]? = some (.sl 2 (l.map Cfg.enc) lx) ∧ a[1]? = some (.sl 6 (acts.map Cal.enc) ax) ∧ a[2]? = some (.sl 6 (more.map Cal.enc) mx)) l1 ?_ hend ?_
  · cases rb
    · simp (maxSteps := 1000000) (disch := omega) only [push_cast, ↓wc_seq, ↓wc_condL, ↓wc_region, ↓wr_cons, ↓wr_consgL, ↓wr_nil, ↓wo_pickL, ↓wo_callf, ↓wc_ret, wo_some, opQ_eq, seqQ_normal, pickC_true, pickO_true, gstep_tf, Nat.reduceAdd, Nat.reduceMul, Nat.reduceLT, Nat.reduceEqDiff, ↓reduceIte, planIds, hasExt, cntFs, idxFs, clnFs, ovlFs, List.contains_cons, List.contains_nil, List.any_cons, List.any_nil, Nat.reduceBEq, setC, List.length_set, eq_self, Nat.zero_add, hal, h0, h1, cr, cw, dUn, RetQ_ret]
    by_cases hm : more.length ≤ 20
    · have hm' : ¬ (20 : Int) < more.length := by omega
      simp (maxSteps := 1000000) (disch := omega) only [push_cast, ↓wc_seq, ↓wc_condL, ↓wc_region, ↓wr_cons, ↓wr_consgL, ↓wr_nil, ↓wo_pickL, ↓wo_callf, ↓wc_skip, wo_some, opQ_eq, seqQ_normal, pickC_false, pickO_false, gstep_ff, Nat.reduceAdd, Nat.reduceMul, Nat.reduceLT, Nat.reduceEqDiff, ↓reduceIte, planIds, hasExt, cntFs, idxFs, clnFs, ovlFs, List.contains_cons, List.contains_nil, List.any_cons, List.any_nil, Nat.reduceBEq, setC, List.length_set, reduceCtorEq, eq_self, Nat.zero_add, gt_iff_lt, hal, h0, h1, h2, cr, dUn, hm, hm', RetQ_normal, List.length_map]
    · have hm' : (20 : Int) < more.length := by omega
      simp (maxSteps := 1000000) (disch := omega) only [push_cast, ↓wc_seq, ↓wc_condL, ↓wc_region, ↓wr_cons, ↓wr_consgL, ↓wr_nil, ↓wo_pickL, ↓wo_callf, ↓wc_ret, wo_some, opQ_eq, seqQ_normal, pickC_true, pickO_false, gstep_ff, Nat.reduceAdd, Nat.reduceMul, Nat.reduceLT, Nat.reduceEqDiff, ↓reduceIte, planIds, hasExt, cntFs, idxFs, clnFs, ovlFs, List.contains_cons, List.contains_nil, List.any_cons, List.any_nil, Nat.reduceBEq, setC, List.length_set, eq_self, Nat.zero_add, gt_iff_lt, hal, h0, h1, h2, cr, cw, dUn, hm', RetQ_ret, List.length_map]
  clear hal h0 h1 h2 a
  rintro a T ⟨⟨hrb, hm20⟩, rfl, hal, h0, h1, h2⟩
  subst hrb
  obtain ⟨hr1, hr2, hr3⟩ := hr rfl
  have hg := good_of (n := n - 2) (by omega) hr3 (fun c hc => hz c hc)
  obtain ⟨T1, lab1, p, cp, hs, hok, -⟩ := Played_c (S := []) (lab := fun _ => []) (o := 1) (n := n) (lx := lx) (ax := ax) (by omega) hg (fun _ _ => rfl) hr2 hacts
  obtain ⟨T2, lab2, u, cu, hu, -, st2⟩ := Played_c (S := T1) (lab := lab1) (o := 3) (n := n) (lx := lx) (ax := ax) (by omega) hg hs.1 hr2 hacts
  have hs2 := hs.other st2 (by omega)
  obtain ⟨pl, px⟩ := playF_l ⟨l, lx, []⟩ acts
  have hsix : SixOk (playF ⟨l, lx, []⟩ acts) := playF_six fun id hid => by simp at hid
  have h80 : Ok80 (0 + acts.length) (playF ⟨l, lx, []⟩ acts) := playF_ok80 (ok80_nil hg.ok) (by omega) hacts
  rw [Nat.zero_add] at h80
  generalize playF ⟨l, lx, []⟩ acts = s at *
  dsimp only at pl px
  obtain ⟨l2, hl⟩ := lin_seq hl
  refine MW.cut (n := n) envOk hC (fun a T => T = T1 ∧ a.length = 88 ∧ a[0]? = some (.sl 2 (l.map Cfg.enc) lx) ∧ a[1]? = some (.sl 6 (acts.map Cal.enc) ax) ∧ a[2]? = some (.sl 6 (more.map Cal.enc) mx) ∧ a[7]? = some (.loc p 0 0) ∧ a[8]? = some (.bool true)) l2 ?_ ?_
  · simp (maxSteps := 1000000) (disch := omega) only [push_cast, ↓wc_region, ↓wr_cons, ↓wr_nil, ↓wo_callf, wo_some, opQ_eq, Nat.reduceAdd, Nat.reduceMul, Nat.reduceLT, Nat.reduceEqDiff, ↓reduceIte, planIds, hasExt, cntFs, idxFs, clnFs, ovlFs, List.contains_cons, List.contains_nil, List.any_cons, List.any_nil, Nat.reduceBEq, setC, List.length_set, reduceCtorEq, eq_self, Nat.zero_add, hal, h0, h1, h2, cp]
  clear hal h0 h1 h2 a
  rintro a T ⟨rfl, hal, h0, h1, h2, h7, h8⟩
  obtain ⟨l3, hl⟩ := lin_seq hl
  refine MW.cut (n := n) envOk hC (fun a T => T = T2 ∧ a.length = 88 ∧ a[0]? = some (.sl 2 (l.map Cfg.enc) lx) ∧ a[2]? = some (.sl 6 (more.map Cal.enc) mx) ∧ a[7]? = some (.loc p 0 0) ∧ a[8]? = some (.bool true) ∧ a[9]? = some (.loc u 0 0) ∧ a[10]? = some (.bool true)) l3 ?_ ?_
  · simp (maxSteps := 1000000) (disch := omega) only [push_cast, ↓wc_region, ↓wr_cons, ↓wr_nil, ↓wo_callf, wo_some, opQ_eq, Nat.reduceAdd, Nat.reduceMul, Nat.reduceLT, Nat.reduceEqDiff, ↓reduceIte, planIds, hasExt, cntFs, idxFs, clnFs, ovlFs, List.contains_cons, List.contains_nil, List.any_cons, List.any_nil, Nat.reduceBEq, setC, List.length_set, reduceCtorEq, eq_self, Nat.zero_add, hal, h0, h1, h2, h7, h8, cu]
  clear hal h0 h1 h2 h7 h8 a
  rintro a T ⟨rfl, hal, h0, h2, h7, h8, h9, h10⟩
  obtain ⟨l4, hl⟩ := lin_seq hl
  refine MW.cut (n := n) envOk hC (fun a U => U = T ∧ a.length = 88 ∧ a[0]? = some (.sl 2 (l.map Cfg.enc) lx) ∧ a[2]? = some (.sl 6 (more.map Cal.enc) mx) ∧ a[7]? = some (.loc p 0 0) ∧ a[9]? = some (.loc u 0 0)) l4 ?_ ?_
  · simp (maxSteps := 1000000) (disch := omega) only [push_cast, ↓wc_seq, ↓wc_condL, ↓wc_region, ↓wr_cons, ↓wr_consgL, ↓wr_nil, ↓wo_pickL, ↓wc_skip, wo_some, opQ_eq, seqQ_normal, pickC_false, pickO_false, gstep_ff, Nat.reduceAdd, Nat.reduceMul, Nat.reduceLT, Nat.reduceEqDiff, ↓reduceIte, planIds, List.contains_cons, List.contains_nil, Nat.reduceBEq, setC, List.length_set, reduceCtorEq, eq_self, Nat.zero_add, hal, h0, h2, h7, h8, h9, h10, dUn]
  clear hal h0 h2 h7 h8 h9 h10 a
  rintro a T ⟨rfl, hal, h0, h2, h7, h9⟩
  obtain ⟨l5, hl⟩ := lin_seq hl
  have ok9 : StkOk 9999 s := hok.mono (by omega)
  refine MW.seq (MW.callf_k (k := 1) hC rfl rfl rfl rfl (R := fun d V => d = .loc (T.length + 1) 0 0 ∧ ∃ lab', SAt V lab' 2 (T.length + 1) s ∧ Step 2 T lab2 V lab') ?_)
  simp only [List.take_succ_cons, List.take_zero]
  simp (maxSteps := 1000000) (disch := omega) only [push_cast, ↓wr_cons, ↓wr_nil, wo_some, opQ_eq, Nat.reduceLT, ↓reduceIte, setC, List.length_set, eq_self, hal, h7]
  refine ⟨Copy_calls hs2 ok9, ?_⟩
  rintro d V ⟨rfl, lab3, ht, st3⟩
  have hs3 := hs2.other st3 (by omega)
  have hu3 := hu.other st3 (by omega)
  generalize T.length + 1 = q at *
  show MW E _ _ _ _
  refine mw_gen (P := fun a => a.length = 88 ∧ a[0]? = some (.sl 2 (l.map Cfg.enc) lx) ∧ a[2]? = some (.sl 6 (more.map Cal.enc) mx) ∧ a[7]? = some (.loc p 0 0) ∧ a[9]? = some (.loc u 0 0) ∧ a[11]? = some (.loc q 0 0)) (by simp (maxSteps := 1000000) (disch := omega) only [push_cast, Nat.reduceLT, Nat.reduceEqDiff, ↓reduceIte, setC, List.length_set, reduceCtorEq, eq_self, hal, h0, h2, h7, h9]) ?_
  clear hal h0 h2 h7 h9 a
  rintro a ⟨hal, h0, h2, h7, h9, h11⟩
  refine MW.wc (n := n) envOk hC hl ?_
  have ca := alike_c (n := n) (by omega) hs3 ht ok9 (by have := hsix.le ok9; omega)
  simp (maxSteps := 1000000) (disch := omega) only [push_cast, ↓wc_seq, ↓wc_block, ↓wc_condL, ↓wc_region, ↓wr_cons, ↓wr_consgL, ↓wr_nil, ↓wo_pickL, ↓wo_callf, ↓wc_skip, ↓wc_wl, wo_some, opQ_eq, seqQ_normal, pickC_false, pickO_false, gstep_ff, Nat.reduceAdd, Nat.reduceMul, Nat.reduceLT, Nat.reduceEqDiff, ↓reduceIte, planIds, hasExt, cntFs, idxFs, clnFs, ovlFs, List.contains_cons, List.contains_nil, List.any_cons, List.any_nil, Nat.reduceBEq, setC, List.length_set, eq_self, Nat.zero_add, hal, h7, h11, ca, eqp_stk, dUn]
  refine wl_loop (fun i a T => a.length = 88 ∧ a[0]? = some (.sl 2 (l.map Cfg.enc) lx) ∧ a[2]? = some (.sl 6 (more.map Cal.enc) mx) ∧ a[7]? = some (.loc p 0 0) ∧ a[9]? = some (.loc u 0 0) ∧ a[11]? = some (.loc q 0 0) ∧ a[12]? = some (.int .i64 i) ∧ ∃ lab', SAt T lab' 1 p (playF s (more.take i)) ∧ SAt T lab' 3 u s ∧ SAt T lab' 2 q s ∧ Ok80 (acts.length + i) (playF s (more.take i))) more.length ?_ (by omega) ?_
  · simp (maxSteps := 1000000) (disch := omega) only [push_cast, Nat.reduceLT, Nat.reduceEqDiff, ↓reduceIte, setC, List.length_set, reduceCtorEq, eq_self, Nat.add_zero, hal, h0, h2, h7, h9, h11, Int.natCast_zero, List.take_zero]
    exact ⟨lab3, hs3, hu3, ht, h80⟩
  clear hal h0 h2 h7 h9 h11 a
  rintro i a T' hi ⟨hal, h0, h2, h7, h9, h11, h12, lab4, w1, w3, w2, wok⟩
  rcases Nat.lt_or_eq_of_le hi with hlt | rfl
  case inl =>
    have hltc : (i : Int) < more.length := by omega
    obtain ⟨c, hc⟩ : ∃ c, more[i]? = some c := ⟨more[i], by simp⟩
    have hco := hmore c (List.mem_of_getElem? hc)
    obtain ⟨ql, qx⟩ := playF_l s (more.take i)
    have hll : (playF s (more.take i)).l.length ≤ 100 := by rw [ql, pl]; omega
    obtain ⟨T3, lab5, cd, g1, st4⟩ := Do_c (n := n) (lx := lx) (by omega) w1 wok.ok hll hco
    have g3 := w3.other st4 (by omega)
    have g2 := w2.other st4 (by omega)
    have gok := ok80_step wok (by omega) hco
    rw [← playF_succ hc] at g1 gok
    rw [ql, pl] at cd
    simp only [Cal.enc] at cd
    simp (maxSteps := 1000000) (disch := omega) only [push_cast, ↓wc_seq, ↓wc_block, ↓wc_condL, ↓wc_region, ↓wr_cons, ↓wr_nil, ↓wo_callf, ↓wc_skip, wo_some, opQ_eq, seqQ_normal, blockQ_normal, iterQ_normal, pickC_true, Nat.reduceAdd, Nat.reduceMul, Nat.reduceLT, Nat.reduceLeDiff, Nat.reduceEqDiff, ↓reduceIte, planIds, hasExt, cntFs, idxFs, clnFs, ovlFs, List.contains_cons, List.contains_nil, List.any_cons, List.any_nil, Nat.reduceBEq, setC, List.length_set, reduceCtorEq, eq_self, Int.natCast_nonneg, Int.toNat_natCast, Nat.zero_add, hal, h0, h2, h7, h9, h11, h12, hlt, hltc, hc, cd, List.length_map, List.getElem?_map, Cal.enc, wrap_ok, Int.natCast_add, Int.natCast_one]
    exact ⟨lab5, g1, g3, g2, by rw [← Nat.add_assoc]; exact gok⟩
  rw [List.take_length] at w1 wok
  have ok1 : StkOk 9999 (playF s more) := wok.ok
  have six1 : SixOk (playF s more) := playF_six hsix
  have c2 := alike_c (n := n) (by omega) w2 w3 ok9 (by have := hsix.le ok9; omega)
  simp (maxSteps := 1000000) (disch := omega) only [push_cast, ↓wc_seq, ↓wc_block, ↓wc_condL, ↓wc_region, ↓wr_cons, ↓wr_nil, ↓wo_callf, ↓wc_exit, ↓wc_skip, ↓wc_wl, wo_some, opQ_eq, seqQ_normal, seqQ_exit, blockQ_exit, iterQ_exit, pickC_false, Nat.reduceAdd, Nat.reduceMul, Nat.reduceLT, Nat.reduceEqDiff, ↓reduceIte, planIds, hasExt, cntFs, idxFs, clnFs, ovlFs, List.contains_cons, List.contains_nil, List.any_cons, List.any_nil, Nat.reduceBEq, setC, List.length_set, eq_self, Nat.zero_add, hal, h2, h9, h11, h12, c2, dUn, Int.lt_irrefl, List.length_map]
  refine wl_loop (fun i a T => a.length = 88 ∧ a[0]? = some (.sl 2 (l.map Cfg.enc) lx) ∧ a[2]? = some (.sl 6 (more.map Cal.enc) mx) ∧ a[7]? = some (.loc p 0 0) ∧ a[11]? = some (.loc q 0 0) ∧ a[13]? = some (.int .i64 i) ∧ ∃ lab', SAt T lab' 1 p (playF s more) ∧ SAt T lab' 2 q (playF s (more.take i)) ∧ Ok80 (acts.length + i) (playF s (more.take i))) more.length ?_ (by omega) ?_
  · simp (maxSteps := 1000000) (disch := omega) only [push_cast, Nat.reduceLT, Nat.reduceEqDiff, ↓reduceIte, setC, List.length_set, reduceCtorEq, eq_self, Nat.add_zero, hal, h0, h2, h7, h11, Int.natCast_zero, List.take_zero]
    exact ⟨lab4, w1, w2, h80⟩
  clear hal h0 h2 h7 h9 h11 h12 a
  clear w1 w2 w3 wok
  rintro i a T2' hi ⟨hal, h0, h2, h7, h11, h13, lab6, w1, w2, wok⟩
  rcases Nat.lt_or_eq_of_le hi with hlt | rfl
  case inl =>
    have hltc : (i : Int) < more.length := by omega
    obtain ⟨c, hc⟩ : ∃ c, more[i]? = some c := ⟨more[i], by simp⟩
    have hco := hmore c (List.mem_of_getElem? hc)
    obtain ⟨ql, qx⟩ := playF_l s (more.take i)
    have hll : (playF s (more.take i)).l.length ≤ 100 := by rw [ql, pl]; omega
    obtain ⟨T3, lab5, cd, g2, st4⟩ := Do_c (n := n) (lx := lx) (by omega) w2 wok.ok hll hco
    have g1 := w1.other st4 (by omega)
    have gok := ok80_step wok (by omega) hco
    rw [← playF_succ hc] at g2 gok
    rw [ql, pl] at cd
    simp only [Cal.enc] at cd
    simp (maxSteps := 1000000) (disch := omega) only [push_cast, ↓wc_seq, ↓wc_block, ↓wc_condL, ↓wc_region, ↓wr_cons, ↓wr_nil, ↓wo_callf, ↓wc_skip, wo_some, opQ_eq, seqQ_normal, blockQ_normal, iterQ_normal, pickC_true, Nat.reduceAdd, Nat.reduceMul, Nat.reduceLT, Nat.reduceLeDiff, Nat.reduceEqDiff, ↓reduceIte, planIds, hasExt, cntFs, idxFs, clnFs, ovlFs, List.contains_cons, List.contains_nil, List.any_cons, List.any_nil, Nat.reduceBEq, setC, List.length_set, reduceCtorEq, eq_self, Int.natCast_nonneg, Int.toNat_natCast, Nat.zero_add, hal, h0, h2, h7, h11, h13, hlt, hltc, hc, cd, List.length_map, List.getElem?_map, Cal.enc, wrap_ok, Int.natCast_add, Int.natCast_one]
    exact ⟨lab5, g1, g2, by rw [← Nat.add_assoc]; exact gok⟩
  rw [List.take_length] at w2
  have c3 := alike_c (n := n) (by omega) w1 w2 ok1 (by have := six1.le ok1; omega)
  simp (maxSteps := 1000000) (disch := omega) only [push_cast, ↓wc_seq, ↓wc_condL, ↓wc_region, ↓wr_cons, ↓wr_consgL, ↓wr_nil, ↓wo_pickL, ↓wo_callf, ↓wc_exit, ↓wc_ret, wo_some, opQ_eq, seqQ_normal, seqQ_exit, blockQ_exit, iterQ_exit, pickC_false, pickO_true, gstep_tt, Nat.reduceAdd, Nat.reduceMul, Nat.reduceLT, Nat.reduceEqDiff, ↓reduceIte, planIds, hasExt, cntFs, idxFs, clnFs, ovlFs, List.contains_cons, List.contains_nil, List.any_cons, List.any_nil, Nat.reduceBEq, setC, List.length_set, eq_self, Nat.zero_add, hal, h2, h7, h11, h13, c3, cw, Int.lt_irrefl, List.length_map]
  exact hend _ _ (by simp (maxSteps := 1000000) (disch := omega) only [push_cast, Nat.reduceLT, ↓reduceIte, setC, List.length_set, eq_self, hal])
end Go.Proofs.YtajhgnefcddenaaGreatDoor.Dm
namespace Go.Proofs.YtajhgnefcddenaaGreatDoor
open Go Go.ChangeShapes Go.WideShapes Go.ChangeAt Go.RowKit Dm
theorem StockCopies_walk {W : World} {xs : List D} {vs : Array Value} (ht : TVs Tryz.prog [22, 57, 57] xs) (hv : VRs W ⟨Tryz.prog, fun _ => none, fun g => g < W.heap.size⟩ xs vs.toList) (hp : pureL xs = true) :
    Calls Tryz.prog 7 vs W fun e W' => e = .returned (.bool true) ∧ Below W.heap.size W W' := by
  obtain ⟨d1, _, rfl, h1, ht⟩ := ht.inv
  obtain ⟨d2, _, rfl, h2, ht⟩ := ht.inv
  obtain ⟨d3, _, rfl, h3, ht⟩ := ht.inv
  have := ht.inv0
  subst this
  obtain ⟨v1, v2, v3, hvs⟩ : ∃ v1 v2 v3, vs.toList = [v1, v2, v3] := by
    have := hv.1
    match vs.toList, this with
    | [v1, v2, v3], _ => exact ⟨v1, v2, v3, rfl⟩
  rw [hvs] at hv
  have r1 := hv.head
  have r2 := hv.tail.head
  have r3 := hv.tail.tail.head
  obtain ⟨n, hn⟩ : ∃ n : Nat, 9223372036854775807 + 5000 ≤ n := ⟨_, Nat.le_refl _⟩
  obtain ⟨l, lx, z1, w1⟩ := Cfgs_front h1 hn
  obtain ⟨acts, ax, z2, w2⟩ := Acts_front h2
  obtain ⟨more, mx, z3, w3⟩ := Acts_front h3
  refine true_of_mw (args := [.sl 2 (l.map Cfg.enc) lx, .sl 6 (acts.map Cal.enc) ax, .sl 6 (more.map Cal.enc) mx]) Tryz.func7 rfl (StockCopies_mw (n := n) (l := l) (acts := acts) (more := more) (lx := lx) (ax := ax) (mx := mx) (by omega) z1 z2 z3 rfl rfl rfl rfl rfl (envOk.lin _ _ _ Tryz.func7 rfl (by decide))) (I := fun g => g < W.heap.size) (fun g h => h) ?_
  rw [hvs]
  exact VRs.cons (w1 _ _ _ r1) (VRs.cons (w2 _ _ _ r2) (VRs.cons (w3 _ _ _ r3) VRs.nil))
end Go.Proofs.YtajhgnefcddenaaGreatDoor
