/-
  The machine at calls of the inventory: Id, ids, equip, Class, Do.
  The machine at calls of the inventory: Do, New, Played, Right.
  WaitlistRoom's inventory as plain data: one configuration, one leg, one class.
-/
import Derived.Test.YtajhgnefcddenaaDoorSkF
import Derived.Test.YtajhgnefcddenaaDoorSkC
import Derived.Test.YtajhgnefcddenaaDoorSkQ
namespace Go.Proofs.YtajhgnefcddenaaDoor.Dm
open Go Gw
set_option linter.unusedSimpArgs false
set_option linter.unusedSimpArgs false

/-! ### Resize keeps what is sold -/
/-! ### Identifiers, classes, equipments -/
def baS : ByteArray := ByteArray.mk #[66, 65]
def afS : ByteArray := ByteArray.mk #[65, 70]
def lhrS : ByteArray := ByteArray.mk #[76, 72, 82]
def cdgS : ByteArray := ByteArray.mk #[67, 68, 71]
def jfkS : ByteArray := ByteArray.mk #[74, 70, 75]
def idF (k : Nat) : Lid := match k % 6 with
  | 0 => ⟨baS, 2, 9, lhrS⟩
  | 1 => ⟨baS, 2, 9, cdgS⟩
  | 2 => ⟨afS, 7, 9, cdgS⟩
  | 3 => ⟨baS, 2, 8, lhrS⟩
  | 4 => ⟨baS, 11, 8, lhrS⟩
  | _ => ⟨baS, 1, 9, jfkS⟩
def clsN (k : Nat) : ByteArray := match k % 7 with
  | 0 => ByteArray.mk #[89]
  | 1 => ByteArray.mk #[77]
  | 2 => ByteArray.mk #[81]
  | 3 => ByteArray.mk #[70]
  | 4 => ByteArray.mk #[89]
  | 5 => ByteArray.mk #[77]
  | _ => ByteArray.mk #[88]
def isD (o : Option (D × List Ob)) (d : D) : Bool := match o with
  | some (x, _) => beqD x d
  | none => false
/-- A call. -/
structure Cal where
  kind : Nat
  leg : Nat
  more : Nat
  eq : Nat
  cl : Nat
  n : Int
structure Cal.Ok (a : Cal) : Prop where
  kind : a.kind ≤ 255
  leg : a.leg ≤ 255
  more : a.more ≤ 255
  eq : a.eq ≤ 255
  cl : a.cl ≤ 255
  n1 : -128 ≤ a.n
  n2 : a.n ≤ 127
def Cal.enc (a : Cal) : List D := [.int .u8 a.kind, .int .u8 a.leg, .int .u8 a.more, .int .u8 a.eq, .int .u8 a.cl, .int .i8 a.n]
def idsF (a : Cal) : List Lid := if a.more % 4 = 0 then [idF a.leg, idF (a.more / 4)] else if a.more = 255 then [] else [idF a.leg]
def xxxS : ByteArray := ByteArray.mk #[88, 88, 88]
def equipF (l : List Cfg) (k : Nat) : ByteArray := if 200 ≤ k ∨ l.length = 0 then xxxS else ((l[k % l.length]?).map (·.equip)).getD xxxS
def doF (s : Stk) (a : Cal) : Int × Stk := match a.kind % 7 with
  | 0 => s.open (idF a.leg) (equipF s.l a.eq)
  | 1 => s.close (idF a.leg)
  | 5 => s.cancel (idsF a) (clsN a.cl) a.n
  | 6 => s.resize (idF a.leg) (equipF s.l a.eq)
  | _ => s.sell (idsF a) (clsN a.cl) a.n
theorem callD_gen {call : Call} {st : Bool} {S : List Ob} {f : FuncId} {args : List D} (hm : E.mode f = .gen) : callD E call st S f args = call f args S := by
  unfold callD
  rw [hm]
section
variable {S : List Ob} {lab : Lab} {o k n : Nat} {s : Stk}
theorem SOpen_c {id : Lid} (hn : 190 ≤ n) (h : SAt S lab o k s) (hs : s.l.length ≤ 100) (hc : CfgsOk s.l) (hid : id.Ok) (e : ByteArray) : ∃ T lab', (∀ st, callD E (dcall E n) st S 13 [.loc k 0 0, .agg id.enc, .str e] = some (.int .i64 (s.open id e).1, T)) ∧ SAt T lab' o k (s.open id e).2 ∧ Step o S lab T lab' := by
  obtain ⟨q, rfl⟩ : ∃ q, n = q + 1 := ⟨n - 1, by omega⟩
  obtain ⟨_, T, ho, rfl, lab', h1, h2⟩ := SOpen_d (n := q) (by omega) h hs hc hid e
  exact ⟨T, lab', fun st => (callD_gen rfl).trans ho, h1, h2⟩
theorem Sell_c {ids : List Lid} (hn : 210 ≤ n) (h : SAt S lab o k s) (ok : StkOk 9999 s) (hl : ids.length ≤ 20) (hids : ∀ id ∈ ids, id.Ok) {di : D} (hdi : FLs 4 Lid.enc di ids) (cl : ByteArray) (w : Int) : ∃ T lab', (∀ st, callD E (dcall E n) st S 14 [.loc k 0 0, di, .str cl, .int .i64 w] = some (.int .i64 (s.sell ids cl w).1, T)) ∧ SAt T lab' o k (s.sell ids cl w).2 ∧ Step o S lab T lab' := by
  obtain ⟨q, rfl⟩ : ∃ q, n = q + 1 := ⟨n - 1, by omega⟩
  obtain ⟨_, T, ho, rfl, lab', h1, h2⟩ := Sell_d (n := q) (by omega) h ok hl hids hdi cl w
  exact ⟨T, lab', fun st => (callD_gen rfl).trans ho, h1, h2⟩
theorem Cancel_c {ids : List Lid} (hn : 210 ≤ n) (h : SAt S lab o k s) (ok : StkOk 9999 s) (hl : ids.length ≤ 20) (hids : ∀ id ∈ ids, id.Ok) {di : D} (hdi : FLs 4 Lid.enc di ids) (cl : ByteArray) (w : Int) : ∃ T lab', (∀ st, callD E (dcall E n) st S 15 [.loc k 0 0, di, .str cl, .int .i64 w] = some (.int .i64 (s.cancel ids cl w).1, T)) ∧ SAt T lab' o k (s.cancel ids cl w).2 ∧ Step o S lab T lab' := by
  obtain ⟨q, rfl⟩ : ∃ q, n = q + 1 := ⟨n - 1, by omega⟩
  obtain ⟨_, T, ho, rfl, lab', h1, h2⟩ := Cancel_d (n := q) (by omega) h ok hl hids hdi cl w
  exact ⟨T, lab', fun st => (callD_gen rfl).trans ho, h1, h2⟩
end

/-! ### Configurations without violations -/
structure GoodL (n : Nat) (l : List Cfg) : Prop where
  len : l.length ≤ 30
  ok : CfgsOk l
  good : ∀ (i : Nat) (x : Cfg), l[i]? = some x → CfgGood x ∧ inB x.equip ((l.take i).map (·.equip)) = false
  z : ∀ c ∈ l, c.equip.size + 21 < n ∧ c.equip.size ≤ 9223372036854775807 ∧ ∀ y ∈ c.cabs, y.name.size + 21 < n ∧ y.name.size ≤ 9223372036854775807 ∧ ∀ z ∈ y.cls, z.code.size ≤ 9223372036854775807
theorem good_of {n : Nat} {l : List Cfg} (hl : l.length ≤ 30) (h : cfgL l l.length = []) (hz : ∀ c ∈ l, CfgZ (n - 1) c) : GoodL n l :=
  ⟨hl, cfgs_ok h, fun i x hx => cfg_good (cfgL_nil h i x (lt_of_get hx) hx), fun c hc => by
    have h1 := hz c hc
    have h2 := h1.eq
    exact ⟨by omega, h2.2, fun y hy => by
      have h3 := h1.nm y hy
      exact ⟨by omega, h3.2, fun z hz' => (h1.cl y hy z hz').2⟩⟩⟩
section
variable {S : List Ob} {lab : Lab} {o n : Nat}
theorem New_c {l : List Cfg} {lx : Bool} (hn : 320 ≤ n) (hg : GoodL (n - 1) l) (hf : FreshL S lab) : ∃ T lab' k, (∀ st, callD E (dcall E n) st S 6 [.sl 2 (l.map Cfg.enc) lx] = some (.tup [.loc k 0 0, .nils], T)) ∧ SAt T lab' o k ⟨l, lx, []⟩ ∧ Step o S lab T lab' := by
  obtain ⟨m, rfl⟩ : ∃ m, n = m + 1 := ⟨n - 1, by omega⟩
  have cc := Check_good_c (n := m) (lx := lx) (by omega) hg.len hg.good hg.z
  have : WO (dcall E (m + 1) 6 [.sl 2 (l.map Cfg.enc) lx] S) fun d T => d = .tup [.loc (S ++ [Ob.map kL []]).length 0 0, .nils] ∧ T = S ++ [Ob.map kL []] ++ [.row 2 [[.sl 2 (l.map Cfg.enc) lx, .map S.length]]] := by
    refine wo_dcall Tryd.func6 rfl (by decide) rfl 15 rfl (fun a hal ha => ?_)
    have h0 : a[0]? = some (.sl 2 (l.map Cfg.enc) lx) := ha 0 (by simp)
    clear ha
    simp (maxSteps := 1000000) (disch := omega) only [push_cast, ↓wc_seq, ↓wc_block, ↓wc_scope, ↓wc_condL, ↓wc_region, ↓wr_cons, ↓wr_consgL, ↓wr_nil, ↓wo_pickL, ↓wo_callf, ↓wc_exit, ↓wc_ret, ↓wc_skip, ↓wc_wl, wo_some, wo_none, wo_ite, opQ_eq, seqQ_normal, seqQ_exit, seqQ_ret, blockQ_normal, blockQ_exit, blockQ_ret, iterQ_normal, iterQ_exit, iterQ_ret, retQ_normal, retQ_ret, retQ_exit, pickC_true, pickC_false, pickO_true, pickO_false, gstep_tt, gstep_ff, gstep_tf, gstep_ft, gstep_skip, int_bne, int_beq, decide_not, Nat.reduceAdd, Nat.reduceMul, Nat.reduceSub, Nat.reducePow, Nat.reduceLT, Nat.reduceLeDiff, Nat.reduceEqDiff, Int.reduceToNat, Int.reduceAdd, Int.reduceSub, Int.reduceNeg, Int.reduceMul, Int.reduceLT, Int.reduceLE, Int.reduceEq, le_max, ↓wo_build, ↓wo_buildSlice, evParts, ↓reduceIte, planIds, hasExt, cntFs, idxFs, clnFs, ovlFs, List.contains_cons, List.contains_nil, List.any_cons, List.any_nil, Nat.reduceBEq, setC, List.length_set, decide_eq_true_eq, decide_eq_false_iff_not, true_implies, false_implies, forall_const, reduceCtorEq, eq_self, Int.natCast_nonneg, Int.toNat_natCast, Int.ofNat_lt, D.int.injEq, Option.some.injEq, Nat.zero_add, Nat.add_zero, bne_iff_ne, bne_eq_false_iff_eq, beq_iff_eq, beq_eq_false_iff_ne, gt_iff_lt, ne_eq, not_true_eq_false, not_false_eq_true, hal, h0, cc, Tryd.f6]
  obtain ⟨d, T, ho, rfl, rfl⟩ := this
  have hL : (S ++ [Ob.map kL []]).length = S.length + 1 := by simp
  have s1 := Step.add (o := o) hf (Ob.map kL []) [o, 4]
  have s2 := Step.add (o := o) s1.fresh (.row 2 [[.sl 2 (l.map Cfg.enc) lx, .map S.length]]) [o, 0]
  refine ⟨_, _, (S ++ [Ob.map kL []]).length, fun st => (callD_gen rfl).trans ho, ⟨s2.fresh, S.length, [], ?_⟩, s1.trans s2⟩
  exact {
    dat := rfl
    labk := setL_self
    labm := by rw [setL_ne (by omega), setL_self]
    row := get_end
    map := get_end0
    len := rfl
    leg := fun i id x h => by simp at h }
def playF (s : Stk) (acts : List Cal) : Stk := acts.foldl (fun s a => (doF s a).2) s
end

/-! ### Right -/
def smallC (c : Cfg) : Bool := decide (c.cabs.length ≤ 8) && c.cabs.all fun y => decide (y.cls.length ≤ 30)
def smallB (l : List Cfg) : Bool := decide (l.length ≤ 8) && l.all smallC
end Go.Proofs.YtajhgnefcddenaaDoor.Dm
namespace Go.Proofs.YtajhgnefcddenaaDoor.Dm
open Go Gw
set_option linter.unusedSimpArgs false

def yS : ByteArray := ByteArray.mk #[89]
def eqpR : ByteArray := ByteArray.mk #[51, 50, 48]
def legR : Lid := ⟨ByteArray.mk #[66, 65], 1, 9497, ByteArray.mk #[76, 72, 82]⟩
def cfgR (c : Int) : Cfg := ⟨eqpR, [⟨yS, c, 0, [⟨yS, 0⟩], true⟩], true⟩
def stR (c k : Int) : Stk := ⟨[cfgR c], true, [(legR, ⟨cfgR c, false, [[k]]⟩)]⟩
theorem good_all : (List.range 20).all (fun i => (cfgL [cfgR ((i : Int) + 1)] 1).isEmpty) = true := by kernel_rfl
theorem good_R {n : Nat} (hn : 100 ≤ n) {c : Int} (h1 : 1 ≤ c) (h2 : c ≤ 20) : GoodL n [cfgR c] := by
  refine good_of (by simp) ?_ ?_
  · have := List.all_eq_true.1 good_all (c - 1).toNat (List.mem_range.2 (by omega))
    rw [show (((c - 1).toNat : Nat) : Int) + 1 = c by omega] at this
    exact List.isEmpty_iff.1 this
  · intro x hx
    rw [List.mem_singleton] at hx
    subst hx
    refine ⟨⟨by simp [cfgR, eqpR, ByteArray.size]; omega, by simp [cfgR, eqpR, ByteArray.size]⟩, ?_, ?_⟩
    · intro y hy
      simp only [cfgR, List.mem_singleton] at hy
      subst hy
      exact ⟨by simp [yS, ByteArray.size]; omega, by simp [yS, ByteArray.size]⟩
    · intro y hy z hz
      simp only [cfgR, List.mem_singleton] at hy
      subst hy
      rw [List.mem_singleton] at hz
      subst hz
      exact ⟨by simp [yS, ByteArray.size]; omega, by simp [yS, ByteArray.size]⟩
theorem legR_ok : legR.Ok := by
  simp [Lid.Ok, legR, ByteArray.size]
theorem open_R (c : Int) : (⟨[cfgR c], true, []⟩ : Stk).open legR eqpR = (0, stR c 0) := by
  simp [Stk.open, Stk.get, getL, findF, cfgR, stR, emptyF]
theorem left_R (c k : Int) : (stR c k).left legR yS = max 0 (c - k) := by
  simp [Stk.left, Stk.get, getL, stR, leftF, cfgR, placeF, rankF, avF, spF, limF, autF]
theorem sell_R {c k n : Int} (hn : 1 ≤ n) (h : n ≤ c - k) : (stR c k).sell [legR] yS n = (0, stR c (k + n)) := by
  have hl := left_R c k
  rw [sell_ok hn (by simp) (by simp) (fun id hid => by
    rw [List.mem_singleton] at hid
    subst hid
    omega)]
  simp [addIds, updL, addL, stR, cfgR, placeF, rankF, addAt]
theorem cancel_R {c k : Int} (hk : 1 ≤ k) : (stR c k).cancel [legR] yS 1 = (0, stR c (k - 1)) := by
  have h1 : ¬ k < 1 := by omega
  simp [Stk.cancel, Stk.named, Stk.get, getL, stR, cfgR, placeF, rankF, soldF, soldAt, addIds, updL, addL, addAt, h1]
  rfl
theorem ok_R {c k : Int} (h1 : 1 ≤ c) (h2 : c ≤ 20) (h3 : 0 ≤ k) (h4 : k ≤ 100) : StkOk 9999 (stR c k) := by
  have hg := (good_R (n := 100) (by omega) h1 h2).ok
  refine ⟨hg, by simp [stR], fun p hp => ?_⟩
  simp only [stR, List.mem_singleton] at hp
  subst hp
  refine ⟨hg.cfg _ (by simp), by simp [findF, cfgR, stR], by simp [cfgR], ?_, ?_, ?_⟩
  · intro i y r hy hr
    match i, hy, hr with
    | 0, hy, hr => simp [cfgR] at hy hr; subst hy hr; rfl
    | i + 1, hy, hr => simp [cfgR] at hy
  · intro i r hr v hv
    match i, hr with
    | 0, hr => simp at hr; subst hr; simp at hv; omega
    | i + 1, hr => simp at hr
  · simp [tot]; omega
end Go.Proofs.YtajhgnefcddenaaDoor.Dm
