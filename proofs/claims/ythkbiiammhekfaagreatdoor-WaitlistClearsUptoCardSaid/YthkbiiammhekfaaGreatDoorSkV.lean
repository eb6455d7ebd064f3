/-
  The machine at calls of the inventory: Id, ids, equip, Class, Do.
  The machine at calls of the inventory: Do, New, Played, Right.
  The reference's violations of configurations of any size: a list, and empty only where the configurations are small.
-/
import Derived.Test.YthkbiiammhekfaaGreatDoorSkF
import Derived.Test.YthkbiiammhekfaaGreatDoorSkC
import Derived.Test.YthkbiiammhekfaaGreatDoorSkQ
import Derived.Test.YthkbiiammhekfaaGreatDoorWbA
set_option linter.unusedSimpArgs false
set_option linter.unusedVariables false
namespace Go.Proofs.YthkbiiammhekfaaGreatDoor.Dm
open Go Gw
set_option linter.unusedSimpArgs false
set_option linter.unusedSimpArgs false

/-! ### Resize keeps what is sold -/
theorem soldAt_bd {l : List Cfg} {B : Int} {x : Leg} (ok : LegOk l B x) (hB : 0 ≤ B) (i k : Nat) : 0 ≤ soldAt x.sold i k ∧ soldAt x.sold i k ≤ B := by
 unfold soldAt
 cases hr : x.sold[i]? with
 | none => simp; exact hB
 | some r =>
  obtain ⟨h1, h2⟩ := ok.row hr
  rw [Option.bind_some]
  cases hv : r[k]? with
  | none => simp; exact hB
  | some v =>
   have := sum_at h1 hv
   have := h1 v (List.mem_of_getElem? hv)
   simp; omega
/-! ### Identifiers, classes, equipments -/
def baS : ByteArray := ByteArray.mk #[66, 65]
def afS : ByteArray := ByteArray.mk #[65, 70]
def lhrS : ByteArray := ByteArray.mk #[76, 72, 82]
def cdgS : ByteArray := ByteArray.mk #[67, 68, 71]
def jfkS : ByteArray := ByteArray.mk #[74, 70, 75]
def idF (k : Nat) : Lid := match k % 6 with
 | 0 => ⟨baS, 2, 9, lhrS⟩
 | 1 => ⟨baS, 2, 9, cdgS⟩
 | 2 => ⟨afS, 7, 9, cdgS⟩
 | 3 => ⟨baS, 2, 8, lhrS⟩
 | 4 => ⟨baS, 11, 8, lhrS⟩
 | _ => ⟨baS, 1, 9, jfkS⟩
def clsN (k : Nat) : ByteArray := match k % 7 with
 | 0 => ByteArray.mk #[89]
 | 1 => ByteArray.mk #[77]
 | 2 => ByteArray.mk #[81]
 | 3 => ByteArray.mk #[70]
 | 4 => ByteArray.mk #[89]
 | 5 => ByteArray.mk #[77]
 | _ => ByteArray.mk #[88]
def isD (o : Option (D × List Ob)) (d : D) : Bool := match o with
 | some (x, _) => beqD x d
 | none => false
structure Cal where
 kind : Nat
 leg : Nat
 more : Nat
 eq : Nat
 cl : Nat
 n : Int
structure Cal.Ok (a : Cal) : Prop where
 kind : a.kind ≤ 255
 leg : a.leg ≤ 255
 more : a.more ≤ 255
 eq : a.eq ≤ 255
 cl : a.cl ≤ 255
 n1 : -128 ≤ a.n
 n2 : a.n ≤ 127
def Cal.enc (a : Cal) : List D := [.int .u8 a.kind, .int .u8 a.leg, .int .u8 a.more, .int .u8 a.eq, .int .u8 a.cl, .int .i8 a.n]
def idsF (a : Cal) : List Lid := if a.more % 4 = 0 then [idF a.leg, idF (a.more / 4)] else if a.more = 255 then [] else [idF a.leg]
def xxxS : ByteArray := ByteArray.mk #[88, 88, 88]
def equipF (l : List Cfg) (k : Nat) : ByteArray := if 200 ≤ k ∨ l.length = 0 then xxxS else ((l[k % l.length]?).map (·.equip)).getD xxxS
def doF (s : Stk) (a : Cal) : Int × Stk := match a.kind % 7 with
 | 0 => s.open (idF a.leg) (equipF s.l a.eq)
 | 1 => s.close (idF a.leg)
 | 5 => s.cancel (idsF a) (clsN a.cl) a.n
 | 6 => s.resize (idF a.leg) (equipF s.l a.eq)
 | _ => s.sell (idsF a) (clsN a.cl) a.n
theorem sell_l (s : Stk) (ids : List Lid) (cl : ByteArray) (w : Int) : (s.sell ids cl w).2.l = s.l ∧ (s.sell ids cl w).2.x = s.x := by
 unfold Stk.sell
 split
 ·exact ⟨rfl, rfl⟩
 ·split <;> exact ⟨rfl, rfl⟩
theorem cancel_l (s : Stk) (ids : List Lid) (cl : ByteArray) (w : Int) : (s.cancel ids cl w).2.l = s.l ∧ (s.cancel ids cl w).2.x = s.x := by
 unfold Stk.cancel
 split
 ·exact ⟨rfl, rfl⟩
 ·split <;> exact ⟨rfl, rfl⟩
theorem open_l (s : Stk) (id : Lid) (e : ByteArray) : (s.open id e).2.l = s.l ∧ (s.open id e).2.x = s.x := by
 unfold Stk.open
 split
 ·exact ⟨rfl, rfl⟩
 ·split <;> exact ⟨rfl, rfl⟩
theorem callD_gen {call : Call} {st : Bool} {S : List Ob} {f : FuncId} {args : List D} (hm : E.mode f = .gen) : callD E call st S f args = call f args S := by
 unfold callD
 rw [hm]
section
variable {S : List Ob} {lab : Lab} {o k n : Nat} {s : Stk}
theorem SOpen_c {id : Lid} (hn : 190 ≤ n) (h : SAt S lab o k s) (hs : s.l.length ≤ 100) (hc : CfgsOk s.l) (hid : id.Ok) (e : ByteArray) : ∃ T lab', (∀ st, callD E (dcall E n) st S 27 [.loc k 0 0, .agg id.enc, .str e] = some (.int .i64 (s.open id e).1, T)) ∧ SAt T lab' o k (s.open id e).2 ∧ Step o S lab T lab' := by
 obtain ⟨q, rfl⟩ : ∃ q, n = q + 1 := ⟨n - 1, by omega⟩
 obtain ⟨_, T, ho, rfl, lab', h1, h2⟩ := SOpen_d (n := q) (by omega) h hs hc hid e
 exact ⟨T, lab', fun st => (callD_gen rfl).trans ho, h1, h2⟩
theorem Sell_c {ids : List Lid} (hn : 210 ≤ n) (h : SAt S lab o k s) (ok : StkOk 9999 s) (hl : ids.length ≤ 20) (hids : ∀ id ∈ ids, id.Ok) {di : D} (hdi : FLs 4 Lid.enc di ids) (cl : ByteArray) (w : Int) : ∃ T lab', (∀ st, callD E (dcall E n) st S 41 [.loc k 0 0, di, .str cl, .int .i64 w] = some (.int .i64 (s.sell ids cl w).1, T)) ∧ SAt T lab' o k (s.sell ids cl w).2 ∧ Step o S lab T lab' := by
 obtain ⟨q, rfl⟩ : ∃ q, n = q + 1 := ⟨n - 1, by omega⟩
 obtain ⟨_, T, ho, rfl, lab', h1, h2⟩ := Sell_d (n := q) (by omega) h ok hl hids hdi cl w
 exact ⟨T, lab', fun st => (callD_gen rfl).trans ho, h1, h2⟩
theorem Cancel_c {ids : List Lid} (hn : 210 ≤ n) (h : SAt S lab o k s) (ok : StkOk 9999 s) (hl : ids.length ≤ 20) (hids : ∀ id ∈ ids, id.Ok) {di : D} (hdi : FLs 4 Lid.enc di ids) (cl : ByteArray) (w : Int) : ∃ T lab', (∀ st, callD E (dcall E n) st S 43 [.loc k 0 0, di, .str cl, .int .i64 w] = some (.int .i64 (s.cancel ids cl w).1, T)) ∧ SAt T lab' o k (s.cancel ids cl w).2 ∧ Step o S lab T lab' := by
 obtain ⟨q, rfl⟩ : ∃ q, n = q + 1 := ⟨n - 1, by omega⟩
 obtain ⟨_, T, ho, rfl, lab', h1, h2⟩ := Cancel_d (n := q) (by omega) h ok hl hids hdi cl w
 exact ⟨T, lab', fun st => (callD_gen rfl).trans ho, h1, h2⟩
end

/-! ### Configurations without violations -/
structure GoodL (n : Nat) (l : List Cfg) : Prop where
 len : l.length ≤ 30
 ok : CfgsOk l
 good : ∀ (i : Nat) (x : Cfg), l[i]? = some x → CfgGood x ∧ inB x.equip ((l.take i).map (·.equip)) = false
 z : ∀ c ∈ l, c.equip.size + 21 < n ∧ c.equip.size ≤ 9223372036854775807 ∧ ∀ y ∈ c.cabs, y.name.size + 21 < n ∧ y.name.size ≤ 9223372036854775807 ∧ ∀ z ∈ y.cls, z.code.size ≤ 9223372036854775807
theorem good_of {n : Nat} {l : List Cfg} (hl : l.length ≤ 30) (h : cfgL l l.length = []) (hz : ∀ c ∈ l, CfgZ (n - 1) c) : GoodL n l :=
 ⟨hl, cfgs_ok h, fun i x hx => cfg_good (cfgL_nil h i x (lt_of_get hx) hx), fun c hc => by
  have h1 := hz c hc
  have h2 := h1.eq
  exact ⟨by omega, h2.2, fun y hy => by
   have h3 := h1.nm y hy
   exact ⟨by omega, h3.2, fun z hz' => (h1.cl y hy z hz').2⟩⟩⟩
section
variable {S : List Ob} {lab : Lab} {o n : Nat}
theorem New_c {l : List Cfg} {lx : Bool} (hn : 320 ≤ n) (hg : GoodL (n - 1) l) (hf : FreshL S lab) : ∃ T lab' k, (∀ st, callD E (dcall E n) st S 8 [.sl 2 (l.map Cfg.enc) lx] = some (.tup [.loc k 0 0, .nils], T)) ∧ SAt T lab' o k ⟨l, lx, []⟩ ∧ Step o S lab T lab' := by
 obtain ⟨m, rfl⟩ : ∃ m, n = m + 1 := ⟨n - 1, by omega⟩
 have cc := Check_good_c (n := m) (lx := lx) (by omega) hg.len hg.good hg.z
 have : WO (dcall E (m + 1) 8 [.sl 2 (l.map Cfg.enc) lx] S) fun d T => d = .tup [.loc (S ++ [Ob.map kL []]).length 0 0, .nils] ∧ T = S ++ [Ob.map kL []] ++ [.row 2 [[.sl 2 (l.map Cfg.enc) lx, .map S.length]]] := by
  refine wo_dcall Tryz.func8 rfl (by decide) rfl 15 rfl (fun a hal ha => ?_)
  have h0 : a[0]? = some (.sl 2 (l.map Cfg.enc) lx) := ha 0 (by simp)
  clear ha
  simp (maxSteps := 1000000) (disch := omega) only [push_cast, ↓wc_seq, ↓wc_condL, ↓wc_region, ↓wr_cons, ↓wr_nil, ↓wo_callf, ↓wc_ret, ↓wc_skip, Nat.reduceAdd, Nat.reduceMul, Nat.reduceLT, Nat.reduceLeDiff, Nat.reduceEqDiff, Int.reduceLT, ↓wo_build, ↓reduceIte, Nat.reduceBEq, reduceCtorEq, gt_iff_lt, hal, h0, cc, Tryz.f8]
 obtain ⟨d, T, ho, rfl, rfl⟩ := this
 have hL : (S ++ [Ob.map kL []]).length = S.length + 1 := by simp
 have s1 := Step.add (o := o) hf (Ob.map kL []) [o, 4]
 have s2 := Step.add (o := o) s1.fresh (.row 2 [[.sl 2 (l.map Cfg.enc) lx, .map S.length]]) [o, 0]
 refine ⟨_, _, (S ++ [Ob.map kL []]).length, fun st => (callD_gen rfl).trans ho, ⟨s2.fresh, S.length, [], ?_⟩, s1.trans s2⟩
 exact {
  dat := rfl
  labk := setL_self
  labm := by rw [setL_ne (by omega), setL_self]
  row := get_end
  map := get_end0
  len := rfl
  leg := fun i id x h => by simp at h }
def playF (s : Stk) (acts : List Cal) : Stk := acts.foldl (fun s a => (doF s a).2) s
end

/-! ### Right -/
def smallC (c : Cfg) : Bool := decide (c.cabs.length ≤ 8) && c.cabs.all fun y => decide (y.cls.length ≤ 30)
def smallB (l : List Cfg) : Bool := decide (l.length ≤ 8) && l.all smallC
end Go.Proofs.YthkbiiammhekfaaGreatDoor.Dm
namespace Go.Proofs.YthkbiiammhekfaaGreatDoor.Dm
open Go Gw
set_option linter.unusedSimpArgs false
set_option linter.unusedSimpArgs false
namespace Wb

def FN (T : List Ob) (a : Option D) (m : Nat) : Prop := ∃ d fs, a = some d ∧ GL 2 encF T d fs ∧ fs.length ≤ m
def FN1 (T : List Ob) (a : Option D) (m : Nat) : Prop := ∃ d fs, a = some d ∧ GL 2 encF T d fs ∧ fs.length ≤ m ∧ fs ≠ []
theorem app_w {T : List Ob} {d : D} {fs : List (Int × ByteArray)} (h : GL 2 encF T d fs) (hl : fs.length ≤ 4999999999999) (b : Bool) (e : Int) (s : ByteArray) :
  ∃ d' T' fs', (b = true → dAppend Tryz.prog T 27 27 d (.sl 2 [[.int .i64 e, .str s]] true) = some (d', T')) ∧ (b = false → d' = d ∧ T' = T) ∧ GL 2 encF T' d' fs' ∧ fs'.length ≤ fs.length + 1 ∧ (b = true ∨ fs ≠ [] → fs' ≠ []) ∧ KeepF T T' := by
 obtain ⟨d', T', h1, h2, h3, h4⟩ := app_if h (by omega) b e s
 refine ⟨d', T', _, h1, h2, h3, by rw [List.length_append]; have := ifF_len b e s; omega, ?_, h4⟩
 rintro (hb | hb)
 ·rw [hb, ifF, if_pos rfl]; simp
 ·simp [hb]
set_option maxHeartbeats 16000000 in
set_option maxRecDepth 100000 in
theorem classesW_d {n k : Nat} {c : Cfg} {y : Cab} {p : ByteArray} (hn : 3000000 ≤ n) (hc : CfgB c) (hy : c.cabs[k]? = some y) (hp : p.size ≤ 900) :
  WO (dcall E (n + 1) 98 [.agg c.enc, .int .i64 k, .str p] []) fun d T => ∃ fs, GL 2 encF T d fs ∧ fs.length ≤ 3 * y.cls.length := by
 have hkl : k < c.cabs.length := lt_of_get hy
 have hym := List.mem_of_getElem? hy
 have hly := hc.cls y hym
 refine wo_dcall Tryz.func98 rfl (by decide) rfl 86 rfl (fun a hal ha => ?_)
 have h0 : a[0]? = some (.agg c.enc) := ha 0 (by simp)
 have h1 : a[1]? = some (.int .i64 k) := ha 1 (by simp)
 have h2 : a[2]? = some (.str p) := ha 2 (by simp)
 clear ha
 simp only [Cfg.enc] at h0
 simp (maxSteps := 1000000) (disch := omega) only [push_cast, ↓wc_seq, ↓wc_block, ↓wc_region, ↓wr_cons, ↓wr_nil, ↓wc_wl, Nat.reduceAdd, Nat.reduceMul, Nat.reduceLT, Nat.reduceLeDiff, Nat.reduceEqDiff, ↓reduceIte, Nat.reduceBEq, hal, h0, h1, hy, Cab.enc]
 refine wl_loop (fun j a T => (T[0]? = some (.row 2 [[.str c.equip, .sl 4 (c.cabs.map Cab.enc) c.cabsx]]) ∧ T[1]? = some (cabR y) ∧ FN T a[7]? (3 * j)) ∧ a.length = 86 ∧ a[1]? = some (.int .i64 k) ∧ a[2]? = some (.str p) ∧ a[3]? = some (.loc 0 0 0) ∧ a[8]? = some (.loc 1 0 0) ∧ a[9]? = some (.int .i64 j)) y.cls.length ?_ (by omega) ?_
 ·simp (maxSteps := 1000000) (disch := omega) only [push_cast, Nat.reduceMul, Nat.reduceLT, Nat.reduceEqDiff, ↓reduceIte, hal, h1, h2, Int.natCast_zero, FN]
  exact ⟨_, _, rfl, GL.nil, Nat.zero_le _⟩
 clear hal h0 h1 h2 a
 rintro j a T hj ⟨⟨hT0, hT1, d, fs, h7, hg, hfl⟩, hal, h1, h2, h3, h8, h9⟩
 rcases Nat.lt_or_eq_of_le hj with hlt | rfl
 case inr =>
  simp (maxSteps := 1000000) (disch := omega) only [push_cast, ↓wc_seq, ↓wc_condL, ↓wc_region, ↓wr_cons, ↓wr_nil, ↓wc_exit, ↓wc_ret, Nat.reduceAdd, Nat.reduceMul, Nat.reduceLT, Nat.reduceEqDiff, ↓reduceIte, Nat.reduceBEq, hal, h7, h8, h9, Nat.lt_irrefl, hT1, Tryz.f98]
  exact ⟨fs, hg, hfl⟩
 obtain ⟨z, hz⟩ : ∃ z, y.cls[j]? = some z := ⟨y.cls[j], by simp⟩
 have hzz := hc.cl y hym z (List.mem_of_getElem? hz)
 obtain ⟨q, hq, cp⟩ := placeW (n := n) (i := j) (p := p) (w := ByteArray.mk #[99, 108, 97, 115, 115]) (by omega) (by omega) hp (by decide)
 have cc := r01_class (n := n) (s := z.code) (by omega) (by omega)
 obtain ⟨bo, co⟩ := occW (n := n) (by omega) hc hy hz
 have cr := rRng_c (n := n) (by omega) y
 obtain ⟨va, ca⟩ := rAuthW (n := n) (by omega) y
 have hca : c.enc = [.str c.equip, .sl 4 (c.cabs.map Cab.enc) c.cabsx] := rfl
 rw [hca] at co
 have hcb : y.enc = [.str y.name, .int .i64 y.seats, .int .i64 y.over, .sl 2 (y.cls.map Cls.enc) y.clsx] := rfl
 rw [hcb] at cr ca
 obtain ⟨S0, hS0⟩ : ∃ S0, S0 = T ++ [Ob.row 2 [[.str z.code, .int .i64 z.prot]]] := ⟨_, rfl⟩
 have k0 : KeepF T S0 := by rw [hS0]; exact KeepF.push
 have g0 : S0[T.length]? = some (.row 2 [[.str z.code, .int .i64 z.prot]]) := by rw [hS0]; exact get_end
 have hg0 : GL 2 encF S0 d fs := by rw [hS0]; exact hg.push _
 have v0 := k0 0 _ not_fault2 hT0
 have v1 := k0 1 _ not_fault4 hT1
 refine wc_scut (fun a T' => T' = T ∧ a.length = 86 ∧ a[1]? = some (.int .i64 k) ∧ a[2]? = some (.str p) ∧ a[3]? = some (.loc 0 0 0) ∧ a[7]? = some (d) ∧ a[8]? = some (.loc 1 0 0) ∧ a[9]? = some (.int .i64 j)) ?_ ?_
 ·simp (maxSteps := 1000000) (disch := omega) only [push_cast, ↓wc_seq, ↓wc_condL, ↓wc_region, ↓wr_cons, ↓wr_nil, ↓wc_skip, Nat.reduceAdd, Nat.reduceMul, Nat.reduceLT, Nat.reduceEqDiff, ↓reduceIte, Nat.reduceBEq, hal, h1, h2, h3, h7, h8, h9, hlt, hT1]
 clear hal h1 h2 h3 h7 h8 h9 a
 rintro a T' ⟨rfl, hal, h1, h2, h3, h7, h8, h9⟩
 rw [wc_seq, wc_block]
 refine wc_scut (fun a V => V = S0 ∧ a.length = 86 ∧ a[1]? = some (.int .i64 k) ∧ a[2]? = some (.str p) ∧ a[3]? = some (.loc 0 0 0) ∧ a[7]? = some (d) ∧ a[8]? = some (.loc 1 0 0) ∧ a[9]? = some (.int .i64 j) ∧ a[10]? = some (.str q) ∧ a[11]? = some (.loc T'.length 0 0)) ?_ ?_
 ·simp (maxSteps := 1000000) (disch := omega) only [push_cast, ↓wc_region, ↓wr_cons, ↓wr_nil, ↓wo_callf, Nat.reduceAdd, Nat.reduceMul, Nat.reduceLT, Nat.reduceLeDiff, Nat.reduceEqDiff, ↓reduceIte, Nat.reduceBEq, hal, h1, h2, h3, h7, h8, h9, hz, cp, hT1, set_end, get_end, Cls.enc]
  exact hS0.symm
 clear hal h1 h2 h3 h7 h8 h9 a
 rintro a V ⟨rfl, hal, h1, h2, h3, h7, h8, h9, h10, h11⟩
 refine wc_scut (fun a V' => (KeepF V V' ∧ FN V' a[7]? (3 * j + 1)) ∧ a.length = 86 ∧ a[1]? = some (.int .i64 k) ∧ a[2]? = some (.str p) ∧ a[3]? = some (.loc 0 0 0) ∧ a[8]? = some (.loc 1 0 0) ∧ a[9]? = some (.int .i64 j) ∧ a[10]? = some (.str q) ∧ a[11]? = some (.loc T'.length 0 0)) ?_ ?_
 ·obtain ⟨d1, T1, fs1, p1, q1, g1, l1, -, k1⟩ := app_w hg0 (by omega) (!clsB z.code) 16 q
  cases hb : clsB z.code
  ·rw [hb] at p1 cc
   replace p1 := p1 rfl
   simp (maxSteps := 1000000) (disch := omega) only [push_cast, ↓wc_seq, ↓wc_condL, ↓wc_region, ↓wr_cons, ↓wr_nil, ↓wo_callf, Nat.reduceAdd, Nat.reduceMul, Nat.reducePow, Nat.reduceLT, Nat.reduceLeDiff, Nat.reduceEqDiff, ↓wo_build, ↓wo_buildSlice, ↓reduceIte, Nat.reduceBEq, hal, h1, h2, h3, h7, h8, h9, h10, h11, g0, cc, p1, dUn, Bool.not_false, FN]
   exact ⟨k1, _, _, rfl, g1, by omega⟩
  ·rw [hb] at q1 cc
   obtain ⟨rfl, rfl⟩ := q1 rfl
   simp (maxSteps := 1000000) (disch := omega) only [push_cast, ↓wc_seq, ↓wc_condL, ↓wc_region, ↓wr_cons, ↓wr_nil, ↓wo_callf, ↓wc_skip, Nat.reduceAdd, Nat.reduceMul, Nat.reduceLT, Nat.reduceEqDiff, ↓reduceIte, Nat.reduceBEq, hal, h1, h2, h3, h7, h8, h9, h10, h11, g0, cc, dUn, Bool.not_true, FN]
   exact ⟨k1, _, _, rfl, g1, by omega⟩
 clear hal h1 h2 h3 h7 h8 h9 h10 h11 a
 rintro a V1 ⟨⟨k1, d1, fs1, h7, g1, l1⟩, hal, h1, h2, h3, h8, h9, h10, h11⟩
 have v01 := k1 0 _ not_fault2 v0
 have v11 := k1 1 _ not_fault4 v1
 have v21 := k1 _ _ not_fault2 g0
 refine wc_scut (fun a V' => (KeepF V1 V' ∧ FN V' a[7]? (3 * j + 2)) ∧ a.length = 86 ∧ a[1]? = some (.int .i64 k) ∧ a[2]? = some (.str p) ∧ a[3]? = some (.loc 0 0 0) ∧ a[8]? = some (.loc 1 0 0) ∧ a[9]? = some (.int .i64 j) ∧ a[10]? = some (.str q) ∧ a[11]? = some (.loc T'.length 0 0)) ?_ ?_
 ·obtain ⟨d2, T2, fs2, p2, q2, g2, l2, -, k2⟩ := app_w g1 (by omega) bo 6 q
  cases hb : bo
  ·rw [hb] at q2 co
   obtain ⟨rfl, rfl⟩ := q2 rfl
   simp (maxSteps := 1000000) (disch := omega) only [push_cast, ↓wc_seq, ↓wc_condL, ↓wc_region, ↓wr_cons, ↓wr_nil, ↓wo_callf, ↓wc_skip, Nat.reduceAdd, Nat.reduceMul, Nat.reduceLT, Nat.reduceLeDiff, Nat.reduceEqDiff, ↓reduceIte, Nat.reduceBEq, hal, h1, h2, h3, h7, h8, h9, h10, h11, v01, co, FN]
   exact ⟨k2, _, _, rfl, g2, by omega⟩
  ·rw [hb] at p2 co
   replace p2 := p2 rfl
   simp (maxSteps := 1000000) (disch := omega) only [push_cast, ↓wc_seq, ↓wc_condL, ↓wc_region, ↓wr_cons, ↓wr_nil, ↓wo_callf, Nat.reduceAdd, Nat.reduceMul, Nat.reducePow, Nat.reduceLT, Nat.reduceLeDiff, Nat.reduceEqDiff, ↓wo_build, ↓wo_buildSlice, ↓reduceIte, Nat.reduceBEq, hal, h1, h2, h3, h7, h8, h9, h10, h11, v01, co, p2, FN]
   exact ⟨k2, _, _, rfl, g2, by omega⟩
 clear hal h1 h2 h3 h7 h8 h9 h10 h11 a
 rintro a V2 ⟨⟨k2, d2, fs2, h7, g2, l2⟩, hal, h1, h2, h3, h8, h9, h10, h11⟩
 have v02 := k2 0 _ not_fault2 v01
 have v12 := k2 1 _ not_fault4 v11
 have v22 := k2 _ _ not_fault2 v21
 refine wc_scut (fun a V' => (V' = V2 ∧ ∃ b, a[79]? = some (.bool b)) ∧ a.length = 86 ∧ a[1]? = some (.int .i64 k) ∧ a[2]? = some (.str p) ∧ a[3]? = some (.loc 0 0 0) ∧ a[7]? = some (d2) ∧ a[8]? = some (.loc 1 0 0) ∧ a[9]? = some (.int .i64 j) ∧ a[10]? = some (.str q) ∧ a[11]? = some (.loc T'.length 0 0)) ?_ ?_
 ·have hj0 : j = 0 ∨ 0 < j := by omega
  by_cases c1 : z.prot < 0
  ·simp (maxSteps := 1000000) (disch := omega) only [push_cast, ↓wc_region, ↓wr_cons, ↓wr_consgL, ↓wr_nil, ↓wo_pickL, Nat.reduceAdd, Nat.reduceMul, Nat.reduceLT, Nat.reduceEqDiff, ↓reduceIte, Nat.reduceBEq, hal, h1, h2, h3, h7, h8, h9, h10, h11, v22, c1]
   exact ⟨_, rfl⟩
  rcases hj0 with hj0 | hj0
  ·have c2 : ¬ (0 : Int) < j := by omega
   cases hr : rngB y
   ·rw [hr] at cr
    simp (maxSteps := 1000000) (disch := omega) only [push_cast, ↓wc_region, ↓wr_cons, ↓wr_consgL, ↓wr_nil, ↓wo_pickL, ↓wo_callf, Nat.reduceAdd, Nat.reduceMul, Nat.reduceLT, Nat.reduceLeDiff, Nat.reduceEqDiff, ↓reduceIte, Nat.reduceBEq, gt_iff_lt, hal, h1, h2, h3, h7, h8, h9, h10, h11, v22, v12, c1, c2, cr]
    exact ⟨_, rfl⟩
   ·rw [hr] at cr
    by_cases c5 : va < z.prot
    ·simp (maxSteps := 1000000) (disch := omega) only [push_cast, ↓wc_region, ↓wr_cons, ↓wr_consgL, ↓wr_nil, ↓wo_pickL, ↓wo_callf, Nat.reduceAdd, Nat.reduceMul, Nat.reduceLT, Nat.reduceLeDiff, Nat.reduceEqDiff, ↓reduceIte, Nat.reduceBEq, gt_iff_lt, hal, h1, h2, h3, h7, h8, h9, h10, h11, v22, v12, c1, c2, cr, ca, c5]
     exact ⟨_, rfl⟩
    ·simp (maxSteps := 1000000) (disch := omega) only [push_cast, ↓wc_region, ↓wr_cons, ↓wr_consgL, ↓wr_nil, ↓wo_pickL, ↓wo_callf, Nat.reduceAdd, Nat.reduceMul, Nat.reduceLT, Nat.reduceLeDiff, Nat.reduceEqDiff, ↓reduceIte, Nat.reduceBEq, gt_iff_lt, hal, h1, h2, h3, h7, h8, h9, h10, h11, v22, v12, c1, c2, cr, ca, c5]
     exact ⟨_, rfl⟩
  ·have c2 : (0 : Int) < j := by omega
   obtain ⟨z', hz'⟩ : ∃ z', y.cls[j - 1]? = some z' := ⟨y.cls[j - 1]'(by omega), by simp⟩
   have hpi : ((j : Int) - 1).toNat = j - 1 := by omega
   have hpn : (0 : Int) ≤ (j : Int) - 1 := by omega
   by_cases c3 : z.prot < z'.prot
   ·simp (maxSteps := 1000000) (disch := omega) only [push_cast, ↓wc_region, ↓wr_cons, ↓wr_consgL, ↓wr_nil, ↓wo_pickL, Nat.reduceAdd, Nat.reduceMul, Nat.reduceLT, Nat.reduceEqDiff, ↓reduceIte, Nat.reduceBEq, gt_iff_lt, hal, h1, h2, h3, h7, h8, h9, h10, h11, v22, v12, c1, c2, c3, hz', hpi, hpn, Cls.enc, wrap_ok]
    exact ⟨_, rfl⟩
   cases hr : rngB y
   ·rw [hr] at cr
    simp (maxSteps := 1000000) (disch := omega) only [push_cast, ↓wc_region, ↓wr_cons, ↓wr_consgL, ↓wr_nil, ↓wo_pickL, ↓wo_callf, Nat.reduceAdd, Nat.reduceMul, Nat.reduceLT, Nat.reduceLeDiff, Nat.reduceEqDiff, ↓reduceIte, Nat.reduceBEq, gt_iff_lt, hal, h1, h2, h3, h7, h8, h9, h10, h11, v22, v12, c1, c2, c3, hz', hpi, hpn, cr, Cls.enc, wrap_ok]
    exact ⟨_, rfl⟩
   ·rw [hr] at cr
    by_cases c5 : va < z.prot
    ·simp (maxSteps := 1000000) (disch := omega) only [push_cast, ↓wc_region, ↓wr_cons, ↓wr_consgL, ↓wr_nil, ↓wo_pickL, ↓wo_callf, Nat.reduceAdd, Nat.reduceMul, Nat.reduceLT, Nat.reduceLeDiff, Nat.reduceEqDiff, ↓reduceIte, Nat.reduceBEq, gt_iff_lt, hal, h1, h2, h3, h7, h8, h9, h10, h11, v22, v12, c1, c2, c3, hz', hpi, hpn, cr, ca, c5, Cls.enc, wrap_ok]
     exact ⟨_, rfl⟩
    ·simp (maxSteps := 1000000) (disch := omega) only [push_cast, ↓wc_region, ↓wr_cons, ↓wr_consgL, ↓wr_nil, ↓wo_pickL, ↓wo_callf, Nat.reduceAdd, Nat.reduceMul, Nat.reduceLT, Nat.reduceLeDiff, Nat.reduceEqDiff, ↓reduceIte, Nat.reduceBEq, gt_iff_lt, hal, h1, h2, h3, h7, h8, h9, h10, h11, v22, v12, c1, c2, c3, hz', hpi, hpn, cr, ca, c5, Cls.enc, wrap_ok]
     exact ⟨_, rfl⟩
 clear hal h1 h2 h3 h7 h8 h9 h10 h11 a
 rintro a V' ⟨⟨rfl, b, h79⟩, hal, h1, h2, h3, h7, h8, h9, h10, h11⟩
 obtain ⟨d3, T3, fs3, p3, q3, g3, l3, -, k3⟩ := app_w g2 (by omega) b 2 q
 have v03 := k3 0 _ not_fault2 v02
 have v13 := k3 1 _ not_fault4 v12
 cases b
 ·obtain ⟨rfl, rfl⟩ := q3 rfl
  simp (maxSteps := 1000000) (disch := omega) only [push_cast, ↓wc_condL, ↓wc_region, ↓wr_cons, ↓wr_nil, ↓wc_skip, Nat.reduceAdd, Nat.reduceMul, Nat.reduceLT, Nat.reduceEqDiff, ↓reduceIte, Nat.reduceBEq, hal, h1, h2, h3, h7, h8, h9, h79, wrap_ok, Int.natCast_add, Int.natCast_one, FN]
  exact ⟨hlt, v03, v13, _, _, rfl, g3, by omega⟩
 ·replace p3 := p3 rfl
  simp (maxSteps := 1000000) (disch := omega) only [push_cast, ↓wc_condL, ↓wc_region, ↓wr_cons, ↓wr_nil, Nat.reduceAdd, Nat.reduceMul, Nat.reducePow, Nat.reduceLT, Nat.reduceLeDiff, Nat.reduceEqDiff, ↓wo_build, ↓wo_buildSlice, ↓reduceIte, Nat.reduceBEq, hal, h1, h2, h3, h7, h8, h9, h10, h79, p3, wrap_ok, Int.natCast_add, Int.natCast_one, FN]
  exact ⟨hlt, v03, v13, _, _, rfl, g3, by omega⟩
theorem classesW {n k : Nat} {c : Cfg} {y : Cab} {p : ByteArray} (hn : 3000001 ≤ n) (hc : CfgB c) (hy : c.cabs[k]? = some y) (hp : p.size ≤ 900) :
  ∃ x fs, FLs 2 encF x fs ∧ fs.length ≤ 3 * y.cls.length ∧ ∀ st S, callD E (dcall E n) st S 98 [.agg c.enc, .int .i64 k, .str p] = some (x, S) := by
 obtain ⟨m, rfl⟩ : ∃ m, n = m + 1 := ⟨n - 1, by omega⟩
 obtain ⟨d, T, ho, fs, hg, hl⟩ := classesW_d (n := m) (p := p) (by omega) hc hy hp
 obtain ⟨d', hf, hd⟩ := hg.fls (encF_pure _)
 exact ⟨d', fs, hd, hl, fun st S => callD_pure rfl (by simp [pureL_cons, pureL_nil, D.pure, Cfg_pure]) ho hf⟩
end Wb
end Go.Proofs.YthkbiiammhekfaaGreatDoor.Dm
