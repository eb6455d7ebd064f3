/-
  slices.Insert of one request, as a known function: whichever capacity the slice has.
  The machine at this seat's program is sound: with the functions that are known by laws of their own.
  Facts of types that StockNone's texts ask for besides.
  The machine at the program's inventory: what is sold, class by class.
  A request as plain data.
  A plan, cut behind its branchings.
  The machine at codes of airports, countries and carriers, at decimals below 100, and at lists of violations that are compared: the program's and the reference's.
  The bound of the second form, as the bulk of data.
-/
import Derived.Test.YthkbiiammhekfaaGreatDoorWq
import Derived.Test.YthkbiiammhekfaaGreatDoorEnvL
import Derived.Test.YthkbiiammhekfaaGreatDoorTy
import Derived.Test.YthkbiiammhekfaaGreatDoorSkO
import Derived.Test.YthkbiiammhekfaaGreatDoorSkT
import Derived.Test.YthkbiiammhekfaaGreatDoorTxE
import Derived.Test.YthkbiiammhekfaaGreatDoorRows
import Derived.Test.YthkbiiammhekfaaGreatDoorTod
set_option linter.unusedSimpArgs false
set_option linter.unusedVariables false
namespace Go.Proofs.YthkbiiammhekfaaGreatDoor.Dm
open Go Gw
set_option linter.unusedSimpArgs false
set_option linter.unusedSimpArgs false
namespace Wl
theorem ext_ov : E0.ext 152 = some fun S l => (dOverlaps Tryz.prog S 44 l).map (·, S) := by kernel_rfl
theorem set_same {α : Type} {l : List α} {k : Nat} {x y : α} (h : l[k]? = some y) : (l.set k x)[k]? = some x := by
 rw [List.getElem?_set_self ((List.getElem?_eq_some_iff.1 h).1)]
section
variable {m k n c i : Nat} {x : List D} {b : Bool} {es : List (List D)} {S : List Ob}
set_option maxHeartbeats 4000000 in
set_option maxRecDepth 100000 in
theorem Insert_room (hk : S[k]? = some (.row 5 es)) (hes : es.length = n) (hi : i < n) (hn : n ≤ 100000) (hc : n + 1 ≤ c) :
  WO (dcall E0 (m + 1) 120 [.osc k 0 n c, .int .i64 i, .sl 5 [x] b] S) fun d T => d = .osc k 0 (n + 1) c ∧ T = S.set k (.row 5 (es.take i ++ [x] ++ es.drop i)) := by
 refine wo_dcall Tryz.func120 rfl (by decide) rfl 95 rfl (fun a hal ha => ?_)
 have h0 : a[0]? = some (.osc k 0 n c) := ha 0 (by simp)
 have h1 : a[1]? = some (.int .i64 i) := ha 1 (by simp)
 have h2 : a[2]? = some (.sl 5 [x] b) := ha 2 (by simp)
 clear ha
 have q1 : (i : Int) ≤ n := by omega
 have e1 : ((i : Int) + 1).toNat = i + 1 := by omega
 have e2 : ((n : Int) + 1).toNat = n + 1 := by omega
 have q1' : i ≤ n := by omega
 have q2 : ¬ ((i : Int) = n) := by omega
 have q3 : ¬ ((c : Int) < n + 1) := by omega
 have q4 : i < c := by omega
 simp (maxSteps := 1000000) (disch := omega) only [push_cast, ↓wc_seq, ↓wc_condL, ↓wc_region, ↓wr_cons, ↓wr_nil, ↓wo_callf, ↓wc_ret, ↓wc_skip, Nat.reduceAdd, Nat.reduceMul, Nat.reduceLT, Nat.reduceLeDiff, Nat.reduceEqDiff, Int.reduceAdd, Int.reduceEq, ↓reduceIte, Nat.reduceBEq, reduceCtorEq, gt_iff_lt, hal, h0, h1, h2, hk, hes, q1', q2, q3, q4, e1, e2, wrap_ok, if_pos, dCap, dCopyA, dCopyC, headOf, lenS, dOverlaps, ext_ov, set_same hk, Option.isNone_none, Option.isSome_none, Option.isSome_some, Tryz.f120]
 have m1 : min (n + 1 - 0 - i) (n + 1 - 0 - (i + 1)) = n - i := by omega
 have m2 : min 1 (n + 1 - 0 - i) = 1 := by omega
 have t1 : (es.drop i).take (n - i) = es.drop i := List.take_of_length_le (by simp; omega)
 have t2 : es.drop (i + 1 + (n - i)) = [] := List.drop_eq_nil_of_le (by omega)
 have l1 : (es.take (i + 1)).length = i + 1 := by simp; omega
 rw [m1, m2, t1, t2, List.append_nil]
 refine ⟨by rw [List.length_append, l1]; omega, rfl, ?_⟩
 rw [List.set_set]
 congr 2
 rw [List.take_append_of_le_length (by omega), List.take_take, Nat.min_eq_left (by omega), List.drop_left' l1]
 rfl
theorem elW : elemT Tryz.prog 44 = some 53 := by kernel_rfl
theorem szW : sizeT Tryz.prog 53 = some 5 := by kernel_rfl
def zW : List D := [.int .i64 0, .nils, .str (ByteArray.mk #[]), .int .i64 0, .int .i64 0]
theorem zeW : zeroT Tryz.prog 53 = some (.agg zW) := by kernel_rfl
theorem byW : bytesT Tryz.prog 53 ≤ 100000 := by
 have : bytesT Tryz.prog 53 = 64 := by kernel_rfl
 rw [this]; omega
theorem make_W (hk : S[k]? = some (.row 5 es)) (hes : es.length = n) (hi : i < n) (hn : n ≤ 100000) (hc : c < n + 1) :
  dAppendMake Tryz.prog S 44 3 (.osc k 0 (i - 0) (c - 0)) (.int .i64 ((n : Int) + 1 - i)) = some (.os S.length 0 (n + 1) false, S ++ [.row 5 (es.take i ++ List.replicate (n + 1 - i) zW)]) := by
 have hm : ((n : Int) + 1 - i).toNat = n + 1 - i := by omega
 have hN : i - 0 + (n + 1 - i) = n + 1 := by omega
 have hb : (n + 1) * bytesT Tryz.prog 53 ≤ 140737488355328 := Nat.le_trans (Nat.mul_le_mul (show n + 1 ≤ 100001 by omega) byW) (by decide)
 unfold dAppendMake
 rw [Tryz.underlying3, elW]
 dsimp only
 rw [szW, zeW]
 dsimp only
 rw [if_pos ⟨rfl, rfl⟩]
 simp only [hk]
 rw [hm, hN, if_pos ⟨trivial, by omega, by omega, by omega, (le_max (by omega)).mpr trivial, hb⟩]
 rfl
set_option maxHeartbeats 4000000 in
set_option maxRecDepth 100000 in
theorem Insert_grow (hk : S[k]? = some (.row 5 es)) (hes : es.length = n) (hi : i < n) (hn : n ≤ 100000) (hc : c < n + 1) (hc0 : n ≤ c) :
  WO (dcall E0 (m + 1) 120 [.osc k 0 n c, .int .i64 i, .sl 5 [x] b] S) fun d T => d = .os S.length 0 (n + 1) false ∧ T = S ++ [.row 5 (es.take i ++ [x] ++ es.drop i)] := by
 refine wo_dcall Tryz.func120 rfl (by decide) rfl 95 rfl (fun a hal ha => ?_)
 have h0 : a[0]? = some (.osc k 0 n c) := ha 0 (by simp)
 have h1 : a[1]? = some (.int .i64 i) := ha 1 (by simp)
 have h2 : a[2]? = some (.sl 5 [x] b) := ha 2 (by simp)
 clear ha
 have q1 : (i : Int) ≤ n := by omega
 have e1 : ((i : Int) + 1).toNat = i + 1 := by omega
 have e2 : ((n : Int) + 1).toNat = n + 1 := by omega
 have q1' : i ≤ n := by omega
 have q2 : ¬ ((i : Int) = n) := by omega
 have q3 : ((c : Int) < n + 1) := by omega
 have q4 : i < c := by omega
 have mk := make_W hk hes hi hn hc
 have q5 : i ≤ n + 1 := by omega
 have q6 : i + 1 ≤ n + 1 := by omega
 have g1 : i + (n + 1 - i) ≤ (List.take i es ++ List.replicate (n + 1 - i) zW).length := by simp; omega
 have hko : ∀ ob, (S ++ [ob])[k]? = some (.row 5 es) := fun ob => get_old hk
 simp (maxSteps := 1000000) (disch := omega) only [push_cast, ↓wc_seq, ↓wc_condL, ↓wc_region, ↓wr_cons, ↓wr_nil, ↓wc_ret, ↓wc_skip, Nat.reduceAdd, Nat.reduceMul, Nat.reduceLT, Nat.reduceLeDiff, Nat.reduceEqDiff, Int.reduceAdd, Int.reduceEq, ↓reduceIte, Nat.reduceBEq, reduceCtorEq, gt_iff_lt, hal, h0, h1, h2, mk, get_end, set_end, dCopy, q5, q6, g1, hko, hk, hes, q1', q2, q3, q4, e1, wrap_ok, if_pos, if_neg, dCap, dCopyA, Option.isNone_none, Option.isSome_none, Option.isSome_some, Tryz.f120]
 have l0 : (es.take i).length = i := by simp; omega
 have m2 : min 1 (n + 1 - i) = 1 := by omega
 have t1 : (es.drop i).take (n - i) = es.drop i := List.take_of_length_le (by simp; omega)
 have m1 : min (es.drop i).length (n + 1 - (i + 1)) = n - i := by rw [List.length_drop]; omega
 have d1 : (es.take i ++ List.replicate (n + 1 - i) zW).drop (i + 1) = List.replicate (n - i) zW := by
  rw [List.drop_append, l0, List.drop_eq_nil_of_le (by omega), List.nil_append, List.drop_replicate]
  congr 1; omega
 have u1 : (es.take i ++ List.replicate (n + 1 - i) zW).take i = es.take i := by rw [List.take_append_of_le_length (by omega), List.take_take, Nat.min_self]
 rw [m2, t1, m1, d1, u1, t1]
 have l1 : (es.take i ++ [x]).length = i + 1 := by rw [List.length_append, l0]; rfl
 refine ⟨by simp; omega, ?_⟩
 have l2 : (es.take i ++ [x] ++ List.replicate (n - i) zW).length ≤ i + 1 + (n - i) := by rw [List.length_append, l1, List.length_replicate]; omega
 congr 3
 rw [List.take_succ_cons, List.take_zero, List.take_left' l1, List.drop_eq_nil_of_le l2, List.append_nil]
end
theorem insQ_ok {args : List D} {S S' : List Ob} {d : D} (h : insQ args S = some (d, S')) {W : World} {C : Cx} {vargs : Array Value} (hs : SR W C S) (hP : C.P = E0.P) (hG : GR W C E0.G) (hv : VRs W C args vargs.toList) :
  (∃ fn, E0.P.funcs[120]? = some fn ∧ fn.body.isSome = true) ∧
  Calls E0.P 120 vargs W fun e W' => ∃ v C', e = .returned v ∧ VR W' C' d v ∧ SR W' C' S' ∧ Fr W C S W' C' S' := by
 refine ⟨⟨_, Tryz.func120, rfl⟩, ?_⟩
 unfold insQ at h
 split at h
 case h_2 => cases h
 rename_i k n i x b
 split at h
 case h_2 => cases h
 rename_i es hk
 split at h
 case isFalse => cases h
 rename_i hc
 obtain ⟨hes, hi0, hin, hn⟩ := hc
 cases h
 obtain ⟨i, rfl⟩ : ∃ m : Nat, i = m := ⟨i.toNat, by omega⟩
 rw [Int.toNat_natCast]
 obtain ⟨v0, v1, v2, hvs⟩ : ∃ v0 v1 v2, vargs.toList = [v0, v1, v2] := by
  have := hv.1
  match vargs.toList, this with
  | [v0, v1, v2], _ => exact ⟨v0, v1, v2, rfl⟩
 rw [hvs] at hv
 obtain ⟨g, sz', tot, cap, T, e0, hr, hl, hxx, hx', hx''⟩ := hv.head.of_os
 have htot := hx' rfl
 obtain ⟨⟨rfl, hrest⟩, hnI, hlt⟩ := hs.at hk (by simp) hr
 have hosc : VR W C (.osc k 0 n cap) v0 := by rw [e0]; exact .osc hr hl htot
 have hv' : VRs W C [.osc k 0 n cap, .int .i64 (i : Int), .sl 5 [x] b] vargs.toList := by rw [hvs]; exact VRs.cons hosc hv.tail
 by_cases hroom : n + 1 ≤ cap
 ·obtain ⟨d', T', ho, rfl, rfl⟩ := Insert_room (m := 100) (x := x) (b := b) (i := i) hk hes (by omega) (by omega) hroom
  refine ((dcall_ok envOk0 101 _ _ _ _ _ ho W C vargs hs hP hG hv').2).mono ?_
  rintro e W' ⟨v, C', rfl, r1, s1, f1⟩
  have hk' : (S.set k (.row 5 (es.take i ++ [x] ++ es.drop i)))[k]? = some (.row 5 (es.take i ++ [x] ++ es.drop i)) := set_same hk
  cases r1 with
  | osc hr1 hl1 hc1 =>
   rename_i g1 sz1 tot1 T1
   have ob1 := (s1.at (ob := .row 5 (es.take i ++ [x] ++ es.drop i)) hk' (by simp) hr1).1
   obtain ⟨s2, f2⟩ := s1.move (W' := W') (ob := .row 5 (es.take i ++ [x] ++ es.drop i)) (ob' := .row 5 (es.take i ++ [x] ++ es.drop i)) hk' (by simp) hr1 rfl rfl rfl rfl (fun _ _ => rfl) (fun hm => ob1.mono rfl rfl hm)
   rw [List.length_set, List.set_set] at s2 f2
   refine ⟨_, _, rfl, ?_, s2, f1.trans f2⟩
   have hsz := ob1.1
   subst hsz
   exact .os (Cx.add_same _ _ _) hl1 (by simp) (fun _ => hc1) (by omega)
 ·obtain ⟨d', T', ho, rfl, rfl⟩ := Insert_grow (m := 100) (x := x) (b := b) (i := i) hk hes (by omega) (by omega) (by omega) hl
  refine ((dcall_ok envOk0 101 _ _ _ _ _ ho W C vargs hs hP hG hv').2).mono ?_
  rintro e W' ⟨v, C', rfl, r1, s1, f1⟩
  obtain ⟨s2, f2⟩ := s1.kill k
  have hkl := (List.getElem?_eq_some_iff.1 hk).1
  rw [List.set_append_left _ _ hkl] at s2 f2
  exact ⟨_, _, rfl, r1, s2, f1.trans f2⟩
theorem ins_ok {args : List D} {S S' : List Ob} {d : D} (h : insP args S = some (d, S')) {W : World} {C : Cx} {vargs : Array Value} (hs : SR W C S) (hP : C.P = E0.P) (hG : GR W C E0.G) (hv : VRs W C args vargs.toList) :
  (∃ fn, E0.P.funcs[120]? = some fn ∧ fn.body.isSome = true) ∧
  Calls E0.P 120 vargs W fun e W' => ∃ v C', e = .returned v ∧ VR W' C' d v ∧ SR W' C' S' ∧ Fr W C S W' C' S' := by
 unfold insP at h
 split at h
 ·rename_i r hr
  cases h
  exact insQ_ok hr hs hP hG hv
 ·exact dcall_ok envOk0 100 _ _ _ _ _ h W C vargs hs hP hG hv
end Wl
end Go.Proofs.YthkbiiammhekfaaGreatDoor.Dm
namespace Go.Proofs.YthkbiiammhekfaaGreatDoor.Dm
open Go

theorem prim1_ok {f : FuncId} {p : List D → List Ob → Option (D × List Ob)} (hp : prim1 f = some p) {args : List D} {S S' : List Ob} {d : D} (hd : p args S = some (d, S')) {W : World} {C : Cx} {vargs : Array Value} (hs : SR W C S) (hP : C.P = E0.P) (hG : GR W C E0.G) (hv : VRs W C args vargs.toList) :
  (∃ fn, E0.P.funcs[f]? = some fn ∧ fn.body.isSome = true) ∧
  Calls E0.P f vargs W fun e W' => ∃ v C', e = .returned v ∧ VR W' C' d v ∧ SR W' C' S' ∧ Fr W C S W' C' S' := by
 unfold prim1 at hp
 first
 | (cases hp; done)
 | skip
 split at hp
 ·rename_i he
  subst he
  have h' := (Option.some.inj hp).symm
  subst h'
  exact Wl.ins_ok hd hs hP hG hv
 ·cases hp
theorem envOk1 : EnvOk E1 where
 mixed := envOk0.mixed
 names := envOk0.names
 keys := envOk0.keys
 lin f fn c hf hb hm := (linC_prim prim1 (fun _ => none) c).trans (envOk0.lin f fn c hf hb hm)
 globals := envOk0.globals
 exts := envOk0.exts
 prims f p hp args S d S' hd W C vargs hs hP hG hv := prim1_ok hp hd hs hP hG hv
theorem prims_true : (primFs.all fun f => isT0 (dcallX E1 200 f [] [])) = true := by kernel_rfl
theorem envOk : EnvOk E where
 mixed := envOk0.mixed
 names := envOk0.names
 keys := envOk0.keys
 lin f fn c hf hb hm := (linC_prim primOf (fun _ => none) c).trans (envOk0.lin f fn c hf hb hm)
 globals := envOk0.globals
 exts := envOk0.exts
 prims f p hp args S d S' hd W C vargs hs hP hG hv := by
  change primOf f = some p at hp
  unfold primOf at hp
  split at hp
  ·rename_i hm
   obtain ⟨T, hT⟩ := isT0_spec (List.all_eq_true.1 prims_true f (List.contains_iff_mem.1 hm))
   have h' := (Option.some.inj hp).symm
   subst h'
   cases args with
   | nil =>
    cases hd
    exact prim_closed envOk1 hT hs hP hG hv
   | cons a l => cases hd
  exact prim1_ok hp hd hs hP hG hv
end Go.Proofs.YthkbiiammhekfaaGreatDoor.Dm
namespace Go.Proofs.YthkbiiammhekfaaGreatDoor.Dm
open Go
@[push_cast] theorem snA1 : sizeT Tryz.prog 26 = some 1 := by kernel_rfl
@[push_cast] theorem snA2 : aggT Tryz.prog 26 = some false := by kernel_rfl
@[push_cast] theorem snA3 : zeroT Tryz.prog 26 = some .nilp := by kernel_rfl
@[push_cast] theorem snA4 : sizeT Tryz.prog 77 = some 1 := by kernel_rfl
@[push_cast] theorem snA5 : aggT Tryz.prog 77 = some false := by kernel_rfl
@[push_cast] theorem snA7 : aggT Tryz.prog 125 = some true := by kernel_rfl
end Go.Proofs.YthkbiiammhekfaaGreatDoor.Dm
namespace Go.Proofs.YthkbiiammhekfaaGreatDoor.Dm
open Go Gw
set_option linter.unusedSimpArgs false
set_option linter.unusedSimpArgs false

abbrev encC (p : ByteArray × Int) : List D := [.str p.1, .int .i64 p.2]
theorem KeepO.ext {o : Nat} {S T : List Ob} {lab : Lab} (h : ExtS S T) : KeepO o S lab T lab := fun x ob _ hx hl => ⟨h x ob hx, hl⟩
def cntQ (x : Leg) (q : Nat × Nat × Cls) : ByteArray × Int := (q.2.2.code, soldAt x.sold q.1 q.2.1)
section
variable {S : List Ob} {lab : Lab} {o k m n : Nat} {s : Stk} {ps : List (D × D)} {id : Lid}
end
end Go.Proofs.YthkbiiammhekfaaGreatDoor.Dm
namespace Go.Proofs.YthkbiiammhekfaaGreatDoor.Dm
open Go Gw
set_option linter.unusedSimpArgs false

structure Wt where
 id : Int
 legs : List Lid
 legsx : Bool
 cl : ByteArray
 cnt : Int
 rk : Int
def Wt.enc (r : Wt) : List D := [.int .i64 r.id, .sl 4 (r.legs.map Lid.enc) r.legsx, .str r.cl, .int .i64 r.cnt, .int .i64 r.rk]
theorem Wt_pure (r : Wt) : pureL r.enc = true := by
 simp only [D.pure, pureL_cons, pureL_nil, Bool.and_true, Bool.and_self, Wt.enc, Lids_pure]
def Wt.Ok (r : Wt) : Prop := (-9223372036854775808 ≤ r.id ∧ r.id ≤ 9223372036854775807) ∧ ((∀ e ∈ r.legs, e.Ok) ∧ r.legs.length ≤ 9223372036854775807) ∧ r.cl.size ≤ 9223372036854775807 ∧ (-9223372036854775808 ≤ r.cnt ∧ r.cnt ≤ 9223372036854775807) ∧ (-9223372036854775808 ≤ r.rk ∧ r.rk ≤ 9223372036854775807) ∧ True
end Go.Proofs.YthkbiiammhekfaaGreatDoor.Dm
namespace Go.Proofs.YthkbiiammhekfaaGreatDoor.Dm
open Go

theorem set_sorti {α : Type} {l : List α} {i j : Nat} {x y : α} (h : j < i) : (l.set i x).set j y = (l.set j (id y)).set i x := List.set_comm _ _ (Nat.ne_of_gt h)
def Plan.andThen : Plan → Plan → Plan
 | .done, r => r
 | .step i p, r => .step i (p.andThen r)
 | .both p q, r => .both (p.andThen r) (q.andThen r)
theorem planD_then {E : Env} {call : Call} {ops : Array Oper} {L : List Nat} {b : Nat} {r : Plan} : ∀ {p : Plan} {a a' : List D} {S S' : List Ob}, planD E call ops L b p a S = some (a', S') → ∀ {z : List D × List Ob}, planD E call ops L b r a' S' = some z → planD E call ops L b (p.andThen r) a S = some z
 | .done, a, a', S, S', h, z, hz => by
  simp only [planD, Option.some.injEq, Prod.mk.injEq] at h
  obtain ⟨rfl, rfl⟩ := h
  exact hz
 | .step i p, a, a', S, S', h, z, hz => by
  unfold Plan.andThen
  rw [planD] at h ⊢
  split at h
  ·rename_i o ho
   try rw [ho]
   try dsimp only
   cases hd : stepW E call ops L b i o a S with
   | none => rw [hd] at h; cases h
   | some w =>
    rw [hd] at h
    exact planD_then (p := p) h hz
  ·cases h
 | .both p q, a, a', S, S', h, z, hz => by
  unfold Plan.andThen
  rw [planD] at h ⊢
  cases h1 : planD E call ops L b p a S with
  | none => rw [h1] at h; cases h
  | some x =>
   cases h2 : planD E call ops L b q a S with
   | none => rw [h1, h2] at h; cases h
   | some y =>
    rw [h1, h2] at h
    obtain ⟨x1, x2⟩ := x
    obtain ⟨y1, y2⟩ := y
    dsimp only at h
    split at h
    ·rename_i hb
     rw [Bool.and_eq_true] at hb
     have e1 := beqL_eq _ _ hb.1
     have e2 := beqS_eq hb.2
     subst e1 e2
     cases h
     rw [planD_then h1 hz, planD_then h2 hz]
     simp only [beqL_refl, beqS_refl, Bool.and_self, if_true]
    ·cases h
theorem wp_then {E : Env} {call : Call} {ops : Array Oper} {L : List Nat} {b : Nat} {p r : Plan} {a : List D} {S : List Ob} {Q : Post} (h : WR (planD E call ops L b p a S) fun a' S' => WR (planD E call ops L b r a' S') Q) : WR (planD E call ops L b (p.andThen r) a S) Q := by
 obtain ⟨a', S', h1, b', T', h2, hq⟩ := h
 exact ⟨b', T', planD_then h1 h2, hq⟩
section
variable {call : Call} {ops : Array Oper} {a : List D} {S : List Ob} {Q : Post} {L : List Nat}
end

end Go.Proofs.YthkbiiammhekfaaGreatDoor.Dm
namespace Go.Proofs.YthkbiiammhekfaaGreatDoor.Dm
open Go Gw
set_option linter.unusedSimpArgs false

def carS (s : ByteArray) : Bool := codeS s 2 2 && !evr digB s s.size
/-! Decimals of numbers below 100. -/
def dec2 (n : Nat) : ByteArray := if n < 10 then ⟨#[UInt8.ofNat (48 + n)]⟩ else ⟨#[UInt8.ofNat (48 + n / 10), UInt8.ofNat (48 + n % 10)]⟩
theorem itoa2_all : (List.range 100).all (fun n => sameS (strOf (dcall E 40 109 [.int .i64 n] [])) (some (dec2 n))) = true := by kernel_rfl
theorem itoa2_c {n : Nat} (hn : 40 ≤ n) {i : Nat} (hi : i < 100) (st : Bool) (S : List Ob) : callD E (dcall E n) st S 109 [.int .i64 i] = some (.str (dec2 i), S) := by
 obtain ⟨s, h1, h2⟩ := sameS_spec (List.all_eq_true.1 itoa2_all i (List.mem_range.2 hi))
 obtain ⟨T, e⟩ := strOf_spec h1
 rw [Option.some.inj h2]
 exact callD_up hn (callD_pure rfl rfl e rfl)
theorem rdec2_all : (List.range 100).all (fun n => sameS (strOf (dcall E 40 63 [.int .i64 n] [])) (some (dec2 n))) = true := by kernel_rfl
theorem rdec2_c {n : Nat} (hn : 40 ≤ n) {i : Nat} (hi : i < 100) (st : Bool) (S : List Ob) : callD E (dcall E n) st S 63 [.int .i64 i] = some (.str (dec2 i), S) := by
 obtain ⟨s, h1, h2⟩ := sameS_spec (List.all_eq_true.1 rdec2_all i (List.mem_range.2 hi))
 obtain ⟨T, e⟩ := strOf_spec h1
 rw [Option.some.inj h2]
 exact callD_up hn (callD_pure rfl rfl e rfl)
theorem dec2_size (n : Nat) : (dec2 n).size ≤ 2 := by
 unfold dec2; split <;> simp [ByteArray.size]

/-! Lists of violations that are equal are found equal. -/
def FZ (d : D) (fs : List (Int × ByteArray)) : Prop := (d = .nils ∧ fs = []) ∨ ∃ x, d = .sl 2 (fs.map encF) x
theorem FV.fz {T : List Ob} {d : D} {fs : List (Int × ByteArray)} (h : FV T d fs) : ∃ d', freeze T 40 d = some d' ∧ FZ d' fs := by
 rcases h with ⟨rfl, rfl⟩ | ⟨x, rfl⟩ | ⟨k, rfl, hk⟩
 ·exact ⟨_, rfl, .inl ⟨rfl, rfl⟩⟩
 ·exact ⟨_, freeze_pure (encF_pure fs), .inr ⟨x, rfl⟩⟩
 ·have := freeze_os (n := 38) (x := false) hk (encF_pure fs)
  rw [List.length_map] at this
  exact ⟨_, this, .inr ⟨_, rfl⟩⟩
theorem FZ.pure {d : D} {fs : List (Int × ByteArray)} (h : FZ d fs) : d.pure = true := by
 rcases h with ⟨rfl, -⟩ | ⟨x, rfl⟩
 ·rfl
 ·exact encF_pure fs
end Go.Proofs.YthkbiiammhekfaaGreatDoor.Dm
namespace Go.Proofs.YthkbiiammhekfaaGreatDoor.Dm
open Go

mutual
theorem bulkW_le {H : Type} : ∀ d : DataW H, bulkW d ≤ Rows.uptoBulk d
 | .lit l => by cases l <;> simp [bulkW, Rows.uptoBulk]
 | .nil => by simp [bulkW, Rows.uptoBulk]
 | .ptr d => by simp [bulkW, Rows.uptoBulk]
 | .slice es sp => by
  have := bulkWs_le es
  simp only [bulkW, Rows.uptoBulk]; omega
 | .agg ps => by
  have := bulkWs_le ps
  simp only [bulkW, Rows.uptoBulk]; omega
 | .iface t d => by simp [bulkW, Rows.uptoBulk]
 | .map es => by simp [bulkW, Rows.uptoBulk]
 | .held h => by simp [bulkW, Rows.uptoBulk]
theorem bulkWs_le {H : Type} : ∀ l : List (DataW H), bulkWs l ≤ Rows.uptoBulkAll l
 | [] => Nat.le_refl _
 | d :: l => by
  have h1 := bulkW_le d
  have h2 := bulkWs_le l
  simp only [bulkWs, Rows.uptoBulkAll]; omega
end
theorem bulk_small {H : Type} {ds : List (DataW H)} (h : Rows.uptoSmall H (ds ++ []) = true) : bulkWs ds ≤ 1048576 := by
 rw [List.append_nil] at h
 exact Nat.le_trans (bulkWs_le ds) (of_decide_eq_true h)
end Go.Proofs.YthkbiiammhekfaaGreatDoor.Dm
