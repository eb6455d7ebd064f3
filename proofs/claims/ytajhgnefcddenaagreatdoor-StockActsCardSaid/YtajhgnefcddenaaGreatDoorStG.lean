/-
  The answers of an inventory and the reference's: the same.
-/
import Derived.Test.YtajhgnefcddenaaGreatDoorStA
import Derived.Test.YtajhgnefcddenaaGreatDoorStB
import Derived.Test.YtajhgnefcddenaaGreatDoorWpt
namespace Go.Proofs.YtajhgnefcddenaaGreatDoor.Dm
open Go Gw
set_option linter.unusedSimpArgs false
set_option linter.unusedSimpArgs false

section
variable {S : List Ob} {lab : Lab} {o o2 k r n : Nat} {s : Stk} {rd : D} {rows : List RRow}
set_option maxHeartbeats 16000000 in
set_option maxRecDepth 100000 in
theorem answers_d (hn : 1100 ≤ n) (hs : SAt S lab o k s) (hr : RefAt S lab o2 s r rd rows) (ok : StkOk 9999 s) (hls : s.l.length ≤ 100) (h12 : s.legs.length ≤ 12) :
    WO (dcall E (n + 1) 27 [.loc k 0 0, .loc r 0 0] S) fun d T => d = .bool true ∧ ExtS S T := by
  have hrl : rows.length ≤ 100 := by
    have := congrArg List.length hr.legs
    rw [List.length_map] at this
    omega
  refine wo_dcall Tryz.func27 rfl (by decide) rfl 90 rfl (fun a hal ha => ?_)
  have h0 : a[0]? = some (.loc k 0 0) := ha 0 (by simp)
  have h1 : a[1]? = some (.loc r 0 0) := ha 1 (by simp)
  clear ha
  simp (maxSteps := 1000000) (disch := omega) only [push_cast, ↓wc_seq, ↓wc_block, ↓wc_region, ↓wr_cons, ↓wr_nil, ↓wc_wl, wo_some, opQ_eq, seqQ_normal, Nat.reduceAdd, Nat.reduceMul, ↓reduceIte, planIds, List.contains_cons, List.contains_nil, Nat.reduceBEq, Nat.zero_add]
  refine wl_loop (fun j a T => a.length = 90 ∧ a[0]? = some (.loc k 0 0) ∧ a[1]? = some (.loc r 0 0) ∧ a[5]? = some (.int .u8 j) ∧ ExtS S T) 6 ?_ (by omega) ?_
  · simp (maxSteps := 1000000) (disch := omega) only [push_cast, Nat.reduceLT, Nat.reduceEqDiff, ↓reduceIte, setC, List.length_set, reduceCtorEq, eq_self, hal, h0, h1, Int.natCast_zero]
    exact ExtS.refl
  clear hal h0 h1 a
  rintro j a T hj ⟨hal, h0, h1, h5, hx⟩
  rcases Nat.lt_or_eq_of_le hj with hlj | rfl
  case inr =>
    have c1 := SLegs_c (n := n) (by omega) (hs.ext hx) h12
    obtain ⟨d2, T2, c2, hg, hx2⟩ := rLegs_c (n := n) (by omega) (hr.keep (KeepO.ext hx)) hrl
    have hids : idsR rows = s.legs.map (·.1) := by
      rw [← hr.legs, List.map_map]; rfl
    rw [hids] at hg
    have c3 := sameIds_c (n := n) (by omega) (by rw [Lg.sortL_len, List.length_map]; omega) (legsD_ls T2 (s.legs.map (·.1))) hg.ls
    simp (maxSteps := 1000000) (disch := omega) only [push_cast, ↓wc_seq, ↓wc_condL, ↓wc_region, ↓wr_cons, ↓wr_nil, ↓wo_callf, ↓wc_exit, ↓wc_ret, wo_some, opQ_eq, seqQ_normal, seqQ_exit, blockQ_exit, iterQ_exit, retQ_ret, pickC_false, Nat.reduceAdd, Nat.reduceMul, Nat.reduceLT, Nat.reduceEqDiff, Int.reduceLT, ↓reduceIte, planIds, hasExt, cntFs, idxFs, clnFs, ovlFs, List.contains_cons, List.contains_nil, List.any_cons, List.any_nil, Nat.reduceBEq, setC, List.length_set, reduceCtorEq, eq_self, Nat.zero_add, hal, h0, h1, h5, Int.cast_ofNat_Int, c1, c2, c3, Tryz.f27]
    exact hx.trans hx2
  have hljc : (j : Int) < 6 := by omega
  have ci := Id_c (n := n) (k := j) (by omega) (by omega)
  obtain ⟨id, hid⟩ : ∃ id, id = idF j := ⟨_, rfl⟩
  have hio : id.Ok := by rw [hid]; exact idF_ok j
  rw [← hid] at ci
  have hxU : ExtS S (T ++ [.row 4 [id.enc]]) := hx.push _
  have hbU : (T ++ [Ob.row 4 [id.enc]])[T.length]? = some (.row 4 [id.enc]) := get_end
  obtain ⟨U, hU⟩ : ∃ U, U = T ++ [Ob.row 4 [id.enc]] := ⟨_, rfl⟩
  rw [← hU] at hxU hbU
  obtain ⟨hf, m, ps, hst⟩ := hs.ext hxU
  have hrt := hr.keep (KeepO.ext hxU)
  have c1 := Equip_c (n := n) (by omega) hst hio
  have c2 := rEquip_c (n := n) (id := id) (by omega) hrt hrl
  have c3 := SExcess_c (n := n) (by omega) hst ok hio
  have c4 := rsExcess_c (n := n) (id := id) (by omega) hrt ok hrl hls
  obtain ⟨d1, T1, c5, hg1, hx1, -⟩ := Counts_c (n := n) (by omega) hst ok hio
  obtain ⟨d2, T2, c6, hg2, hx2, -⟩ := rCounts_c (n := n) (id := id) (by omega) (hrt.keep (KeepO.ext hx1)) ok hrl hls
  have c7 := sameCounts_c (n := n) (by omega) (counts_len ok id) (hg1.ls.ext hx2) hg2.ls
  simp only [Lid.enc] at ci c1 c2 c3 c4 c5 c6 hbU hU
  obtain ⟨e, he⟩ : ∃ e : ByteArray × Bool, equipD (s.equip id) = .tup [.str e.1, .bool e.2] := by
    cases s.equip id <;> exact ⟨(_, _), rfl⟩
  rw [he] at c1 c2
  refine wc_scut (fun a T' => T' = T ∧ a.length = 90 ∧ a[0]? = some (.loc k 0 0) ∧ a[1]? = some (.loc r 0 0) ∧ a[5]? = some (.int .u8 j)) ?_ ?_
  · simp (maxSteps := 1000000) (disch := omega) only [push_cast, ↓wc_seq, ↓wc_condL, ↓wc_region, ↓wr_cons, ↓wr_nil, ↓wc_skip, wo_some, opQ_eq, seqQ_normal, pickC_true, Nat.reduceAdd, Nat.reduceMul, Nat.reduceLT, Nat.reduceEqDiff, ↓reduceIte, planIds, List.contains_cons, List.contains_nil, Nat.reduceBEq, setC, List.length_set, reduceCtorEq, eq_self, Nat.zero_add, hal, h0, h1, h5, hljc]
  clear hal h0 h1 h5 a
  rintro a T' ⟨rfl, hal, h0, h1, h5⟩
  rw [wc_seq, wc_block, wc_asc, wc_asc]
  refine wc_scut (fun a V => V = U ∧ a.length = 90 ∧ a[0]? = some (.loc k 0 0) ∧ a[1]? = some (.loc r 0 0) ∧ a[5]? = some (.int .u8 j) ∧ a[6]? = some (.loc T'.length 0 0) ∧ a[7]? = some (.str e.1) ∧ a[8]? = some (.bool e.2) ∧ a[9]? = some (.str e.1) ∧ a[10]? = some (.bool e.2)) ?_ ?_
  · simp (maxSteps := 1000000) (disch := omega) only [push_cast, ↓wc_seq, ↓wc_region, ↓wr_cons, ↓wr_nil, ↓wo_callf, wo_some, opQ_eq, seqQ_normal, Nat.reduceAdd, Nat.reduceMul, Nat.reduceLT, Nat.reduceLeDiff, Nat.reduceEqDiff, ↓reduceIte, planIds, hasExt, cntFs, idxFs, clnFs, ovlFs, List.contains_cons, List.contains_nil, List.any_cons, List.any_nil, Nat.reduceBEq, setC, List.length_set, reduceCtorEq, eq_self, Nat.zero_add, hal, h0, h1, h5, ci, get_end, set_end, ← hU, c1, c2, hbU]
  clear hal h0 h1 h5 a
  rintro a U ⟨rfl, hal, h0, h1, h5, h6, h7, h8, h9, h10⟩
  refine wc_scut (fun a V' => V' = T2 ∧ a.length = 90 ∧ a[0]? = some (.loc k 0 0) ∧ a[1]? = some (.loc r 0 0) ∧ a[5]? = some (.int .u8 j) ∧ a[6]? = some (.loc T'.length 0 0)) ?_ ?_
  · rw [wc_seq, wc_plan (p := steps [0, 1, 2, 3, 4, 5, 6, 7, 8, 9, 10, 11, 12, 13, 14, 15, 16, 17, 18, 19, 21, 22, 20, 23, 24, 25, 26] .done) rfl, wp_pick rfl]
    simp only [opsOf, List.filterMap_cons, List.filterMap_nil, List.getElem?_toArray, List.getElem?_cons_zero, List.getElem?_cons_succ]
    simp (maxSteps := 1000000) (disch := omega) only [push_cast, ↓wc_condL, ↓wr_cons, ↓wr_consgL, ↓wr_nil, ↓wo_pickL, ↓wo_callf, ↓wc_skip, wo_some, opQ_eq, seqQ_normal, pickC_false, pickO_false, gstep_ff, int_bne, Nat.reduceAdd, Nat.reduceLT, Nat.reduceLeDiff, Nat.reduceEqDiff, ↓reduceIte, hasExt, cntFs, idxFs, clnFs, ovlFs, List.contains_nil, List.any_cons, List.any_nil, Nat.reduceBEq, setC, List.length_set, reduceCtorEq, eq_self, Nat.zero_add, not_true_eq_false, hal, h0, h1, h5, h6, h7, h8, h9, h10, wp_done, c3, c4, c5, c6, c7, hbU, dEq, dUn]
  clear hal h0 h1 h5 h6 h7 h8 h9 h10 a
  rintro a V' ⟨rfl, hal, h0, h1, h5, h6⟩
  have hx3 : ExtS U V' := hx1.trans hx2
  simp (maxSteps := 1000000) (disch := omega) only [push_cast, ↓wc_seq, ↓wc_block, ↓wc_region, ↓wr_cons, ↓wr_nil, ↓wc_wl, wo_some, opQ_eq, seqQ_normal, Nat.reduceAdd, Nat.reduceMul, ↓reduceIte, planIds, List.contains_cons, List.contains_nil, Nat.reduceBEq, Nat.zero_add]
  refine wl_loop (fun c a X => a.length = 90 ∧ a[0]? = some (.loc k 0 0) ∧ a[1]? = some (.loc r 0 0) ∧ a[5]? = some (.int .u8 j) ∧ a[6]? = some (.loc T'.length 0 0) ∧ a[11]? = some (.int .u8 c) ∧ ExtS U X) 7 ?_ (by omega) ?_
  · simp (maxSteps := 1000000) (disch := omega) only [push_cast, Nat.reduceLT, Nat.reduceEqDiff, ↓reduceIte, setC, List.length_set, reduceCtorEq, eq_self, hal, h0, h1, h5, h6, Int.natCast_zero]
    exact hx3
  clear hal h0 h1 h5 h6 a
  clear hx3
  rintro c a X hc ⟨hal, h0, h1, h5, h6, h11, hx3⟩
  rcases Nat.lt_or_eq_of_le hc with hlc | rfl
  case inr =>
    have w8 := wrap_u8 (k := j + 1) (by omega)
    simp only [Int.natCast_add, Int.natCast_one] at w8
    simp (maxSteps := 1000000) (disch := omega) only [push_cast, ↓wc_seq, ↓wc_condL, ↓wc_region, ↓wr_cons, ↓wr_nil, ↓wc_exit, wo_some, opQ_eq, seqQ_normal, seqQ_exit, blockQ_normal, blockQ_exit, iterQ_normal, iterQ_exit, pickC_false, Nat.reduceAdd, Nat.reduceMul, Nat.reduceLT, Nat.reduceEqDiff, Int.reduceLT, ↓reduceIte, planIds, List.contains_cons, List.contains_nil, Nat.reduceBEq, setC, List.length_set, reduceCtorEq, eq_self, Nat.zero_add, hal, h0, h1, h5, h11, hlj, Int.cast_ofNat_Int, w8, Int.natCast_add]
    exact hxU.trans hx3
  have hlcc : (c : Int) < 7 := by omega
  obtain ⟨cl, hcl⟩ : ∃ cl, cl = clsN c := ⟨_, rfl⟩
  have cc := Class_c (n := n) (k := c) (by omega) (by omega)
  rw [← hcl] at cc
  have hst3 := hst.keep (KeepO.ext hx3)
  have hrt3 := hrt.keep (KeepO.ext hx3)
  have hbX := hx3 _ _ hbU
  have l1 := Left_c (n := n) (by omega) hst3 ok hio cl
  have l2 := rLeft_c (n := n) (id := id) (by omega) hrt3 ok hrl hls cl
  have l3 := Free_c (n := n) (by omega) hst3 ok hio cl
  have l4 := rFree_c (n := n) (id := id) (by omega) hrt3 ok hrl hls cl
  have w8 := wrap_u8 (k := c + 1) (by omega)
  simp only [Int.natCast_add, Int.natCast_one] at w8
  simp only [Lid.enc] at l1 l2 l3 l4
  simp (maxSteps := 1000000) (disch := omega) only [push_cast, ↓wc_seq, ↓wc_block, ↓wc_condL, ↓wc_region, ↓wr_cons, ↓wr_consgL, ↓wr_nil, ↓wo_pickL, ↓wo_callf, ↓wc_skip, wo_some, opQ_eq, seqQ_normal, blockQ_normal, iterQ_normal, pickC_true, pickC_false, pickO_false, gstep_ff, int_bne, Nat.reduceAdd, Nat.reduceMul, Nat.reduceLT, Nat.reduceLeDiff, Nat.reduceEqDiff, ↓reduceIte, planIds, hasExt, cntFs, idxFs, clnFs, ovlFs, List.contains_cons, List.contains_nil, List.any_cons, List.any_nil, Nat.reduceBEq, setC, List.length_set, reduceCtorEq, eq_self, Nat.zero_add, not_true_eq_false, hal, h0, h1, h5, h6, h11, hlc, hlcc, cc, hbX, l1, l2, l3, l4, w8, Int.natCast_add, Int.natCast_one]
  exact hx3
theorem answers_c (hn : 1110 ≤ n) (hs : SAt S lab o k s) (hr : RAt S lab o2 r s) (ok : StkOk 9999 s) (hls : s.l.length ≤ 100) (h12 : s.legs.length ≤ 12) (st : Bool) :
    callD E (dcall E n) st S 27 [.loc k 0 0, .loc r 0 0] = some (.bool true, S) := by
  obtain ⟨q, rfl⟩ : ∃ q, n = q + 1 := ⟨n - 1, by omega⟩
  obtain ⟨-, rd, rows, hr⟩ := hr
  obtain ⟨_, T, ho, rfl, hx⟩ := answers_d (n := q) (by omega) hs hr ok hls h12
  exact callD_obsS rfl rfl ho hx rfl
end
end Go.Proofs.YtajhgnefcddenaaGreatDoor.Dm
