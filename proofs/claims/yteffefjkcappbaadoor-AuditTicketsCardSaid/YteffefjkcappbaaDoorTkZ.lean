/-
  The walk of AuditTickets.
-/
import Derived.Test.YteffefjkcappbaaDoorRkF
import Derived.Test.YteffefjkcappbaaDoorFrameA
namespace Go.Proofs.YteffefjkcappbaaDoor
open Go Go.ChangeShapes Go.WideShapes Go.ChangeAt Go.RowKit Dm

theorem cells_intT : Tryd.prog.cellsOf 3 = 1 := by kernel_rfl
theorem cells_strT : Tryd.prog.cellsOf 9 = 1 := by kernel_rfl
theorem cells_tktT : Tryd.prog.cellsOf 45 = 10 := by kernel_rfl
theorem cells_cpnT : Tryd.prog.cellsOf 156 = 11 := by kernel_rfl
theorem cells_chgT : Tryd.prog.cellsOf 233 = 2 := by kernel_rfl
theorem cells_bkT : Tryd.prog.cellsOf 149 = 6 := by kernel_rfl
theorem cells_sttT : Tryd.prog.cellsOf 159 = 4 := by kernel_rfl
theorem cells_wantT : Tryd.prog.cellsOf 154 = 8 := by kernel_rfl
theorem cells_segT : Tryd.prog.cellsOf 91 = 7 := by kernel_rfl
theorem cells_personT : Tryd.prog.cellsOf 41 = 3 := by kernel_rfl
theorem cells_cpnsT : Tryd.prog.cellsOf 42 = 1 := by kernel_rfl
theorem cells_chgsT : Tryd.prog.cellsOf 43 = 1 := by kernel_rfl
theorem cells_prsT : Tryd.prog.cellsOf 145 = 1 := by kernel_rfl
theorem cells_bkdT : Tryd.prog.cellsOf 146 = 1 := by kernel_rfl
theorem cells_srvT : Tryd.prog.cellsOf 147 = 1 := by kernel_rfl
theorem int_bd {n : Int} (h : (Lit.int .i64 n).wf = true) : -9223372036854775808 ≤ n ∧ n ≤ 9223372036854775807 := by
  unfold Lit.wf at h
  rw [Bool.and_eq_true, decide_eq_true_eq, decide_eq_true_eq] at h
  exact h
theorem len_bd {n : Nat} (h : n ≤ maxLen) : n ≤ 9223372036854775807 := by
  simp only [maxLen] at h; omega
theorem bound_all {α : Type} {P : α → Nat → Prop} (mono : ∀ a m n, m ≤ n → P a m → P a n) : ∀ (l : List α), (∀ a ∈ l, ∃ n, P a n) → ∃ N, ∀ a ∈ l, P a N
  | [], _ => ⟨0, fun a h => by cases h⟩
  | a :: l, h => by
    obtain ⟨n, hn⟩ := h a (List.mem_cons.2 (.inl rfl))
    obtain ⟨m, hm⟩ := bound_all mono l (fun b hb => h b (List.mem_cons.2 (.inr hb)))
    refine ⟨max n m, fun b hb => ?_⟩
    rcases List.mem_cons.1 hb with rfl | hb
    · exact mono _ _ _ (Nat.le_max_left _ _) hn
    · exact mono _ _ _ (Nat.le_max_right _ _) (hm b hb)
/-- Lists whose elements are of a form. -/
theorem list_ofT {α : Type} {enc : α → List D} {Q : α → Prop} : ∀ {es : List (List D)}, (∀ (j : Nat) (c : List D), es[j]? = some c → ∃ r : α, c = enc r ∧ Q r) → ∃ rs : List α, es = rs.map enc ∧ ∀ r ∈ rs, Q r
  | [], _ => ⟨[], rfl, fun r h => by cases h⟩
  | e :: es, h => by
    obtain ⟨r, hr, hq⟩ := h 0 e rfl
    obtain ⟨rs, hrs, hqs⟩ := list_ofT (es := es) fun j c hc => h (j + 1) c (by simpa using hc)
    refine ⟨r :: rs, by rw [List.map_cons, hr, hrs], fun x hx => ?_⟩
    rcases List.mem_cons.1 hx with rfl | hx
    · exact hq
    · exact hqs x hx
theorem pureLL_at {es : List (List D)} (h : pureLL es = true) : ∀ {j : Nat} {c : List D}, es[j]? = some c → pureL c = true := by
  induction es with
  | nil => intro j c hc; simp at hc
  | cons e es ih =>
    rw [pureLL_cons, Bool.and_eq_true] at h
    intro j c hc
    cases j with
    | zero => have : e = c := by simpa using hc
              rw [← this]; exact h.1
    | succ j => exact ih h.2 (by simpa using hc)
set_option maxHeartbeats 1000000 in
set_option maxRecDepth 100000 in
theorem cpn_ofT {c : List D} (h : TC Tryd.prog 156 c) : ∃ r : Cpn, c = r.enc ∧ r.w8.size ≤ 9223372036854775807 := by
  obtain ⟨hl, hf⟩ := h.toStruct Tryd.underlying156
  rw [cells_cpnT] at hl
  obtain ⟨a0, a1, a2, a3, a4, a5, a6, a7, a8, a9, b0, rfl⟩ : ∃ a0 a1 a2 a3 a4 a5 a6 a7 a8 a9 b0, c = [a0, a1, a2, a3, a4, a5, a6, a7, a8, a9, b0] := by
    clear hf h
    match c, hl with
    | [a0, a1, a2, a3, a4, a5, a6, a7, a8, a9, b0], _ => exact ⟨a0, a1, a2, a3, a4, a5, a6, a7, a8, a9, b0, rfl⟩
  simp only [List.mem_cons, List.not_mem_nil, or_false, forall_eq_or_imp, forall_eq, cells_intT, cells_strT, cells_wantT, List.drop_succ_cons, List.drop_zero, List.take_succ_cons, List.take_zero] at hf
  obtain ⟨h1, h2, h3, h4⟩ := hf
  obtain ⟨-, hw⟩ := h1.toStruct Tryd.underlying154
  simp only [List.mem_cons, List.not_mem_nil, or_false, forall_eq_or_imp, forall_eq, cells_intT, cells_strT, cells_segT, List.drop_succ_cons, List.drop_zero, List.take_succ_cons, List.take_zero] at hw
  obtain ⟨hs, hc⟩ := hw
  obtain ⟨-, hg⟩ := hs.toStruct Tryd.underlying91
  simp only [List.mem_cons, List.not_mem_nil, or_false, forall_eq_or_imp, forall_eq, cells_intT, cells_strT, List.drop_succ_cons, List.drop_zero, List.take_succ_cons, List.take_zero] at hg
  obtain ⟨g0, g1, g2, g3, g4, g5, g6⟩ := hg
  obtain ⟨s0, e0, -⟩ := g0.toStr Tryd.underlying9
  obtain ⟨s1, e1, -⟩ := g1.toInt Tryd.underlying3
  obtain ⟨s2, e2, -⟩ := g2.toInt Tryd.underlying3
  obtain ⟨s3, e3, -⟩ := g3.toStr Tryd.underlying9
  obtain ⟨s4, e4, -⟩ := g4.toStr Tryd.underlying9
  obtain ⟨s5, e5, -⟩ := g5.toInt Tryd.underlying3
  obtain ⟨s6, e6, -⟩ := g6.toInt Tryd.underlying3
  obtain ⟨s7, e7, z7⟩ := hc.toStr Tryd.underlying9
  obtain ⟨s8, e8, -⟩ := h2.toStr Tryd.underlying9
  obtain ⟨s9, e9, -⟩ := h3.toInt Tryd.underlying3
  obtain ⟨t0, f0, -⟩ := h4.toInt Tryd.underlying3
  refine ⟨⟨s0, s1, s2, s3, s4, s5, s6, s7, s8, s9, t0⟩, ?_, len_bd z7⟩
  clear z7
  simp_all [Cpn.enc]
theorem chg_ofT {c : List D} (h : TC Tryd.prog 233 c) : ∃ r : Chg, c = r.enc ∧ True := by
  obtain ⟨hl, hf⟩ := h.toStruct Tryd.underlying233
  rw [cells_chgT] at hl
  obtain ⟨p, q, rfl⟩ : ∃ p q, c = [p, q] := by
    clear hf h
    match c, hl with
    | [p, q], _ => exact ⟨p, q, rfl⟩
  simp only [List.mem_cons, List.not_mem_nil, or_false, forall_eq_or_imp, forall_eq, cells_intT, cells_strT, List.drop_succ_cons, List.drop_zero, List.take_succ_cons, List.take_zero] at hf
  obtain ⟨h1, h2⟩ := hf
  obtain ⟨s, e1, -⟩ := h1.toStr Tryd.underlying9
  obtain ⟨n, e2, -⟩ := h2.toInt Tryd.underlying3
  exact ⟨⟨s, n⟩, by simp_all [Chg.enc], trivial⟩
theorem stt_ofT {c : List D} (h : TC Tryd.prog 159 c) : ∃ r : Stt, c = r.enc ∧ True := by
  obtain ⟨hl, hf⟩ := h.toStruct Tryd.underlying159
  rw [cells_sttT] at hl
  obtain ⟨p, q, r, s, rfl⟩ : ∃ p q r s, c = [p, q, r, s] := by
    clear hf h
    match c, hl with
    | [p, q, r, s], _ => exact ⟨p, q, r, s, rfl⟩
  simp only [List.mem_cons, List.not_mem_nil, or_false, forall_eq_or_imp, forall_eq, cells_intT, List.drop_succ_cons, List.drop_zero, List.take_succ_cons, List.take_zero] at hf
  obtain ⟨h1, h2, h3, h4⟩ := hf
  obtain ⟨a, e1, -⟩ := h1.toInt Tryd.underlying3
  obtain ⟨b, e2, -⟩ := h2.toInt Tryd.underlying3
  obtain ⟨c, e3, -⟩ := h3.toInt Tryd.underlying3
  obtain ⟨d, e4, -⟩ := h4.toInt Tryd.underlying3
  exact ⟨⟨a, b, c, d⟩, by simp_all [Stt.enc], trivial⟩
theorem sl_ofT {t e : TypeId} (ht : Tryd.prog.underlying t = some (.slice e)) {d : D} (h : TC Tryd.prog t [d]) : SlD d := by
  rcases h.toSlice ht with h | ⟨es, x, h, -, -⟩
  · exact .inl (by simpa using h)
  · exact .inr ⟨_, _, _, by simpa using h⟩
set_option maxRecDepth 100000 in
theorem bk_ofT {c : List D} (h : TC Tryd.prog 149 c) (hp : pureL c = true) : ∃ r : Bk, c = r.enc ∧ True := by
  obtain ⟨hl, hf⟩ := h.toStruct Tryd.underlying149
  rw [cells_bkT] at hl
  obtain ⟨p, q, r, s, u, v, rfl⟩ : ∃ p q r s u v, c = [p, q, r, s, u, v] := by
    clear hf h hp
    match c, hl with
    | [p, q, r, s, u, v], _ => exact ⟨p, q, r, s, u, v, rfl⟩
  simp only [pureL_cons, pureL_nil, Bool.and_eq_true] at hp
  simp only [List.mem_cons, List.not_mem_nil, or_false, forall_eq_or_imp, forall_eq, cells_intT, cells_strT, cells_prsT, cells_bkdT, cells_srvT, List.drop_succ_cons, List.drop_zero, List.take_succ_cons, List.take_zero] at hf
  obtain ⟨h1, h2, h3, h4, h5, h6⟩ := hf
  obtain ⟨l, e1, -⟩ := h1.toStr Tryd.underlying9
  obtain ⟨g, e3, -⟩ := h3.toInt Tryd.underlying3
  obtain ⟨m, e6, -⟩ := h6.toInt Tryd.underlying3
  refine ⟨⟨l, q, g, s, u, m, sl_ofT Tryd.underlying145 h2, sl_ofT Tryd.underlying146 h4, sl_ofT Tryd.underlying147 h5, hp.2.1, hp.2.2.2.1, hp.2.2.2.2.1⟩, ?_, trivial⟩
  show [p, q, r, s, u, v] = [.str l, q, .int .i64 g, s, u, .int .i64 m]
  clear hp h1 h2 h3 h4 h5 h6
  simp_all
/-- Cells that stand for what others stand for. -/
def CellR (e e' : List D) : Prop := e'.length = e.length ∧ ∀ (j : Nat) (c c' : D), e[j]? = some c → e'[j]? = some c' → c'.one = true ∧ ∀ W C u, VR W C c u → VR W C c' u
theorem nils_sl {W : World} {C : Cx} {v : Value} {sz : Nat} (h : VR W C .nils v) : VR W C (.sl sz [] true) v := by
  cases h
  exact .sl0 (fun _ => rfl)
theorem slices_of {α : Type} {enc : α → List D} {Q : α → Prop} {t e : TypeId} {n : Nat} (ht : Tryd.prog.underlying t = some (.slice e)) (hn : Tryd.prog.cellsOf e = n) (hof : ∀ c, TC Tryd.prog e c → ∃ r : α, c = enc r ∧ Q r) {d : D} (h : TC Tryd.prog t [d]) :
    ∃ (l : List α) (x : Bool), (∀ r ∈ l, Q r) ∧ ∀ W C u, VR W C d u → VR W C (.sl n (l.map enc) x) u := by
  rcases h.toSlice ht with h | ⟨es, x, h, -, hes⟩
  · have : d = .nils := by simpa using h
    subst this
    exact ⟨[], true, (fun r h => by cases h), fun W C u hu => nils_sl hu⟩
  · rw [hn] at h
    have : d = .sl n es x := by simpa using h
    subst this
    obtain ⟨l, rfl, hq⟩ := list_ofT fun j c hc => hof c (hes j c hc)
    exact ⟨l, x, hq, fun W C u hu => hu⟩
set_option maxHeartbeats 1000000 in
set_option maxRecDepth 100000 in
theorem tkt_ofT {c : List D} (h : TC Tryd.prog 45 c) : ∃ r : Tk2, CellR c r.enc ∧ ∃ N, TkS N r := by
  obtain ⟨hl, hf⟩ := h.toStruct Tryd.underlying45
  rw [cells_tktT] at hl
  obtain ⟨a0, a1, a2, a3, a4, a5, a6, a7, a8, a9, rfl⟩ : ∃ a0 a1 a2 a3 a4 a5 a6 a7 a8 a9, c = [a0, a1, a2, a3, a4, a5, a6, a7, a8, a9] := by
    clear hf h
    match c, hl with
    | [a0, a1, a2, a3, a4, a5, a6, a7, a8, a9], _ => exact ⟨a0, a1, a2, a3, a4, a5, a6, a7, a8, a9, rfl⟩
  simp only [List.mem_cons, List.not_mem_nil, or_false, forall_eq_or_imp, forall_eq, cells_intT, cells_strT, cells_personT, cells_cpnsT, cells_chgsT, List.drop_succ_cons, List.drop_zero, List.take_succ_cons, List.take_zero] at hf
  obtain ⟨h0, h1, hp, h5, h6, h7, h8, h9⟩ := hf
  obtain ⟨-, hg⟩ := hp.toStruct Tryd.underlying41
  simp only [List.mem_cons, List.not_mem_nil, or_false, forall_eq_or_imp, forall_eq, cells_intT, cells_strT, List.drop_succ_cons, List.drop_zero, List.take_succ_cons, List.take_zero] at hg
  obtain ⟨g2, g3, g4⟩ := hg
  obtain ⟨s0, e0, z0⟩ := h0.toInt Tryd.underlying3
  obtain ⟨s1, e1, -⟩ := h1.toStr Tryd.underlying9
  obtain ⟨s2, e2, -⟩ := g2.toStr Tryd.underlying9
  obtain ⟨s3, e3, -⟩ := g3.toStr Tryd.underlying9
  obtain ⟨s4, e4, z4⟩ := g4.toStr Tryd.underlying9
  obtain ⟨cps, x, hcp, vc⟩ := slices_of (n := 11) Tryd.underlying42 cells_cpnT (fun c h => cpn_ofT h) h5
  obtain ⟨s6, e6, z6⟩ := h6.toInt Tryd.underlying3
  obtain ⟨txs, y, -, vx⟩ := slices_of (n := 2) Tryd.underlying43 cells_chgT (fun c h => chg_ofT h) h7
  obtain ⟨s8, e8, -⟩ := h8.toInt Tryd.underlying3
  obtain ⟨s9, e9, -⟩ := h9.toInt Tryd.underlying3
  simp only [List.cons.injEq, and_true] at e0 e1 e2 e3 e4 e6 e8 e9
  subst e0 e1 e2 e3 e4 e6 e8 e9
  obtain ⟨N, hN⟩ := bound_all (P := fun (c : Cpn) n => c.w8.size + 20 < n) (fun a m n h h' => by omega) cps (fun c _ => ⟨c.w8.size + 21, by omega⟩)
  refine ⟨⟨s0, s1, s2, s3, s4, .sl 11 (cps.map Cpn.enc) x, s6, .sl 2 (txs.map Chg.enc) y, s8, s9, cps, txs, .inr ⟨x, rfl⟩, .inr ⟨y, rfl⟩⟩, ⟨rfl, fun j c c' hc hc' => ?_⟩, max N (s4.size + 21), ⟨⟨x, rfl⟩, ⟨y, rfl⟩, ⟨by dsimp only; omega, len_bd z4⟩, fun c hc => ⟨by have := hN c hc; omega, hcp c hc⟩, int_bd z0, int_bd z6⟩⟩
  match j, hc, hc' with
  | 0, hc, hc' => cases hc; cases hc'; exact ⟨rfl, fun _ _ _ h => h⟩
  | 1, hc, hc' => cases hc; cases hc'; exact ⟨rfl, fun _ _ _ h => h⟩
  | 2, hc, hc' => cases hc; cases hc'; exact ⟨rfl, fun _ _ _ h => h⟩
  | 3, hc, hc' => cases hc; cases hc'; exact ⟨rfl, fun _ _ _ h => h⟩
  | 4, hc, hc' => cases hc; cases hc'; exact ⟨rfl, fun _ _ _ h => h⟩
  | 5, hc, hc' => cases hc; cases hc'; exact ⟨rfl, vc⟩
  | 6, hc, hc' => cases hc; cases hc'; exact ⟨rfl, fun _ _ _ h => h⟩
  | 7, hc, hc' => cases hc; cases hc'; exact ⟨rfl, vx⟩
  | 8, hc, hc' => cases hc; cases hc'; exact ⟨rfl, fun _ _ _ h => h⟩
  | 9, hc, hc' => cases hc; cases hc'; exact ⟨rfl, fun _ _ _ h => h⟩
  | j + 10, hc, hc' => simp at hc
theorem list_rel {α : Type} {enc : α → List D} {Q : α → Prop} : ∀ {es : List (List D)}, (∀ (j : Nat) (c : List D), es[j]? = some c → ∃ r : α, CellR c (enc r) ∧ Q r) → ∃ rs : List α, rs.length = es.length ∧ (∀ (j : Nat) (c : List D) (r : α), es[j]? = some c → rs[j]? = some r → CellR c (enc r)) ∧ ∀ r ∈ rs, Q r
  | [], _ => ⟨[], rfl, fun j c r h => by simp at h, fun r h => by cases h⟩
  | e :: es, h => by
    obtain ⟨r, hr, hq⟩ := h 0 e rfl
    obtain ⟨rs, h1, h2, h3⟩ := list_rel (es := es) fun j c hc => h (j + 1) c (by simpa using hc)
    refine ⟨r :: rs, by simp [h1], fun j c r' hc hr' => ?_, fun x hx => ?_⟩
    · cases j with
      | zero => have e1 : e = c := by simpa using hc
                have e2 : r = r' := by simpa using hr'
                rw [← e1, ← e2]; exact hr
      | succ j => exact h2 j c r' (by simpa using hc) (by simpa using hr')
    · rcases List.mem_cons.1 hx with rfl | hx
      · exact hq
      · exact h3 x hx
theorem VR.sl_rel {W : World} {C : Cx} {sz : Nat} {es es' : List (List D)} {x : Bool} {v : Value} (h : VR W C (.sl sz es x) v) (hl : es'.length = es.length) (hr : ∀ (j : Nat) (e e' : List D), es[j]? = some e → es'[j]? = some e' → CellR e e') : VR W C (.sl sz es' x) v := by
  have at' : ∀ {j : Nat} {e' : List D}, es'[j]? = some e' → ∃ e, es[j]? = some e := fun {j e'} h => by
    have hj := (List.getElem?_eq_some_iff.1 h).1
    exact ⟨es[j]'(by omega), List.getElem?_eq_getElem (by omega)⟩
  have cell : ∀ {e e' : List D} {j : Nat} {c' : D}, CellR e e' → e'[j]? = some c' → ∃ c, e[j]? = some c := fun {e e' j c'} h k => by
    have hj := (List.getElem?_eq_some_iff.1 k).1
    exact ⟨e[j]'(by rw [← h.1]; exact hj), List.getElem?_eq_getElem (by rw [← h.1]; exact hj)⟩
  cases h with
  | sl vs hp hg hcap hx hs hc ho hv =>
    rw [← hl] at hp hcap hx hc ⊢
    refine .sl vs hp hg hcap hx (fun i e' he' => ?_) hc (fun i j e' c' he' hc' => ?_) (fun i j e' c' he' hc' => ?_)
    · obtain ⟨e, he⟩ := at' he'
      rw [(hr i e e' he he').1]; exact hs i e he
    · obtain ⟨e, he⟩ := at' he'
      obtain ⟨c, hc⟩ := cell (hr i e e' he he') hc'
      exact ((hr i e e' he he').2 j c c' hc hc').1
    · obtain ⟨e, he⟩ := at' he'
      obtain ⟨c, hc⟩ := cell (hr i e e' he he') hc'
      exact ((hr i e e' he he').2 j c c' hc hc').2 _ _ _ (hv i j e c he hc)
  | sl0 hx =>
    have : es' = [] := List.eq_nil_of_length_eq_zero (by simpa using hl)
    subst this
    exact .sl0 hx
theorem AuditTickets_walk {W : World} {xs : List D} {vs : Array Value} (ht : TVs Tryd.prog [37, 38, 39] xs) (hv : VRs W ⟨Tryd.prog, fun _ => none, fun g => g < W.heap.size⟩ xs vs.toList) (hp : pureL xs = true) :
    Calls Tryd.prog 4 vs W fun e W' => e = .returned (.bool true) ∧ Below W.heap.size W W' := by
  obtain ⟨d, _, rfl, h1, ht⟩ := ht.inv
  obtain ⟨d2, _, rfl, h2, ht⟩ := ht.inv
  obtain ⟨d3, _, rfl, h3, ht⟩ := ht.inv
  have := ht.inv0
  subst this
  obtain ⟨v1, v2, v3, hvs⟩ : ∃ v1 v2 v3, vs.toList = [v1, v2, v3] := by
    have := hv.1
    match vs.toList, this with
    | [v1, v2, v3], _ => exact ⟨v1, v2, v3, rfl⟩
  rw [hvs] at hv
  have r1 := hv.head
  have r2 := hv.tail.head
  have r3 := hv.tail.tail.head
  simp only [pureL_cons, pureL_nil, Bool.and_eq_true] at hp
  obtain ⟨p1, p2, p3, -⟩ := hp
  obtain ⟨ts, x, q1, s1⟩ : ∃ (ts : List Tk2) (x : Bool), VR W ⟨Tryd.prog, fun _ => none, fun g => g < W.heap.size⟩ (.sl 10 (ts.map Tk2.enc) x) v1 ∧ ∀ t ∈ ts, ∃ N, TkS N t := by
    rcases h1.toSlice Tryd.underlying37 with rfl | ⟨es, x, rfl, -, hes⟩
    · exact ⟨[], true, nils_sl r1, fun t h => by cases h⟩
    · rw [cells_tktT] at r1
      obtain ⟨ts, hl, hr, hq⟩ := list_rel (enc := Tk2.enc) fun j c hc => tkt_ofT (hes j c hc)
      refine ⟨ts, x, VR.sl_rel r1 (by rw [List.length_map]; exact hl) (fun j e e' he he' => ?_), hq⟩
      rw [List.getElem?_map] at he'
      obtain ⟨t, ht, rfl⟩ := Option.map_eq_some_iff.1 he'
      exact hr j e t he ht
  obtain ⟨bs, y, q2⟩ : ∃ (bs : List Bk) (y : Bool), VR W ⟨Tryd.prog, fun _ => none, fun g => g < W.heap.size⟩ (.sl 6 (bs.map Bk.enc) y) v2 := by
    rcases h2.toSlice Tryd.underlying38 with rfl | ⟨es, x, rfl, -, hes⟩
    · exact ⟨[], true, nils_sl r2⟩
    · rw [cells_bkT] at r2 p2
      obtain ⟨bs, rfl, -⟩ := list_ofT fun j c hc => bk_ofT (hes j c hc) (pureLL_at (by simpa [D.pure] using p2) hc)
      exact ⟨bs, x, r2⟩
  obtain ⟨ss, z, q3⟩ : ∃ (ss : List Stt) (z : Bool), VR W ⟨Tryd.prog, fun _ => none, fun g => g < W.heap.size⟩ (.sl 4 (ss.map Stt.enc) z) v3 := by
    rcases h3.toSlice Tryd.underlying39 with rfl | ⟨es, x, rfl, -, hes⟩
    · exact ⟨[], true, nils_sl r3⟩
    · rw [cells_sttT] at r3
      obtain ⟨ss, rfl, -⟩ := list_ofT fun j c hc => stt_ofT (hes j c hc)
      exact ⟨ss, x, r3⟩
  obtain ⟨N, hN⟩ := bound_all (P := fun (t : Tk2) n => TkS n t) (fun a m n h k => ⟨k.cs, k.tx, ⟨by have := k.c; omega, k.c.2⟩, fun c hc => ⟨by have := k.k c hc; omega, (k.k c hc).2⟩, k.n, k.f⟩) ts s1
  obtain ⟨r, T, hT, rfl⟩ := AuditTickets_d (n := N + 1302) (by omega) (ts := ts) (bs := bs) (ss := ss) (x := x) (y := y) (z := z) (fun t ht => by
    have k := hN t ht
    exact ⟨k.cs, k.tx, ⟨by have := k.c; omega, k.c.2⟩, fun c hc => ⟨by have := k.k c hc; omega, (k.k c hc).2⟩, k.n, k.f⟩)
  refine true_of_dcall envOk (I := fun g => g < W.heap.size) hT (fun g h => h) (fun g cs hg => by cases hg) ?_
  rw [hvs]
  exact VRs.cons q1 (VRs.cons q2 (VRs.cons q3 VRs.nil))
end Go.Proofs.YteffefjkcappbaaDoor
