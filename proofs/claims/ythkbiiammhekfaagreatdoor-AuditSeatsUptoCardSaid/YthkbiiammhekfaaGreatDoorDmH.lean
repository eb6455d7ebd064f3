/-
  The machine's runs of code and its calls are what the model does: what the machine hands back, the model's call hands back.
-/
import Derived.Test.YthkbiiammhekfaaGreatDoorDmG
import Derived.Scope
set_option linter.unusedSimpArgs false
set_option linter.unusedVariables false
namespace Go.Proofs.YthkbiiammhekfaaGreatDoor.Dm
open Go Go.RowKit

/-- A loop whose rounds are counted by a number beside the state. -/
theorem wp_loop_ix {P : Program} {c : Code} {Q : Exit → Act → World → Prop} (I : Nat → Act → World → Prop) (round : ∀ n a w, I n a w → c.wp P (Exit.then (fun a' w' => ∃ m, m < n ∧ I m a' w') Q) a w) {n : Nat} {a : Act} {w : World} (h0 : I n a w) : (Code.loop c).wp P Q a w := by
  intro b k cs
  have key : ∀ n a w, I n a w → ∃ e a' w', Q e a' w' ∧ Arrives P (lone (b.at a (.code c :: .inLoop c :: k)) cs w) b k cs e a' w' := by
    intro n
    induction n using Nat.strongRecOn with
    | _ n ih =>
      intro a w hI
      obtain ⟨e, a₁, w₁, hq, harr⟩ := round n a w hI b (.inLoop c :: k) cs
      cases e with
      | normal =>
        obtain ⟨m, hlt, hI₁⟩ := hq
        obtain ⟨e₂, a₂, w₂, hq₂, harr₂⟩ := ih m hlt a₁ w₁ hI₁
        exact ⟨e₂, a₂, w₂, hq₂, .of_steps (Steps.trans harr (.one step_inLoop)) harr₂⟩
      | exit id => exact ⟨_, a₁, w₁, hq, .pass (x := .inLoop c) rfl (fun _ _ => .inl (by simp)) harr⟩
      | goto l => exact ⟨_, a₁, w₁, hq, .pass (x := .inLoop c) rfl (fun _ _ => .inl (by simp)) harr⟩
      | ret => exact ⟨_, a₁, w₁, hq, .pass (x := .inLoop c) rfl (fun _ _ => .inl (by simp)) harr⟩
      | panic ch => exact ⟨_, a₁, w₁, hq, .pass (x := .inLoop c) rfl (fun _ _ => .inl (by simp)) harr⟩
      | outgrown => exact ⟨_, a₁, w₁, hq, .pass (x := .inLoop c) rfl (fun _ _ => .inl (by simp)) harr⟩
  obtain ⟨e, a', w', hq, harr⟩ := key n a w h0
  exact ⟨e, a', w', hq, .of_steps (.one step_loop) harr⟩
def exitOf : DX → Exit
  | .normal => .normal
  | .exit id => .exit id
  | .ret => .ret
theorem code_wp {E : Env} {call : Call} (hE : EnvOk E) (hC : CallOk E call) {n : Nat} : ∀ (c : Code), linC E c = true → ∀ {act act' : List D} {a : Act} {S S' : List Ob} {W : World} {C : Cx} {e : DX}, St E W C S act a → codeD E call n c act S = some (e, act', S') →
    ∀ {Q : Exit → Act → World → Prop}, (∀ a' W' C', St E W' C' S' act' a' → Fr W C S W' C' S' → Q (exitOf e) a' W') → c.wp E.P Q a W := by
  intro c
  induction c with
  | skip =>
    intro _ act act' a S S' W C e hs h Q hQ
    simp only [codeD, Option.some.injEq, Prod.mk.injEq] at h
    obtain ⟨rfl, rfl, rfl⟩ := h
    exact wp_skip (hQ a W C hs (Fr.refl _ _ _))
  | region id ops draw =>
    intro hl act act' a S S' W C e hs h Q hQ
    simp only [codeD] at h
    unfold linC at hl
    have plain : (draw = true → linR E (strictR E ops) ops = true) → ((match runD E call (draw && strictR E ops) ops ops.toList act S with
        | some (a', S') => some (DX.normal, a', S')
        | none => none) : Out) = some (e, act', S') → (Code.region id ops draw).wp E.P Q a W := by
      intro hl h
      split at h
      · rename_i a1 S1 h1
        simp only [Option.some.injEq, Prod.mk.injEq] at h
        obtain ⟨rfl, rfl, rfl⟩ := h
        exact region_wp hE hC hl hs h1 hQ
      · cases h
    cases draw with
    | false => exact plain (fun e => by cases e) h
    | true =>
      simp only [Bool.not_true, Bool.false_or] at hl
      simp only [if_true] at h
      split at h
      · rename_i hpl
        rw [hpl] at hl
        exact plain (fun _ => hl) h
      · rename_i L p hpl
        rw [hpl] at hl
        dsimp only at hl
        split at h
        · rename_i a1 S1 h1
          simp only [Option.some.injEq, Prod.mk.injEq] at h
          obtain ⟨rfl, rfl, rfl⟩ := h
          exact region_plan hE hC hl hs h1 hQ
        · cases h
  | seq x y ihx ihy =>
    intro hl act act' a S S' W C e hs h Q hQ
    simp only [linC, Bool.and_eq_true] at hl
    simp only [codeD] at h
    refine wp_seq ?_
    cases hx : codeD E call n x act S with
    | none => rw [hx] at h; cases h
    | some r =>
      obtain ⟨ex, a1, S1⟩ := r
      rw [hx] at h
      refine ihx hl.1 hs hx (fun a2 W2 C2 hs2 hf2 => ?_)
      cases ex with
      | normal => exact ihy hl.2 hs2 h (fun a3 W3 C3 hs3 hf3 => hQ a3 W3 C3 hs3 (hf2.trans hf3))
      | exit id =>
        simp only [Option.some.injEq, Prod.mk.injEq] at h
        obtain ⟨rfl, rfl, rfl⟩ := h
        exact hQ a2 W2 C2 hs2 hf2
      | ret =>
        simp only [Option.some.injEq, Prod.mk.injEq] at h
        obtain ⟨rfl, rfl, rfl⟩ := h
        exact hQ a2 W2 C2 hs2 hf2
  | cond c x y ihx ihy =>
    intro hl act act' a S S' W C e hs h Q hQ
    simp only [linC, Bool.and_eq_true] at hl
    simp only [codeD] at h
    have hev := hs.a.eval (E := E) hs.g c
    generalize hv : a.eval c = v at hev
    split at h
    · rename_i hc
      rw [hc] at hev; cases hev
      exact wp_cond_true hv (ihx hl.1 hs h hQ)
    · rename_i hc
      rw [hc] at hev; cases hev
      exact wp_cond_false hv (ihy hl.2 hs h hQ)
    · cases h
  | block id c ih =>
    intro hl act act' a S S' W C e hs h Q hQ
    simp only [linC] at hl
    simp only [codeD] at h
    refine wp_block ?_
    cases hx : codeD E call n c act S with
    | none => rw [hx] at h; cases h
    | some r =>
      obtain ⟨ex, a1, S1⟩ := r
      rw [hx] at h
      refine ih hl hs hx (fun a2 W2 C2 hs2 hf2 => ?_)
      cases ex with
      | normal =>
        simp only [Option.some.injEq, Prod.mk.injEq] at h
        obtain ⟨rfl, rfl, rfl⟩ := h
        exact hQ a2 W2 C2 hs2 hf2
      | exit j =>
        simp only at h
        show Exit.inBlock id Q (.exit j) a2 W2
        unfold Exit.inBlock
        split at h
        · rename_i hj
          simp only [Option.some.injEq, Prod.mk.injEq] at h
          obtain ⟨rfl, rfl, rfl⟩ := h
          dsimp only
          rw [if_pos hj]
          exact hQ a2 W2 C2 hs2 hf2
        · rename_i hj
          simp only [Option.some.injEq, Prod.mk.injEq] at h
          obtain ⟨rfl, rfl, rfl⟩ := h
          dsimp only
          rw [if_neg hj]
          exact hQ a2 W2 C2 hs2 hf2
      | ret =>
        simp only [Option.some.injEq, Prod.mk.injEq] at h
        obtain ⟨rfl, rfl, rfl⟩ := h
        exact hQ a2 W2 C2 hs2 hf2
  | loop c ih =>
    intro hl act act' a S S' W C e hs h Q hQ
    simp only [linC] at hl
    simp only [codeD] at h
    refine wp_loop_ix (fun m b w => ∃ act1 S1 C1, St E w C1 S1 act1 b ∧ Fr W C S w C1 S1 ∧ loopD (codeD E call n c) m act1 S1 = some (e, act', S')) ?_ (n := n) ⟨act, S, C, hs, Fr.refl _ _ _, h⟩
    rintro m b w ⟨act1, S1, C1, hs1, hf1, h1⟩
    cases m with
    | zero => simp [loopD] at h1
    | succ m =>
      unfold loopD at h1
      cases hx : codeD E call n c act1 S1 with
      | none => rw [hx] at h1; cases h1
      | some r =>
        obtain ⟨ex, a2, S2⟩ := r
        rw [hx] at h1
        refine ih hl hs1 hx (fun a3 W3 C3 hs3 hf3 => ?_)
        cases ex with
        | normal => exact ⟨m, Nat.lt_succ_self m, a2, S2, C3, hs3, hf1.trans hf3, h1⟩
        | exit j =>
          simp only [Option.some.injEq, Prod.mk.injEq] at h1
          obtain ⟨rfl, rfl, rfl⟩ := h1
          exact hQ a3 W3 C3 hs3 (hf1.trans hf3)
        | ret =>
          simp only [Option.some.injEq, Prod.mk.injEq] at h1
          obtain ⟨rfl, rfl, rfl⟩ := h1
          exact hQ a3 W3 C3 hs3 (hf1.trans hf3)
  | exit id =>
    intro _ act act' a S S' W C e hs h Q hQ
    simp only [codeD, Option.some.injEq, Prod.mk.injEq] at h
    obtain ⟨rfl, rfl, rfl⟩ := h
    exact wp_exit (hQ a W C hs (Fr.refl _ _ _))
  | scope c ih =>
    intro hl act act' a S S' W C e hs h Q hQ
    simp only [linC] at hl
    simp only [codeD] at h
    refine wp_scope_straight (ih hl hs h (fun a2 W2 C2 hs2 hf2 => ?_))
    cases e <;> exact hQ a2 W2 C2 hs2 hf2
  | label l =>
    intro _ act act' a S S' W C e hs h Q hQ
    simp only [codeD, Option.some.injEq, Prod.mk.injEq] at h
    obtain ⟨rfl, rfl, rfl⟩ := h
    exact wp_label (hQ a W C hs (Fr.refl _ _ _))
  | ret =>
    intro _ act act' a S S' W C e hs h Q hQ
    simp only [codeD, Option.some.injEq, Prod.mk.injEq] at h
    obtain ⟨rfl, rfl, rfl⟩ := h
    exact wp_ret (hQ a W C hs (Fr.refl _ _ _))
  | goto l => intro _ act act' a S S' W C e hs h; simp [codeD] at h
  | refuse w => intro _ act act' a S S' W C e hs h; simp [codeD] at h
  | rangeFunc f ps x y _ _ => intro _ act act' a S S' W C e hs h; simp [codeD] at h
def readRes (tmps : Array Value) : ResultVar → Sem Value
  | .tmp t => pure (tmps.getD t undef)
  | .cell a t => do loadVar t (← asAddr (tmps.getD a undef))
theorem res_run {P : Program} {W : World} {C : Cx} {S : List Ob} (hs : SR W C S) {act : List D} {tmps : Array Value} (hA : VRs W C act tmps.toList) : ∀ {l : List ResultVar} {ds : List D}, resD P act S l = some ds →
    ∃ vs, (l.mapM (readRes tmps)).run P W = .ok vs W ∧ VRs W C ds vs
  | [], ds, h => by simp [resD] at h; subst h; exact ⟨[], by simp, VRs.nil⟩
  | .tmp t :: l, ds, h => by
    unfold resD at h
    split at h
    · rename_i d ds' h1 h2
      cases h
      obtain ⟨v, hv, hr⟩ := hA.get h1
      obtain ⟨vs, hvs, hrs⟩ := res_run hs hA h2
      rw [Array.getElem?_toList] at hv
      have e : tmps.getD t undef = v := by simp [Array.getD_eq_getD_getElem?, hv]
      refine ⟨v :: vs, ?_, VRs.cons hr hrs⟩
      rw [List.mapM_cons]
      have e1 : readRes tmps (.tmp t) = pure v := by rw [← e]; rfl
      rw [e1]
      simp only [Sem.run_bind, Sem.run_pure, Result.andThen_ok, hvs]
    · cases h
  | .cell a t :: l, ds, h => by
    unfold resD at h
    split at h
    · rename_i x h1
      split at h
      · rename_i d ds' h2 h3
        cases h
        obtain ⟨v, hv, hr⟩ := hA.get h1
        obtain ⟨vs, hvs, hrs⟩ := res_run hs hA h3
        rw [Array.getElem?_toList] at hv
        unfold dLoad at h2
        split at h2
        · rename_i cs o hb
          obtain ⟨g, b, rfl, hc⟩ := behind_spec hs hr hb
          obtain ⟨u, hu, hru⟩ := run_loadVar' (P := P) h2 hc
          have e : tmps.getD a undef = .pointer (some ⟨g, b + o, none⟩) := by simp [Array.getD_eq_getD_getElem?, hv]
          refine ⟨u :: vs, ?_, VRs.cons hru hrs⟩
          rw [List.mapM_cons]
          have e1 : (readRes tmps (.cell a t)).run P W = .ok u W := by
            show (do loadVar t (← asAddr (tmps.getD a undef)) : Sem Value).run P W = _
            rw [e]
            simp only [asAddr, Sem.run_bind, Sem.run_pure, Result.andThen_ok, hu]
          simp only [Sem.run_bind, e1, Sem.run_pure, Result.andThen_ok, hvs]
        · cases h2
      · cases h
    · cases h
theorem results_run {P : Program} {W : World} {C : Cx} {S : List Ob} (hs : SR W C S) {act : List D} {fn : Func} {tmps : Array Value} (hA : VRs W C act tmps.toList) {ds : List D} (h : resD P act S fn.results.toList = some ds) :
    ∃ v, (results fn tmps).run P W = .ok v W ∧ VR W C (tupD ds) v := by
  obtain ⟨vs, hvs, hrs⟩ := res_run (P := P) hs hA h
  have e : (results fn tmps).run P W = .ok (if h : vs.toArray.size = 1 then vs.toArray[0] else .tuple vs.toArray) W := by
    unfold results
    rw [Array.mapM_eq_mapM_toList]
    change (do let vs ← List.toArray <$> fn.results.toList.mapM (readRes tmps); pure (if h : vs.size = 1 then vs[0] else .tuple vs) : Sem Value).run P W = _
    simp only [Sem.run_bind, Sem.run_map, hvs, Result.andThen_ok, Sem.run_pure]
  rw [e]
  match ds, vs, hrs with
  | [d], [v], hrs => exact ⟨v, rfl, hrs.head⟩
  | [], [], hrs => exact ⟨.tuple #[], rfl, VR.tup_of hrs⟩
  | d :: e :: l, u :: v :: m, hrs => exact ⟨.tuple (u :: v :: m).toArray, by simp, VR.tup_of hrs⟩
  | [], _ :: _, hrs => have := hrs.1; simp at this
  | [_], [], hrs => have := hrs.1; simp at this
  | [_], _ :: _ :: _, hrs => have := hrs.1; simp at this
  | _ :: _ :: _, [], hrs => have := hrs.1; simp at this
  | _ :: _ :: _, [_], hrs => have := hrs.1; simp at this
theorem VRs.replicate {W : World} {C : Cx} {d : D} {v : Value} (h : VR W C d v) (n : Nat) : VRs W C (List.replicate n d) (List.replicate n v) := by
  induction n with
  | zero => exact VRs.nil
  | succ n ih => exact VRs.cons h ih
theorem dcall_ok {E : Env} (hE : EnvOk E) : ∀ n, CallOk E (dcall E n)
  | 0 => fun f args S d S' h => by simp [dcall] at h
  | n + 1 => by
    intro f args S d S' h W C vargs hs hP hG hv
    have ih := dcall_ok hE n
    unfold dcall at h
    split at h
    · cases h
    · rename_i hmode
      split at h
      · rename_i p hp
        exact hE.prims f p hp args S d S' h W C vargs hs hP hG hv
      split at h
      · rename_i fn hf
        split at h
        · rename_i c hb
          have hlen : args.length = vargs.size := by have := hv.1; simpa using this
          have hst : St E W C S (args ++ List.replicate (fn.ntmps - args.length) (.tup [])) { tmps := vargs ++ Array.replicate (fn.ntmps - vargs.size) undef, defers := [] } := by
            refine ⟨hs, hP, hG, ⟨?_, rfl⟩⟩
            rw [Array.toList_append, Array.toList_replicate, hlen]
            exact hv.append (VRs.replicate undef_vr _)
          refine ⟨⟨fn, hf, by rw [hb]; rfl⟩, calls_of_wp hf hb ?_⟩
          have fin : ∀ {e : DX} {act' : List D} {S1 : List Ob}, codeD E (dcall E n) n c (args ++ List.replicate (fn.ntmps - args.length) (.tup [])) S = some (e, act', S1) → e = .normal ∨ e = .ret → (resD E.P act' S1 fn.results.toList).map (fun ds => (tupD ds, S1)) = some (d, S') →
              c.wp E.P (bodyPost E.P fn fun e W' => ∃ v C', e = .returned v ∧ VR W' C' d v ∧ SR W' C' S' ∧ Fr W C S W' C' S') { tmps := vargs ++ Array.replicate (fn.ntmps - vargs.size) undef, defers := [] } W := by
            intro e act' S1 hcode he hres
            obtain ⟨ds, hds, heq⟩ := Option.map_eq_some_iff.1 hres
            cases heq
            refine code_wp hE ih c (hE.lin f fn c hf hb hmode) hst hcode (fun a' W' C' hs' hf' => ?_)
            obtain ⟨v, hr, hrv⟩ := results_run (P := E.P) hs'.sr hs'.a.vals hds
            rcases he with rfl | rfl
            · exact ⟨hs'.a.defers, v, hr, v, C', rfl, hrv, hs'.sr, hf'⟩
            · exact ⟨hs'.a.defers, v, hr, v, C', rfl, hrv, hs'.sr, hf'⟩
          cases hcode : codeD E (dcall E n) n c (args ++ List.replicate (fn.ntmps - args.length) (.tup [])) S with
          | none => rw [hcode] at h; cases h
          | some r =>
            obtain ⟨e, act', S1⟩ := r
            rw [hcode] at h
            cases e with
            | normal => exact fin hcode (.inl rfl) h
            | exit id => cases h
            | ret => exact fin hcode (.inr rfl) h
        · cases h
      · cases h
/-- What the machine hands back for data, the model's call hands back; nothing that was there turns. -/
theorem calls_of_dcall {E : Env} (hE : EnvOk E) {n : Nat} {f : FuncId} {args : List D} {d : D} {T : List Ob} (h : dcall E n f args [] = some (d, T)) {W : World} {I : Nat → Prop} {vargs : Array Value} (hI : ∀ g, I g → g < W.heap.size)
    (hG : GR W ⟨E.P, fun _ => none, I⟩ E.G) (hv : VRs W ⟨E.P, fun _ => none, I⟩ args vargs.toList) :
    Calls E.P f vargs W fun e W' => ∃ v C', e = .returned v ∧ VR W' C' d v ∧ Below W.heap.size W W' := by
  have hs0 : SR W ⟨E.P, fun _ => none, I⟩ [] := ⟨fun k ob hk => (by simp at hk), fun k x hx => (by cases hx), fun k k' ob ob' x x' hk => (by simp at hk), hI⟩
  refine (dcall_ok hE n f args [] d T h W _ vargs hs0 rfl hG hv).2.mono ?_
  rintro e W' ⟨v, C', rfl, hr, hs, hf⟩
  refine ⟨v, C', rfl, hr, ⟨hf.os, hf.tape, hf.output, hf.size, fun k hk => hf.keep k hk ?_⟩⟩
  rintro ⟨i, o, s, t, T', h1, -⟩
  simp at h1
theorem true_of_dcall {E : Env} (hE : EnvOk E) {n : Nat} {f : FuncId} {args : List D} {T : List Ob} (h : dcall E n f args [] = some (.bool true, T)) {W : World} {I : Nat → Prop} {vargs : Array Value} (hI : ∀ g, I g → g < W.heap.size)
    (hG : GR W ⟨E.P, fun _ => none, I⟩ E.G) (hv : VRs W ⟨E.P, fun _ => none, I⟩ args vargs.toList) :
    Calls E.P f vargs W fun e W' => e = .returned (.bool true) ∧ Below W.heap.size W W' := by
  refine (calls_of_dcall hE h hI hG hv).mono ?_
  rintro e W' ⟨v, C', rfl, hr, hb⟩
  cases hr
  exact ⟨rfl, hb⟩
end Go.Proofs.YthkbiiammhekfaaGreatDoor.Dm
