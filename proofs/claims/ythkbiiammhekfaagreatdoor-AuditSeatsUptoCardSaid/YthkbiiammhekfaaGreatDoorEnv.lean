/-
  The machine of XDm at this seat's program is sound.
-/
import Derived.Test.YthkbiiammhekfaaGreatDoorEnvA
import Derived.Test.YthkbiiammhekfaaGreatDoorMw
set_option linter.unusedSimpArgs false
set_option linter.unusedVariables false
namespace Go.Proofs.YthkbiiammhekfaaGreatDoor.Dm
open Go

theorem envOk0 : EnvOk E0 where
  mixed := by kernel_rfl
  names f fn hf := by
    have hlt : f < Tryz.prog.funcs.size := (Array.getElem?_eq_some_iff.1 hf).1
    have := List.all_eq_true.1 name_all f (List.mem_range.2 hlt)
    unfold nameF at this
    rw [show E0.P.funcs[f]? = some fn from hf] at this
    simpa using this
  keys kt h := by
    have hm : kt ∈ keyTs := by simpa [E0, envOf] using h
    simp only [keyTs, List.mem_cons, List.not_mem_nil, or_false] at hm
    first
    | (rcases hm with rfl | rfl
       · exact Maps.string_keyed Tryz.underlying9
       · exact Maps.Keyed.of_law (deep_law_laid (m := 20) (by kernel_rfl) (by decide) (Nat.le_of_ble_eq_true (by kernel_rfl)) (by kernel_rfl) (by kernel_rfl)))
    | (subst hm; exact Maps.string_keyed Tryz.underlying9)
    | (subst hm; exact Maps.Keyed.of_law (deep_law_laid (m := 20) (by kernel_rfl) (by decide) (Nat.le_of_ble_eq_true (by kernel_rfl)) (by kernel_rfl) (by kernel_rfl)))
    | exact hm.elim
  lin f fn c hf hb hm := by
    have hlt : f < Tryz.prog.funcs.size := (Array.getElem?_eq_some_iff.1 hf).1
    have := List.all_eq_true.1 lin_all f (List.mem_range.2 hlt)
    unfold linF at this
    rw [show E0.P.funcs[f]? = some fn from hf] at this
    dsimp only at this
    rw [hb] at this
    simpa [hm] using this
  globals g cs h := by cases h
  prims f p h := by cases h
  exts g p h := by
    change extOf g = some p at h
    unfold extOf at h
    split at h
    · rename_i hm
      have h' := (Option.some.inj h).symm
      clear h
      subst h'
      first
      | (exfalso; revert hm; simp [cntFs]; done)
      | skip
      simp only [cntFs, List.contains_cons, List.contains_nil, Bool.or_false, beq_iff_eq] at hm
      subst hm
      refine ⟨_, Extern.BytealgCount.count, Tryz.func186, by kernel_rfl, by kernel_rfl, by kernel_rfl, by kernel_rfl, fun S args d S' W C vs hd hs hP hv => ?_⟩
      obtain ⟨d', hd', e⟩ := Option.map_eq_some_iff.1 hd
      cases e
      obtain ⟨u, hu, hr⟩ := run_dCount (P := E0.P) (W := W) hd' hv
      exact ⟨u, W, C, hu, hr, hs, Fr.refl _ _ _⟩
    split at h
    · rename_i hm
      have h' := (Option.some.inj h).symm
      clear h
      subst h'
      first
      | (exfalso; revert hm; simp [idxFs]; done)
      | skip
      simp only [idxFs, List.contains_cons, List.contains_nil, Bool.or_false, beq_iff_eq] at hm
      subst hm
      refine ⟨_, Extern.BytealgIndexByte.indexByte, Tryz.func183, by kernel_rfl, by kernel_rfl, by kernel_rfl, by kernel_rfl, fun S args d S' W C vs hd hs hP hv => ?_⟩
      obtain ⟨d', hd', e⟩ := Option.map_eq_some_iff.1 hd
      cases e
      obtain ⟨u, hu, hr⟩ := run_dIndexB (P := E0.P) (W := W) hd' hv
      exact ⟨u, W, C, hu, hr, hs, Fr.refl _ _ _⟩
    · split at h
      · rename_i hm
        have h' := (Option.some.inj h).symm
        clear h
        subst h'
        first
        | (exfalso; revert hm; simp [clnFs]; done)
        | skip
      · split at h
        · rename_i q hq
          have h' := (Option.some.inj h).symm
          clear h
          subst h'
          have hm := List.mem_of_find?_eq_some hq
          have he : q.1 = g := by simpa using List.find?_some hq
          subst he
          first
          | (exfalso; revert hm; simp [ovlFs]; done)
          | skip
          simp only [ovlFs, List.mem_cons, List.not_mem_nil, or_false] at hm
          subst hm
          refine ⟨_, Extern.SlicesOverlaps.overlaps #[44, 44] #[4], Tryz.func152, by kernel_rfl, by kernel_rfl, by kernel_rfl, by kernel_rfl, fun S args d S' W C vs hd hs hP hv => ?_⟩
          obtain ⟨d', hd', e⟩ := Option.map_eq_some_iff.1 hd
          cases e
          obtain ⟨u, hu, hr⟩ := run_dOverlaps (P := Tryz.prog) (tR := 4) hs hd' hv
          exact ⟨u, W, C, hu, hr, hs, Fr.refl _ _ _⟩
        · cases h
theorem linR_prim (p q : FuncId → Option (List D → List Ob → Option (D × List Ob))) (b : Bool) (ops : Array Oper) : linR (envOf p) b ops = linR (envOf q) b ops := rfl
theorem freeAt_prim (p q : FuncId → Option (List D → List Ob → Option (D × List Ob))) (ops : Array Oper) (bf : Array Nat) (L : List Nat) (listed : Array Bool) (i : Nat) : freeAt (envOf p) ops bf L listed i = freeAt (envOf q) ops bf L listed i := rfl
theorem planOk_prim (p q : FuncId → Option (List D → List Ob → Option (D × List Ob))) (ops : Array Oper) (bf : Array Nat) (L : List Nat) : ∀ (pl : Plan) (inB : Bool) (n : Nat) (listed : Array Bool), planOk (envOf p) ops bf L inB n listed pl = planOk (envOf q) ops bf L inB n listed pl
  | .done, inB, n, listed => by cases inB <;> cases n <;> rfl
  | .step i pl, inB, n, listed => by
    cases n with
    | zero => cases inB <;> rfl
    | succ n =>
      rw [planOk, planOk, planOk_prim p q ops bf L pl, freeAt_prim p q]
  | .both a b, inB, n, listed => by
    cases n with
    | zero => cases inB <;> rfl
    | succ n =>
      rw [planOk, planOk, planOk_prim p q ops bf L a, planOk_prim p q ops bf L b]
theorem planR_prim (p q : FuncId → Option (List D → List Ob → Option (D × List Ob))) (ops : Array Oper) (L : List Nat) (pl : Plan) : planR (envOf p) ops L pl = planR (envOf q) ops L pl := by
  unfold planR
  rw [planOk_prim p q]
theorem linC_prim (p q : FuncId → Option (List D → List Ob → Option (D × List Ob))) : ∀ c : Code, linC (envOf p) c = linC (envOf q) c := by
  intro c
  induction c with
  | seq x y ihx ihy => simp only [linC, ihx, ihy]
  | cond c x y ihx ihy => simp only [linC, ihx, ihy]
  | block id c ih => simp only [linC, ih]
  | loop c ih => simp only [linC, ih]
  | scope c ih => simp only [linC, ih]
  | region id ops draw =>
    have e1 : (envOf p).plan = (envOf q).plan := rfl
    unfold linC
    rw [e1]
    congr 1
    split
    · exact linR_prim p q _ ops
    · exact planR_prim p q _ _ _
  | _ => rfl
def isT0 : Option (D × List Ob) → Bool
  | some (.bool b, _) => b
  | _ => false
theorem isT0_spec {o : Option (D × List Ob)} (h : isT0 o = true) : ∃ T, o = some (.bool true, T) := by
  unfold isT0 at h
  split at h
  · subst h; exact ⟨_, rfl⟩
  · cases h
end Go.Proofs.YthkbiiammhekfaaGreatDoor.Dm
