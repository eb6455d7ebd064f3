/-
  The rule for a region with a call of a function of which is known what it does whichever way a map's order goes.
-/
import Derived.Test.YtajhgnefcddenaaGreatDoorMw
import Derived.Test.YtajhgnefcddenaaGreatDoorEval
namespace Go.Proofs.YtajhgnefcddenaaGreatDoor.Dm
open Go Go.RowKit
set_option linter.unusedVariables false

/-- What a call of a function comes to, whichever way the tape goes. -/
def CallsR (E : Env) (g : FuncId) (args : List D) (S : List Ob) (R : D → List Ob → Prop) : Prop :=
  (∃ fn, E.P.funcs[g]? = some fn ∧ fn.body.isSome = true) ∧ ∀ (W : World) (C : Cx) (vargs : Array Value), SR W C S → C.P = E.P → GR W C E.G → VRs W C args vargs.toList →
    Calls E.P g vargs W fun e W' => ∃ v C' d T, e = .returned v ∧ R d T ∧ VR W' C' d v ∧ SR W' C' T ∧ Fr W C S W' C' T
section
variable {E : Env} {call : Call} (hE : EnvOk E) (hC : CallOk E call)
include hE hC
omit hC in
theorem wpOps_call {ops : Array Oper} {Q : Exit → Act → World → Prop} {k m : Nat} {o : Oper} {g : FuncId} {args : Array Operand} {tys : Array TypeId} (ho : ops[k]? = some o) (hg : o.guard = none) (hop : o.op = .call { callee := .value (.func g), args := args, argTypes := tys })
    {act : List D} {a : Act} {S : List Ob} {W : World} {C : Cx} (hs : St E W C S act a) {R : D → List Ob → Prop} (hcl : CallsR E g (args.toList.map (evD E act)) S R)
    (hn : ∀ v W' C' d T, R d T → VR W' C' d v → SR W' C' T → Fr W C S W' C' T → wpOps E.P ops Q (List.range' (k + 1) m) (a.put o.dst v) W') : wpOps E.P ops Q (List.range' k (m + 1)) a W := by
  rw [List.range'_succ]
  unfold wpOps
  rw [ho]
  dsimp only
  have hw : Region.wanted o (yielded ops a.tmps) = true := by unfold Region.wanted; rw [hg]
  rw [if_pos hw]
  refine .inl ?_
  have hargs : VRs W C (args.toList.map (evD E act)) ((#[] ++ args.map a.eval) ++ #[] : Array Value).toList := by
    rw [Array.toList_append, Array.toList_append, Array.toList_map]
    simpa using VRs.map (hs.a.eval hs.g) args.toList
  obtain ⟨⟨fn, hfn, hbody⟩, hcl⟩ := hcl
  have hcl := hcl W C _ hs.sr hs.p hs.g hargs
  have hrun : (execOp a.eval o).run E.P W = .ok (.enter g ((#[] ++ args.map a.eval) ++ #[])) W := by
    have hnone : fn.body.isNone = false := by cases hb : fn.body <;> simp [hb] at hbody ⊢
    have hvf : a.eval (.func g) = .func (.func g) #[] #[] := rfl
    simp only [execOp, hop, resolve, hvf, Deferred.ofValue, invoke, Sem.run_bind, Sem.run_pure, Result.andThen_ok, callFunc, run_program, hfn]
    rw [if_neg (by simpa using hE.names g fn hfn), if_neg (by simp [hnone])]
    rfl
  unfold Oper.wp
  rw [hrun, Oper.upon_enter]
  refine hcl.mono ?_
  rintro e W' ⟨v, C', d, T, rfl, h0, h1, h2, h3⟩
  exact hn v W' C' d T h0 h1 h2 h3
theorem MW.callf {i : Nat} {ops : Array Oper} {pre post : List Oper} {oc : Oper} {g : FuncId} {args : Array Operand} {tys : Array TypeId} {t : Nat} (hops : ops.toList = pre ++ oc :: post) (hop : oc.op = .call { callee := .value (.func g), args := args, argTypes := tys }) (hg : oc.guard = none) (hd : oc.dst = some t)
    {act : List D} {S : List Ob} {R : D → List Ob → Prop} {Q : DX → List D → List Ob → Prop}
    (h : WR (runD E call false ops pre act S) fun a1 S1 => CallsR E g (args.toList.map (evD E a1)) S1 R ∧ ∀ d T, R d T → WR (runD E call false ops post (a1.set t d) T) fun a2 T2 => Q .normal a2 T2) :
    MW E (.region i ops false) Q act S := by
  intro W C a hs Qm kQ
  obtain ⟨a1, S1, hpre, hcl, hpost⟩ := h
  refine wp_region ?_
  have hsz : ops.size = pre.length + (1 + post.length) := by rw [← Array.length_toList, hops]; simp; omega
  have hget : ∀ j, ops[j]? = (pre ++ oc :: post)[j]? := fun j => by rw [← Array.getElem?_toList, hops]
  rw [List.range_eq_range', hsz]
  refine run_wp_k hE hC (l := pre) (k := 0) (fun j hj => by rw [Nat.zero_add, hget, List.getElem?_append_left hj]) hs hpre fun a' W1 C1 hs1 hf1 => ?_
  rw [Nat.zero_add, Nat.add_comm 1]
  refine wpOps_call hE (o := oc) (by rw [hget]; simp) hg hop hs1 hcl fun v W2 C2 d T hr hv hsr2 hf2 => ?_
  obtain ⟨a2, T2, hrun, hq⟩ := hpost d T hr
  have hs2 : St E W2 C2 T (a1.set t d) (a'.put oc.dst v) := by
    rw [hd]
    exact ⟨hsr2, hf2.P.trans hs1.p, hs1.g.fr hs1.sr hf2, (hs1.a.fr hs1.sr hf2).put (some t) hv⟩
  have := run_wp_k hE hC (st := false) (Q := fun e a w => Qm e a w) (m := 0) (l := post) (k := pre.length + 1) (fun j hj => by rw [hget, List.getElem?_append_right (by omega), show pre.length + 1 + j - pre.length = j + 1 by omega, List.getElem?_cons_succ]) hs2 hrun (fun a3 W3 C3 hs3 hf3 => by
    show wpOps E.P ops _ [] a3 W3
    exact kQ .normal _ _ _ _ _ hq hs3 ((hf1.trans hf2).trans hf3))
  simpa using this
end
end Go.Proofs.YtajhgnefcddenaaGreatDoor.Dm
