/-
  The machine of XDm at this seat's program: lists of functions by mode, plans.
  The regions that are run by plans: checked on tables of numbers.
  The machine of XDm at this seat's program: all regions are checked.
  The machine of XDm at this seat's program is sound.
-/
import Derived.Test.YtajhgnefcddenaaDoorDmH
import Derived.Test.YtajhgnefcddenaaDoorDmG
import Derived.Test.YtajhgnefcddenaaDoorProg
import Derived.KernelRfl
import Derived.DeepKeys4
import Derived.Test.YtajhgnefcddenaaDoorMw
namespace Go.Proofs.YtajhgnefcddenaaDoor.Dm
open Go

def noFs : List Nat := []
def extFs : List Nat := [10, 24, 31, 71, 66, 72, 53]
def obsFs : List Nat := [8, 18, 20, 35, 16, 29, 65]
def genFs : List Nat := [39, 6, 12, 49, 44, 23, 19, 9, 7, 11, 13, 14, 15]
def modeOf (f : Nat) : Mode := if noFs.contains f then .no else if extFs.contains f then .ext else if genFs.contains f then .gen else if obsFs.contains f then .obs else .pure
def keyTs : List Nat := [9, 61]
def ovlFs : List (Nat × Nat) := [(63, 31)]
def cntFs : List Nat := []
def idxFs : List Nat := []
def clnFs : List Nat := []
noncomputable def extOf (g : Nat) : Option (List Ob → List D → Option (D × List Ob)) := if cntFs.contains g then some fun S l => (dCount l).map (·, S) else if idxFs.contains g then some fun S l => (dIndexB l).map (·, S) else if clnFs.contains g then some fun S l => dClone S l else match ovlFs.find? fun p => p.1 == g with
  | some p => some fun S l => (dOverlaps Tryd.prog S p.2 l).map (·, S)
  | none => none
def steps :  List Nat → Plan → Plan
  | [], p => p
  | i :: l, p => .step i (steps l p)
/-- Regions that are run by a plan: number * 1000 + operations + 1000000 * the first operation's temporary. -/
def planKey (id : Nat) : List Oper → Nat
  | [] => id * 1000
  | o :: l => id * 1000 + (l.length + 1) + 1000000 * o.dst.getD 0
@[push_cast] theorem planKey_cons {id : Nat} {op : Op} {dst : Option Tmp} {g : Option (Nat × Bool)} {ft : Array Edge} {pos : String} {ty : TypeId} {l : List Oper} : planKey id ({ op := op, dst := dst, guard := g, after := ft, pos := pos, type := ty } :: l) = id * 1000 + (l.length + 1) + 1000000 * dst.getD 0 := rfl
def planL :  List (Nat × List Nat × Plan) := [
  (19002013, [], steps [0, 1, 2, 3, 4, 6, 7, 5, 8, 9, 10, 11, 12] .done),
  (0, [], .done)]
def planIds :  List Nat := [
  19002013,
  0]
def planOf (id : Nat) (ops : Array Oper) : Option (List Nat × Plan) := if planIds.contains (planKey id ops.toList) then (planL.find? fun p => p.1 == planKey id ops.toList).map (·.2) else none
abbrev PrimF := FuncId → Option (List D → List Ob → Option (D × List Ob))
noncomputable def envOf (pr : PrimF) : Env := { P := Tryd.prog, G := fun _ => none, mode := modeOf, keys := fun t => keyTs.contains t, prim := pr, ext := extOf, plan := planOf }
noncomputable abbrev E0 : Env := envOf fun _ => none
namespace Wl
def insQ (args : List D) (S : List Ob) : Option (D × List Ob) :=
  match args with
  | [.os k 0 n false, .int .i64 i, .sl 5 [x] b] => match S[k]? with
    | some (.row 5 es) => if es.length = n ∧ 0 ≤ i ∧ i < n ∧ n ≤ 1000 then some (.os S.length 0 (n + 1) false, S.set k .dead ++ [.row 5 (es.take i.toNat ++ [x] ++ es.drop i.toNat)]) else none
    | _ => none
  | _ => none
/-- Insert: ahead of the end, and else as the machine runs it. -/
noncomputable def insP (args : List D) (S : List Ob) : Option (D × List Ob) := match insQ args S with
  | some r => some r
  | none => dcall E0 100 49 args S
end Wl
/-- The functions that are known by laws without further ones. -/
noncomputable def prim1 (f : FuncId) : Option (List D → List Ob → Option (D × List Ob)) :=
  if f = 49 then some Wl.insP else
  none
noncomputable abbrev E1 : Env := envOf prim1
/-- Functions without data whose answer is known to be true by a law of their own. -/
def primFs : List Nat := [5]
noncomputable def primOf (f : FuncId) : Option (List D → List Ob → Option (D × List Ob)) := if primFs.contains f then some (fun args S => match args with
  | [] => some (.bool true, S)
  | _ :: _ => none) else
  prim1 f
noncomputable abbrev E : Env := envOf primOf
def linF (E : Env) (f : Nat) : Bool :=
  match E.P.funcs[f]? with
  | some fn => decide (E.mode f = .no) || (match fn.body with
    | some c => linC E c
    | none => true)
  | none => true
def nameF (E : Env) (f : Nat) : Bool :=
  match E.P.funcs[f]? with
  | some fn => fn.name != "runtime.NumGoroutine"
  | none => true
/-- Functions with great plans: their check stands alone. -/
def heavyFs : List Nat := [23]
theorem all_cons' {α : Type} {p : α → Bool} {a : α} {l : List α} (h1 : p a = true) (h2 : l.all p = true) : (a :: l).all p = true := by rw [List.all_cons, h1, h2]; rfl
theorem linC_plan {id : Nat} {ops : Array Oper} {L : List Nat} {p : Plan} (h : planOf id ops = some (L, p)) (h2 : planR E0 ops L p = true) : linC E0 (.region id ops true) = true := by
  unfold linC
  show (!true || (match planOf id ops with
    | none => linR E0 (strictR E0 ops) ops
    | some (L, p) => planR E0 ops L p)) = true
  rw [h]; exact h2
def RegOk (r : Nat × Array Oper) : Prop := linC E0 (.region r.1 r.2 true) = true
theorem reg_nil : ∀ r ∈ ([] : List (Nat × Array Oper)), RegOk r := fun r h => by cases h
theorem reg_cons {a : Nat} {b : Array Oper} {l : List (Nat × Array Oper)} (h : linC E0 (.region a b true) = true) (k : ∀ r ∈ l, RegOk r) : ∀ r ∈ (a, b) :: l, RegOk r := fun r hr => by
  rcases List.mem_cons.1 hr with e | hr
  · rw [e]; exact h
  · exact k r hr
theorem linF_of {f : Nat} {fn : Func} {c : Code} {R : List (Nat × Array Oper)} (hf : Tryd.prog.funcs[f]? = some fn) (hb : fn.body = some c) (T : List Nat) (h1 : linT E0 T c = true) (h2 : heavyIn T c = R) (h3 : ∀ r ∈ R, RegOk r) : linF E0 f = true := by
  unfold linF
  rw [show E0.P.funcs[f]? = some fn from hf]
  dsimp only
  rw [hb]
  dsimp only
  rw [linT_ok c h1 (fun r hr => h3 r (h2 ▸ hr)), Bool.or_true]
end Go.Proofs.YtajhgnefcddenaaDoor.Dm
namespace Go.Proofs.YtajhgnefcddenaaDoor.Dm
open Go

theorem pl_19002013 : linC E0 (.region 2 (opsAt (Tryd.prog.funcs[23]?) 2 13) true) = true :=
  linC_plan (L := []) (p := steps [0, 1, 2, 3, 4, 6, 7, 5, 8, 9, 10, 11, 12] .done) (by as_aux_lemma => kernel_rfl) (planR_of (n := 13) (aft := [[], [], [1], [2], [3], [4], [], [], [7], [5, 6, 8, 5], [0, 0, 1, 2, 3, 4, 5, 6, 7, 8, 9], [10, 0, 1, 2, 3, 4, 5, 6, 7, 8, 9], [11, 9, 9, 0, 1, 2, 3, 4, 5, 6, 7, 8, 9]]) (bf := [0, 0, 2, 6, 14, 30, 0, 0, 128, 510, 1023, 2047, 4095]) (com := [1022, 448, 448, 448, 448, 256, 416, 32, 0, 0, 0, 0, 0]) (by as_aux_lemma => kernel_rfl) (by as_aux_lemma => kernel_rfl) (by as_aux_lemma => kernel_rfl) (by as_aux_lemma => kernel_rfl) (by as_aux_lemma => kernel_rfl) (by as_aux_lemma => kernel_rfl))
theorem lin___airline_waitlist_queue_airline_waitlist_Wait___insert : linF E0 23 = true :=
  linF_of (R := [(2, (opsAt (Tryd.prog.funcs[23]?) 2 13))]) Tryd.func23 rfl [2013] (by as_aux_lemma => kernel_rfl) (by as_aux_lemma => kernel_rfl) (reg_cons pl_19002013 (reg_nil))
theorem lin_heavy : heavyFs.all (linF E0) = true := by
  unfold heavyFs
  refine all_cons' lin___airline_waitlist_queue_airline_waitlist_Wait___insert ?_
  exact rfl
end Go.Proofs.YtajhgnefcddenaaDoor.Dm
namespace Go.Proofs.YtajhgnefcddenaaDoor.Dm
open Go

theorem lin_light : (List.range Tryd.prog.funcs.size).all (fun f => heavyFs.contains f || linF E0 f) = true := by kernel_rfl
theorem lin_all : (List.range Tryd.prog.funcs.size).all (linF E0) = true := by
  rw [List.all_eq_true]
  intro f hf
  have h := List.all_eq_true.1 lin_light f hf
  rw [Bool.or_eq_true] at h
  rcases h with h | h
  · exact List.all_eq_true.1 lin_heavy f (List.contains_iff_mem.1 h)
  · exact h
theorem name_all : (List.range Tryd.prog.funcs.size).all (nameF E0) = true := by kernel_rfl
end Go.Proofs.YtajhgnefcddenaaDoor.Dm
namespace Go.Proofs.YtajhgnefcddenaaDoor.Dm
open Go

theorem envOk0 : EnvOk E0 where
  mixed := by kernel_rfl
  names f fn hf := by
    have hlt : f < Tryd.prog.funcs.size := (Array.getElem?_eq_some_iff.1 hf).1
    have := List.all_eq_true.1 name_all f (List.mem_range.2 hlt)
    unfold nameF at this
    rw [show E0.P.funcs[f]? = some fn from hf] at this
    simpa using this
  keys kt h := by
    have hm : kt ∈ keyTs := by simpa [E0, envOf] using h
    simp only [keyTs, List.mem_cons, List.not_mem_nil, or_false] at hm
    first
    | (rcases hm with rfl | rfl
       · exact Maps.string_keyed Tryd.underlying9
       · exact Maps.Keyed.of_law (deep_law_laid (m := 20) (by kernel_rfl) (by decide) (Nat.le_of_ble_eq_true (by kernel_rfl)) (by kernel_rfl) (by kernel_rfl)))
    | (subst hm; exact Maps.string_keyed Tryd.underlying9)
    | (subst hm; exact Maps.Keyed.of_law (deep_law_laid (m := 20) (by kernel_rfl) (by decide) (Nat.le_of_ble_eq_true (by kernel_rfl)) (by kernel_rfl) (by kernel_rfl)))
    | exact hm.elim
  lin f fn c hf hb hm := by
    have hlt : f < Tryd.prog.funcs.size := (Array.getElem?_eq_some_iff.1 hf).1
    have := List.all_eq_true.1 lin_all f (List.mem_range.2 hlt)
    unfold linF at this
    rw [show E0.P.funcs[f]? = some fn from hf] at this
    dsimp only at this
    rw [hb] at this
    simpa [hm] using this
  globals g cs h := by cases h
  prims f p h := by cases h
  exts g p h := by
    change extOf g = some p at h
    unfold extOf at h
    split at h
    · rename_i hm
      have h' := (Option.some.inj h).symm
      clear h
      subst h'
      first
      | (exfalso; revert hm; simp [cntFs]; done)
      | skip
    split at h
    · rename_i hm
      have h' := (Option.some.inj h).symm
      clear h
      subst h'
      first
      | (exfalso; revert hm; simp [idxFs]; done)
      | skip
    · split at h
      · rename_i hm
        have h' := (Option.some.inj h).symm
        clear h
        subst h'
        first
        | (exfalso; revert hm; simp [clnFs]; done)
        | skip
      · split at h
        · rename_i q hq
          have h' := (Option.some.inj h).symm
          clear h
          subst h'
          have hm := List.mem_of_find?_eq_some hq
          have he : q.1 = g := by simpa using List.find?_some hq
          subst he
          first
          | (exfalso; revert hm; simp [ovlFs]; done)
          | skip
          simp only [ovlFs, List.mem_cons, List.not_mem_nil, or_false] at hm
          subst hm
          refine ⟨_, Extern.SlicesOverlaps.overlaps #[31, 31] #[4], Tryd.func63, by kernel_rfl, by kernel_rfl, by kernel_rfl, by kernel_rfl, fun S args d S' W C vs hd hs hP hv => ?_⟩
          obtain ⟨d', hd', e⟩ := Option.map_eq_some_iff.1 hd
          cases e
          obtain ⟨u, hu, hr⟩ := run_dOverlaps (P := Tryd.prog) (tR := 4) hs hd' hv
          exact ⟨u, W, C, hu, hr, hs, Fr.refl _ _ _⟩
        · cases h
theorem linR_prim (p q : FuncId → Option (List D → List Ob → Option (D × List Ob))) (b : Bool) (ops : Array Oper) : linR (envOf p) b ops = linR (envOf q) b ops := rfl
theorem freeAt_prim (p q : FuncId → Option (List D → List Ob → Option (D × List Ob))) (ops : Array Oper) (bf : Array Nat) (L : List Nat) (listed : Array Bool) (i : Nat) : freeAt (envOf p) ops bf L listed i = freeAt (envOf q) ops bf L listed i := rfl
theorem planOk_prim (p q : FuncId → Option (List D → List Ob → Option (D × List Ob))) (ops : Array Oper) (bf : Array Nat) (L : List Nat) : ∀ (pl : Plan) (inB : Bool) (n : Nat) (listed : Array Bool), planOk (envOf p) ops bf L inB n listed pl = planOk (envOf q) ops bf L inB n listed pl
  | .done, inB, n, listed => by cases inB <;> cases n <;> rfl
  | .step i pl, inB, n, listed => by
    cases n with
    | zero => cases inB <;> rfl
    | succ n =>
      rw [planOk, planOk, planOk_prim p q ops bf L pl, freeAt_prim p q]
  | .both a b, inB, n, listed => by
    cases n with
    | zero => cases inB <;> rfl
    | succ n =>
      rw [planOk, planOk, planOk_prim p q ops bf L a, planOk_prim p q ops bf L b]
theorem planR_prim (p q : FuncId → Option (List D → List Ob → Option (D × List Ob))) (ops : Array Oper) (L : List Nat) (pl : Plan) : planR (envOf p) ops L pl = planR (envOf q) ops L pl := by
  unfold planR
  rw [planOk_prim p q]
theorem linC_prim (p q : FuncId → Option (List D → List Ob → Option (D × List Ob))) : ∀ c : Code, linC (envOf p) c = linC (envOf q) c := by
  intro c
  induction c with
  | seq x y ihx ihy => simp only [linC, ihx, ihy]
  | cond c x y ihx ihy => simp only [linC, ihx, ihy]
  | block id c ih => simp only [linC, ih]
  | loop c ih => simp only [linC, ih]
  | scope c ih => simp only [linC, ih]
  | region id ops draw =>
    have e1 : (envOf p).plan = (envOf q).plan := rfl
    unfold linC
    rw [e1]
    congr 1
    split
    · exact linR_prim p q _ ops
    · exact planR_prim p q _ _ _
  | _ => rfl
def isT0 : Option (D × List Ob) → Bool
  | some (.bool b, _) => b
  | _ => false
theorem isT0_spec {o : Option (D × List Ob)} (h : isT0 o = true) : ∃ T, o = some (.bool true, T) := by
  unfold isT0 at h
  split at h
  · subst h; exact ⟨_, rfl⟩
  · cases h
end Go.Proofs.YtajhgnefcddenaaDoor.Dm
