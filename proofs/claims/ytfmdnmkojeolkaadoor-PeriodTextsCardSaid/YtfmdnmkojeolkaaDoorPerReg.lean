/-
  Normal of layer 4: a loop over each that gathers the first day, the last day and the mask of weekdays.
-/
import Derived.Test.YtfmdnmkojeolkaaDoorPerCount
import Derived.RegionTactic
import Derived.Test.YtfmdnmkojeolkaaDoorRegion
namespace Go.Proofs.YtfmdnmkojeolkaaDoor
open Go.RowKit Go.Shelf

attribute [local go_sem] Oper.semAt_some

/-- Block B is a box of three cells. -/
def Box3 (W : World) (B : Nat) (t : TypeId) (x y z : Value) : Prop := W.heap[B]? = some (.cells #[x, y, z] t (0, 0))
theorem Box3.lt {W : World} {B : Nat} {t : TypeId} {x y z : Value} (h : Box3 W B t x y z) : B < W.heap.size := (Array.getElem?_eq_some_iff.1 h).1
theorem Box3.c0 {W : World} {B : Nat} {t : TypeId} {x y z : Value} (h : Box3 W B t x y z) : W.cell? ⟨B, 0, none⟩ = some x := by simp [World.cell?, show W.heap[B]? = _ from h]
theorem Box3.c1 {W : World} {B : Nat} {t : TypeId} {x y z : Value} (h : Box3 W B t x y z) : W.cell? ⟨B, 1, none⟩ = some y := by simp [World.cell?, show W.heap[B]? = _ from h]
theorem Box3.c2 {W : World} {B : Nat} {t : TypeId} {x y z : Value} (h : Box3 W B t x y z) : W.cell? ⟨B, 2, none⟩ = some z := by simp [World.cell?, show W.heap[B]? = _ from h]
theorem Box3.f0 {W : World} {B : Nat} {t : TypeId} {x y z : Value} (h : Box3 W B t x y z) (i : Nat) : W.frozen? ⟨B, i, none⟩ = false := by simp [World.frozen?, show W.heap[B]? = _ from h]
theorem Box3.new (W : World) (t : TypeId) (x y z : Value) : Box3 (W.alloc (.cells #[x, y, z] t)) W.heap.size t x y z := World.alloc_heap_new W _
theorem Box3.kept {W W' : World} {row : Option Nat} {B : Nat} {t : TypeId} {x y z : Value} (h : Box3 W B t x y z) (hg : W.grownBy W' row) (hne : some B ≠ row) : Box3 W' B t x y z := (hg.block B h.lt hne).trans h
theorem Box3.alloc {W : World} {B : Nat} {t : TypeId} {x y z : Value} (h : Box3 W B t x y z) (o : Obj) : Box3 (W.alloc o) B t x y z := h.kept (World.grownBy_alloc W o none) (by simp)
theorem Box3.below {W W' : World} {n₀ B : Nat} {t : TypeId} {x y z : Value} (h : Box3 W B t x y z) (hb : Below n₀ W W') (hB : B < n₀) : Box3 W' B t x y z := (hb.block B hB).trans h
theorem Box3.perAt {W : World} {B : Nat} {t : TypeId} {p : Per.P} (h : Box3 W B t (.int .i64 p.f) (.int .i64 p.t) (.int .i64 p.d)) : PerAt W B p := ⟨h.c0, h.c1, h.c2⟩
theorem modify_at {h : Array Obj} {B : Nat} {o : Obj} (f : Obj → Obj) (hb : h[B]? = some o) : (h.modify B f)[B]? = some (f o) := by
  obtain ⟨hlt, hk⟩ := Array.getElem?_eq_some_iff.1 hb
  rw [Array.getElem?_eq_getElem (by rw [Array.size_modify]; exact hlt), Array.getElem_modify_self, hk]
theorem Box3.set0 {W : World} {B : Nat} {t : TypeId} {x y z : Value} (v : Value) (h : Box3 W B t x y z) : Box3 (W.setCell ⟨B, 0, none⟩ v) B t v y z := modify_at _ h
theorem Box3.set1 {W : World} {B : Nat} {t : TypeId} {x y z : Value} (v : Value) (h : Box3 W B t x y z) : Box3 (W.setCell ⟨B, 1, none⟩ v) B t x v z := modify_at _ h
theorem Box3.set2 {W : World} {B : Nat} {t : TypeId} {x y z : Value} (v : Value) (h : Box3 W B t x y z) : Box3 (W.setCell ⟨B, 2, none⟩ v) B t x y v := modify_at _ h
theorem setCell_other {W : World} {B : Nat} {a : Addr} (v : Value) (hne : B ≠ a.block) : (W.setCell a v).heap[B]? = W.heap[B]? := Below.heap_setCell _ _ _ _ hne
theorem Box3.other {W : World} {B : Nat} {t : TypeId} {x y z : Value} (h : Box3 W B t x y z) {a : Addr} (v : Value) (hne : B ≠ a.block) : Box3 (W.setCell a v) B t x y z := (setCell_other v hne).trans h
theorem boxed_otherAt {W : World} {B : Nat} {t : TypeId} {x : Value} (h : Boxed W B t x) {a : Addr} (v : Value) (hne : B ≠ a.block) : Boxed (W.setCell a v) B t x := (setCell_other v hne).trans h
theorem box3_own {β : Type} (B : Nat) (t : TypeId) (x y z : β → Value) : Own (fun s W => Box3 W B t (x s) (y s) (z s)) := fun s X Y row hs hg hrow =>
  hs.kept hg (fun e' => by obtain ⟨o, ho, hc⟩ := hrow B e'.symm; rw [show X.heap[B]? = _ from hs] at ho; cases ho; cases hc)

/-- A period that may not be there, as Normal returns it. -/
def canonV (l : List Int) : Value := .tuple #[pv (Per.canon l), .bool (Per.ne l)]


set_option maxRecDepth 100000 in
set_option maxHeartbeats 1000000 in
/-- 'out.Days |= 1 << calendar.Weekday(day)': whatever its order, the mask has the day's bit. -/
theorem normal_reg9 (l B : Nat) (w4 : World) (m x : Int) (hm0 : 0 ≤ m) (hm1 : m ≤ 127) (k2 : w4.cell? ⟨B, 2, none⟩ = some (.int .i64 m)) (l2 : w4.frozen? ⟨B, 2, none⟩ = false)
    (t0 t1 t2 t3 t5 t7 t8 t9 t10 t11 t12 t13 t14 t15 : Value) (Q : Exit → Act → World → Prop)
    (hQ : ∀ tmps, Q .normal { tmps := tmps, defers := [] } (w4.setCell ⟨B, 2, none⟩ (.int .i64 (Per.orBit m x))).drew)
    (c : Code) (hc : regOf 9 (Tryd.f32.body.getD .skip) = some c) :
    c.wpIn (Fence.wide.inRound l) 3 Tryd.prog Q { tmps := #[t0, t1, t2, t3, .pointer (some ⟨B, 0, none⟩), t5, .int .i64 x, t7, t8, t9, t10, t11, t12, t13, t14, t15, undef, undef, undef, undef, undef, undef, undef, undef, undef], defers := [] } w4 := by
  have hmix : Tryd.prog.follows .mixedOrders = true := by kernel_rfl
  have hw := Cal.wd_bd x
  have hbb := Per.bit_bd x
  have hbd : 2 ^ (Cal.wd x).toNat ≤ (64 : Int) ∧ (1 : Int) ≤ 2 ^ (Cal.wd x).toNat := hbb.symm
  have hwr : wrap64 (2 ^ (Cal.wd x).toNat) = 2 ^ (Cal.wd x).toNat := IntWalk.wrap64_in _ ⟨by omega, by omega⟩
  have hor : bits .or .i64 m (2 ^ (Cal.wd x).toNat) = Per.orBit m x := by
    have := Per.or_bit (m := m) x hm0 hm1
    rw [← this]
    exact i64_or _ _ hm0 (by omega) (by omega) (by omega)
  simp only [Tryd.f32, Option.getD_some, regOf] at hc
  simp only [Nat.reduceEqDiff, if_false, if_true, Option.some.injEq] at hc
  subst hc
  gi_region_with_o (refine ⟨trivial, ?_⟩; gi_at_call 20; refine (CallsIn.inRound l (callsIn_wide.2 (Weekday_any _ _))).mono ?_; rintro e w' ⟨rfl, rfl⟩)
  all_goals
    gi_wp2
    try go_bits
    rw [hor]
    exact hQ _

set_option maxRecDepth 100000 in
set_option maxHeartbeats 1000000 in
/-- 'return out, some': whatever its order, the result's cells hold what out holds. -/
theorem normal_reg10 (R B C D : Nat) (w4 : World) (x y z : Int) (b : Bool) (h1 : Box3 w4 R 37 (.int .i64 0) (.int .i64 0) (.int .i64 0)) (h2 : Box3 w4 B 37 (.int .i64 x) (.int .i64 y) (.int .i64 z)) (h3 : w4.cell? ⟨C, 0, none⟩ = some (.bool b))
    (_hRB : ¬ R = B) (hRC : ¬ R = C)
    (t0 t1 t3 t6 t7 t8 t9 t10 t11 t12 t13 t14 t15 t16 t17 t18 t19 t20 t21 t22 : Value) (Q : Exit → Act → World → Prop)
    (hQ : Q .normal { tmps := #[t0, t1, .pointer (some ⟨R, 0, none⟩), .bool b, .pointer (some ⟨B, 0, none⟩), .pointer (some ⟨C, 0, none⟩), t6, t7, t8, t9, t10, t11, t12, t13, t14, t15, t16, t17, t18, t19, t20, t21, t22, .agg #[.int .i64 x, .int .i64 y, .int .i64 z], .bool b], defers := [{ target := .collected D, args := #[] }] }
      ((((w4.setCell ⟨R, 0, none⟩ (.int .i64 x)).setCell ⟨R, 1, none⟩ (.int .i64 y)).setCell ⟨R, 2, none⟩ (.int .i64 z)).drew))
    (c : Code) (hc : regOf 10 (Tryd.f32.body.getD .skip) = some c) :
    c.wpIn Fence.wide 5 Tryd.prog Q { tmps := #[t0, t1, .pointer (some ⟨R, 0, none⟩), t3, .pointer (some ⟨B, 0, none⟩), .pointer (some ⟨C, 0, none⟩), t6, t7, t8, t9, t10, t11, t12, t13, t14, t15, t16, t17, t18, t19, t20, t21, t22, undef, undef], defers := [{ target := .collected D, args := #[] }] } w4 := by
  have hmix : Tryd.prog.follows .mixedOrders = true := by kernel_rfl
  have hx0 := h2.c0; have hx1 := h2.c1; have hx2 := h2.c2
  have hr0 := h1.c0; have hr1 := h1.c1; have hr2 := h1.c2
  have hf0 := h1.f0 0; have hf1 := h1.f0 1; have hf2 := h1.f0 2
  simp only [Tryd.f32, Option.getD_some, regOf] at hc
  simp only [Nat.reduceEqDiff, if_false, if_true, Option.some.injEq] at hc
  subst hc
  refine wpIn_mono (?_ : Code.wpIn _ _ _ _ (NoPanic Q) _ _) NoPanic.imp
  gi_region_with_o (fail)
  all_goals
    refine NoPanic.normal ?_
    exact hQ
end Go.Proofs.YtfmdnmkojeolkaaDoor
