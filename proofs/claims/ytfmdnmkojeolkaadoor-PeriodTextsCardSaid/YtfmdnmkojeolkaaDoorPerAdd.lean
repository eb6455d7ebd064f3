/-
  Without of layer 4: its closure, and the function.
-/
import Derived.Test.YtfmdnmkojeolkaaDoorPerMeet
import Derived.Test.YtfmdnmkojeolkaaDoorPerCount
namespace Go.Proofs.YtfmdnmkojeolkaaDoor
open Go.RowKit Go.Shelf

attribute [local go_sem] Oper.semAt_some

theorem info_per : (Tryd.prog.info? 37).map (fun i => (i.zero, i.size, i.bytes)) = some (some (.agg #[.int .i64 0, .int .i64 0, .int .i64 0]), 3, 24) := by kernel_rfl

/-- The cells of a list of periods. -/
def cellsOf : List Per.P → List Value
  | [] => []
  | p :: l => [.int .i64 p.f, .int .i64 p.t, .int .i64 p.d] ++ cellsOf l
theorem cellsOf_snoc (l : List Per.P) (p : Per.P) : cellsOf (l ++ [p]) = cellsOf l ++ [.int .i64 p.f, .int .i64 p.t, .int .i64 p.d] := by
  induction l with
  | nil => rfl
  | cons q l ih => simp [cellsOf, ih]
theorem cellsOf_len (l : List Per.P) : (cellsOf l).length = 3 * l.length := by
  induction l with
  | nil => rfl
  | cons q l ih => simp [cellsOf, ih]; omega

theorem news3 (w : World) (x y z : Value) (T : TypeId) : ∀ (j : Nat) (u : Value), [x, y, z][j]? = some u → (w.alloc (.cells #[x, y, z] T)).cell? ((⟨w.heap.size, 0, none⟩ : Addr).add j) = some u := by
  intro j u h
  have hj : j < 3 := by
    rcases Nat.lt_or_ge j 3 with h0 | h0
    · exact h0
    · rw [List.getElem?_eq_none (by simpa using h0)] at h; cases h
  have : j = 0 ∨ j = 1 ∨ j = 2 := by omega
  rcases this with e | e | e <;> subst e <;> cases h
  · exact World.cell?_alloc_mark w _ T (0, 0) 0
  · exact World.cell?_alloc_mark w _ T (0, 0) 1
  · exact World.cell?_alloc_mark w _ T (0, 0) 2

set_option maxRecDepth 100000 in
set_option maxHeartbeats 1000000 in
theorem add_yes (p : Per.P) (B n₀ : Nat) (v : Value) (l : List Per.P) (W : World) (hv : Boxed W B 42 v)
    (hrow : W.ownsRow n₀ 37 3 v l.length (cellsOf l)) (hB : n₀ ≤ B) (hl : l.length < 1000) :
    Calls Tryd.prog 63 #[pv p, .bool true, .pointer (some ⟨B, 0, none⟩)] W fun e W' => (∃ u, e = .returned u) ∧
      (∃ v', Boxed W' B 42 v' ∧ W'.ownsRow n₀ 37 3 v' (l ++ [p]).length (cellsOf (l ++ [p]))) ∧ Below n₀ W W' := by
  have hlt := hv.lt
  obtain ⟨i0, hi, hz0, hz1, hz2⟩ := info_parts info_per
  rw [cellsOf_snoc, List.length_append]
  have hv1 := hv.alloc (.cells #[.int .i64 p.f, .int .i64 p.t, .int .i64 p.d] 37)
  have hrow1 := hrow.alloc (.cells #[.int .i64 p.f, .int .i64 p.t, .int .i64 p.d] 37)
  have hB0 := (Below.refl n₀ W).alloc (by omega) (.cells #[.int .i64 p.f, .int .i64 p.t, .int .i64 p.d] 37)
  have hs1 : (W.alloc (.cells #[.int .i64 p.f, .int .i64 p.t, .int .i64 p.d] 37)).heap.size = W.heap.size + 1 := by simp
  go_enter Tryd.func63, Tryd.ntmps63
  have hc := hv1.cell
  clear hv hrow
  go_wp2_with (at_builtin; refine wpList_append_own _ rfl _ _ 42 rfl n₀ 37 i0 (.agg #[.int .i64 0, .int .i64 0, .int .i64 0]) 3 24 Tryd.underlying42 hi hz0 hz1 hz2 rfl (by decide) _ _ _ rfl (hrow1.alloc _) ⟨W.heap.size + 1, 0, none⟩ 1 1 [.int .i64 p.f, .int .i64 p.t, .int .i64 p.d] rfl rfl (by have := news3 (W.alloc (.cells #[.int .i64 p.f, .int .i64 p.t, .int .i64 p.d] 37)) (.int .i64 p.f) (.int .i64 p.t) (.int .i64 p.d) 37; rw [hs1] at this; exact this) (by simp [Value.oneCell']) (by unfold maxLen; omega) (by omega) (by simp; omega) ?_; intro v' w1 hown' hgrow _; obtain ⟨g', cap', rfl⟩ := ownsRow_succ hown'; obtain ⟨hk1, hv2, hr2, -, hb2⟩ := hv1.appended (by decide) hrow1 (by omega) hB hown' hgrow; have hc1 := hk1.cell; have hf1 := hk1.frozen)
  go_end0
  exact ⟨⟨_, rfl⟩, ⟨_, hv2, hr2⟩, hB0.trans hb2⟩

/-- A box holds a list of periods that the call has made. -/
def OutAt (W : World) (B n₀ : Nat) (l : List Per.P) : Prop := ∃ v, Boxed W B 42 v ∧ W.ownsRow n₀ 37 3 v l.length (cellsOf l)
theorem OutAt.below {W W' : World} {B n₀ : Nat} {l : List Per.P} (h : OutAt W B n₀ l) (hb : Below W.heap.size W W') : OutAt W' B n₀ l := by
  obtain ⟨v, hv, hr⟩ := h
  have hg : W.grownBy W' none := ⟨hb.os, hb.tape, hb.output, hb.size, fun k hk _ => hb.block k hk⟩
  exact ⟨v, hv.kept hg (by simp), hr.kept hg ((Decidable.em (v.ownBlock = none)).imp id (fun h e => h (by first | exact e | exact e.symm)))⟩

set_option maxHeartbeats 400000 in
theorem add_any (p : Per.P) (ok : Bool) (B n₀ : Nat) (l : List Per.P) (W : World) (ho : OutAt W B n₀ l) (hB : n₀ ≤ B) (hl : l.length < 1000) :
    Calls Tryd.prog 63 #[pv p, .bool ok, .pointer (some ⟨B, 0, none⟩)] W fun e W' => (∃ u, e = .returned u) ∧ OutAt W' B n₀ (l ++ if ok then [p] else []) ∧ Below n₀ W W' := by
  obtain ⟨v, hv, hr⟩ := ho
  cases ok
  · have hlt := hv.lt
    go_enter Tryd.func63, Tryd.ntmps63
    go_wp2_with fail
    go_end0
    refine ⟨⟨_, rfl⟩, ?_, (Below.refl n₀ W).alloc (by omega) _⟩
    try simp only [Bool.false_eq_true, if_false, List.append_nil]
    exact ⟨v, hv.alloc _, hr.alloc _⟩
  · exact add_yes p B n₀ v l W hv hr hB hl

/-- What Without hands back. -/
def put (l : List Int) : List Per.P := if Per.ne l then [Per.canon l] else []
theorem put_len (l : List Int) : (put l).length ≤ 1 := by unfold put; split <;> simp
def outs (a b : Per.P) : List Per.P :=
  if Per.chk a = 0 then
    if Per.chk b = 0 then put (partDays a a.f (b.f - 1) 127) ++ put (partDays a b.f b.t (127 - b.d)) ++ put (partDays a (b.t + 1) a.t 127)
    else put (Per.days a)
  else []

set_option maxHeartbeats 1000000 in
theorem Without_any (a b : Per.P) (w : World) :
    Calls Tryd.prog 37 #[pv a, pv b] w fun e w' => ∃ v, e = .returned v ∧ w'.ownsRow w.heap.size 37 3 v (outs a b).length (cellsOf (outs a b)) ∧ Below w.heap.size w w' := by
  have hA := ((Box3.new w 37 (.int .i64 a.f) (.int .i64 a.t) (.int .i64 a.d)).alloc (.cells #[.int .i64 b.f, .int .i64 b.t, .int .i64 b.d] 37)).alloc (.cells #[.slice none 0 0] 42)
  have hBb := (Box3.new (w.alloc (.cells #[.int .i64 a.f, .int .i64 a.t, .int .i64 a.d] 37)) 37 (.int .i64 b.f) (.int .i64 b.t) (.int .i64 b.d)).alloc (.cells #[.slice none 0 0] 42)
  have hO : OutAt (((w.alloc (.cells #[.int .i64 a.f, .int .i64 a.t, .int .i64 a.d] 37)).alloc (.cells #[.int .i64 b.f, .int .i64 b.t, .int .i64 b.d] 37)).alloc (.cells #[.slice none 0 0] 42)) (w.heap.size + 1 + 1) (w.heap.size + 1 + 1) [] := by
    refine ⟨_, ?_, World.ownsRow_nil _ _ _ _⟩
    have := Boxed.new ((w.alloc (.cells #[.int .i64 a.f, .int .i64 a.t, .int .i64 a.d] 37)).alloc (.cells #[.int .i64 b.f, .int .i64 b.t, .int .i64 b.d] 37)) 42 (.slice none 0 0)
    simpa using this
  have hB0 := (((Below.refl w.heap.size w).alloc (Nat.le_refl _) (.cells #[.int .i64 a.f, .int .i64 a.t, .int .i64 a.d] 37)).alloc (by simp) (.cells #[.int .i64 b.f, .int .i64 b.t, .int .i64 b.d] 37)).alloc (by simp; omega) (.cells #[.slice none 0 0] 42)
  have hz : (((w.alloc (.cells #[.int .i64 a.f, .int .i64 a.t, .int .i64 a.d] 37)).alloc (.cells #[.int .i64 b.f, .int .i64 b.t, .int .i64 b.d] 37)).alloc (.cells #[.slice none 0 0] 42)).heap.size = w.heap.size + 1 + 1 + 1 := by simp
  simp only [World.size_alloc] at hBb
  go_enter Tryd.func37, Tryd.ntmps37
  go_wp2_with fail
  generalize ((w.alloc (.cells #[.int .i64 a.f, .int .i64 a.t, .int .i64 a.d] 37)).alloc (.cells #[.int .i64 b.f, .int .i64 b.t, .int .i64 b.d] 37)).alloc (.cells #[.slice none 0 0] 42) = w3 at *
  refine (Check_any a _).mono ?_
  rintro e w4 ⟨rfl, hb4⟩
  have hA4 := hA.below hb4 (by omega)
  have hBb4 := hBb.below hb4 (by omega)
  have hO4 := hO.below hb4
  have hB4 := hB0.trans (hb4.mono (by omega))
  have hz4 := hb4.size
  by_cases h0 : Per.chk a = 0
  rotate_left
  · have E := Lib.hid (show outs a b = [] by simp [outs, h0])
    have h0' : (Per.chk a != 0) = true := by simpa using h0
    clear h0 hA hBb hO hA4 hBb4 hO4 hb4
    go_wp2_with fail
    go_ret
    exact ⟨_, rfl, by rw [E.out]; exact World.ownsRow_nil _ _ _ _, hB4⟩
  have h0' : (Per.chk a != 0) = false := by simpa using h0
  have H0 := Lib.hid h0
  have hc0 := hBb4.c0; have hc1 := hBb4.c1; have hc2 := hBb4.c2
  clear hA hBb hO hb4
  go_wp2_with fail
  refine (Check_any b _).mono ?_
  rintro e w5 ⟨rfl, hb5⟩
  have hA5 := hA4.below hb5 (by omega)
  have hBb5 := hBb4.below hb5 (by omega)
  have hO5 := hO4.below hb5
  have hB5 := hB4.trans (hb5.mono (by omega))
  have hz5 := hb5.size
  have ha0 := hA5.c0; have ha1 := hA5.c1; have ha2 := hA5.c2
  clear hc0 hc1 hc2 hA4 hBb4 hO4
  by_cases h1 : Per.chk b = 0
  rotate_left
  · have E := Lib.hid (show outs a b = put (Per.days a) by simp [outs, h0, h1])
    have h1' : (Per.chk b != 0) = true := by simpa using h1
    clear h0 h1 hA5 hBb5 hb5
    go_wp2_with fail
    refine (Normal_any a _).mono ?_
    rintro e w6 ⟨rfl, hb6⟩
    unfold canonV
    have hO6 := hO5.below hb6
    have hB6 := hB5.trans (hb6.mono (by omega))
    have hz6 := hb6.size
    clear hO5 hb6 ha0 ha1 ha2
    go_wp2_with fail
    refine (add_any (Per.canon (Per.days a)) (Per.ne (Per.days a)) _ _ _ _ hO6 (Nat.le_refl _) (by simp)).mono ?_
    rintro e w7 ⟨⟨u, rfl⟩, hO7, hb7⟩
    obtain ⟨v, hv, hr⟩ := hO7
    have hc := hv.cell
    have hB7 := hB6.trans (hb7.mono (by omega))
    clear hO6 hb7
    go_wp2_with fail
    go_ret
    refine ⟨_, rfl, ?_, hB7⟩
    rw [E.out]
    exact ownsRow_mono hr (by omega)
  have h1' : (Per.chk b != 0) = false := by simpa using h1
  have E := Lib.hid (show outs a b = [] ++ put (partDays a a.f (b.f - 1) 127) ++ put (partDays a b.f b.t (127 - b.d)) ++ put (partDays a (b.t + 1) a.t 127) by simp [outs, h0, h1])
  obtain ⟨g1, g2, g3, g4, g5, g6⟩ := Per.chk_ok.1 h1
  have hnot := i64_not127 b.d (by omega) g6
  have l1 := put_len (partDays a a.f (b.f - 1) 127)
  have l2 := put_len (partDays a b.f b.t (127 - b.d))
  have hc0 := hBb5.c0; have hc1 := hBb5.c1; have hc2 := hBb5.c2
  clear h0 h1 hb5
  go_wp2_with fail
  refine (within_any a a.f (b.f - 1) 127 _ H0.out (by omega) (by omega)).mono ?_
  rintro e w6 ⟨rfl, hb6⟩
  unfold canonV
  have hA6 := hA5.below hb6 (by omega)
  have hBb6 := hBb5.below hb6 (by omega)
  have hO6 := hO5.below hb6
  have hB6 := hB5.trans (hb6.mono (by omega))
  have hz6 := hb6.size
  clear hO5 hb6 hA5 hBb5 ha0 ha1 ha2 hc0 hc1 hc2
  go_wp2_with fail
  refine (add_any (Per.canon (partDays a a.f (b.f - 1) 127)) (Per.ne (partDays a a.f (b.f - 1) 127)) _ _ _ _ hO6 (Nat.le_refl _) (by simp)).mono ?_
  rintro e w7 ⟨⟨u, rfl⟩, hO7, hb7⟩
  rw [show (if Per.ne (partDays a a.f (b.f - 1) 127) = true then [Per.canon (partDays a a.f (b.f - 1) 127)] else []) = put (partDays a a.f (b.f - 1) 127) from rfl] at hO7
  have hA7 := hA6.below (hb7) (by omega)
  have hBb7 := hBb6.below (hb7) (by omega)
  have hB7 := hB6.trans (hb7.mono (by omega))
  have hz7 := hb7.size
  clear hO6 hb7 hA6 hBb6
  have ha0 := hA7.c0; have ha1 := hA7.c1; have ha2 := hA7.c2
  have hc0 := hBb7.c0; have hc1 := hBb7.c1; have hc2 := hBb7.c2
  go_wp2_with fail
  refine (within_any a b.f b.t (127 - b.d) _ H0.out (by omega) (by omega)).mono ?_
  rintro e w8 ⟨rfl, hb8⟩
  unfold canonV
  have hA8 := hA7.below hb8 (by omega)
  have hBb8 := hBb7.below hb8 (by omega)
  have hO8 := hO7.below hb8
  have hB8 := hB7.trans (hb8.mono (by omega))
  have hz8 := hb8.size
  clear hO7 hb8 hA7 hBb7 ha0 ha1 ha2 hc0 hc1 hc2
  go_wp2_with fail
  refine (add_any (Per.canon (partDays a b.f b.t (127 - b.d))) (Per.ne (partDays a b.f b.t (127 - b.d))) _ _ _ _ hO8 (Nat.le_refl _) (by simp; omega)).mono ?_
  rintro e w9 ⟨⟨u, rfl⟩, hO9, hb9⟩
  rw [show (if Per.ne (partDays a b.f b.t (127 - b.d)) = true then [Per.canon (partDays a b.f b.t (127 - b.d))] else []) = put (partDays a b.f b.t (127 - b.d)) from rfl] at hO9
  have hA9 := hA8.below (hb9) (by omega)
  have hBb9 := hBb8.below (hb9) (by omega)
  have hB9 := hB8.trans (hb9.mono (by omega))
  have hz9 := hb9.size
  clear hO8 hb9 hA8 hBb8
  have ha0 := hA9.c0; have ha1 := hA9.c1; have ha2 := hA9.c2
  have hc0 := hBb9.c0; have hc1 := hBb9.c1; have hc2 := hBb9.c2
  go_wp2_with fail
  refine (within_any a (b.t + 1) a.t 127 _ H0.out (by omega) (by omega)).mono ?_
  rintro e w10 ⟨rfl, hb10⟩
  unfold canonV
  have hA10 := hA9.below hb10 (by omega)
  have hBb10 := hBb9.below hb10 (by omega)
  have hO10 := hO9.below hb10
  have hB10 := hB9.trans (hb10.mono (by omega))
  have hz10 := hb10.size
  clear hO9 hb10 hA9 hBb9 ha0 ha1 ha2 hc0 hc1 hc2
  go_wp2_with fail
  refine (add_any (Per.canon (partDays a (b.t + 1) a.t 127)) (Per.ne (partDays a (b.t + 1) a.t 127)) _ _ _ _ hO10 (Nat.le_refl _) (by simp; omega)).mono ?_
  rintro e w11 ⟨⟨u, rfl⟩, hO11, hb11⟩
  rw [show (if Per.ne (partDays a (b.t + 1) a.t 127) = true then [Per.canon (partDays a (b.t + 1) a.t 127)] else []) = put (partDays a (b.t + 1) a.t 127) from rfl] at hO11
  have hA11 := hA10.below (hb11) (by omega)
  have hBb11 := hBb10.below (hb11) (by omega)
  have hB11 := hB10.trans (hb11.mono (by omega))
  have hz11 := hb11.size
  clear hO10 hb11 hA10 hBb10
  have ha0 := hA11.c0; have ha1 := hA11.c1; have ha2 := hA11.c2
  have hc0 := hBb11.c0; have hc1 := hBb11.c1; have hc2 := hBb11.c2
  obtain ⟨v, hv, hr⟩ := hO11
  have hc := hv.cell
  clear ha0 ha1 ha2 hc0 hc1 hc2
  go_wp2_with fail
  go_ret
  refine ⟨_, rfl, ?_, hB11⟩
  rw [E.out]
  exact ownsRow_mono hr (by omega)
end Go.Proofs.YtfmdnmkojeolkaaDoor
