/-
  The iterator of layer 4 (each): it hands on the days of a period, in order, whatever the loop's body does beside.
-/
import Derived.Test.YtfmdnmkojeolkaaDoorPerWalks
import Derived.RangeFuncNested
import Derived.RangeFuncBound
import Derived.RangeFuncCalls
import Derived.RangeFuncLeaves
import Derived.RangeFuncBox
import Derived.Shelf.Abstract
import Derived.Shelf.RegionOpen
import Derived.OwnWalkIn
import Derived.TacticsInMore
import Derived.LoopNIn
import Derived.LoopIn
import Derived.Maps.AppendAt
namespace Go.Proofs.YtfmdnmkojeolkaaDoor
open Go.RowKit Go.Shelf

attribute [local go_sem] Oper.semAt_some

/-- A step that leaves what was there is one that an iterator's invariant abides. -/
theorem abides_bw {β : Type} {B : Nat} {J : β → World → Prop} (hJ : AbidesFrom B J) {s : β} {W W' : World} (h : J s W) (hb : Below W.heap.size W W') : J s W' :=
  hJ s W W' none h ⟨hb.os, hb.tape, hb.output, hb.size, fun k hk _ => hb.block k hk⟩ (fun _ e => by cases e)

/-- Block B lies as it lay. -/
def KeepB (B : Nat) (W W' : World) : Prop := W'.heap[B]? = W.heap[B]?
theorem KeepB.refl (B : Nat) (W : World) : KeepB B W W := rfl
theorem KeepB.trans {B : Nat} {X Y Z : World} (h : KeepB B X Y) (k : KeepB B Y Z) : KeepB B X Z := Eq.trans (show Z.heap[B]? = Y.heap[B]? from k) (show Y.heap[B]? = X.heap[B]? from h)
theorem KeepB.of_below {B n₀ : Nat} {W W' : World} (h : Below n₀ W W') (hB : B < n₀) : KeepB B W W' := h.block B hB
theorem PerAt.keep {W W' : World} {Bn : Nat} {p : Per.P} (h : PerAt W Bn p) (hb : KeepB Bn W W') : PerAt W' Bn p :=
  ⟨(World.cell?_of_block (w := W) (w' := W') (a := ⟨Bn, 0, none⟩) hb).trans h.1, (World.cell?_of_block (w := W) (w' := W') (a := ⟨Bn, 1, none⟩) hb).trans h.2.1, (World.cell?_of_block (w := W) (w' := W') (a := ⟨Bn, 2, none⟩) hb).trans h.2.2⟩
theorem keepB_b {B : Nat} {w : World} (hB : B < w.heap.size) (W : World) (l : Nat) (o o' : Obj) (hl : w.heap.size ≤ l) (_ : W.heap[l]? = some o) (_ : o.isCells = false) (_ : o.isWalk = false) : KeepB B W (W.putObj l o') :=
  World.putObj_heap_other (by omega)

set_option maxRecDepth 100000 in
set_option maxHeartbeats 1000000 in
theorem each1_in (n : Nat) (hn : 1 ≤ n) (l Bn : Nat) (p : Per.P) (J Jx : List Int → World → Prop) (W : World) (hJ : AbidesFrom W.heap.size J)
    (hY : ∀ pre x W, J pre W → pre.length < (Per.days p).length → YieldAt Fence.wide (n - 1) Tryd.prog l #[.int .i64 x] W fun e W' =>
      (e = .returned (.bool true) ∧ J (pre ++ [x]) W' ∧ KeepB Bn W W') ∨ (e = .returned (.bool false) ∧ Jx (pre ++ [x]) W'))
    (hc : PerAt W Bn p) (hBn : Bn < W.heap.size) (h0 : J [] W) :
    CallsIn Fence.wide n Tryd.prog 71 #[.func (.yield l) #[] #[], .pointer (some ⟨Bn, 0, none⟩)] W fun e W' => (∃ v, e = .returned v) ∧
      ((∃ ys, ys = Per.days p ∧ J ys W') ∨ (∃ pre, pre <+: Per.days p ∧ Jx pre W')) := by
  obtain ⟨c0, c1, c2⟩ := hc
  refine callsIn_of_wp Tryd.func71 rfl trivial ?_ rfl
  simp only [Tryd.ntmps71, List.size_toArray, List.length_cons, List.length_nil, Nat.reduceAdd, Nat.reduceSub, Array.replicate_succ, Array.replicate_zero, List.push_toArray, List.append_toArray, List.nil_append, List.cons_append]
  gi_wp2_with fail
  refine ⟨trivial, ?_⟩
  refine (callsIn_wide.2 (Check_any p _)).mono ?_
  rintro e w1 ⟨rfl, hb⟩
  obtain ⟨d0, d1, d2⟩ := PerAt.below ⟨c0, c1, c2⟩ hb (by omega)
  have hJ1 : J [] w1 := abides_bw hJ h0 hb
  have hB1 : KeepB Bn W w1 := KeepB.of_below hb hBn
  have hsz := hb.size
  by_cases hk : Per.chk p = 0
  rotate_left
  · have E := Lib.hid (Per.days_no hk)
    have hk' : (Per.chk p != 0) = true := by simpa using hk
    clear hk
    gi_wp2_with fail
    refine bodyPost_ret (results_none rfl _ _ _) rfl ?_
    exact ⟨⟨_, rfl⟩, .inl ⟨_, E.out.symm, hJ1⟩⟩
  have hk' : (Per.chk p != 0) = false := by simpa using hk
  obtain ⟨k1, k2, k3, k4, k5, k6⟩ := Per.chk_ok.1 hk
  have HK := Lib.hid hk
  clear hk
  gi_wp2_with fail
  go_outline
  gi_loopw [3] (fun day wr => ∃ k : Nat, (k : Int) ≤ p.t + 1 - p.f ∧ day = .int .i64 (p.f + (k : Int)) ∧ J (Per.dn p k) wr ∧ KeepB Bn W wr)
    (fun day _ => (p.t + 1 - intOf day).toNat)
  case atStart => exact ⟨0, by omega, by simp, hJ1, hB1⟩
  case round =>
    obtain ⟨k, hk, rfl, hJk, hBk⟩ := hrel
    obtain ⟨e0, e1, e2⟩ := PerAt.keep ⟨c0, c1, c2⟩ hBk
    clear c0 c1 c2 d0 d1 d2
    by_cases hlt : p.f + (k : Int) ≤ p.t
    · cases ho : Per.on p.d (p.f + (k : Int))
      · have E := Lib.hid (Per.dn_off ho)
        gi_wp2_with fail
        refine ⟨trivial, ?_⟩
        refine (callsIn_wide.2 (on_any _ _ _ (by omega) (by omega))).mono ?_
        rintro e w' ⟨rfl, rfl⟩
        gi_wp2_with fail
        refine ⟨fun _ h => (by cases h), ?_⟩
        gi_wp2_with fail
        go_roundw
        case rel => exact ⟨k + 1, by omega, by go_num, by rw [E.out]; exact hJk, hBk⟩
        case measure => simp [intOf]; omega
      · have E := Lib.hid (Per.dn_on ho)
        have hlen := Per.dn_lt HK.out (show k < Per.cnt p by unfold Per.cnt; omega) ho
        obtain ⟨fn, tmps, assign, body, hy, hR⟩ := hY _ (p.f + (k : Int)) wr hJk hlen
        have HP := Lib.hid (Per.dn_prefix p (show k + 1 ≤ Per.cnt p by unfold Per.cnt; omega))
        clear hlen
        gi_wp2_with fail
        refine ⟨trivial, ?_⟩
        refine (callsIn_wide.2 (on_any _ _ _ (by omega) (by omega))).mono ?_
        rintro e w' ⟨rfl, rfl⟩
        gi_wp2_with fail
        refine hR.mono ?_
        rintro e W3 (⟨rfl, hJ3, hk3⟩ | ⟨rfl, hJx3⟩)
        · gi_wp2_with fail
          go_roundw
          case rel => exact ⟨k + 1, by omega, by go_num, by rw [E.out]; exact hJ3, hBk.trans hk3⟩
          case measure => simp [intOf]; omega
        · gi_wp2_with fail
          refine bodyPost_ret (results_none rfl _ _ _) rfl ?_
          exact ⟨⟨_, rfl⟩, .inr ⟨_, by rw [Per.days_dn HK.out, ← E.out]; exact HP.out, hJx3⟩⟩
    · have E := Lib.hid (show Per.days p = Per.dn p k by rw [Per.days_dn HK.out, show Per.cnt p = k by unfold Per.cnt; omega])
      gi_wp2_with fail
      go_end0
      exact ⟨⟨_, rfl⟩, .inl (by rw [E.out]; exact hJk)⟩

/-- **each(p)**: the period is boxed; the function value captures the box. -/
theorem each_any (p : Per.P) (w : World) :
    Calls Tryd.prog 60 #[pv p] w fun e w' => e = .returned (.func (.func 71) #[] #[.pointer (some ⟨w.heap.size, 0, none⟩)]) ∧ w' = w.alloc (.cells #[.int .i64 p.f, .int .i64 p.t, .int .i64 p.d] 37) := by
  go_enter Tryd.func60, Tryd.ntmps60
  go_wp2_with fail
  go_ret
  exact ⟨rfl, rfl⟩

/-- The contract of an iterator, at each: of a round it asks that the period's own box is kept. -/
theorem each_stops (n : Nat) (hn : 1 ≤ n) (Bn : Nat) (p : Per.P) (w : World) (hBn : Bn < w.heap.size) (hc : PerAt w Bn p) :
    SeqStopsK Fence.wide n Tryd.prog 71 #[.pointer (some ⟨Bn, 0, none⟩)] (fun x : Int => #[Value.int .i64 x]) (KeepB Bn) (fun ys => ys = Per.days p) (fun pre => pre <+: Per.days p) (Per.days p).length w := fun l J Jx W hW hJ _ hY h0 =>
  each1_in n hn l Bn p J Jx W hJ hY (hc.below hW hBn) (Nat.lt_of_lt_of_le hBn hW.size) h0
end Go.Proofs.YtfmdnmkojeolkaaDoor
