/-
  Plain facts for the laws of layer 4: the parts of a difference and the intersection share the days among them. And what can be read of a slice that a call has made.
-/
import Derived.Test.YtfmdnmkojeolkaaDoorPerAwake
namespace Go.Proofs.YtfmdnmkojeolkaaDoor
open Go.RowKit Go.Shelf

theorem row_any {W : World} {n₀ : Nat} {e : TypeId} {size : Nat} {v : Value} {k : Nat} {xs : List Value} (h : W.ownsRow n₀ e size v k xs) :
    ∃ oa cap, v = .slice oa k cap ∧ (0 < k → ∃ g, oa = some ⟨g, 0, none⟩ ∧ n₀ ≤ g ∧ g < W.heap.size ∧ ∀ j u, xs[j]? = some u → W.cell? ⟨g, j, none⟩ = some u) := by
  rcases Nat.eq_zero_or_pos k with rfl | hk
  · obtain ⟨-, h⟩ := h
    rcases h with ⟨rfl, -⟩ | ⟨g, cap, cur, rfl, -⟩
    · exact ⟨none, 0, rfl, fun h => by omega⟩
    · exact ⟨_, _, rfl, fun h => by omega⟩
  · obtain ⟨g, cap, rfl, h1, -, -, h2, h3⟩ := row_cell h hk
    exact ⟨_, _, rfl, fun _ => ⟨g, rfl, h1, h2, h3⟩⟩

namespace Per
theorem has_zero (x : Int) : has zero x = false := by unfold has; rw [decide_eq_false]; rfl; intro h; exact absurd h.1 (by decide)
theorem has_canon_days (p : P) (x : Int) : has (canon (days p)) x = has p x := by
  by_cases h : days p = []
  · have e : has p x = false := by
      rw [Bool.eq_false_iff]; intro hx
      have := mem_days.2 hx
      rw [h] at this; cases this
    rw [h, e, show canon [] = zero from rfl, has_zero]
  · exact (canon_has h).2 x
theorem has_in_days (p : P) (x : Int) : has p x = decide (x ∈ days p) := by
  rw [Bool.eq_iff_iff, decide_eq_true_eq]; exact mem_days.symm
end Per
theorem has_part {a : Per.P} (ha : Per.chk a = 0) (f t d : Int) (hd : 0 ≤ d) (x : Int) :
    Per.has (Per.canon (partDays a f t d)) x = (Per.has a x && (decide (f ≤ x ∧ x ≤ t) && Per.on d x)) := by
  have e : partDays a f t d = Per.days ⟨max a.f f, min a.t t, Per.mand a.d d⟩ := (Per.days_part a ha f t d hd).symm
  rw [e, Per.has_canon_days, Per.has_in_days, ← e]
  unfold partDays
  rw [Bool.eq_iff_iff, decide_eq_true_eq, List.mem_filter, Per.mem_days]
  simp only [Bool.and_eq_true]
theorem has_meet (a b : Per.P) (x : Int) : Per.has (Per.canon (meetDays a b)) x = (Per.has a x && Per.has b x) := by
  by_cases h : Per.chk a = 0 ∧ Per.chk b = 0
  · obtain ⟨-, -, -, -, h5, h6⟩ := Per.chk_ok.1 h.2
    rw [meet_part h.2, has_part h.1 _ _ _ (by omega)]
    congr 1
    unfold Per.has
    simp [h.2]
  · rw [meet_no h, show Per.canon [] = Per.zero from rfl, Per.has_zero]
    by_cases ha : Per.chk a = 0
    · rw [show Per.has b x = false from has_no (fun hb => h ⟨ha, hb.1⟩), Bool.and_false]
    · rw [show Per.has a x = false from has_no (fun hb => ha hb.1), Bool.false_and]

def b2n (b : Bool) : Int := if b then 1 else 0
/-- How many of a list's periods have the day. -/
def cntHas (l : List Per.P) (day : Int) : Int := ((l.map fun p => b2n (Per.has p day)).foldr (· + ·) 0)
theorem cntHas_nil (day : Int) : cntHas [] day = 0 := rfl
theorem cntHas_cons (p : Per.P) (l : List Per.P) (day : Int) : cntHas (p :: l) day = b2n (Per.has p day) + cntHas l day := rfl
theorem cntHas_append (l m : List Per.P) (day : Int) : cntHas (l ++ m) day = cntHas l day + cntHas m day := by
  induction l with
  | nil => simp [cntHas_nil]
  | cons p l ih => rw [List.cons_append, cntHas_cons, cntHas_cons, ih]; omega
theorem b2n_bd (b : Bool) : 0 ≤ b2n b ∧ b2n b ≤ 1 := by cases b <;> simp [b2n]
theorem cntHas_bd (l : List Per.P) (day : Int) : 0 ≤ cntHas l day ∧ cntHas l day ≤ l.length := by
  induction l with
  | nil => simp [cntHas_nil]
  | cons p l ih => rw [cntHas_cons]; have := b2n_bd (Per.has p day); simp only [List.length_cons]; omega
theorem cntHas_take {l : List Per.P} {k : Nat} {p : Per.P} (h : l[k]? = some p) (day : Int) : cntHas (l.take (k + 1)) day = cntHas (l.take k) day + b2n (Per.has p day) := by
  rw [List.take_add_one, h, cntHas_append]
  simp [cntHas_cons, cntHas_nil]
theorem cnt_put (l : List Int) (day : Int) : cntHas (put l) day = b2n (Per.has (Per.canon l) day) := by
  unfold put
  cases hn : Per.ne l
  · have : l = [] := by cases l with | nil => rfl | cons a l => cases hn
    subst this
    rw [show Per.canon [] = Per.zero from rfl, Per.has_zero]
    rfl
  · rw [if_pos rfl, cntHas_cons, cntHas_nil]; omega
theorem parts_law (a b : Per.P) (day : Int) : b2n (Per.has (Per.canon (meetDays a b)) day) + cntHas (outs a b) day = b2n (Per.has a day) := by
  by_cases ha : Per.chk a = 0
  · by_cases hb : Per.chk b = 0
    · obtain ⟨-, -, -, -, h5, h6⟩ := Per.chk_ok.1 hb
      rw [has_meet]
      unfold outs
      rw [if_pos ha, if_pos hb, cntHas_append, cntHas_append, cnt_put, cnt_put, cnt_put, has_part ha _ _ _ (by omega), has_part ha _ _ _ (by omega), has_part ha _ _ _ (by omega), Per.on_127, Per.on_not day (by omega) h6]
      cases hx : Per.has a day
      · simp [b2n]
      · have hx' := hx
        unfold Per.has at hx'
        simp only [Bool.and_eq_true, decide_eq_true_eq] at hx'
        simp only [Bool.true_and, Bool.and_true]
        by_cases h1 : day < b.f
        · have e1 : decide (a.f ≤ day ∧ day ≤ b.f - 1) = true := decide_eq_true ⟨hx'.1.2.1, by omega⟩
          have e2 : decide (b.f ≤ day ∧ day ≤ b.t) = false := decide_eq_false (fun h => by omega)
          have e3 : decide (b.t + 1 ≤ day ∧ day ≤ a.t) = false := decide_eq_false (fun h => by have := Per.chk_ok.1 hb; omega)
          have e4 : Per.has b day = false := has_no (fun h => by omega)
          rw [e1, e2, e3, e4]; rfl
        · by_cases h2 : b.t < day
          · have e1 : decide (a.f ≤ day ∧ day ≤ b.f - 1) = false := decide_eq_false (fun h => by omega)
            have e2 : decide (b.f ≤ day ∧ day ≤ b.t) = false := decide_eq_false (fun h => by omega)
            have e3 : decide (b.t + 1 ≤ day ∧ day ≤ a.t) = true := decide_eq_true ⟨by omega, hx'.1.2.2⟩
            have e4 : Per.has b day = false := has_no (fun h => by omega)
            rw [e1, e2, e3, e4]; rfl
          · have e1 : decide (a.f ≤ day ∧ day ≤ b.f - 1) = false := decide_eq_false (fun h => by omega)
            have e2 : decide (b.f ≤ day ∧ day ≤ b.t) = true := decide_eq_true ⟨by omega, by omega⟩
            have e3 : decide (b.t + 1 ≤ day ∧ day ≤ a.t) = false := decide_eq_false (fun h => by omega)
            have e4 : Per.has b day = Per.on b.d day := has_yes ⟨hb, by omega, by omega⟩
            rw [e1, e2, e3, e4]
            cases Per.on b.d day <;> rfl
    · rw [meet_no (fun h => hb h.2), show Per.canon [] = Per.zero from rfl, Per.has_zero]
      unfold outs
      rw [if_pos ha, if_neg hb, cnt_put, Per.has_canon_days]
      simp [b2n]
  · rw [meet_no (fun h => ha h.1), show Per.canon [] = Per.zero from rfl, Per.has_zero, show Per.has a day = false from has_no (fun h => ha h.1)]
    unfold outs
    rw [if_neg ha]
    rfl
theorem outs_len (a b : Per.P) : (outs a b).length ≤ 3 := by
  unfold outs
  repeat' split
  · simp only [List.length_append]
    have h1 := put_len (partDays a a.f (b.f - 1) 127)
    have h2 := put_len (partDays a b.f b.t (127 - b.d))
    have h3 := put_len (partDays a (b.t + 1) a.t 127)
    omega
  · have := put_len (Per.days a); omega
  · simp
theorem cellsOf_get : ∀ {l : List Per.P} {k : Nat} {p : Per.P}, l[k]? = some p → (cellsOf l)[3 * k]? = some (.int .i64 p.f) ∧ (cellsOf l)[3 * k + 1]? = some (.int .i64 p.t) ∧ (cellsOf l)[3 * k + 2]? = some (.int .i64 p.d)
  | [], _, _, h => by simp at h
  | q :: l, 0, p, h => by simp at h; subst h; exact ⟨rfl, rfl, rfl⟩
  | q :: l, k + 1, p, h => by
    have := cellsOf_get (l := l) (k := k) (by simpa using h)
    obtain ⟨h1, h2, h3⟩ := this
    refine ⟨?_, ?_, ?_⟩ <;> (simp only [cellsOf]; rw [List.getElem?_append_right (by simp; omega)]; simp only [List.length_cons, List.length_nil])
    · rw [show 3 * (k + 1) - (0 + 1 + 1 + 1) = 3 * k by omega]; exact h1
    · rw [show 3 * (k + 1) + 1 - (0 + 1 + 1 + 1) = 3 * k + 1 by omega]; exact h2
    · rw [show 3 * (k + 1) + 2 - (0 + 1 + 1 + 1) = 3 * k + 2 by omega]; exact h3
end Go.Proofs.YtfmdnmkojeolkaaDoor
