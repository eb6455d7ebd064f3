/-
  Plain facts on periods: the days of a period, their canonical period, and how sets of days meet. No program in sight.
-/
import Derived.Test.YtfmdnmkojeolkaaDoorCal
namespace Go.Proofs.YtfmdnmkojeolkaaDoor.Per

/-- A period: the first day, the last day, the mask of weekdays. -/
structure P where
  f : Int
  t : Int
  d : Int

def chk (p : P) : Int := if p.f < 0 ∨ p.t < p.f ∨ 36525 ≤ p.t then 12 else if 800 ≤ p.t - p.f then 4 else if p.d < 1 ∨ 127 < p.d then 2 else 0
def bit (day : Int) : Int := 2 ^ (Cal.wd day).toNat
def on (d day : Int) : Bool := decide (d / bit day % 2 = 1)
def has (p : P) (day : Int) : Bool := decide (chk p = 0 ∧ p.f ≤ day ∧ day ≤ p.t) && on p.d day
/-- The numbers from f on, n of them. -/
def upN (f : Int) (n : Nat) : List Int := (List.range n).map fun (k : Nat) => f + (k : Int)
def days (p : P) : List Int := if chk p = 0 then (upN p.f (p.t + 1 - p.f).toNat).filter (on p.d) else []
/-- One more weekday in a mask. -/
def orBit (m day : Int) : Int := if m / bit day % 2 = 0 then m + bit day else m
def mask (l : List Int) : Int := l.foldl orBit 0
def zero : P := ⟨0, 0, 0⟩
def hd : List Int → Int
  | [] => 0
  | a :: _ => a
def lst : List Int → Int
  | [] => 0
  | [a] => a
  | _ :: b :: l => lst (b :: l)
def canon (l : List Int) : P := if l = [] then zero else ⟨(hd l), (lst l), mask l⟩
def ne (l : List Int) : Bool := !l.isEmpty

theorem chk_ok {p : P} : chk p = 0 ↔ 0 ≤ p.f ∧ p.f ≤ p.t ∧ p.t < 36525 ∧ p.t - p.f < 800 ∧ 1 ≤ p.d ∧ p.d ≤ 127 := by
  unfold chk; repeat' split
  all_goals simp
  all_goals omega
theorem bit_cases (day : Int) : bit day = 1 ∨ bit day = 2 ∨ bit day = 4 ∨ bit day = 8 ∨ bit day = 16 ∨ bit day = 32 ∨ bit day = 64 := by
  have h := Cal.wd_bd day
  unfold bit
  have : (Cal.wd day).toNat = 0 ∨ (Cal.wd day).toNat = 1 ∨ (Cal.wd day).toNat = 2 ∨ (Cal.wd day).toNat = 3 ∨ (Cal.wd day).toNat = 4 ∨ (Cal.wd day).toNat = 5 ∨ (Cal.wd day).toNat = 6 := by omega
  rcases this with e | e | e | e | e | e | e <;> rw [e] <;> simp
theorem bit_bd (day : Int) : 1 ≤ bit day ∧ bit day ≤ 64 := by rcases bit_cases day with e | e | e | e | e | e | e <;> omega
theorem mem_upN {f : Int} {n : Nat} {x : Int} : x ∈ upN f n ↔ f ≤ x ∧ x < f + n := by
  unfold upN
  simp only [List.mem_map, List.mem_range]
  constructor
  · rintro ⟨k, hk, rfl⟩; omega
  · intro h; exact ⟨(x - f).toNat, by omega, by omega⟩
theorem mem_days {p : P} {x : Int} : x ∈ days p ↔ has p x = true := by
  unfold days has
  by_cases h : chk p = 0
  · rw [if_pos h]
    have hb := chk_ok.1 h
    simp only [List.mem_filter, mem_upN, h, true_and, Bool.and_eq_true, decide_eq_true_eq]
    constructor
    · rintro ⟨⟨a, b⟩, c⟩; exact ⟨⟨a, by omega⟩, c⟩
    · rintro ⟨⟨a, b⟩, c⟩; exact ⟨⟨a, by omega⟩, c⟩
  · rw [if_neg h]; simp [h]
theorem upN_sorted (f : Int) (n : Nat) : (upN f n).Pairwise (· < ·) := by
  unfold upN
  rw [List.pairwise_map]
  exact List.pairwise_lt_range.imp (fun h => by omega)
theorem days_sorted (p : P) : (days p).Pairwise (· < ·) := by
  unfold days; split
  · exact (upN_sorted _ _).filter _
  · exact List.Pairwise.nil
/-- Two rising lists with the same elements are one. -/
theorem sorted_ext : ∀ {l m : List Int}, l.Pairwise (· < ·) → m.Pairwise (· < ·) → (∀ x, x ∈ l ↔ x ∈ m) → l = m
  | [], [], _, _, _ => rfl
  | [], b :: m, _, _, h => absurd ((h b).2 (by simp)) (by simp)
  | a :: l, [], _, _, h => absurd ((h a).1 (by simp)) (by simp)
  | a :: l, b :: m, hl, hm, h => by
    rw [List.pairwise_cons] at hl hm
    have hab : a = b := by
      have h1 := (h a).1 (by simp)
      have h2 := (h b).2 (by simp)
      simp only [List.mem_cons] at h1 h2
      rcases h1 with h1 | h1
      · exact h1
      · rcases h2 with h2 | h2
        · exact h2.symm
        · have := hm.1 a h1; have := hl.1 b h2; omega
    subst hab
    congr 1
    refine sorted_ext hl.2 hm.2 (fun x => ?_)
    have := h x
    simp only [List.mem_cons] at this
    constructor
    · intro hx
      rcases this.1 (.inr hx) with e | e
      · have := hl.1 x hx; omega
      · exact e
    · intro hx
      rcases this.2 (.inr hx) with e | e
      · have := hm.1 x hx; omega
      · exact e
theorem days_ext {p : P} {l : List Int} (hl : l.Pairwise (· < ·)) (h : ∀ x, x ∈ l ↔ has p x = true) : l = days p :=
  sorted_ext hl (days_sorted p) (fun x => (h x).trans mem_days.symm)
theorem days_len (p : P) : (days p).length ≤ 800 := by
  unfold days; split
  · rename_i h
    have := chk_ok.1 h
    refine Nat.le_trans (List.length_filter_le _ _) ?_
    simp [upN]; omega
  · simp

/-! ### Masks -/
def inMask (m : Int) (day : Int) : Bool := on m day
theorem orBit_bd {m : Int} (day : Int) (h0 : 0 ≤ m) (h1 : m ≤ 127) : 0 ≤ orBit m day ∧ orBit m day ≤ 127 := by
  unfold orBit
  rcases bit_cases day with e | e | e | e | e | e | e <;> rw [e] <;> split <;> omega
theorem on_bit {m : Int} (a b : Int) (h0 : 0 ≤ m) (h1 : m ≤ 127) : on (orBit m a) b = (on m b || decide (Cal.wd a = Cal.wd b)) := by
  have ha := Cal.wd_bd a
  have hb := Cal.wd_bd b
  have key : ∀ (i j : Fin 7) (m : Fin 128), decide ((if ((m : Nat) : Int) / 2 ^ (i : Nat) % 2 = 0 then ((m : Nat) : Int) + 2 ^ (i : Nat) else (m : Nat)) / 2 ^ (j : Nat) % 2 = 1) = (decide (((m : Nat) : Int) / 2 ^ (j : Nat) % 2 = 1) || decide (i = j)) := by decide +kernel
  have := key ⟨(Cal.wd a).toNat, by omega⟩ ⟨(Cal.wd b).toNat, by omega⟩ ⟨m.toNat, by omega⟩
  simp only [Fin.mk.injEq] at this
  rw [show ((m.toNat : Nat) : Int) = m by omega] at this
  have e : ((Cal.wd a).toNat = (Cal.wd b).toNat) = (Cal.wd a = Cal.wd b) := by apply propext; omega
  simp only [e] at this
  exact this
theorem mask_bd (l : List Int) : 0 ≤ mask l ∧ mask l ≤ 127 := by
  suffices H : ∀ (l : List Int) (m : Int), 0 ≤ m → m ≤ 127 → 0 ≤ l.foldl orBit m ∧ l.foldl orBit m ≤ 127 from H l 0 (by omega) (by omega)
  intro l
  induction l with
  | nil => intro m a b; exact ⟨a, b⟩
  | cons x l ih => intro m a b; have := orBit_bd x a b; exact ih _ this.1 this.2
theorem on_mask (l : List Int) (day : Int) : on (mask l) day = l.any fun x => decide (Cal.wd x = Cal.wd day) := by
  suffices H : ∀ (l : List Int) (m : Int), 0 ≤ m → m ≤ 127 → on (l.foldl orBit m) day = (on m day || l.any fun x => decide (Cal.wd x = Cal.wd day)) by
    have := H l 0 (by omega) (by omega)
    have h0 : on 0 day = false := by simp [on]
    rw [h0, Bool.false_or] at this
    exact this
  intro l
  induction l with
  | nil => intro m a b; simp
  | cons x l ih =>
    intro m a b
    have hb := orBit_bd x a b
    rw [List.foldl_cons, ih _ hb.1 hb.2, on_bit x day a b, List.any_cons, Bool.or_assoc]
theorem on_wd {d a b : Int} (h : Cal.wd a = Cal.wd b) : on d a = on d b := by unfold on bit; rw [h]
theorem mask_pos {l : List Int} {x : Int} (h : x ∈ l) : 1 ≤ mask l := by
  have h1 : on (mask l) x = true := by rw [on_mask, List.any_eq_true]; exact ⟨x, h, by simp⟩
  have h2 := mask_bd l
  unfold on at h1
  simp only [decide_eq_true_eq] at h1
  have := bit_bd x
  rcases Int.lt_or_le 0 (mask l) with h | h
  · omega
  · have e : mask l = 0 := by omega
    rw [e] at h1; simp at h1

/-! ### The canonical period has the same days. -/
theorem head_le {l : List Int} (h : l.Pairwise (· < ·)) {x : Int} (hx : x ∈ l) : hd l ≤ x := by
  cases l with
  | nil => simp at hx
  | cons a l =>
    rw [List.pairwise_cons] at h
    simp only [List.mem_cons] at hx
    show a ≤ x
    rcases hx with e | e
    · omega
    · have := h.1 x e; omega
theorem head_mem {l : List Int} (h : l ≠ []) : hd l ∈ l := by
  cases l with
  | nil => exact absurd rfl h
  | cons a l => simp [hd]
theorem last_mem : ∀ {l : List Int}, l ≠ [] → lst l ∈ l
  | [], h => absurd rfl h
  | [a], _ => by simp [lst]
  | a :: b :: l, _ => by
    have := last_mem (l := b :: l) (by simp)
    simp only [lst]
    exact List.mem_cons_of_mem _ this
theorem le_last : ∀ {l : List Int}, l.Pairwise (· < ·) → ∀ {x : Int}, x ∈ l → x ≤ lst l
  | [], _, x, hx => by simp at hx
  | [a], _, x, hx => by simp at hx; subst hx; exact Int.le_refl _
  | a :: b :: l, h, x, hx => by
    rw [List.pairwise_cons] at h
    have h1 : lst (a :: b :: l) = lst (b :: l) := rfl
    rw [h1]
    rcases List.mem_cons.1 hx with e | e
    · have h2 := h.1 _ (last_mem (l := b :: l) (by simp)); omega
    · exact le_last h.2 e
theorem lst_snoc : ∀ (l : List Int) (x : Int), lst (l ++ [x]) = x
  | [], x => rfl
  | [a], x => rfl
  | a :: b :: l, x => by
    have := lst_snoc (b :: l) x
    exact this
theorem hd_snoc (l : List Int) (x : Int) : hd (l ++ [x]) = if l = [] then x else hd l := by
  cases l with
  | nil => rfl
  | cons a l => simp [hd]
theorem mask_snoc (l : List Int) (x : Int) : mask (l ++ [x]) = orBit (mask l) x := by simp [mask]
theorem canon_has {p : P} (h : days p ≠ []) : chk (canon (days p)) = 0 ∧ ∀ x, has (canon (days p)) x = has p x := by
  have hs := days_sorted p
  obtain ⟨q1, q2⟩ := mask_bd (days p)
  have hh := mem_days.1 (head_mem h)
  have hl := mem_days.1 (last_mem h)
  have hle := head_le hs (last_mem h)
  have hp := mask_pos (head_mem h)
  unfold has at hh hl
  simp only [Bool.and_eq_true, decide_eq_true_eq] at hh hl
  have hc := chk_ok.1 hh.1.1
  have ec : canon (days p) = ⟨hd (days p), lst (days p), mask (days p)⟩ := by unfold canon; rw [if_neg h]
  have hk : chk (canon (days p)) = 0 := by
    rw [chk_ok, ec]
    exact ⟨by simp; omega, by simpa using hle, by simp; omega, by simp; omega, by simp; omega, by simp; omega⟩
  refine ⟨hk, fun x => ?_⟩
  rw [Bool.eq_iff_iff]
  constructor
  · intro hx
    unfold has at hx ⊢
    simp only [Bool.and_eq_true, decide_eq_true_eq, ec] at hx ⊢
    obtain ⟨⟨-, a, b⟩, c⟩ := hx
    rw [on_mask, List.any_eq_true] at c
    obtain ⟨y, hy, ey⟩ := c
    simp only [decide_eq_true_eq] at ey
    have hyp := mem_days.1 hy
    unfold has at hyp
    simp only [Bool.and_eq_true, decide_eq_true_eq] at hyp
    exact ⟨⟨hh.1.1, by omega, by omega⟩, by rw [← on_wd ey]; exact hyp.2⟩
  · intro hx
    have hm := mem_days.2 hx
    have h1 := head_le hs hm
    have h2 := le_last hs hm
    unfold has
    simp only [Bool.and_eq_true, decide_eq_true_eq]
    refine ⟨⟨hk, ?_, ?_⟩, ?_⟩
    · rw [ec]; exact h1
    · rw [ec]; exact h2
    · rw [ec]; show on (mask (days p)) x = true; rw [on_mask, List.any_eq_true]; exact ⟨x, hm, by simp⟩
theorem days_canon (p : P) : days (canon (days p)) = days p := by
  by_cases h : days p = []
  · rw [h]; decide
  · exact (days_ext (days_sorted p) (fun x => by rw [(canon_has h).2 x]; exact mem_days)).symm
theorem canon_inj {p q : P} (h : canon (days p) = canon (days q)) : days p = days q := by
  rw [← days_canon p, h, days_canon q]
theorem ne_iff {l : List Int} : ne l = true ↔ l ≠ [] := by unfold ne; cases l <;> simp

theorem canon_eq (l : List Int) : canon l = ⟨hd l, lst l, mask l⟩ := by
  unfold canon; split
  · rename_i h; subst h; rfl
  · rfl
/-! ### The days that have come when k numbers are over -/
def dn (p : P) (k : Nat) : List Int := (upN p.f k).filter (on p.d)
def cnt (p : P) : Nat := (p.t + 1 - p.f).toNat
theorem upN_succ (f : Int) (k : Nat) : upN f (k + 1) = upN f k ++ [f + (k : Int)] := by simp [upN, List.range_succ]
theorem dn_zero (p : P) : dn p 0 = [] := rfl
theorem dn_on {p : P} {k : Nat} (h : on p.d (p.f + (k : Int)) = true) : dn p (k + 1) = dn p k ++ [p.f + (k : Int)] := by
  unfold dn; rw [upN_succ, List.filter_append]; simp [h]
theorem dn_off {p : P} {k : Nat} (h : on p.d (p.f + (k : Int)) = false) : dn p (k + 1) = dn p k := by
  unfold dn; rw [upN_succ, List.filter_append]; simp [h]
theorem days_dn {p : P} (h : chk p = 0) : days p = dn p (cnt p) := by unfold days dn cnt; rw [if_pos h]
theorem days_no {p : P} (h : ¬ chk p = 0) : days p = [] := by unfold days; rw [if_neg h]
theorem upN_prefix (f : Int) {j k : Nat} (h : j ≤ k) : upN f j <+: upN f k := by
  induction k with
  | zero => obtain rfl : j = 0 := by omega
            exact List.prefix_refl _
  | succ k ih =>
    by_cases e : j = k + 1
    · subst e; exact List.prefix_refl _
    · rw [upN_succ]
      exact (ih (by omega)).trans (List.prefix_append _ _)
theorem dn_prefix (p : P) {j k : Nat} (h : j ≤ k) : dn p j <+: dn p k := (upN_prefix p.f h).filter _
theorem dn_lt {p : P} {k : Nat} (h : chk p = 0) (hk : k < cnt p) (ho : on p.d (p.f + (k : Int)) = true) : (dn p k).length < (days p).length := by
  have h1 := (dn_prefix p (show k + 1 ≤ cnt p by omega)).length_le
  rw [dn_on ho] at h1
  rw [days_dn h]
  simp at h1
  omega
end Go.Proofs.YtfmdnmkojeolkaaDoor.Per
