/-
  Plain facts on the texts of periods: a text cut at its slashes, weekdays as digits, and how printing and reading fit together. No program in sight.
-/
import Derived.Test.YtfmdnmkojeolkaaDoorPerPrint
import Derived.Test.YtfmdnmkojeolkaaDoorTxtLaw
import Derived.Lib.SplitLaws
namespace Go.Proofs.YtfmdnmkojeolkaaDoor.Per
open Go.Proofs.YtfmdnmkojeolkaaDoor

/-! ### Cutting at '/' -/
def cutL : List UInt8 → List (List UInt8)
  | [] => [[]]
  | c :: l => if c = 47 then [] :: cutL l else match cutL l with
    | [] => [[c]]
    | p :: ps => (c :: p) :: ps
theorem cutL_ne (l : List UInt8) : cutL l ≠ [] := by
  cases l with
  | nil => simp [cutL]
  | cons c l => unfold cutL; split; · simp
                · split <;> simp
theorem cutL_slash (l : List UInt8) : cutL (47 :: l) = [] :: cutL l := by rw [cutL, if_pos rfl]
theorem cutL_other {c : UInt8} {l p : List UInt8} {ps : List (List UInt8)} (h : c ≠ 47) (hl : cutL l = p :: ps) : cutL (c :: l) = (c :: p) :: ps := by rw [cutL, if_neg h, hl]
/-- A piece without a slash, then the slash. -/
theorem cutL_app : ∀ {a : List UInt8} (l : List UInt8), (∀ c ∈ a, c ≠ 47) → cutL (a ++ 47 :: l) = a :: cutL l
  | [], l, _ => cutL_slash l
  | c :: a, l, h => cutL_other (h c (by simp)) (cutL_app l (fun x hx => h x (by simp [hx])))
theorem cutL_whole : ∀ {a : List UInt8}, (∀ c ∈ a, c ≠ 47) → cutL a = [a]
  | [], _ => rfl
  | c :: a, h => cutL_other (h c (by simp)) (cutL_whole (fun x hx => h x (by simp [hx])))
/-- The pieces, joined again. -/
theorem cutL_join : ∀ (l : List UInt8) {a : List UInt8} {ps : List (List UInt8)}, cutL l = a :: ps → l = a ++ (ps.flatMap fun p => 47 :: p)
  | [], a, ps, h => by rw [cutL] at h; cases h; rfl
  | c :: l, a, ps, h => by
    by_cases hc : c = 47
    · subst hc
      rw [cutL_slash] at h
      cases h
      obtain ⟨b, qs, hb⟩ : ∃ b qs, cutL l = b :: qs := by
        cases hl : cutL l with
        | nil => exact absurd hl (cutL_ne l)
        | cons b qs => exact ⟨b, qs, rfl⟩
      rw [hb, List.flatMap_cons, List.nil_append, List.cons_append, ← cutL_join l hb]
    · obtain ⟨b, qs, hb⟩ : ∃ b qs, cutL l = b :: qs := by
        cases hl : cutL l with
        | nil => exact absurd hl (cutL_ne l)
        | cons b qs => exact ⟨b, qs, rfl⟩
      rw [cutL_other hc hb] at h
      cases h
      rw [List.cons_append, ← cutL_join l hb]
theorem splitK_cut : ∀ l : List UInt8, Lib.splitK [47] 0 (Lib.count l [47]) l = cutL l
  | [] => by rfl
  | c :: l => by
    have ih := splitK_cut l
    by_cases hc : c = 47
    · subst hc
      have hi : Lib.index (47 :: l) [47] = ((0 : Nat) : Int) := by simp [Lib.index, List.isPrefixOf]
      rw [Lib.count_hit (by simp) hi, Nat.add_comm, Lib.splitK, if_neg (by rw [hi]; decide), hi, cutL_slash]
      simp only [List.length_cons, List.length_nil, Nat.zero_add, List.drop_succ_cons, List.drop_zero]
      show ([] : List UInt8) :: Lib.splitK [47] 0 (Lib.count l [47]) l = [] :: cutL l
      rw [ih]
    · have hpre : [47].isPrefixOf (c :: l) = false := by
        simp only [List.isPrefixOf, Bool.and_true]
        exact beq_eq_false_iff_ne.2 (fun h => hc h.symm)
      by_cases hm : Lib.index l [47] = -1
      · have hi : Lib.index (c :: l) [47] = -1 := by rw [Lib.index, hpre, hm]; rfl
        rw [Lib.count_miss hm] at ih
        rw [Lib.count_miss hi]
        rw [Lib.splitK] at ih ⊢
        exact (cutL_other hc ih.symm).symm
      · obtain ⟨i, hi⟩ : ∃ i : Nat, Lib.index l [47] = i := ⟨(Lib.index l [47]).toNat, by have := Lib.index_ge l [47]; omega⟩
        have hi' : Lib.index (c :: l) [47] = ((i + 1 : Nat) : Int) := by
          rw [Lib.index, hpre, hi]
          have : ¬ (((i : Int) == -1) = true) := by simp
          rw [if_neg (by simp), if_neg this]
          omega
        rw [Lib.count_hit (by simp) hi, Nat.add_comm, Lib.splitK, if_neg (by rw [hi]; simp), hi] at ih
        rw [Lib.count_hit (by simp) hi', Nat.add_comm, Lib.splitK, if_neg (by rw [hi']; simp; omega), hi']
        simp only [List.length_cons, List.length_nil, Nat.zero_add, Int.toNat_natCast, Nat.add_zero, List.drop_succ_cons, List.take_succ_cons] at ih ⊢
        rw [cutL_other hc ih.symm]

/-! ### Weekdays as digits -/
def wstep (st : Option (Int × Int)) (c : UInt8) : Option (Int × Int) :=
  match st with
  | none => none
  | some (last, d) => if (c.toNat : Int) - 49 ≤ last ∨ 6 < (c.toNat : Int) - 49 then none else some ((c.toNat : Int) - 49, d + 2 ^ ((c.toNat : Int) - 49).toNat)
def wst (l : List UInt8) : Option (Int × Int) := l.foldl wstep (some (-1, 0))
theorem wst_snoc (l : List UInt8) (c : UInt8) : wst (l ++ [c]) = wstep (wst l) c := by simp [wst]
theorem wst_none {l : List UInt8} {k : Nat} (h : wst (l.take k) = none) : wst l = none := by
  have e : l = l.take k ++ l.drop k := (List.take_append_drop k l).symm
  have hn : ∀ m : List UInt8, m.foldl wstep none = none := by
    intro m
    induction m with
    | nil => rfl
    | cons c m ih => exact ih
  rw [e, wst, List.foldl_append]
  have : (l.take k).foldl wstep (some (-1, 0)) = none := h
  rw [this, hn]
theorem pow_bd7 {k : Nat} (h : k ≤ 7) : 1 ≤ (2 : Int) ^ k ∧ (2 : Int) ^ k ≤ 128 := by
  have : k = 0 ∨ k = 1 ∨ k = 2 ∨ k = 3 ∨ k = 4 ∨ k = 5 ∨ k = 6 ∨ k = 7 := by omega
  rcases this with e | e | e | e | e | e | e | e <;> subst e <;> decide
/-- Bytes of the weekdays below the j-th one, as a list. -/
def wl (d : Int) (j : Nat) : List UInt8 := (wdTo d j).data.toList
theorem wl_zero (d : Int) : wl d 0 = [] := rfl
theorem wl_succ (d : Int) (j : Nat) : wl d (j + 1) = if d / 2 ^ j % 2 = 1 then wl d j ++ [UInt8.ofNat (49 + j)] else wl d j := by
  unfold wl
  rw [wdTo]
  split <;> simp
theorem bit_low {d : Int} {k j : Nat} (hd : 0 ≤ d) (hj : j < k) : (d + 2 ^ k) / 2 ^ j % 2 = d / 2 ^ j % 2 := by
  have e : (2 : Int) ^ k = 2 ^ j * (2 * 2 ^ (k - j - 1)) := by
    rw [← Int.mul_assoc, Int.mul_comm (2 ^ j) 2, ← Int.mul_comm (2 ^ j) 2, Int.mul_assoc]
    have : (2 : Int) ^ j * (2 * 2 ^ (k - j - 1)) = 2 ^ (j + (1 + (k - j - 1))) := by rw [Int.pow_add, Int.pow_add]; rfl
    rw [this]; congr 1; omega
  rw [e, Int.add_mul_ediv_left _ _ (Int.ne_of_gt (Int.pow_pos (by omega)))]
  omega
theorem wl_add {d : Int} {k : Nat} (hd : 0 ≤ d) : ∀ {j : Nat}, j ≤ k → wl (d + 2 ^ k) j = wl d j
  | 0, _ => rfl
  | j + 1, h => by rw [wl_succ, wl_succ, wl_add hd (show j ≤ k by omega), bit_low hd (show j < k by omega)]
theorem wl_high {d : Int} {k : Nat} (hd : 0 ≤ d) (hk : d < 2 ^ k) : ∀ {j : Nat}, k ≤ j → wl d j = wl d k
  | 0, h => by rw [show k = 0 by omega]
  | j + 1, h => by
    by_cases e : k = j + 1
    · rw [e]
    · have hjk : k ≤ j := by omega
      have hlt : d < 2 ^ j := Int.lt_of_lt_of_le hk (by exact_mod_cast Nat.pow_le_pow_right (by omega) hjk)
      rw [wl_succ, Int.ediv_eq_zero_of_lt hd hlt, if_neg (by omega), wl_high hd hk hjk]
/-- What the fold has gathered, and that its bytes are those that have been read. -/
theorem wst_spec (l : List UInt8) : ∀ last d, wst l = some (last, d) → -1 ≤ last ∧ last ≤ 6 ∧ 0 ≤ d ∧ d < 2 ^ (last + 1).toNat ∧ wl d (last + 1).toNat = l ∧ (last = -1 ↔ d = 0) := by
  suffices H : ∀ n (l : List UInt8), l.length = n → ∀ last d, wst l = some (last, d) → -1 ≤ last ∧ last ≤ 6 ∧ 0 ≤ d ∧ d < 2 ^ (last + 1).toNat ∧ wl d (last + 1).toNat = l ∧ (last = -1 ↔ d = 0) from H _ l rfl
  intro n
  induction n with
  | zero =>
    intro l hl last d h
    have : l = [] := List.length_eq_zero_iff.1 hl
    subst this
    simp only [wst, List.foldl_nil, Option.some.injEq, Prod.mk.injEq] at h
    obtain ⟨rfl, rfl⟩ := h
    refine ⟨by omega, by omega, by omega, by decide, rfl, by simp⟩
  | succ n ih =>
    intro l hl last d h
    obtain ⟨m, c, rfl⟩ : ∃ m c, l = m ++ [c] := by
      rcases List.eq_nil_or_concat l with e | ⟨m, c, e⟩
      · rw [e] at hl; simp at hl
      · exact ⟨m, c, by rw [e, List.concat_eq_append]⟩
    rw [wst_snoc] at h
    cases hm : wst m with
    | none => rw [hm] at h; cases h
    | some q =>
      obtain ⟨pl, pd⟩ := q
      obtain ⟨i1, i2, i3, i4, i5, i6⟩ := ih m (by simpa using hl) pl pd hm
      rw [hm] at h
      unfold wstep at h
      dsimp only at h
      by_cases hc : (c.toNat : Int) - 49 ≤ pl ∨ 6 < (c.toNat : Int) - 49
      · rw [if_pos hc] at h; cases h
      · rw [if_neg hc] at h
        simp only [Option.some.injEq, Prod.mk.injEq] at h
        obtain ⟨rfl, rfl⟩ := h
        obtain ⟨k, hk⟩ : ∃ k : Nat, (c.toNat : Int) - 49 = k := ⟨((c.toNat : Int) - 49).toNat, by omega⟩
        rw [hk] at hc ⊢
        have hk6 : k ≤ 6 := by omega
        have hpk : (pl + 1).toNat ≤ k := by omega
        have hlt : pd < 2 ^ k := Int.lt_of_lt_of_le i4 (by exact_mod_cast Nat.pow_le_pow_right (by omega) hpk)
        have hp := pow_bd7 (show k ≤ 7 by omega)
        rw [Int.toNat_natCast, show ((k : Int) + 1).toNat = k + 1 by omega]
        refine ⟨by omega, by omega, by omega, ?_, ?_, ?_⟩
        · rw [Int.pow_succ]; omega
        · rw [wl_succ, wl_add i3 (Nat.le_refl k), wl_high i3 i4 hpk, i5]
          have hb : (pd + 2 ^ k) / 2 ^ k % 2 = 1 := by
            rw [Int.add_ediv_of_dvd_right (Int.dvd_refl _), Int.ediv_eq_zero_of_lt i3 hlt, Int.ediv_self (by omega)]
            rfl
          rw [if_pos hb]
          congr 1
          have : c = UInt8.ofNat (49 + k) := by
            apply UInt8.toNat_inj.1
            rw [UInt8.toNat_ofNat']
            omega
          rw [this]
        · constructor <;> intro h <;> omega
/-- The mask, or -1 where the text is none. -/
theorem wst_print {l : List UInt8} {last d : Int} (h : wst l = some (last, d)) : wdTo d 7 = ⟨l.toArray⟩ := by
  obtain ⟨h1, h2, h3, h4, h5, -⟩ := wst_spec l last d h
  apply Txt.ba_ext
  show wl d 7 = l
  rw [wl_high h3 h4 (show (last + 1).toNat ≤ 7 by omega)]
  exact h5
theorem print_wst {d : Int} (h0 : 1 ≤ d) (h1 : d ≤ 127) : ∃ last, wst (wl d 7) = some (last, d) := by
  have key : ∀ k : Fin 128, k.val = 0 ∨ (wst (wl ((k.val : Nat) : Int) 7)).any (fun q => decide (q.2 = ((k.val : Nat) : Int))) = true := by decide +kernel
  have := key ⟨d.toNat, by omega⟩
  simp only at this
  rw [show ((d.toNat : Nat) : Int) = d by omega] at this
  rcases this with e | e
  · omega
  · cases hw : wst (wl d 7) with
    | none => rw [hw] at e; cases e
    | some q =>
      rw [hw] at e
      simp only [Option.any_some, decide_eq_true_eq] at e
      exact ⟨q.1, by rw [← e]⟩
theorem wl_slash (d : Int) : ∀ c ∈ wl d 7, c ≠ 47 := by
  suffices H : ∀ j, j ≤ 7 → ∀ c ∈ wl d j, c ≠ 47 from H 7 (by omega)
  intro j
  induction j with
  | zero => intro _ c hc; simp [wl_zero] at hc
  | succ j ih =>
    intro hj c hc
    rw [wl_succ] at hc
    split at hc
    · rw [List.mem_append] at hc
      rcases hc with hc | hc
      · exact ih (by omega) c hc
      · simp only [List.mem_singleton] at hc
        subst hc
        intro e
        have : (UInt8.ofNat (49 + j)).toNat = 47 := by rw [e]; rfl
        rw [UInt8.toNat_ofNat'] at this
        omega
    · exact ih (by omega) c hc
theorem print_slash {n : Int} (h : Cal.inR n = true) : ∀ c ∈ (Txt.print n).data.toList, c ≠ 47 := by
  obtain ⟨h1, h2⟩ := Txt.print_parse h
  have hl := Txt.print_list h
  have hb : ∀ k : Int, 0 ≤ k → k ≤ 9 → Txt.by1 k ≠ 47 := fun k a b e => by
    have := Txt.by1_nat a b
    rw [e] at this
    have : (47 : UInt8).toNat = 47 := rfl
    omega
  have hr : 0 ≤ n ∧ n < 36525 := by simpa [Cal.inR] using h
  obtain ⟨hv, -⟩ := Cal.has n hr.1 hr.2
  obtain ⟨a, b, c, d, f, g⟩ := Cal.vld_iff.1 hv
  have hd := Cal.dim_bd (Cal.Y n) (Cal.M n)
  rw [hl]
  simp only [List.mem_cons, List.not_mem_nil, or_false]
  rintro c (rfl | rfl | rfl | rfl | rfl | rfl | rfl | rfl | rfl | rfl)
  all_goals first | exact hb _ (by omega) (by omega) | decide
end Go.Proofs.YtfmdnmkojeolkaaDoor.Per
