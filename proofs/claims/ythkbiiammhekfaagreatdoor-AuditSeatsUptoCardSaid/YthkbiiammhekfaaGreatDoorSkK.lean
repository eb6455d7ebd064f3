/-
  The violations of configurations as plain data, and what configurations without any are.
-/
import Derived.Test.YthkbiiammhekfaaGreatDoorSkT
import Derived.Test.YthkbiiammhekfaaGreatDoorTxP
set_option linter.unusedSimpArgs false
set_option linter.unusedVariables false
namespace Go.Proofs.YthkbiiammhekfaaGreatDoor.Dm
open Go Gw

/-! ### Sets of texts as maps -/
def inB (t : ByteArray) (l : List ByteArray) : Bool := l.any fun u => decide (u = t)
theorem inB_iff {t : ByteArray} {l : List ByteArray} : inB t l = true ↔ t ∈ l := by
  unfold inB
  rw [List.any_eq_true]
  constructor
  · rintro ⟨u, hu, e⟩
    have : u = t := by simpa using e
    rw [← this]; exact hu
  · intro h; exact ⟨t, h, by simp⟩
theorem inB_no {t : ByteArray} {l : List ByteArray} (h : inB t l = false) : t ∉ l := fun hm => by rw [inB_iff.2 hm] at h; cases h
theorem inB_app (t : ByteArray) (a b : List ByteArray) : inB t (a ++ b) = (inB t a || inB t b) := by unfold inB; rw [List.any_append]
theorem inB_one (t u : ByteArray) : inB t [u] = decide (u = t) := by simp [inB]
/-- A map from texts that has just those of a list. -/
def SetIs (ps : List (D × D)) (l : List ByteArray) : Prop := (∀ p ∈ ps, ∃ s, p.1 = .str s) ∧ ∀ t : ByteArray, lookM ps (.str t) = if inB t l = true then some (.bool true) else none
theorem SetIs.nil : SetIs [] [] := ⟨fun p h => (by cases h), fun t => by simp [lookM, inB]⟩
theorem look_put : ∀ (ps : List (D × D)) (s t : ByteArray) (v : D), (∀ p ∈ ps, ∃ s, p.1 = .str s) → lookM (putM ps (.str s) v) (.str t) = if s = t then some v else lookM ps (.str t)
  | [], s, t, v, _ => by
    by_cases e : s = t
    · simp [putM, lookM, keyBeq, kBeq, e]
    · simp [putM, lookM, keyBeq, kBeq, e]
  | (a, b) :: ps, s, t, v, h => by
    obtain ⟨u, hu⟩ := h (a, b) (by simp)
    have hu : a = .str u := hu
    subst hu
    have ih := look_put ps s t v (fun p hp => h p (by simp [hp]))
    have hk : ∀ x y : ByteArray, keyBeq (.str x) (.str y) = decide (x = y) := fun x y => rfl
    by_cases e : u = s
    · subst e
      rw [putM, hk, if_pos (by simp)]
      by_cases e2 : u = t
      · simp [lookM, hk, e2]
      · simp [lookM, hk, e2]
    · rw [putM, hk, if_neg (by simpa using e)]
      by_cases e2 : u = t
      · subst e2
        rw [if_neg (fun x => e x.symm)]
        simp [lookM, hk]
      · have l1 : lookM ((.str u, b) :: putM ps (.str s) v) (.str t) = lookM (putM ps (.str s) v) (.str t) := by simp [lookM, hk, e2]
        have l2 : lookM ((.str u, b) :: ps) (.str t) = lookM ps (.str t) := by simp [lookM, hk, e2]
        rw [l1, l2, ih]
theorem put_keys : ∀ (ps : List (D × D)) (s : ByteArray) (v : D), (∀ p ∈ ps, ∃ s, p.1 = .str s) → ∀ p ∈ putM ps (.str s) v, ∃ s, p.1 = .str s
  | [], s, v, _, p, hp => by
    simp only [putM, List.mem_singleton] at hp
    subst hp
    exact ⟨s, rfl⟩
  | (a, b) :: ps, s, v, h, p, hp => by
    rw [putM] at hp
    split at hp
    · rcases List.mem_cons.1 hp with rfl | hp
      · exact h (a, b) (by simp)
      · exact h p (by simp [hp])
    · rcases List.mem_cons.1 hp with rfl | hp
      · exact h (a, b) (by simp)
      · exact put_keys ps s v (fun q hq => h q (by simp [hq])) p hp
theorem SetIs.put {ps : List (D × D)} {l : List ByteArray} (h : SetIs ps l) (s : ByteArray) : SetIs (putM ps (.str s) (.bool true)) (l ++ [s]) := by
  refine ⟨put_keys ps s _ h.1, fun t => ?_⟩
  rw [look_put ps s t _ h.1, h.2, inB_app, inB_one]
  by_cases e : s = t
  · simp [e]
  · simp [e]

/-! ### The violations -/
def rngB (y : Cab) : Bool := decide (1 ≤ y.seats) && decide (y.seats ≤ 999) && decide (0 ≤ y.over) && decide (y.over ≤ 999)
def cnfS (i : Nat) : ByteArray := ByteArray.mk #[99, 111, 110, 102, 105, 103, 32] ++ dec2 i
def cbnS (at' : ByteArray) (k : Nat) : ByteArray := at' ++ ByteArray.mk #[32, 99, 97, 98, 105, 110, 32] ++ dec2 k
def clsS (at' : ByteArray) (k : Nat) : ByteArray := at' ++ ByteArray.mk #[32, 99, 108, 97, 115, 115, 32] ++ dec2 k
def clsB (s : ByteArray) : Bool := decide (s.size = 1) && capB ((s[0]?).getD 0)
def protB (y : Cab) (j : Nat) (z : Cls) : Bool := decide (z.prot < 0) || (decide (0 < j) && decide (z.prot < ((y.cls[j - 1]?).map (·.prot)).getD 0)) || (rngB y && decide (autF y < z.prot))
/-- The violations of class j of a cabin. -/
def clsF (at' : ByteArray) (seen : List ByteArray) (y : Cab) (j : Nat) (z : Cls) : List (Int × ByteArray) :=
  ifF (!clsB z.code) 16 (clsS at' j) ++ ifF (inB z.code seen) 6 (clsS at' j) ++ ifF (protB y j z) 2 (clsS at' j)
def clsL (at' : ByteArray) (seen : List ByteArray) (y : Cab) : Nat → List (Int × ByteArray)
  | 0 => []
  | j + 1 => clsL at' seen y j ++ match y.cls[j]? with
    | some z => clsF at' (seen ++ (y.cls.take j).map (·.code)) y j z
    | none => []
/-- The violations of cabin k of a configuration. -/
def cabF (at' : ByteArray) (pre : List Cab) (k : Nat) (y : Cab) : List (Int × ByteArray) :=
  ifF (!codeS y.name 1 8) 5 (cbnS at' k) ++ ifF (inB y.name (pre.map (·.name))) 6 (cbnS at' k) ++ ifF (!rngB y) 2 (cbnS at' k) ++ ifF (decide (y.cls.length < 1) || decide (26 < y.cls.length)) 4 (cbnS at' k) ++ clsL (cbnS at' k) (codes pre) y y.cls.length
def cabL (at' : ByteArray) (l : List Cab) : Nat → List (Int × ByteArray)
  | 0 => []
  | k + 1 => cabL at' l k ++ match l[k]? with
    | some y => cabF at' (l.take k) k y
    | none => []
def cfgF (pre : List Cfg) (i : Nat) (x : Cfg) : List (Int × ByteArray) :=
  ifF (!codeS x.equip 3 3) 5 (cnfS i) ++ ifF (inB x.equip (pre.map (·.equip))) 6 (cnfS i) ++ ifF (decide (x.cabs.length < 1) || decide (4 < x.cabs.length)) 4 (cnfS i) ++ cabL (cnfS i) x.cabs x.cabs.length
def cfgL (l : List Cfg) : Nat → List (Int × ByteArray)
  | 0 => []
  | i + 1 => cfgL l i ++ match l[i]? with
    | some x => cfgF (l.take i) i x
    | none => []
theorem clsL_len (at' : ByteArray) (seen : List ByteArray) (y : Cab) : ∀ j, (clsL at' seen y j).length ≤ 3 * j
  | 0 => Nat.le_refl _
  | j + 1 => by
    have := clsL_len at' seen y j
    unfold clsL
    rw [List.length_append]
    rcases y.cls[j]? with _ | z
    · simp; omega
    · have h1 := ifF_len (!clsB z.code) 16 (clsS at' j)
      have h2 := ifF_len (inB z.code (seen ++ (y.cls.take j).map (·.code))) 6 (clsS at' j)
      have h3 := ifF_len (protB y j z) 2 (clsS at' j)
      simp only [clsF, List.length_append]; omega
theorem cabL_len (at' : ByteArray) (l : List Cab) (h : ∀ y ∈ l, y.cls.length ≤ 30) : ∀ k, (cabL at' l k).length ≤ 94 * k
  | 0 => Nat.le_refl _
  | k + 1 => by
    have := cabL_len at' l h k
    unfold cabL
    rw [List.length_append]
    rcases e : l[k]? with _ | y
    · simp; omega
    · have h0 := h y (List.mem_of_getElem? e)
      have h1 := ifF_len (!codeS y.name 1 8) 5 (cbnS at' k)
      have h2 := ifF_len (inB y.name ((l.take k).map (·.name))) 6 (cbnS at' k)
      have h3 := ifF_len (!rngB y) 2 (cbnS at' k)
      have h4 := ifF_len (decide (y.cls.length < 1) || decide (26 < y.cls.length)) 4 (cbnS at' k)
      have h5 := clsL_len (cbnS at' k) (codes (l.take k)) y y.cls.length
      simp only [cabF, List.length_append]; omega

/-! ### No violations -/
theorem ifF_nil {b : Bool} {e : Int} {s : ByteArray} (h : ifF b e s = []) : b = false := by
  unfold ifF at h
  split at h
  · cases h
  · rename_i hb; simpa using hb
theorem clsL_nil {at' : ByteArray} {seen : List ByteArray} {y : Cab} : ∀ {n : Nat}, clsL at' seen y n = [] → ∀ (j : Nat) (z : Cls), j < n → y.cls[j]? = some z → z.code ∉ seen ++ (y.cls.take j).map (·.code) ∧ protB y j z = false
  | 0, _, j, z, hj, _ => by omega
  | n + 1, h, j, z, hj, hz => by
    unfold clsL at h
    rw [List.append_eq_nil_iff] at h
    by_cases e : j = n
    · subst e
      rw [hz] at h
      have h2 := h.2
      simp only [clsF, List.append_eq_nil_iff] at h2
      exact ⟨inB_no (ifF_nil h2.1.2), ifF_nil h2.2⟩
    · exact clsL_nil h.1 j z (by omega) hz
theorem nodup_of_take {α : Type} : ∀ (l : List α), (∀ (j : Nat) (x : α), l[j]? = some x → x ∉ l.take j) → l.Nodup
  | l, h => by
    refine List.pairwise_iff_getElem.2 fun i j hi hj hij e => ?_
    refine h j l[j] (List.getElem?_eq_getElem hj) ?_
    have h1 : (l.take j)[i]? = l[i]? := List.getElem?_take_of_lt hij
    exact List.mem_of_getElem? (h1.trans ((List.getElem?_eq_getElem hi).trans (congrArg some e)))
theorem cab_ok {at' : ByteArray} {pre : List Cab} {k : Nat} {y : Cab} (h : cabF at' pre k y = []) : CabOk y ∧ (y.cls.map (·.code)).Nodup ∧ ∀ c ∈ y.cls.map (·.code), c ∉ codes pre := by
  simp only [cabF, List.append_eq_nil_iff] at h
  obtain ⟨⟨⟨⟨h1, h2⟩, h3⟩, h4⟩, h5⟩ := h
  have h3 := ifF_nil h3
  have h4 := ifF_nil h4
  have hr : rngB y = true := by simpa using h3
  have h5 := clsL_nil h5
  have hr' := hr
  simp only [rngB, Bool.and_eq_true, decide_eq_true_eq] at hr'
  simp only [Bool.or_eq_false_iff, decide_eq_false_iff_not] at h4
  have hp : ∀ (j : Nat) (z : Cls), y.cls[j]? = some z → protB y j z = false := fun j z hz => (h5 j z (List.getElem?_eq_some_iff.1 hz).1 hz).2
  refine ⟨⟨hr'.1.1.1, hr'.1.1.2, hr'.1.2, hr'.2, by omega, by omega, fun j z hz => ?_, fun j z w hz hw => ?_⟩, ?_, ?_⟩
  · have := hp j z hz
    simp only [protB, hr, Bool.true_and, Bool.or_eq_false_iff, decide_eq_false_iff_not] at this
    omega
  · have := hp (j + 1) w hw
    simp only [protB, Nat.add_sub_cancel, hz, Option.map_some, Option.getD_some, Bool.or_eq_false_iff, Bool.and_eq_false_iff, decide_eq_false_iff_not] at this
    omega
  · refine nodup_of_take _ fun j c hc => ?_
    rw [List.getElem?_map] at hc
    obtain ⟨z, hz, rfl⟩ := Option.map_eq_some_iff.1 hc
    have := (h5 j z (List.getElem?_eq_some_iff.1 hz).1 hz).1
    rw [← List.map_take]
    exact fun hm => this (List.mem_append.2 (.inr hm))
  · intro c hc hm
    obtain ⟨z, hz, rfl⟩ := List.mem_map.1 hc
    obtain ⟨j, hj⟩ := List.mem_iff_getElem?.1 hz
    exact (h5 j z (List.getElem?_eq_some_iff.1 hj).1 hj).1 (List.mem_append.2 (.inl hm))
theorem cabL_nil {at' : ByteArray} {l : List Cab} : ∀ {n : Nat}, cabL at' l n = [] → ∀ (k : Nat) (y : Cab), k < n → l[k]? = some y → cabF at' (l.take k) k y = []
  | 0, _, k, y, hk, _ => by omega
  | n + 1, h, k, y, hk, hy => by
    unfold cabL at h
    rw [List.append_eq_nil_iff] at h
    by_cases e : k = n
    · subst e
      rw [hy] at h
      exact h.2
    · exact cabL_nil h.1 k y (by omega) hy
theorem codes_take_succ {l : List Cab} {k : Nat} {y : Cab} (h : l[k]? = some y) : codes (l.take (k + 1)) = codes (l.take k) ++ y.cls.map (·.code) := by
  rw [List.take_add_one, h]
  simp [codes]
theorem cfg_ok {pre : List Cfg} {i : Nat} {x : Cfg} (h : cfgF pre i x = []) : CfgOk x ∧ x.equip ∉ pre.map (·.equip) := by
  simp only [cfgF, List.append_eq_nil_iff] at h
  obtain ⟨⟨⟨h1, h2⟩, h3⟩, h4⟩ := h
  have h3 := ifF_nil h3
  have h2 := ifF_nil h2
  simp only [Bool.or_eq_false_iff, decide_eq_false_iff_not] at h3
  have hc := fun k y hk => cab_ok (cabL_nil h4 k y (List.getElem?_eq_some_iff.1 hk).1 hk)
  refine ⟨⟨by omega, by omega, fun y hy => ?_, ?_⟩, inB_no h2⟩
  · obtain ⟨k, hk⟩ := List.mem_iff_getElem?.1 hy
    exact (hc k y hk).1
  · have key : ∀ n, n ≤ x.cabs.length → (codes (x.cabs.take n)).Nodup := by
      intro n
      induction n with
      | zero => intro _; simp [codes]
      | succ n ih =>
        intro hn
        have e : x.cabs[n]? = some (x.cabs[n]) := List.getElem?_eq_getElem (by omega)
        rw [codes_take_succ e, List.nodup_append]
        exact ⟨ih (by omega), (hc n _ e).2.1, fun a ha b hb hab => (hc n _ e).2.2 b hb (hab ▸ ha)⟩
    have := key x.cabs.length (Nat.le_refl _)
    rwa [List.take_length] at this
theorem cfgL_nil {l : List Cfg} : ∀ {n : Nat}, cfgL l n = [] → ∀ (i : Nat) (x : Cfg), i < n → l[i]? = some x → cfgF (l.take i) i x = []
  | 0, _, k, y, hk, _ => by omega
  | n + 1, h, k, y, hk, hy => by
    unfold cfgL at h
    rw [List.append_eq_nil_iff] at h
    by_cases e : k = n
    · subst e
      rw [hy] at h
      exact h.2
    · exact cfgL_nil h.1 k y (by omega) hy
theorem cfgs_ok {l : List Cfg} (h : cfgL l l.length = []) : CfgsOk l := by
  have hc := fun i x hi => cfg_ok (cfgL_nil h i x (List.getElem?_eq_some_iff.1 hi).1 hi)
  refine ⟨fun c hc' => ?_, nodup_of_take _ fun j e he => ?_⟩
  · obtain ⟨i, hi⟩ := List.mem_iff_getElem?.1 hc'
    exact (hc i c hi).1
  · rw [List.getElem?_map] at he
    obtain ⟨z, hz, rfl⟩ := Option.map_eq_some_iff.1 he
    rw [← List.map_take]
    exact (hc j z hz).2
end Go.Proofs.YthkbiiammhekfaaGreatDoor.Dm
