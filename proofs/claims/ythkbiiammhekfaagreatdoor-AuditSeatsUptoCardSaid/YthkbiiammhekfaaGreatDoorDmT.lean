/-
  Plans of great regions, checked on tables of numbers.
-/
import Derived.Test.YthkbiiammhekfaaGreatDoorDmG
set_option linter.unusedSimpArgs false
set_option linter.unusedVariables false
namespace Go.Proofs.YthkbiiammhekfaaGreatDoor.Dm
open Go

def aftL (ops : Array Oper) : List (List Nat) := ops.toList.map fun o => (o.after.toList.filter fun e => Region.binds .any e).map (·.on)
def readyM (n : Nat) (aft : List (List Nat)) (m : Nat) : List Nat := (List.range n).filter fun i => !m.testBit i && ((aft[i]?).map (·.all m.testBit)).getD false
def freeM (n : Nat) (bf com : List Nat) (L : List Nat) (m i : Nat) : Bool := (slotN L i).isNone && (List.range n).all fun j => j == i || m.testBit j || (bf.getD j 0).testBit i || (com.getD i 0).testBit j
def planM (n : Nat) (aft : List (List Nat)) (bf com : List Nat) (L : List Nat) : Bool → Nat → Nat → Plan → Bool
  | false, 0, m, .done => (readyM n aft m).isEmpty
  | inB, f + 1, m, .step i p => (readyM n aft m).contains i && (inB || readyM n aft m == [i] || freeM n bf com L m i) && planM n aft bf com L false f (m ||| 2 ^ i) p
  | inB, f + 1, m, .both p q => (inB || (!(readyM n aft m).isEmpty && (readyM n aft m).all fun i => (p.heads ++ q.heads).contains i)) && planM n aft bf com L true (f + 1) m p && planM n aft bf com L true (f + 1) m q
  | _, _, _, _ => false
def comOk (E : Env) (ops : Array Oper) (com : List Nat) : Bool :=
  ops.zipIdx.toList.all fun (x, i) => ops.zipIdx.toList.all fun (y, j) => !(com.getD i 0).testBit j || (okPair (clO E true x.op) (clO E true y.op) && x.apart ops y)
/-- What has been listed, as a number. -/
structure LiM (n : Nat) (listed : Array Bool) (m : Nat) : Prop where
  size : listed.size = n
  at_ : ∀ i, i < n → listed[i]? = some (m.testBit i)
  out : ∀ i, n ≤ i → m.testBit i = false
theorem LiM.getF {n m i : Nat} {listed : Array Bool} (h : LiM n listed m) : listed.getD i false = m.testBit i := by
  rw [Array.getD_eq_getD_getElem?]
  by_cases hi : i < n
  · rw [h.at_ i hi]; rfl
  · rw [Array.getElem?_eq_none (by rw [h.size]; omega), h.out i (by omega)]; rfl
theorem LiM.getT {n m i : Nat} {listed : Array Bool} (h : LiM n listed m) (hi : i < n) : listed.getD i true = m.testBit i := by
  rw [Array.getD_eq_getD_getElem?, h.at_ i hi]; rfl
theorem LiM.put {n m i : Nat} {listed : Array Bool} (h : LiM n listed m) (hi : i < n) : LiM n (listed.setIfInBounds i true) (m ||| 2 ^ i) where
  size := by rw [Array.size_setIfInBounds]; exact h.size
  at_ j hj := by
    rw [Nat.testBit_or, Nat.testBit_two_pow]
    by_cases e : i = j
    · subst e
      rw [Array.getElem?_setIfInBounds_self_of_lt (by rw [h.size]; exact hi)]
      simp
    · rw [Array.getElem?_setIfInBounds_ne e, h.at_ j hj]
      simp [e]
  out j hj := by
    rw [Nat.testBit_or, Nat.testBit_two_pow, h.out j hj]
    have : ¬ i = j := by omega
    simp [this]
theorem LiM.none (n : Nat) : LiM n (Array.replicate n false) 0 where
  size := by simp
  at_ i hi := by simp [hi]
  out i _ := by simp
theorem after_all {P : Nat → Bool} : ∀ (l : List Edge), (l.all fun e => !Region.binds .any e || P e.on) = ((l.filter fun e => Region.binds .any e).map (·.on)).all P
  | [] => rfl
  | e :: l => by
    rw [List.all_cons, after_all l, List.filter_cons]
    cases h : Region.binds .any e <;> simp [h]
theorem ready_eq {ops : Array Oper} {aft : List (List Nat)} (ha : aftL ops = aft) {listed : Array Bool} {m : Nat} (h : LiM ops.size listed m) : Region.ready .any ops listed = readyM ops.size aft m := by
  subst ha
  unfold Region.ready readyM
  refine List.filter_congr fun i hi => ?_
  have hi := List.mem_range.1 hi
  rw [h.getT hi]
  congr 1
  unfold aftL
  rw [List.getElem?_map, Array.getElem?_toList]
  rcases e : ops[i]? with _ | o
  · rfl
  · simp only [Option.map_some, Option.getD_some]
    rw [← Array.all_toList]
    have : (fun e : Edge => !Region.binds .any e || listed.getD e.on false) = fun e => !Region.binds .any e || m.testBit e.on := by
      funext e; rw [h.getF]
    rw [this, after_all]
theorem free_of {E : Env} {ops : Array Oper} {bf com L : List Nat} (hc : comOk E ops com = true) {listed : Array Bool} {m i : Nat} (h : LiM ops.size listed m) (hf : freeM ops.size bf com L m i = true) (hi : i < ops.size) : freeAt E ops bf.toArray L listed i = true := by
  unfold freeM at hf
  unfold freeAt
  rw [Bool.and_eq_true] at hf ⊢
  refine ⟨hf.1, ?_⟩
  rw [List.all_eq_true] at *
  intro j hj
  have hjn := List.mem_range.1 hj
  have hq := hf.2 j hj
  rw [h.getT hjn]
  simp only [Bool.or_eq_true] at hq ⊢
  rcases hq with ((hq | hq) | hq) | hq
  · exact .inl (.inl (.inl hq))
  · exact .inl (.inl (.inr hq))
  · refine .inl (.inr ?_)
    rw [Array.getD_eq_getD_getElem?, List.getElem?_toArray, ← List.getD_eq_getElem?_getD]
    exact hq
  · refine .inr ?_
    rw [Array.getElem?_eq_getElem hi, Array.getElem?_eq_getElem hjn]
    dsimp only
    have h1 := List.all_eq_true.1 hc (ops[i], i) (by
      rw [List.mem_iff_getElem?]
      exact ⟨i, by rw [Array.getElem?_toList, Array.getElem?_zipIdx, Array.getElem?_eq_getElem hi]; simp⟩)
    have h2 := List.all_eq_true.1 h1 (ops[j], j) (by
      rw [List.mem_iff_getElem?]
      exact ⟨j, by rw [Array.getElem?_toList, Array.getElem?_zipIdx, Array.getElem?_eq_getElem hjn]; simp⟩)
    dsimp only at h2
    rw [hq] at h2
    simpa using h2
theorem planM_ok {E : Env} {ops : Array Oper} {aft : List (List Nat)} {bf com L : List Nat} (ha : aftL ops = aft) (hc : comOk E ops com = true) : ∀ (p : Plan) (inB : Bool) (f m : Nat) (listed : Array Bool), LiM ops.size listed m → planM ops.size aft bf com L inB f m p = true → planOk E ops bf.toArray L inB f listed p = true
  | .done, inB, f, m, listed, h, hp => by
    cases inB <;> cases f <;> simp only [planM, Bool.false_eq_true] at hp
    unfold planOk
    rw [ready_eq ha h]; exact hp
  | .step i p, inB, f, m, listed, h, hp => by
    cases f with
    | zero => cases inB <;> simp [planM] at hp
    | succ f =>
      have hp' : ((readyM ops.size aft m).contains i && (inB || readyM ops.size aft m == [i] || freeM ops.size bf com L m i) && planM ops.size aft bf com L false f (m ||| 2 ^ i) p) = true := by cases inB <;> exact hp
      simp only [Bool.and_eq_true] at hp'
      obtain ⟨⟨h1, h2⟩, h3⟩ := hp'
      have hi : i < ops.size := by
        have := List.contains_iff_mem.1 h1
        unfold readyM at this
        exact List.mem_range.1 (List.mem_filter.1 this).1
      have h3 := planM_ok ha hc p false f _ _ (h.put hi) h3
      have : ((Region.ready .any ops listed).contains i && (inB || Region.ready .any ops listed == [i] || freeAt E ops bf.toArray L listed i) && planOk E ops bf.toArray L false f (listed.setIfInBounds i true) p) = true := by
        rw [ready_eq ha h, h1, h3, Bool.true_and, Bool.and_true]
        simp only [Bool.or_eq_true] at h2 ⊢
        rcases h2 with h2 | h2
        · exact .inl h2
        · exact .inr (free_of hc h h2 hi)
      cases inB <;> exact this
  | .both p q, inB, f, m, listed, h, hp => by
    cases f with
    | zero => cases inB <;> simp [planM] at hp
    | succ f =>
      have hp' : ((inB || (!(readyM ops.size aft m).isEmpty && (readyM ops.size aft m).all fun i => (p.heads ++ q.heads).contains i)) && planM ops.size aft bf com L true (f + 1) m p && planM ops.size aft bf com L true (f + 1) m q) = true := by cases inB <;> exact hp
      simp only [Bool.and_eq_true] at hp'
      obtain ⟨⟨h1, h2⟩, h3⟩ := hp'
      have h2 := planM_ok ha hc p true (f + 1) _ _ h h2
      have h3 := planM_ok ha hc q true (f + 1) _ _ h h3
      have : ((inB || (!(Region.ready .any ops listed).isEmpty && (Region.ready .any ops listed).all fun i => (p.heads ++ q.heads).contains i)) && planOk E ops bf.toArray L true (f + 1) listed p && planOk E ops bf.toArray L true (f + 1) listed q) = true := by
        rw [ready_eq ha h, h1, h2, h3]; rfl
      cases inB <;> exact this
theorem planR_of {E : Env} {ops : Array Oper} {n : Nat} {aft : List (List Nat)} {bf com L : List Nat} {p : Plan} (hn : ops.size = n) (ha : aftL ops = aft) (hb : (Region.before ops).toList = bf) (hah : aheadOk ops bf.toArray = true) (hc : comOk E ops com = true) (hp : planM n aft bf com L false n 0 p = true) : planR E ops L p = true := by
  subst hn
  have hb' : Region.before ops = bf.toArray := by rw [← hb]
  unfold planR
  rw [hb', hah, Bool.true_and]
  exact planM_ok ha hc p false _ 0 _ (LiM.none _) hp
/-- A body's check but for the regions of these keys. -/
def keyR (id : Nat) (ops : Array Oper) : Nat := id * 1000 + ops.size
def linT (E : Env) (T : List Nat) : Code → Bool
  | .region id ops draw => (draw && T.contains (keyR id ops)) || linC E (.region id ops draw)
  | .seq x y => linT E T x && linT E T y
  | .cond _ x y => linT E T x && linT E T y
  | .block _ c => linT E T c
  | .loop c => linT E T c
  | .scope c => linT E T c
  | _ => true
def heavyIn (T : List Nat) : Code → List (Nat × Array Oper)
  | .region id ops draw => if draw && T.contains (keyR id ops) then [(id, ops)] else []
  | .seq x y => heavyIn T x ++ heavyIn T y
  | .cond _ x y => heavyIn T x ++ heavyIn T y
  | .block _ c => heavyIn T c
  | .loop c => heavyIn T c
  | .scope c => heavyIn T c
  | _ => []
theorem linT_ok {E : Env} {T : List Nat} : ∀ c : Code, linT E T c = true → (∀ r ∈ heavyIn T c, linC E (.region r.1 r.2 true) = true) → linC E c = true := by
  intro c
  induction c with
  | region id ops draw =>
    intro h k
    unfold linT at h
    rw [Bool.or_eq_true] at h
    rcases h with h | h
    · have hd : draw = true := by rw [Bool.and_eq_true] at h; exact h.1
      subst hd
      exact k (id, ops) (by unfold heavyIn; rw [if_pos h]; simp)
    · exact h
  | seq x y ihx ihy =>
    intro h k
    simp only [linT, Bool.and_eq_true] at h
    simp only [linC, ihx h.1 (fun r hr => k r (by simp [heavyIn, hr])), ihy h.2 (fun r hr => k r (by simp [heavyIn, hr])), Bool.and_self]
  | cond c x y ihx ihy =>
    intro h k
    simp only [linT, Bool.and_eq_true] at h
    simp only [linC, ihx h.1 (fun r hr => k r (by simp [heavyIn, hr])), ihy h.2 (fun r hr => k r (by simp [heavyIn, hr])), Bool.and_self]
  | block id c ih => intro h k; exact ih h k
  | loop c ih => intro h k; exact ih h k
  | scope c ih => intro h k; exact ih h k
  | _ => intro h k; rfl
/-- The first region of a number and of so many operations. -/
def findR (id n : Nat) : Code → Option (Array Oper)
  | .region j ops draw => if draw && (j == id && ops.size == n) then some ops else none
  | .seq x y => (findR id n x).or (findR id n y)
  | .cond _ x y => (findR id n x).or (findR id n y)
  | .block _ c => findR id n c
  | .loop c => findR id n c
  | .scope c => findR id n c
  | _ => none
def opsAt (f : Option Func) (id n : Nat) : Array Oper := (((f.bind (·.body)).bind (findR id n))).getD #[]
end Go.Proofs.YthkbiiammhekfaaGreatDoor.Dm
