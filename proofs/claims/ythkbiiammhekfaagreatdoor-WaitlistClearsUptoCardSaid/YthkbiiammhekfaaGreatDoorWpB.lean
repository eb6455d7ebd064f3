/-
  A waiting list among other objects: Join, Leave, Next, Order, Clear, whatever the request and the list.
  Clear of a waiting list in general.
-/
import Derived.Test.YthkbiiammhekfaaGreatDoorWpA
import Derived.Test.YthkbiiammhekfaaGreatDoorZg
set_option linter.unusedSimpArgs false
set_option linter.unusedVariables false
namespace Go.Proofs.YthkbiiammhekfaaGreatDoor.Dm
open Go Gw
set_option linter.unusedSimpArgs false
set_option linter.unusedSimpArgs false
namespace Wl

structure StepL (os : List Nat) (S : List Ob) (lab : Lab) (T : List Ob) (lab' : Lab) : Prop where
 len : S.length ≤ T.length
 fresh : FreshL T lab'
 labs : ∀ x, x < S.length → lab' x = lab x
 keep : ∀ x, x < S.length → (∀ o ∈ os, (lab x).head? ≠ some o) → T[x]? = S[x]?
section
variable {os : List Nat} {S T U : List Ob} {l m w : Lab}
theorem StepL.of {o : Nat} (h : Step o S l T m) (ho : o ∈ os) : StepL os S l T m := ⟨h.len, h.fresh, h.labs, fun x hx hl => h.keep x hx (hl o ho)⟩
theorem StepL.refl (h : FreshL S l) : StepL os S l S l := ⟨Nat.le_refl _, h, fun _ _ => rfl, fun _ _ _ => rfl⟩
theorem StepL.trans (h : StepL os S l T m) (g : StepL os T m U w) : StepL os S l U w where
 len := Nat.le_trans h.len g.len
 fresh := g.fresh
 labs x hx := (g.labs x (Nat.lt_of_lt_of_le hx h.len)).trans (h.labs x hx)
 keep x hx hl := (g.keep x (Nat.lt_of_lt_of_le hx h.len) (by rw [h.labs x hx]; exact hl)).trans (h.keep x hx hl)
theorem StepL.other (h : StepL os S l T m) {o' : Nat} (ho : o' ∉ os) {x : Nat} {ob : Ob} {t : List Nat} (hx : S[x]? = some ob) (hl : l x = o' :: t) : T[x]? = some ob ∧ m x = o' :: t := by
 have hlt := lt_of_get hx
 refine ⟨by rw [h.keep x hlt (fun o hin => by rw [hl]; rintro e; simp at e; exact ho (e ▸ hin))]; exact hx, by rw [h.labs x hlt]; exact hl⟩
theorem StepL.free (h : StepL os S l T m) {x : Nat} {ob : Ob} (hx : S[x]? = some ob) (hl : l x = []) : T[x]? = some ob ∧ m x = [] := by
 have hlt := lt_of_get hx
 exact ⟨by rw [h.keep x hlt (fun o hin => by rw [hl]; simp)]; exact hx, by rw [h.labs x hlt]; exact hl⟩
theorem StepL.keepO (h : StepL os S l T m) {o' : Nat} (ho : o' ∉ os) : KeepO o' S l T m := fun _ _ _ hx hl => h.other ho hx hl
theorem StepL.push (h : StepL os S l T m) (J : List Ob) : StepL os S l (T ++ J) m where
 len := by rw [List.length_append]; have := h.len; omega
 fresh := h.fresh.push J
 labs := h.labs
 keep x hx hl := by rw [List.getElem?_append_left (by have := h.len; omega)]; exact h.keep x hx hl
end
theorem RAt.otherL {os : List Nat} {S T : List Ob} {lab lab' : Lab} {o k : Nat} {s : Stk} (h : RAt S lab o k s) (g : StepL os S lab T lab') (ho : o ∉ os) : RAt T lab' o k s := by
 obtain ⟨-, rd, rows, h⟩ := h
 exact ⟨g.fresh, rd, rows, h.keep (g.keepO ho)⟩
theorem SAt.otherL {os : List Nat} {S T : List Ob} {lab lab' : Lab} {o k : Nat} {s : Stk} (h : SAt S lab o k s) (g : StepL os S lab T lab') (ho : o ∉ os) : SAt T lab' o k s := by
 obtain ⟨-, m, ps, h⟩ := h
 exact ⟨g.fresh, m, ps, h.keep (g.keepO ho)⟩
def PLi (S : List Ob) (lab : Lab) (k : Nat) (l : List Wt) : Prop := ∃ d, LiAt S k d ∧ LiD S d l ∧ lab k = [3] ∧ ∀ q n x, d = .os q 0 n x → lab q = [3]
section
variable {S T : List Ob} {lab lab' : Lab} {k : Nat} {l : List Wt}
theorem PLi.keep (h : PLi S lab k l) (g : KeepO 3 S lab T lab') : PLi T lab' k l := by
 obtain ⟨d, h1, h2, h3, h4⟩ := h
 unfold LiAt at h1
 obtain ⟨u1, u2⟩ := g k _ _ h1 h3
 refine ⟨d, u1, ?_, u2, fun q n x e => ?_⟩
 ·rcases h2 with h2 | ⟨q, es, e1, e2, e3⟩
  ·exact .inl h2
  ·exact .inr ⟨q, es, e1, (g q _ _ e2 (h4 _ _ _ e1)).1, e3⟩
 ·rcases h2 with ⟨h2, -⟩ | ⟨q', es, e1, e2, e3⟩
  ·rw [h2] at e; cases e
  ·rw [e1] at e
   cases e
   exact (g q _ _ e2 (h4 _ _ _ e1)).2
theorem PLi.push (h : PLi S lab k l) (J : List Ob) : PLi (S ++ J) lab k l := h.keep KeepO.push
theorem PLi.lt (h : PLi S lab k l) : k < S.length := by
 obtain ⟨d, h1, -⟩ := h
 exact lt_of_get h1
theorem but_step {q : Nat} (hf : FreshL S lab) (hk : lab k = [3]) (hb : ButAt k S T) (hq : S.length ≤ q) (hqT : q < T.length) : Step 3 S lab T (setL lab q [3]) where
 len := hb.1
 fresh x hx := by
  rw [setL_ne (by omega)]
  exact hf x (Nat.le_trans hb.1 hx)
 labs x hx := setL_ne (by omega)
 keep x hx hl := hb.2 x hx (by rintro rfl; exact hl (by rw [hk]; rfl))
theorem PLi.new {d : D} (hf : FreshL S lab) (hk : lab k = [3]) (hkS : k < S.length) (hb : ButAt k S T) (h1 : LiAt T k d) (h2 : LiN S.length T d l) : ∃ lab', PLi T lab' k l ∧ Step 3 S lab T lab' := by
 obtain ⟨q, es, e1, e0, e2, e3⟩ := h2
 refine ⟨setL lab q [3], ⟨d, h1, .inr ⟨q, es, e1, e2, e3⟩, by rw [setL_ne (by omega)]; exact hk, fun q' n x e => ?_⟩, but_step hf hk hb e0 (lt_of_get e2)⟩
 rw [e1] at e
 cases e
 exact setL_self
end
section
variable {n : Nat} {S : List Ob} {st : Bool} {lab : Lab} {k p : Nat} {l : List Wt} {s : Stk}
theorem WNewP (hn : 1 ≤ n) (hf : FreshL S lab) : ∃ T lab', (∀ st, callD E (dcall E n) st S 10 [] = some (.loc S.length 0 0, T)) ∧ PLi T lab' S.length [] ∧ Step 3 S lab T lab' := by
 obtain ⟨T, c, h1, o, rfl⟩ := WNew_c (n := n) (S := S) (st := false) hn
 refine ⟨_, setL lab S.length [3], fun st => (callD_genw rfl).trans ((callD_genw (st := false) rfl).symm.trans c), ⟨_, h1, .inl ⟨rfl, rfl⟩, setL_self, fun q n x e => by cases e⟩, Step.add hf _ _⟩
theorem JoinBad {d : D} {x : Wt} (hn : l.length + 230 ≤ n) (hl : l.length ≤ 900) (h6 : x.legs.length ≤ 6) (hk : LiAt S k d) (h : LiD S d l) (hbad : validB x = false ∨ ¬ idxF x.id l < 0) :
  ∃ J, ∀ st, callD E (dcall E n) st S 28 [.loc k 0 0, .agg x.enc] = some (.int .i64 (joinF l x).1, S ++ J) := by
 obtain ⟨m, rfl⟩ : ∃ m, n = m + 1 := ⟨n - 1, by omega⟩
 have : WO (dcall E (m + 1) 28 [.loc k 0 0, .agg x.enc] S) fun r T => ∃ J, r = .int .i64 (joinF l x).1 ∧ T = S ++ J := by
  have w2 := hk.app [.row 5 [x.enc]]
  have cv := fun st S => validE (n := m) (x := x) (by omega) h6 st S
  have cf := fun st => FindG (n := m) (st := st) (id := x.id) (by omega) (by omega) w2 (h.app [.row 5 [x.enc]])
  unfold LiAt at w2
  refine wo_dcall Tryz.func28 rfl (by decide) rfl 36 rfl (fun a hal ha => ?_)
  have h0 : a[0]? = some (.loc k 0 0) := ha 0 (by simp)
  have h1 : a[1]? = some (.agg x.enc) := ha 1 (by simp)
  clear ha
  simp only [Wt.enc] at h1 w2 cv cf
  unfold joinF
  cases hv : validB x
  ·rw [hv] at cv
   rw [if_pos rfl]
   simp (maxSteps := 1000000) (disch := omega) only [push_cast, ↓wc_seq, ↓wc_block, ↓wc_condL, ↓wc_region, ↓wr_cons, ↓wr_consgL, ↓wr_nil, ↓wo_pickL, ↓wo_callf, ↓wc_ret, Nat.reduceAdd, Nat.reduceMul, Nat.reduceLT, Nat.reduceLeDiff, Nat.reduceEqDiff, ↓reduceIte, Nat.reduceBEq, reduceCtorEq, hal, h0, h1, eqp_list1, w2, dUn, cv, get_end, Tryz.f28]
   exact ⟨_, rfl⟩
  ·rw [hv] at cv hbad
   have hge : ¬ idxF x.id l < 0 := by
    rcases hbad with h | h
    ·cases h
    ·exact h
   have hge' : decide (idxF x.id l ≥ 0) = true := decide_eq_true (by omega)
   rw [if_neg (by simp), if_neg hge]
   simp (maxSteps := 1000000) (disch := omega) only [push_cast, ↓wc_seq, ↓wc_block, ↓wc_condL, ↓wc_region, ↓wr_cons, ↓wr_consgL, ↓wr_nil, ↓wo_pickL, ↓wo_callf, ↓wc_ret, Nat.reduceAdd, Nat.reduceMul, Nat.reduceLT, Nat.reduceLeDiff, Nat.reduceEqDiff, ↓reduceIte, Nat.reduceBEq, reduceCtorEq, hal, h0, h1, eqp_list1, w2, dUn, cv, cf, hge', get_end, Tryz.f28]
   exact ⟨_, rfl⟩
 obtain ⟨r, T, ho, J, rfl, rfl⟩ := this
 exact ⟨J, fun st => (callD_genw rfl).trans ho⟩
theorem JoinP {x : Wt} (hn : l.length + 240 ≤ n) (hl : l.length ≤ 900) (hg : GoodW l) (h6 : x.legs.length ≤ 6) (hx : x.legsx = false) (hf : FreshL S lab) (h : PLi S lab k l) :
  ∃ T lab', (∀ st, callD E (dcall E n) st S 28 [.loc k 0 0, .agg x.enc] = some (.int .i64 (joinF l x).1, T)) ∧ PLi T lab' k (joinF l x).2 ∧ Step 3 S lab T lab' := by
 have hP := h
 obtain ⟨d, h1, h2, h3, h4⟩ := h
 by_cases hgood : validB x = true ∧ idxF x.id l < 0
 ·obtain ⟨hv, hi⟩ := hgood
  obtain ⟨g1, g2, g3, g4, g5⟩ := validB_iff.1 hv
  have cv := fun st S => validE (n := n - 1) (x := x) (by omega) h6 st S
  rw [hv] at cv
  obtain ⟨T, d', c, q1, q2, hb⟩ := JoinG (n := n) (x := x) (by omega) hl hg.ord g2 h6 cv hi h1 h2
  have hxx : ({ x with legsx := false } : Wt) = x := by rw [← hx]
  rw [hxx] at q2
  have hj : joinF l x = (0, insL x l) := by unfold joinF; rw [if_neg (by simp [hv]), if_pos hi]
  rw [hj]
  obtain ⟨lab', p1, p2⟩ := PLi.new hf h3 hP.lt hb q1 q2
  exact ⟨T, lab', c, p1, p2⟩
 ·have hbad : validB x = false ∨ ¬ idxF x.id l < 0 := by
   cases hv : validB x
   ·exact .inl rfl
   ·exact .inr fun hi => hgood ⟨hv, hi⟩
  obtain ⟨J, c⟩ := JoinBad (n := n) (by omega) hl h6 h1 h2 hbad
  have hj : (joinF l x).2 = l := by
   unfold joinF
   rcases hbad with hv | hi
   ·rw [if_pos hv]
   ·rw [if_neg hi]; split <;> rfl
  rw [hj]
  exact ⟨_, lab, c, hP.push J, Step.push hf J⟩
def leaveE (l : List Wt) (id : Int) : List D × Int := if idxF id l < 0 then (zW, 7) else (((l[(idxF id l).toNat]?).map Wt.enc).getD zW, 0)
theorem LeaveP {id : Int} (hn : l.length + 20 ≤ n) (hl : l.length ≤ 900) (hf : FreshL S lab) (h : PLi S lab k l) :
  ∃ T lab', (∀ st, callD E (dcall E n) st S 35 [.loc k 0 0, .int .i64 id] = some (.tup [.agg (leaveE l id).1, .int .i64 (leaveE l id).2], T)) ∧ PLi T lab' k (remF l id) ∧ Step 3 S lab T lab' := by
 have hP := h
 obtain ⟨d, h1, h2, h3, h4⟩ := h
 unfold leaveE remF
 by_cases hi : idxF id l < 0
 ·obtain ⟨J, c⟩ := LeaveNo (n := n) (by omega) (by omega) hi h1 h2
  rw [if_pos hi, if_pos hi]
  exact ⟨_, lab, c, hP.push J, Step.push hf J⟩
 ·rw [if_neg hi, if_neg hi]
  obtain ⟨i, y, e1, e2, e3⟩ := idxF_ge hi
  obtain ⟨T, d', c, q1, q2, hb⟩ := LeaveG (n := n) (by omega) (by omega) e1 e2 h1 h2
  rw [e1, Int.toNat_natCast, e2]
  obtain ⟨lab', p1, p2⟩ := PLi.new hf h3 hP.lt hb q1 q2
  exact ⟨T, lab', c, p1, p2⟩
def nextE (s : Stk) (l : List Wt) : List D × Bool := match l.find? fun y => servedF s y with
 | some y => (y.enc, true)
 | none => (zW, false)
theorem find_at {α : Type} {p : α → Bool} : ∀ {l : List α} {y : α}, l.find? p = some y → ∃ i : Nat, l[i]? = some y ∧ p y = true ∧ ∀ (j : Nat) z, j < i → l[j]? = some z → p z = false
 | [], y, h => by simp at h
 | a :: l, y, h => by
  rw [List.find?_cons] at h
  cases hp : p a
  ·rw [hp] at h
   obtain ⟨i, h1, h2, h3⟩ := find_at (l := l) h
   refine ⟨i + 1, by simpa using h1, h2, fun j z hj hz => ?_⟩
   cases j with
   | zero => simp at hz; rw [← hz]; exact hp
   | succ j => exact h3 j z (by omega) (by simpa using hz)
  ·rw [hp] at h
   obtain rfl : a = y := by simpa using h
   exact ⟨0, rfl, hp, fun j z hj => by omega⟩
theorem NextP (hn : l.length + 320 ≤ n) (hl : l.length ≤ 900) (hg : GoodW l) (h : PLi S lab k l) (hs : SAt S lab 1 p s) (ok : GoodS s) (st : Bool) :
  callD E (dcall E n) st S 19 [.loc k 0 0, .loc p 0 0] = some (.tup [.agg (nextE s l).1, .bool (nextE s l).2], S) := by
 obtain ⟨d, h1, h2, -, -⟩ := h
 have hw : ∀ y ∈ l, y.legs.length ≤ 100 ∧ ∀ w ∈ y.legs, w.Ok := fun y hy => ⟨by have := (hg.ok y hy).2.1; omega, (hg.ok y hy).2.2.1⟩
 unfold nextE
 cases hfi : l.find? fun y => servedF s y with
 | none =>
  have hno : ∀ y ∈ l, servedF s y = false := fun y hy => by
   have := List.find?_eq_none.1 hfi y hy
   simpa using this
  exact NextNo (n := n) (by omega) (by omega) h1 h2 hs ok.ok9 hw hno
 | some y =>
  obtain ⟨i, e1, e2, e3⟩ := find_at hfi
  obtain ⟨_, _, ho, J, rfl, rfl⟩ := NextYes (n := n) (by omega) (by omega) h1 h2 hs ok.ok9 hw e1 e2 e3
  exact callD_obsJ rfl (by simp [pureL_cons, D.pure]) (by rw [List.append_assoc] at ho; exact ho) (by simp [D.pure, pureL_cons, pureL_nil, Wt_pure])
theorem OrderP (hn : 2 ≤ n) (hl : l.length ≤ 900) (h : PLi S lab k l) : ∃ d' J, LiO (S ++ J) d' l ∧ ∀ st, callD E (dcall E n) st S 14 [.loc k 0 0] = some (d', S ++ J) := by
 obtain ⟨d, h1, h2, -, -⟩ := h
 exact OrderL hn (by omega) h1 h2
end
end Wl
end Go.Proofs.YthkbiiammhekfaaGreatDoor.Dm
namespace Go.Proofs.YthkbiiammhekfaaGreatDoor.Dm
open Go Gw
set_option linter.unusedSimpArgs false
set_option linter.unusedSimpArgs false
namespace Wl

def GU (b : Nat) (S : List Ob) (lab : Lab) (d : D) (l : List Wt) : Prop := GL 5 Wt.enc S d l ∧ ∀ q n x, d = .os q 0 n x → lab q = [] ∧ b ≤ q
theorem GU.nil {b : Nat} {S : List Ob} {lab : Lab} : GU b S lab .nils [] := ⟨GL.nil, fun q n x e => by cases e⟩
theorem GU.step {b : Nat} {os : List Nat} {S T : List Ob} {lab lab' : Lab} {d : D} {l : List Wt} (h : GU b S lab d l) (g : StepL os S lab T lab') : GU b T lab' d l := by
 obtain ⟨h1, h2⟩ := h
 rcases h1 with ⟨e1, e2⟩ | ⟨q, e1, e2⟩
 ·exact ⟨.inl ⟨e1, e2⟩, fun q n x e => by rw [e1] at e; cases e⟩
 ·obtain ⟨u1, u2⟩ := h2 _ _ _ e1
  obtain ⟨v1, v2⟩ := g.free e2 u1
  refine ⟨.inr ⟨q, e1, v1⟩, fun q' n x e => ?_⟩
  rw [e1] at e
  cases e
  exact ⟨v2, u2⟩
theorem GU.push {b : Nat} {S : List Ob} {lab : Lab} {d : D} {l : List Wt} (h : GU b S lab d l) (o : Ob) : GU b (S ++ [o]) lab d l := ⟨h.1.push o, h.2⟩
theorem GU.app {b : Nat} {S : List Ob} {lab : Lab} {d : D} {l : List Wt} (h : GU b S lab d l) (hf : FreshL S lab) (hb : b ≤ S.length) (hl : l.length ≤ 1000) (y : Wt) :
  ∃ d' T, dAppend Tryz.prog S 44 44 d (.sl 5 [y.enc] true) = some (d', T) ∧ GU b T lab d' (l ++ [y]) ∧ S.length ≤ T.length ∧ (∀ x ob, S[x]? = some ob → lab x ≠ [] ∨ x < b → T[x]? = some ob) := by
 obtain ⟨T, h1, h2, h3, h4, -⟩ := app_gl (n := 4) elW szW zeW rfl byW h.1 (by omega) y
 refine ⟨_, T, h1, ⟨h2, fun q n x e => ?_⟩, by omega, fun x ob hx hxb => h4 x ob (fun n e => ?_) hx⟩
 ·cases e
  exact ⟨hf _ (Nat.le_refl _), hb⟩
 ·obtain ⟨u1, u2⟩ := h.2 _ _ _ e
  rcases hxb with hxb | hxb
  ·exact hxb u1
  ·omega
section
variable {n : Nat} {S : List Ob} {st : Bool} {lab : Lab} {k p : Nat} {l : List Wt} {s : Stk}
set_option maxHeartbeats 8000000 in
set_option maxRecDepth 100000 in
theorem ClearP_d (hn : l.length + 400 ≤ n) (hl : l.length ≤ 900) (hg : GoodW l) (h : PLi S lab k l) (hs : SAt S lab 1 p s) (ok : GoodS s) :
  WO (dcall E (n + 1) 20 [.loc k 0 0, .loc p 0 0] S) fun d T => ∃ lab', GU S.length T lab' d (clrF s l).1 ∧ PLi T lab' k (clrF s l).2.1 ∧ SAt T lab' 1 p (clrF s l).2.2 ∧ StepL [1, 3] S lab T lab' := by
 have hf := hs.1
 have hP := h
 obtain ⟨d0, h1, h2, -, -⟩ := h
 obtain ⟨d', J, hO, hJ, co⟩ := OrderL' (n := n) (by omega) (by omega) h1 h2
 by_cases hl0 : l = []
 ·subst hl0
  rcases hO with ⟨-, hd⟩ | ⟨h, -⟩
  case inr => exact (h rfl).elim
  rcases hd with rfl | rfl
  ·refine wo_dcall Tryz.func20 rfl (by decide) rfl 39 rfl (fun a hal ha => ?_)
   have h0 : a[0]? = some (.loc k 0 0) := ha 0 (by simp)
   have h1 : a[1]? = some (.loc p 0 0) := ha 1 (by simp)
   clear ha
   simp (maxSteps := 1000000) (disch := omega) only [push_cast, ↓wc_seq, ↓wc_block, ↓wc_region, ↓wr_cons, ↓wr_nil, ↓wo_callf, ↓wc_wl, Nat.reduceAdd, Nat.reduceMul, Nat.reduceLT, ↓reduceIte, Nat.reduceBEq, reduceCtorEq, hal, h0, co]
   refine wl_loop (fun i a T => T = S ++ J ∧ a.length = 39 ∧ a[5]? = some (.nils) ∧ a[9]? = some (.nils) ∧ a[10]? = some (.int .i64 0) ∧ a[11]? = some (.int .i64 0)) 0 ?_ (by omega) ?_
   ·simp (maxSteps := 1000000) (disch := omega) only [push_cast, Nat.reduceLT, Nat.reduceEqDiff, ↓reduceIte, hal]
   clear hal h0 h1 a
   rintro i a T hi ⟨rfl, hal, h5, h9, h10, h11⟩
   simp (maxSteps := 1000000) (disch := omega) only [push_cast, ↓wc_seq, ↓wc_condL, ↓wc_region, ↓wr_cons, ↓wr_nil, ↓wc_exit, ↓wc_ret, Nat.reduceAdd, Nat.reduceMul, Nat.reduceLT, Nat.reduceEqDiff, ↓reduceIte, Nat.reduceBEq, hal, h5, h10, h11, Int.lt_irrefl, Tryz.f20]
   exact ⟨lab, GU.nil, hP.push J, hs.push J, (StepL.refl hf).push J⟩
  ·refine wo_dcall Tryz.func20 rfl (by decide) rfl 39 rfl (fun a hal ha => ?_)
   have h0 : a[0]? = some (.loc k 0 0) := ha 0 (by simp)
   have h1 : a[1]? = some (.loc p 0 0) := ha 1 (by simp)
   clear ha
   simp (maxSteps := 1000000) (disch := omega) only [push_cast, ↓wc_seq, ↓wc_block, ↓wc_region, ↓wr_cons, ↓wr_nil, ↓wo_callf, ↓wc_wl, Nat.reduceAdd, Nat.reduceMul, Nat.reduceLT, ↓reduceIte, Nat.reduceBEq, reduceCtorEq, hal, h0, co, Int.natCast_zero]
   refine wl_loop (fun i a T => T = S ++ J ∧ a.length = 39 ∧ a[5]? = some (.nils) ∧ a[9]? = some (.sl 5 [] true) ∧ a[10]? = some (.int .i64 0) ∧ a[11]? = some (.int .i64 0)) 0 ?_ (by omega) ?_
   ·simp (maxSteps := 1000000) (disch := omega) only [push_cast, Nat.reduceLT, Nat.reduceEqDiff, ↓reduceIte, hal]
   clear hal h0 h1 a
   rintro i a T hi ⟨rfl, hal, h5, h9, h10, h11⟩
   simp (maxSteps := 1000000) (disch := omega) only [push_cast, ↓wc_seq, ↓wc_condL, ↓wc_region, ↓wr_cons, ↓wr_nil, ↓wc_exit, ↓wc_ret, Nat.reduceAdd, Nat.reduceMul, Nat.reduceLT, Nat.reduceEqDiff, ↓reduceIte, Nat.reduceBEq, hal, h5, h10, h11, Int.lt_irrefl, Tryz.f20]
   exact ⟨lab, GU.nil, hP.push J, hs.push J, (StepL.refl hf).push J⟩
 obtain ⟨rfl, rfl⟩ := hJ hl0
 obtain ⟨S0, hS0⟩ : ∃ S0, S0 = S ++ [Ob.row 5 (l.map Wt.enc)] := ⟨_, rfl⟩
 have hlen0 : S0.length = S.length + 1 := by rw [hS0]; simp
 have hf0 : FreshL S0 lab := by rw [hS0]; exact hf.push _
 have g0 : S0[S.length]? = some (.row 5 (l.map Wt.enc)) := by rw [hS0]; exact get_end
 have l0 : lab S.length = [] := hf _ (Nat.le_refl _)
 refine wo_dcall Tryz.func20 rfl (by decide) rfl 39 rfl (fun a hal ha => ?_)
 have h0 : a[0]? = some (.loc k 0 0) := ha 0 (by simp)
 have h1 : a[1]? = some (.loc p 0 0) := ha 1 (by simp)
 clear ha
 simp (maxSteps := 1000000) (disch := omega) only [push_cast, ↓wc_seq, ↓wc_block, ↓wc_region, ↓wr_cons, ↓wr_nil, ↓wo_callf, ↓wc_wl, Nat.reduceAdd, Nat.reduceMul, Nat.reduceLT, ↓reduceIte, Nat.reduceBEq, reduceCtorEq, hal, h0, co]
 refine wl_loop (fun i a T => (∃ lab' d, a[5]? = some d ∧ GU S0.length T lab' d (clrF s (l.take i)).1 ∧ PLi T lab' k ((clrF s (l.take i)).2.1 ++ l.drop i) ∧ SAt T lab' 1 p (clrF s (l.take i)).2.2 ∧ StepL [1, 3] S0 lab T lab') ∧ a.length = 39 ∧ a[0]? = some (.loc k 0 0) ∧ a[1]? = some (.loc p 0 0) ∧ a[9]? = some (.os S.length 0 l.length false) ∧ a[10]? = some (.int .i64 l.length) ∧ a[11]? = some (.int .i64 i)) l.length ?_ (by omega) ?_
 ·simp (maxSteps := 1000000) (disch := omega) only [push_cast, Nat.reduceLT, Nat.reduceEqDiff, ↓reduceIte, reduceCtorEq, hal, h0, h1, Int.natCast_zero]
  refine ⟨lab, _, rfl, GU.nil, ?_, ?_, ?_⟩
  ·exact hP.push _
  ·exact hs.push _
  ·rw [← hS0]; exact StepL.refl hf0
 clear hal h0 h1 a
 rintro i a T hi ⟨⟨lab1, d, h5, hG, hL, hS, hSt⟩, hal, h0, h1, h9, h10, h11⟩
 rcases Nat.lt_or_eq_of_le hi with hlt | rfl
 case inr =>
  rw [List.take_length] at hG hL hS
  rw [List.drop_length, List.append_nil] at hL
  simp (maxSteps := 1000000) (disch := omega) only [push_cast, ↓wc_seq, ↓wc_condL, ↓wc_region, ↓wr_cons, ↓wr_nil, ↓wc_exit, ↓wc_ret, Nat.reduceAdd, Nat.reduceMul, Nat.reduceLT, Nat.reduceEqDiff, ↓reduceIte, Nat.reduceBEq, hal, h5, h10, h11, Int.lt_irrefl, Tryz.f20]
  refine ⟨lab1, ⟨hG.1, fun q n x e => ⟨(hG.2 q n x e).1, by have := (hG.2 q n x e).2; omega⟩⟩, hL, hS, ?_⟩
  exact StepL.trans (by rw [hS0]; exact (StepL.refl hf).push _) hSt
 have hltc : (i : Int) < l.length := by omega
 obtain ⟨y, hy⟩ : ∃ y, l[i]? = some y := ⟨l[i], by simp⟩
 have hym := List.mem_of_getElem? hy
 obtain ⟨y1, y2, y3, y4⟩ := hg.ok y hym
 have hsucc := clrF_succ (s := s) hy
 have hgs := (clr_good ok (l.take i)).1
 obtain ⟨hsub1, hsub2, hsub3⟩ := clr_sub s (l.take i)
 have hdrop : l.drop i = y :: l.drop (i + 1) := drop_at hy
 have hlt' : (l.take i).length = i := by rw [List.length_take]; omega
 obtain ⟨gq, lq⟩ := hSt.free g0 l0
 generalize hA : clrF s (l.take i) = A at *
 obtain ⟨out, rest, sk⟩ := A
 dsimp only at hG hL hS hgs hsub1 hsub2 hsub3
 have hfT := hS.1
 obtain ⟨T1, hT1⟩ : ∃ T1, T1 = T ++ [Ob.row 5 [y.enc]] := ⟨_, rfl⟩
 have g1 : T1[T.length]? = some (.row 5 [y.enc]) := by rw [hT1]; exact get_end
 have lt1 : lab1 T.length = [] := hfT _ (Nat.le_refl _)
 have hS1 : SAt T1 lab1 1 p sk := by rw [hT1]; exact hS.push _
 have hL1 : PLi T1 lab1 k (rest ++ l.drop i) := by rw [hT1]; exact hL.push _
 have hG1 : GU S0.length T1 lab1 d out := by rw [hT1]; exact hG.push _
 have hSt1 : StepL [1, 3] S0 lab T1 lab1 := by rw [hT1]; exact hSt.push _
 have cs := fun st => servedG (n := n) (st := st) (x := y) (by omega) (by omega) hS1 hgs.ok9 y3
 refine wc_scut (fun a T' => T' = T ∧ a[12]? = some (.bool true) ∧ a.length = 39 ∧ a[0]? = some (.loc k 0 0) ∧ a[1]? = some (.loc p 0 0) ∧ a[5]? = some (d) ∧ a[9]? = some (.os S.length 0 l.length false) ∧ a[10]? = some (.int .i64 l.length) ∧ a[11]? = some (.int .i64 i)) ?_ ?_
 ·simp (maxSteps := 1000000) (disch := omega) only [push_cast, ↓wc_region, ↓wr_cons, ↓wr_nil, Nat.reduceAdd, Nat.reduceMul, Nat.reduceLT, Nat.reduceEqDiff, ↓reduceIte, Nat.reduceBEq, reduceCtorEq, hal, h0, h1, h5, h9, h10, h11, hltc]
 clear hal h0 h1 h5 h9 h10 h11 a
 rintro a T' ⟨rfl, h12, hal, h0, h1, h5, h9, h10, h11⟩
 refine wc_scut (fun a T'' => T'' = T' ∧ a.length = 39 ∧ a[0]? = some (.loc k 0 0) ∧ a[1]? = some (.loc p 0 0) ∧ a[5]? = some (d) ∧ a[9]? = some (.os S.length 0 l.length false) ∧ a[10]? = some (.int .i64 l.length) ∧ a[11]? = some (.int .i64 i)) ?_ ?_
 ·simp (maxSteps := 1000000) (disch := omega) only [push_cast, ↓wc_condL, ↓wc_skip, hal, h0, h1, h5, h9, h10, h11, h12]
 clear hal h0 h1 h5 h9 h10 h11 h12 a
 rintro a T' ⟨rfl, hal, h0, h1, h5, h9, h10, h11⟩
 rw [wc_seq, wc_block]
 refine wc_scut (fun a T'' => T'' = T1 ∧ a.length = 39 ∧ a[0]? = some (.loc k 0 0) ∧ a[1]? = some (.loc p 0 0) ∧ a[5]? = some (d) ∧ a[7]? = some (.loc T'.length 0 0) ∧ a[9]? = some (.os S.length 0 l.length false) ∧ a[10]? = some (.int .i64 l.length) ∧ a[11]? = some (.int .i64 i)) ?_ ?_
 ·simp (maxSteps := 1000000) (disch := omega) only [push_cast, ↓wc_region, ↓wr_cons, ↓wr_nil, Nat.reduceAdd, Nat.reduceMul, Nat.reduceLT, Nat.reduceLeDiff, Nat.reduceEqDiff, ↓reduceIte, Nat.reduceBEq, reduceCtorEq, hal, h0, h1, h5, h9, h10, h11, hlt, gq, hy, get_end, set_end, Wt.enc]
  rw [hT1]; rfl
 clear hal h0 h1 h5 h9 h10 h11 a
 rintro a T'' ⟨rfl, hal, h0, h1, h5, h7, h9, h10, h11⟩
 cases hsv : servedF sk y
 ·rw [hsv] at cs
  have hnx : clrF s (l.take (i + 1)) = (out, rest ++ [y], sk) := by
   rw [hsucc]; unfold clrS; rw [if_neg (by simp [hsv])]
  simp only [Wt.enc] at cs g1
  simp (maxSteps := 1000000) (disch := omega) only [push_cast, ↓wc_seq, ↓wc_condL, ↓wc_region, ↓wr_cons, ↓wr_consgL, ↓wr_nil, ↓wo_pickL, ↓wo_callf, ↓wc_skip, Nat.reduceAdd, Nat.reduceMul, Nat.reduceLT, Nat.reduceLeDiff, Nat.reduceEqDiff, ↓reduceIte, Nat.reduceBEq, reduceCtorEq, hal, h0, h1, h5, h7, h9, h10, h11, g1, cs, wrap_ok, Int.natCast_add, Int.natCast_one]
  rw [hnx]
  refine ⟨hlt, lab1, d, rfl, hG1, ?_, hS1, hSt1⟩
  rw [hdrop] at hL1
  simpa using hL1
 ·rw [hsv] at cs
  have hnx : clrF s (l.take (i + 1)) = (out ++ [y], rest, (sk.sell y.legs y.cl y.cnt).2) := by
   rw [hsucc]; unfold clrS; rw [if_pos hsv]
  obtain ⟨T2, lab2, ce, hS2, st2⟩ := Sell_c (n := n) (ids := y.legs) (by omega) hS1 hgs.ok9 (by omega) y3 (di := .sl 4 (y.legs.map Lid.enc) y.legsx) (.inr ⟨_, rfl⟩) y.cl y.cnt
  rw [served_ok y1 hsv] at ce
  have sl2 : StepL [1, 3] T'' lab1 T2 lab2 := StepL.of st2 (by simp)
  have hL2 := hL1.keep (st2.keepO (by decide))
  obtain ⟨g2, lt2⟩ := sl2.free g1 lt1
  have hnd : ((rest ++ l.drop i).map (·.id)).Nodup := by
   have h1 : (rest ++ l.drop i).Sublist (l.take i ++ l.drop i) := hsub2.append (List.Sublist.refl _)
   rw [List.take_append_drop] at h1
   exact hg.nd.sublist (h1.map _)
  have hlen2 : (rest ++ l.drop i).length ≤ l.length := by
   have := hsub2.length_le
   rw [List.length_append, List.length_drop]; omega
  have hat : (rest ++ l.drop i)[rest.length]? = some y := by
   rw [List.getElem?_append_right (Nat.le_refl _), Nat.sub_self, hdrop]; rfl
  have hidx := idxF_at hnd hat
  obtain ⟨T3, lab3, cl, hL3, st3⟩ := LeaveP (n := n) (id := y.id) (by omega) (by omega) hS2.1 hL2
  have hrem : remF (rest ++ l.drop i) y.id = rest ++ l.drop (i + 1) := by
   unfold remF
   rw [hidx, if_neg (by omega), Int.toNat_natCast, hdrop]
   simp
  rw [hrem] at hL3
  have sl3 : StepL [1, 3] T2 lab2 T3 lab3 := StepL.of st3 (by simp)
  have hS3 := hS2.other st3 (by decide)
  obtain ⟨g3, lt3⟩ := sl3.free g2 lt2
  have sall := (hSt1.trans sl2).trans sl3
  have hG3 := (hG1.step sl2).step sl3
  obtain ⟨d4, T4, ca, hG4, len4, k4⟩ := hG3.app hS3.1 sall.len (by have := hsub1.length_le; omega) y
  have ko : ∀ o', KeepO o' T3 lab3 T4 lab3 := fun o' x ob t hx hl => ⟨k4 x ob hx (.inl (by rw [hl]; simp)), hl⟩
  have f4 : FreshL T4 lab3 := fun x hx => sall.fresh x (Nat.le_trans len4 hx)
  have hS4 : SAt T4 lab3 1 p (sk.sell y.legs y.cl y.cnt).2 := by
   obtain ⟨-, m, ps, h⟩ := hS3
   exact ⟨f4, m, ps, h.keep (ko 1)⟩
  have hL4 := hL3.keep (ko 3)
  have s4 : StepL [1, 3] S0 lab T4 lab3 := ⟨Nat.le_trans sall.len len4, f4, sall.labs, fun x hx hl => by
   have hx3 := sall.keep x hx hl
   have hxs : S0[x]? = some S0[x] := List.getElem?_eq_getElem hx
   rw [hxs] at hx3 ⊢
   exact k4 x _ hx3 (.inr hx)⟩
  simp only [Wt.enc] at cs ce cl ca g1 g2 g3
  simp (maxSteps := 1000000) (disch := omega) only [push_cast, ↓wc_seq, ↓wc_condL, ↓wc_region, ↓wr_cons, ↓wr_consgL, ↓wr_nil, ↓wo_pickL, ↓wo_callf, Nat.reduceAdd, Nat.reduceMul, Nat.reducePow, Nat.reduceLT, Nat.reduceLeDiff, Nat.reduceEqDiff, ↓wo_buildSlice, ↓reduceIte, Nat.reduceBEq, reduceCtorEq, hal, h0, h1, h5, h7, h9, h10, h11, g1, g2, g3, cs, ce, cl, ca, wrap_ok, Int.natCast_add, Int.natCast_one]
  rw [hnx]
  exact ⟨hlt, lab3, d4, rfl, hG4, hL4, hS4, s4⟩
theorem ClearP (hn : l.length + 401 ≤ n) (hl : l.length ≤ 900) (hg : GoodW l) (h : PLi S lab k l) (hs : SAt S lab 1 p s) (ok : GoodS s) :
  ∃ d T lab', (∀ st, callD E (dcall E n) st S 20 [.loc k 0 0, .loc p 0 0] = some (d, T)) ∧ GU S.length T lab' d (clrF s l).1 ∧ PLi T lab' k (clrF s l).2.1 ∧ SAt T lab' 1 p (clrF s l).2.2 ∧ StepL [1, 3] S lab T lab' := by
 obtain ⟨m, rfl⟩ : ∃ m, n = m + 1 := ⟨n - 1, by omega⟩
 obtain ⟨d, T, ho, lab', h1, h2, h3, h4⟩ := ClearP_d (n := m) (by omega) hl hg h hs ok
 exact ⟨d, T, lab', fun st => (callD_genw rfl).trans ho, h1, h2, h3, h4⟩
end
end Wl
end Go.Proofs.YthkbiiammhekfaaGreatDoor.Dm
