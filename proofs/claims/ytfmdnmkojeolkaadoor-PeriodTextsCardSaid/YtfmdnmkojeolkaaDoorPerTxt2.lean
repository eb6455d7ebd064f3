/-
  Reading a period: what Parse comes to, and that printing and reading fit together. No program in sight.
-/
import Derived.Test.YtfmdnmkojeolkaaDoorPerTxt
namespace Go.Proofs.YtfmdnmkojeolkaaDoor.Per
open Go.Proofs.YtfmdnmkojeolkaaDoor

def ba (l : List UInt8) : ByteArray := ⟨l.toArray⟩
theorem ba_list (l : List UInt8) : (ba l).data.toList = l := by simp [ba]
theorem ba_data (s : ByteArray) : ba s.data.toList = s := Txt.ba_ext (by rw [ba_list])
/-- The pieces of a text between its slashes. -/
def pieces (s : ByteArray) : List ByteArray := (cutL s.data.toList).map ba
def pp3 (a b c : ByteArray) : P × Int :=
  if Txt.pe a ≠ 0 then (zero, Txt.pe a) else if Txt.pe b ≠ 0 then (zero, Txt.pe b) else
    match wst c.data.toList with
    | none => (zero, 3)
    | some (last, d) => if last = -1 then (zero, 3) else if chk ⟨Txt.pv a, Txt.pv b, d⟩ = 0 then (⟨Txt.pv a, Txt.pv b, d⟩, 0) else (zero, chk ⟨Txt.pv a, Txt.pv b, d⟩)
def ppl : List ByteArray → P × Int
  | [a, b, c] => pp3 a b c
  | _ => (zero, 3)
def pp (s : ByteArray) : P × Int := ppl (pieces s)
theorem ppl_no {l : List ByteArray} (h : ¬ l.length = 3) : ppl l = (zero, 3) := by
  unfold ppl
  split
  · exact absurd rfl h
  · rfl
theorem three {l : List ByteArray} (h : l.length = 3) : ∃ a b c, l = [a, b, c] := by
  match l, h with
  | [a, b, c], _ => exact ⟨a, b, c, rfl⟩
theorem pp3_a {a b c : ByteArray} (h : ¬ Txt.pe a = 0) : pp3 a b c = (zero, Txt.pe a) := by unfold pp3; rw [if_pos h]
theorem pp3_b {a b c : ByteArray} (h : Txt.pe a = 0) (h' : ¬ Txt.pe b = 0) : pp3 a b c = (zero, Txt.pe b) := by unfold pp3; rw [if_neg (fun e => e h), if_pos h']
theorem pp3_none {a b c : ByteArray} (h : Txt.pe a = 0) (h' : Txt.pe b = 0) (hc : wst c.data.toList = none) : pp3 a b c = (zero, 3) := by unfold pp3; rw [if_neg (fun e => e h), if_neg (fun e => e h'), hc]
theorem pp3_no {a b c : ByteArray} {d : Int} (h : Txt.pe a = 0) (h' : Txt.pe b = 0) (hc : wst c.data.toList = some (-1, d)) : pp3 a b c = (zero, 3) := by unfold pp3; rw [if_neg (fun e => e h), if_neg (fun e => e h'), hc]; rfl
theorem pp3_bad {a b c : ByteArray} {last d : Int} (h : Txt.pe a = 0) (h' : Txt.pe b = 0) (hc : wst c.data.toList = some (last, d)) (hl : ¬ last = -1) (hk : ¬ chk ⟨Txt.pv a, Txt.pv b, d⟩ = 0) : pp3 a b c = (zero, chk ⟨Txt.pv a, Txt.pv b, d⟩) := by
  unfold pp3; rw [if_neg (fun e => e h), if_neg (fun e => e h'), hc]; dsimp only; rw [if_neg hl, if_neg hk]
theorem pp3_ok {a b c : ByteArray} {last d : Int} (h : Txt.pe a = 0) (h' : Txt.pe b = 0) (hc : wst c.data.toList = some (last, d)) (hl : ¬ last = -1) (hk : chk ⟨Txt.pv a, Txt.pv b, d⟩ = 0) : pp3 a b c = (⟨Txt.pv a, Txt.pv b, d⟩, 0) := by
  unfold pp3; rw [if_neg (fun e => e h), if_neg (fun e => e h'), hc]; dsimp only; rw [if_neg hl, if_pos hk]
theorem pp_cases (s : ByteArray) : (pp s).2 ≠ 0 ∨ ∃ a b c last d, s.data.toList = a ++ 47 :: (b ++ 47 :: c) ∧ Txt.pe (ba a) = 0 ∧ Txt.pe (ba b) = 0 ∧ wst c = some (last, d) ∧ chk ⟨Txt.pv (ba a), Txt.pv (ba b), d⟩ = 0 ∧ pp s = (⟨Txt.pv (ba a), Txt.pv (ba b), d⟩, 0) := by
  by_cases h3 : (cutL s.data.toList).length = 3
  · obtain ⟨a, b, c, hc⟩ : ∃ a b c, cutL s.data.toList = [a, b, c] := by
      match hq : cutL s.data.toList, h3 with
      | [a, b, c], _ => exact ⟨a, b, c, rfl⟩
    have hj := cutL_join s.data.toList hc
    simp only [List.flatMap_cons, List.flatMap_nil, List.append_nil] at hj
    have hp : pp s = pp3 (ba a) (ba b) (ba c) := by unfold pp pieces; rw [hc]; rfl
    have hcl := ba_list c
    by_cases ha : Txt.pe (ba a) = 0
    · by_cases hb : Txt.pe (ba b) = 0
      · cases hw : wst c with
        | none => left; rw [hp, pp3_none ha hb (by rw [hcl]; exact hw)]; decide
        | some q =>
          obtain ⟨last, d⟩ := q
          by_cases hl : last = -1
          · subst hl; left; rw [hp, pp3_no ha hb (by rw [hcl]; exact hw)]; decide
          · by_cases hk : chk ⟨Txt.pv (ba a), Txt.pv (ba b), d⟩ = 0
            · right; exact ⟨a, b, c, last, d, by rw [hj]; simp, ha, hb, hw, hk, by rw [hp]; exact pp3_ok ha hb (by rw [hcl]; exact hw) hl hk⟩
            · left; rw [hp, pp3_bad ha hb (by rw [hcl]; exact hw) hl hk]; exact hk
      · left; rw [hp, pp3_b ha hb]; exact hb
    · left; rw [hp, pp3_a ha]; exact ha
  · left; unfold pp; rw [ppl_no (by unfold pieces; simpa using h3)]; decide
theorem pprint_list {p : P} (h : chk p = 0) : (pprint p).data.toList = (Txt.print p.f).data.toList ++ 47 :: ((Txt.print p.t).data.toList ++ 47 :: wl p.d 7) := by
  unfold pprint
  rw [if_pos h]
  simp [slash, wl, ByteArray.data_append]
theorem pp_print {s : ByteArray} (h : (pp s).2 = 0) : chk (pp s).1 = 0 ∧ pprint (pp s).1 = s := by
  rcases pp_cases s with e | ⟨a, b, c, last, d, hs, ha, hb, hw, hk, hp⟩
  · exact absurd h e
  · rw [hp]
    refine ⟨hk, ?_⟩
    apply Txt.ba_ext
    rw [pprint_list hk, hs]
    have h1 := (Txt.parse_print ha).2
    have h2 := (Txt.parse_print hb).2
    have h3 := wst_print hw
    dsimp only
    rw [h1, h2, ba_list, ba_list]
    unfold wl
    rw [h3]
theorem print_pp {p : P} (h : chk p = 0) : pp (pprint p) = (p, 0) := by
  obtain ⟨g1, g2, g3, g4, g5, g6⟩ := chk_ok.1 h
  have hf : Cal.inR p.f = true := by simp [Cal.inR]; omega
  have ht : Cal.inR p.t = true := by simp [Cal.inR]; omega
  obtain ⟨f1, f2⟩ := Txt.print_parse hf
  obtain ⟨t1, t2⟩ := Txt.print_parse ht
  obtain ⟨last, hw⟩ := print_wst g5 g6
  have hc : cutL (pprint p).data.toList = [(Txt.print p.f).data.toList, (Txt.print p.t).data.toList, wl p.d 7] := by
    rw [pprint_list h, cutL_app _ (print_slash hf), cutL_app _ (print_slash ht), cutL_whole (wl_slash p.d)]
  have hp : pp (pprint p) = pp3 (Txt.print p.f) (Txt.print p.t) (ba (wl p.d 7)) := by
    unfold pp pieces; rw [hc]
    show pp3 (ba _) (ba _) (ba _) = _
    rw [ba_data, ba_data]
  have hl : ¬ last = -1 := fun e => by
    have := (wst_spec _ _ _ hw).2.2.2.2.2.1 e
    omega
  rw [hp, pp3_ok f2 t2 (by rw [ba_list]; exact hw) hl (by rw [f1, t1]; exact h), f1, t1]
theorem pprint_no {p : P} (h : ¬ chk p = 0) : pprint p = ByteArray.empty := by unfold pprint; rw [if_neg h]
theorem pp_empty : pp ByteArray.empty = (zero, 3) := by kernel_rfl
end Go.Proofs.YtfmdnmkojeolkaaDoor.Per
