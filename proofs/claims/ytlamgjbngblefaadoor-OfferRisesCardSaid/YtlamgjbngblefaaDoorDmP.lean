/-
  One operation of the machine, whichever it is but a call, is what the model does.
-/
import Derived.Test.YtlamgjbngblefaaDoorDmM
namespace Go.Proofs.YtlamgjbngblefaaDoor.Dm
open Go Go.RowKit

section
variable {P : Program} {W : World} {C : Cx} {S : List Ob}
theorem run_dLen (hs : SR W C S) {ts : Array TypeId} {ty t : TypeId} {args : Array Value} {v : Value} {x d : D} (hts : ts[0]? = some t) (hargs : args[0]? = some v) (hx : VR W C x v) (h : dLen P S t x = some d) :
    ∃ u, (Builtin.len_ ts ty args).run P W = .ok u W ∧ VR W C d u := by
  unfold dLen at h
  split at h
  case h_1 s hu => cases h; cases hx; exact ⟨.int .i64 s.size, by simp [Builtin.len_, hts, hargs, run_underlying hu, goInt], .int _ _⟩
  case h_2 e hu => cases h; cases hx; exact ⟨.int .i64 0, by simp [Builtin.len_, hts, hargs, run_underlying hu, goInt], .int _ _⟩
  case h_3 e z es x' hu =>
    cases h
    cases hx with
    | sl => exact ⟨.int .i64 es.length, by simp [Builtin.len_, hts, hargs, run_underlying hu, goInt], .int _ _⟩
    | sl0 => exact ⟨.int .i64 0, by simp [Builtin.len_, hts, hargs, run_underlying hu, goInt], .int _ _⟩
  case h_4 e k i len x' hu => cases h; cases hx; exact ⟨.int .i64 len, by simp [Builtin.len_, hts, hargs, run_underlying hu, goInt], .int _ _⟩
  case h_5 e k i len cap hu => cases h; cases hx; exact ⟨.int .i64 len, by simp [Builtin.len_, hts, hargs, run_underlying hu, goInt], .int _ _⟩
  case h_6 k e hu => cases h; cases hx; exact ⟨.int .i64 0, by simp [Builtin.len_, hts, hargs, run_underlying hu, goInt], .int _ _⟩
  case h_7 kt' e k hu =>
    split at h
    · rename_i kt l hk
      cases h
      cases hx with
      | map hr =>
        obtain ⟨⟨es, clock, m, hb, hmp, -, hl, -⟩, -, -⟩ := hs.at hk (by simp) hr
        exact ⟨.int .i64 es.size, by simp [Builtin.len_, hts, hargs, run_underlying hu, MapKept.run_getObj_map hb, goInt], by rw [← hmp.length_eq, hl]; exact .int _ _⟩
    · cases h
  case h_8 n e hu =>
    cases h
    exact ⟨.int .i64 n, by simp [Builtin.len_, hts, hargs, run_underlying hu, goInt], .int _ _⟩
  case h_9 => cases h
theorem run_dCap {ts : Array TypeId} {ty t : TypeId} {args : Array Value} {v : Value} {x d : D} (hts : ts[0]? = some t) (hargs : args[0]? = some v) (hx : VR W C x v) (h : dCap P t x = some d) :
    ∃ u, (Builtin.cap_ ts ty args).run P W = .ok u W ∧ VR W C d u := by
  unfold dCap at h
  split at h
  case h_1 e hu => cases h; cases hx; exact ⟨.int .i64 0, by simp [Builtin.cap_, hts, hargs, run_underlying hu, goInt], .int _ _⟩
  case h_2 e k i len cap hu => cases h; cases hx; exact ⟨.int .i64 cap, by simp [Builtin.cap_, hts, hargs, run_underlying hu, goInt], .int _ _⟩
  case h_3 => cases h
theorem run_dMin2 {a b d : D} {u v : Value} {mx : Bool} (h : dMin2 mx a b = some d) (ha : VR W C a u) (hb : VR W C b v) : ∃ r, (if mx then Builtin.max2 u v else Builtin.min2 u v).run P W = .ok r W ∧ VR W C d r := by
  unfold dMin2 at h
  split at h
  · cases h; cases ha; cases hb
    cases mx
    · refine ⟨_, ?_, .int _ _⟩; simp [Builtin.min2]
    · refine ⟨_, ?_, .int _ _⟩; simp [Builtin.max2]
  · cases h
theorem run_dMins {mx : Bool} : ∀ {l : List D} {a d : D} {u : Value} {vs : List Value}, dMins mx a l = some d → VR W C a u → VRs W C l vs → ∃ r, (vs.foldlM (fun x y => if mx then Builtin.max2 x y else Builtin.min2 x y) u).run P W = .ok r W ∧ VR W C d r
  | [], a, d, u, vs, h, ha, hv => by
    simp [dMins] at h; subst h
    have : vs = [] := List.eq_nil_of_length_eq_zero (by simpa using hv.1.symm)
    subst this
    exact ⟨u, by simp, ha⟩
  | b :: l, a, d, u, [], h, ha, hv => by have := hv.1; simp at this
  | b :: l, a, d, u, v :: vs, h, ha, hv => by
    unfold dMins at h
    split at h
    · rename_i c hc
      obtain ⟨r, hr, hrv⟩ := run_dMin2 (P := P) hc ha hv.head
      obtain ⟨r', hr', hrv'⟩ := run_dMins h hrv hv.tail
      exact ⟨r', by rw [List.foldlM_cons]; simp only [Sem.run_bind, hr, Result.andThen_ok, hr'], hrv'⟩
    · cases h
theorem run_dCopy (hs : SR W C S) {ts : Array TypeId} {t ty : TypeId} (hts : ts[0]? = some t) {dd s d : D} {vd vs : Value} {S' : List Ob} (hd : VR W C dd vd) (hv : VR W C s vs) (h : dCopy P S t dd s = some (d, S')) :
    ∃ r W', (Builtin.copy_ ts ty #[vd, vs]).run P W = .ok r W' ∧ VR W' C d r ∧ SR W' C S' ∧ Fr W C S W' C S' := by
  unfold dCopy at h
  split at h
  · rename_i e he
    have hu := elem_underlying he
    split at h
    · rename_i sz hsz
      split at h
      · rename_i src hsrc
        obtain ⟨a, ca, vn, rfl, hca, hfn, han⟩ := src_spec hs hv hsrc
        split at h
        · cases h
          cases hd
          have hf : (Builtin.firstCells sz 0 (.slice a src.length ca)).run P W = .ok #[] W := by cases a <;> simp [Builtin.firstCells, loadCells, loadCellsFrom]
          exact ⟨.int .i64 0, W, by simp [Builtin.copy_, hts, run_underlying hu, Builtin.lenOf, run_size hsz, hf, goInt], .int _ _, hs, Fr.refl _ _ _⟩
        · rename_i k i len x
          split at h
          · rename_i z es hk
            dsimp only at h
            split at h
            · rename_i hcond
              obtain ⟨rfl, hil⟩ := hcond
              cases h
              obtain ⟨g, sz', tot, cap, T, rfl, hr, hl, hxx, hx', hx''⟩ := hd.of_os
              obtain ⟨⟨rfl, h2, h3, cur, h4, h5, h6⟩, hnI, hlt⟩ := hs.at hk (by simp) hr
              have hFn := (hfn.dropTake 0 (min src.length len) (by omega))
              simp only [Nat.zero_mul, List.drop_zero] at hFn
              have hnl : (src.take (min src.length len)).length = min src.length len := by simp
              -- what is loaded
              have hload : (Builtin.firstCells z (Nat.min src.length len) (.slice a src.length ca)).run P W = .ok (vn.take (min src.length len * z)).toArray W := by
                have hlen : (vn.take (min src.length len * z)).length = min src.length len * z := by rw [hFn.len, hnl]
                cases ha : a with
                | none =>
                  have h0 : src.length = 0 := by
                    rcases Nat.eq_zero_or_pos src.length with h0 | h0
                    · exact h0
                    · obtain ⟨g', o', e', -⟩ := han h0
                      rw [ha] at e'; cases e'
                  have : vn.take (min src.length len * z) = [] := List.eq_nil_of_length_eq_zero (by rw [hlen, h0]; simp)
                  rw [this]
                  simp [Builtin.firstCells]
                | some a' =>
                  have := run_loadCells_list (P := P) W a' (vn.take (min src.length len * z)) (fun j u hu => by
                    rw [List.getElem?_take] at hu
                    split at hu
                    · rename_i hj
                      have hpos : 0 < src.length := by
                        rcases Nat.eq_zero_or_pos src.length with h0 | h0
                        · rw [h0] at hj; simp at hj
                        · exact h0
                      obtain ⟨g', o', e', hc'⟩ := han hpos
                      rw [ha] at e'; cases e'
                      rw [add_addr]; exact hc' j u hu
                    · cases hu)
                  rw [hlen] at this
                  exact this
              have hfit : i * z + (vn.take (min src.length len * z)).length ≤ cur.size := by
                rw [hFn.len, hnl, h5, ← Nat.add_mul]
                exact Nat.le_trans (Nat.mul_le_mul_right _ (by omega)) h2
              have hone : ∀ u ∈ vn.take (min src.length len * z), u.oneCell' = true := by
                rcases Nat.eq_zero_or_pos z with hz | hz
                · subst hz; intro u hu; simp at hu
                · exact hFn.ones hz
              have hst := run_storeCells_at P g (i * z) T (vn.take (min src.length len * z)) 0 cur W h4 (by simpa using hfit) hone
              simp only [Nat.add_zero] at hst
              have hput := hs.put (ob' := .row z (es.take i ++ src.take (min src.length len) ++ es.drop (i + min src.length len))) (W' := W.setRow g (cur.toList.take (i * z) ++ vn.take (min src.length len * z) ++ cur.toList.drop (i * z + (vn.take (min src.length len * z)).length)).toArray) hk (by simp) hr rfl rfl rfl (setRow_size _ _ _) (fun b hb => setRow_other W g b _ hb) (fun hm => by
                have hes : ∀ p (e' : List D), (es.take i ++ src.take (min src.length len) ++ es.drop (i + min src.length len))[p]? = some e' → if p < i then es[p]? = some e' else if p < i + min src.length len then (src.take (min src.length len))[p - i]? = some e' else es[p]? = some e' := by
                  intro p e' he'
                  have := splice_get (L := es) (vs := src.take (min src.length len)) (a := i) (by rw [hnl]; omega) p
                  rw [hnl] at this
                  rw [this] at he'
                  by_cases q1 : p < i
                  · rw [if_pos q1] at he' ⊢; exact he'
                  · rw [if_neg q1] at he' ⊢
                    by_cases q2 : p < i + min src.length len
                    · rw [if_pos q2] at he' ⊢; exact he'
                    · rw [if_neg q2] at he' ⊢; exact he'
                have hlenE : (es.take i ++ src.take (min src.length len) ++ es.drop (i + min src.length len)).length = es.length := by simp; omega
                refine ⟨rfl, by rw [hlenE]; exact h2, fun p e' he' => ?_, _, setRow_heap W g cur _ T _ h4, ?_, fun p j e' c he' hc' => ?_⟩
                · have := hes p e' he'
                  split at this
                  · exact h3 _ _ this
                  · split at this
                    · exact hFn.el _ _ this
                    · exact h3 _ _ this
                · simp only [List.size_toArray, List.length_append, List.length_drop, Array.length_toList]
                  rw [List.length_take (l := cur.toList)]
                  simp only [Array.length_toList]
                  omega
                · suffices hh : ∃ v', (cur.toList.take (i * z) ++ vn.take (min src.length len * z) ++ cur.toList.drop (i * z + (vn.take (min src.length len * z)).length))[p * z + j]? = some v' ∧ VR W C c v' ∧ c.one = true by
                    obtain ⟨v', q1, q2, q3⟩ := hh
                    exact ⟨v', by simpa only [List.getElem?_toArray] using q1, hm _ _ q2, q3⟩
                  rw [splice_get (by simpa using hfit), hFn.len, hnl, ← Nat.add_mul]
                  have hE := hes p e' he'
                  split at hE
                  · rename_i q
                    obtain ⟨u, hu', hr', ho'⟩ := h6 _ _ _ _ hE hc'
                    have hj : j < z := by rw [← h3 _ _ hE]; exact (List.getElem?_eq_some_iff.1 hc').1
                    exact ⟨u, by rw [if_pos (lt_rows q hj)]; simpa using hu', hr', ho'⟩
                  · rename_i q
                    split at hE
                    · rename_i q2
                      obtain ⟨u, hu', hr'⟩ := hFn.val _ _ _ _ hE hc'
                      have hj : j < z := by rw [← hFn.el _ _ hE]; exact (List.getElem?_eq_some_iff.1 hc').1
                      have e1 : p * z = i * z + (p - i) * z := by rw [← Nat.add_mul]; congr 1; omega
                      refine ⟨u, ?_, hr', hFn.one _ _ _ _ hE hc'⟩
                      rw [if_neg (by rw [e1]; omega), if_pos (lt_rows q2 hj), e1]
                      rw [show i * z + (p - i) * z + j - i * z = (p - i) * z + j by omega]
                      exact hu'
                    · rename_i q2
                      obtain ⟨u, hu', hr', ho'⟩ := h6 _ _ _ _ hE hc'
                      have e1 : (i + min src.length len) * z ≤ p * z := Nat.mul_le_mul_right _ (by omega)
                      have e2 : i * z ≤ (i + min src.length len) * z := Nat.mul_le_mul_right _ (by omega)
                      exact ⟨u, by rw [if_neg (by omega), if_neg (by omega)]; simpa using hu', hr', ho'⟩)
              refine ⟨goInt (Nat.min src.length len), _, ?_, .int _ _, hput.1, hput.2⟩
              simp only [Builtin.copy_, hts, Sem.run_bind, run_underlying hu, Result.andThen_ok, Builtin.lenOf, Sem.run_pure, run_size hsz, hload, hst, List.getElem?_toArray, List.getElem?_cons_zero, List.getElem?_cons_succ]
            · cases h
          · cases h
        · cases h
      · cases h
    · cases h
  · cases h
end
end Go.Proofs.YtlamgjbngblefaaDoor.Dm
