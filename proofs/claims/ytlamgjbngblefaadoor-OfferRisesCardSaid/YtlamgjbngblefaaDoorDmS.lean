/-
  The machine's stores, addresses, fields, indexes and slices: each is what the model does.
-/
import Derived.Test.YtlamgjbngblefaaDoorDmL
import Derived.Laws.CopyRow
namespace Go.Proofs.YtlamgjbngblefaaDoor.Dm
open Go Go.RowKit

theorem splice_get {α : Type} {L vs : List α} {a : Nat} (h : a + vs.length ≤ L.length) (p : Nat) : (L.take a ++ vs ++ L.drop (a + vs.length))[p]? = if p < a then L[p]? else if p < a + vs.length then vs[p - a]? else L[p]? := by
  by_cases h1 : p < a
  · rw [if_pos h1, List.append_assoc, List.getElem?_append_left (by simp; omega), List.getElem?_take, if_pos h1]
  · rw [if_neg h1, List.append_assoc, List.getElem?_append_right (by simp; omega)]
    have hl : (L.take a).length = a := by simp; omega
    rw [hl]
    by_cases h2 : p < a + vs.length
    · rw [if_pos h2, List.getElem?_append_left (by omega)]
    · rw [if_neg h2, List.getElem?_append_right (by omega), List.getElem?_drop]
      congr 1; omega
theorem setFrom_len : ∀ {vs cs : List D} {o : Nat}, (setFrom cs o vs).length = cs.length
  | [], _, _ => rfl
  | v :: vs, cs, o => by rw [setFrom, setFrom_len]; simp
theorem setFrom_get : ∀ {vs cs : List D} {o : Nat}, o + vs.length ≤ cs.length → ∀ p, (setFrom cs o vs)[p]? = if p < o then cs[p]? else if p < o + vs.length then vs[p - o]? else cs[p]?
  | [], cs, o, h, p => by
    rw [setFrom]
    split
    · rfl
    · rw [if_neg (by simp; omega)]
  | v :: vs, cs, o, h, p => by
    rw [setFrom, setFrom_get (by simp at h ⊢; omega)]
    simp only [List.length_cons] at h ⊢
    by_cases h1 : p < o
    · rw [if_pos (by omega), if_pos h1, List.getElem?_set_ne (by omega)]
    · rw [if_neg h1]
      by_cases h2 : p = o
      · subst h2
        rw [if_pos (by omega), if_pos (by omega), List.getElem?_set_self (by omega)]
        simp
      · rw [if_neg (by omega)]
        by_cases h3 : p < o + (vs.length + 1)
        · rw [if_pos (by omega), if_pos h3, show p - o = (p - (o + 1)) + 1 by omega, List.getElem?_cons_succ]
        · rw [if_neg (by omega), if_neg h3, List.getElem?_set_ne (by omega)]
theorem setRow_size (w : World) (g : Nat) (cs : Array Value) : (w.setRow g cs).heap.size = w.heap.size := by simp [World.setRow]
theorem all_one {ds : List D} (h : ds.all D.one = true) : ∀ d ∈ ds, d.one = true := by simpa [List.all_eq_true] using h
section
variable {P : Program} {W : World} {C : Cx} {S : List Ob}
theorem VRs.ones {ds : List D} {vs : List Value} (h : VRs W C ds vs) (h1 : ds.all D.one = true) : ∀ v ∈ vs, v.oneCell' = true := by
  intro v hv
  obtain ⟨j, hj⟩ := List.mem_iff_getElem?.1 hv
  have hl : j < ds.length := by rw [h.1]; exact (List.getElem?_eq_some_iff.1 hj).1
  exact (h.2 j _ v (List.getElem?_eq_getElem hl) hj).one (all_one h1 _ (List.getElem_mem hl))
theorem idx_split {n sz i i' j j' : Nat} (hj : j < sz) (hj' : j' < sz) (hn : n = sz) (h : i * n + j = i' * n + j') : i = i' ∧ j = j' := by
  subst hn
  have h1 : (i * n + j) / n = i := by rw [Nat.mul_comm, Nat.mul_add_div (by omega), Nat.div_eq_of_lt hj]; omega
  have h2 : (i' * n + j') / n = i' := by rw [Nat.mul_comm, Nat.mul_add_div (by omega), Nat.div_eq_of_lt hj']; omega
  have : i = i' := by rw [← h1, ← h2, h]
  subst this
  exact ⟨rfl, by omega⟩
theorem lt_rows {i n sz j : Nat} (hi : i < n) (hj : j < sz) : i * sz + j < n * sz := by
  have : (i + 1) * sz ≤ n * sz := Nat.mul_le_mul_right _ hi
  rw [Nat.succ_mul] at this; omega
theorem run_dStore (hs : SR W C S) {t : TypeId} {x v : D} {vx vv : Value} {S' : List Ob} (hx : VR W C x vx) (hv : VR W C v vv) (h : dStore P S t x v = some S') : ∃ W', (Instr.storeAt t vx vv).run P W = .ok () W' ∧ SR W' C S' ∧ Fr W C S W' C S' := by
  cases hx <;> try (simp [dStore] at h; done)
  case loc k i o g sz tot T hr =>
    simp only [dStore] at h
    split at h
    · rename_i s es hk
      split at h
      · rename_i cs hi
        split at h
        · rename_i hcond
          cases h
          obtain ⟨c1, c2, c3⟩ := hcond
          obtain ⟨⟨rfl, h2, h3, vs, h4, h5, h6⟩, hnI, hlt⟩ := hs.at hk (by simp) hr
          have hne : v ≠ .undef := by rintro rfl; simp [D.cells, D.one] at c2
          have hcl := hv.cells hne
          have hlen : cs.length = s := h3 i cs hi
          have hil : i < es.length := (List.getElem?_eq_some_iff.1 hi).1
          have hfit : i * s + o + vv.cells.toList.length ≤ vs.size := by
            rw [← hcl.1, h5]
            have : (i + 1) * s ≤ es.length * s := Nat.mul_le_mul_right _ hil
            rw [Nat.succ_mul] at this; omega
          have hst := run_storeCells_at P g (i * s + o) T vv.cells.toList 0 vs W h4 (by simpa using hfit) (hcl.ones c2)
          simp only [Nat.add_zero] at hst
          have hsz : vv.cells.size = v.cells.length := by rw [hcl.1]; simp
          have hput := hs.put (ob' := .row s (es.set i (setFrom cs o v.cells))) (W' := W.setRow g (vs.toList.take (i * s + o) ++ vv.cells.toList ++ vs.toList.drop (i * s + o + vv.cells.toList.length)).toArray) hk (by simp) hr rfl rfl rfl (setRow_size _ _ _) (fun b hb => setRow_other W g b _ hb) (fun hm => by
            refine ⟨rfl, by simpa using h2, fun i' e he => ?_, _, setRow_heap W g vs _ T _ h4, ?_, fun i' j e c he hc => ?_⟩
            · rcases getElem?_set' he with ⟨rfl, rfl, -⟩ | ⟨-, he⟩
              · rw [setFrom_len]; exact hlen
              · exact h3 i' e he
            · simp only [List.size_toArray, List.length_append, List.length_take, List.length_drop, Array.length_toList]
              simp only [Array.length_toList] at hfit
              omega
            · suffices hh : ∃ v', (vs.toList.take (i * s + o) ++ vv.cells.toList ++ vs.toList.drop (i * s + o + vv.cells.toList.length))[i' * s + j]? = some v' ∧ VR W C c v' ∧ c.one = true by
                obtain ⟨v', q1, q2, q3⟩ := hh
                exact ⟨v', by simpa only [List.getElem?_toArray] using q1, hm _ _ q2, q3⟩
              rw [splice_get (by simpa using hfit)]
              rw [← hcl.1]
              rcases getElem?_set' he with ⟨rfl, rfl, -⟩ | ⟨hne', he⟩
              · rw [setFrom_get (by omega)] at hc
                by_cases q1 : j < o
                · rw [if_pos q1] at hc
                  rw [if_pos (by omega)]
                  obtain ⟨u, hu, hr', ho⟩ := h6 i' j cs c hi hc
                  exact ⟨u, by simpa using hu, hr', ho⟩
                · rw [if_neg q1] at hc
                  rw [if_neg (by omega)]
                  by_cases q2 : j < o + v.cells.length
                  · rw [if_pos q2] at hc
                    rw [if_pos (by omega), show i' * s + j - (i' * s + o) = j - o by omega]
                    obtain ⟨u, hu, hr'⟩ := hcl.get hc
                    exact ⟨u, hu, hr', all_one c2 c (List.mem_of_getElem? hc)⟩
                  · rw [if_neg q2] at hc
                    rw [if_neg (by omega)]
                    obtain ⟨u, hu, hr', ho⟩ := h6 i' j cs c hi hc
                    exact ⟨u, by simpa using hu, hr', ho⟩
              · obtain ⟨u, hu, hr', ho⟩ := h6 i' j e c he hc
                have hj : j < s := by rw [← h3 i' e he]; exact (List.getElem?_eq_some_iff.1 hc).1
                refine ⟨u, ?_, hr', ho⟩
                by_cases q1 : i' * s + j < i * s + o
                · rw [if_pos q1]; simpa using hu
                · rw [if_neg q1]
                  by_cases q2 : i' * s + j < i * s + o + v.cells.length
                  · exfalso
                    have := idx_split (n := s) (sz := s) (i := i') (i' := i) (j := j) (j' := i' * s + j - i * s) hj (by omega) rfl (by omega)
                    exact hne' this.1
                  · rw [if_neg q2]; simpa using hu)
          refine ⟨_, ?_, hput.1, hput.2⟩
          simp only [Instr.storeAt, Instr.sureAddr, Sem.run_bind, Sem.run_pure, Result.andThen_ok, storeVar, run_size c1, hsz, ne_eq, not_true, if_false, hst]
        · cases h
      · cases h
    · cases h
theorem fieldN_spec {s : TypeId} {f ft off : Nat} (h : fieldN P s f = some (ft, off)) : ∃ fs fd, P.underlying s = some (.struct fs) ∧ fs[f]? = some fd ∧ fd.type = ft ∧ fd.offset = off := by
  unfold fieldN at h
  split at h
  · obtain ⟨fd, h1, h2⟩ := Option.map_eq_some_iff.1 h
    cases h2
    exact ⟨_, fd, by assumption, h1, rfl, rfl⟩
  · cases h
theorem add_addr (g b n : Nat) : (⟨g, b, none⟩ : Addr).add n = ⟨g, b + n, none⟩ := by unfold Addr.add; split <;> simp_all
theorem run_dFieldAddr {s : TypeId} {x d : D} {f : Nat} {v : Value} (hx : VR W C x v) (h : dFieldAddr P s x f = some d) : ∃ u, (Instr.fieldAt s v f).run P W = .ok u W ∧ VR W C d u := by
  unfold dFieldAddr at h
  split at h
  · rename_i ft off hf
    obtain ⟨fs, fd, h1, h2, rfl, rfl⟩ := fieldN_spec hf
    split at h
    · rename_i n hn
      have key : ∀ (g b : Nat), (Instr.fieldAt s (.pointer (some ⟨g, b, none⟩)) f).run P W = .ok (.pointer (some ⟨g, b + fd.offset, none⟩)) W := by
        intro g b
        simp only [Instr.fieldAt, Sem.run_bind, run_underlying h1, Result.andThen_ok, h2, Instr.sureAddr, Sem.run_pure, fieldPlace, run_size hn, Nat.add_one_ne_zero, if_false, add_addr]
      cases hx <;> simp only [Option.some.injEq, reduceCtorEq] at h
      case ref cs o g b vs hg hc hv => subst h; exact ⟨_, key _ _, by rw [Nat.add_assoc]; exact .ref vs hg hc hv⟩
      case loc k i o g sz tot T hr => subst h; exact ⟨_, key _ _, by rw [Nat.add_assoc]; exact .loc hr⟩
    · cases h
  · cases h
theorem run_dField {t : TypeId} {x d : D} {f : Nat} {v : Value} (hx : VR W C x v) (h : dField P t x f = some d) : ∃ u, (Instr.field t v f).run P W = .ok u W ∧ VR W C d u := by
  unfold dField at h
  split at h
  · rename_i ft off cs hf
    obtain ⟨fs, fd, h1, h2, rfl, rfl⟩ := fieldN_spec hf
    obtain ⟨vs, rfl, hvs⟩ := hx.of_agg
    obtain ⟨u, hu, hr⟩ := run_part' h hvs W
    refine ⟨u, ?_, hr⟩
    simp only [Instr.field, Sem.run_bind, run_underlying h1, Result.andThen_ok, h2, asAgg, Sem.run_pure, hu]
  · cases h
theorem run_dIndexAddr (hs : SR W C S) {t : TypeId} {x d : D} {k : IntKind} {n : Int} {v : Value} (hx : VR W C x v) (h : dIndexAddr P S t x n = some d) : ∃ u, (Instr.indexAt t v (.int k n)).run P W = .ok u W ∧ VR W C d u := by
  unfold dIndexAddr at h
  split at h
  · rename_i e sz es x' hu
    split at h
    · rename_i hc
      obtain ⟨e', he, rfl⟩ := Option.map_eq_some_iff.1 h
      have hl : n.toNat < es.length := (List.getElem?_eq_some_iff.1 he).1
      have hn : n < es.length := by omega
      cases hx with
      | sl vs hp hg hcap hxx hss hcc ho hv =>
        rename_i g b cap
        refine ⟨.pointer (some ⟨g, b + n.toNat * sz, none⟩), ?_, ?_⟩
        · simp [Instr.indexAt, asIntOf, run_underlying hu, hc.1, hn, run_size hc.2, add_addr]
        · have hel := hss _ _ he
          have := VR.ref (W := W) (C := C) (cs := e') (o := 0) (g := g) (b := b + n.toNat * sz) (fun j => vs n.toNat j) hg (fun j hj => by rw [Nat.add_assoc]; exact hcc _ _ hl (by omega)) (fun j c hj => hv _ _ _ _ he hj)
          simpa using this
      | sl0 => simp at hl
    · cases h
  · rename_i e kk i len x' hu
    split at h
    · rename_i hc
      split at h
      · rename_i sz es hk
        split at h
        · rename_i hsz
          cases h
          cases hx with
          | os hr hl hxx hx' hx'' =>
            rename_i g sz' tot cap T
            obtain ⟨⟨rfl, -⟩, -⟩ := hs.at hk (by simp) hr
            refine ⟨.pointer (some ⟨g, i * sz + n.toNat * sz, none⟩), ?_, ?_⟩
            · simp [Instr.indexAt, asIntOf, run_underlying hu, hc.1, hc.2, run_size hsz, add_addr]
            · have := VR.loc (W := W) (C := C) (i := i + n.toNat) (o := 0) hr
              simpa [Nat.add_mul] using this
        · cases h
      · cases h
    · cases h
  · rename_i len e cs o hu
    split at h
    · rename_i hc
      obtain ⟨z, hz, rfl⟩ := Option.map_eq_some_iff.1 h
      cases hx with
      | ref vs hg hcc hv =>
        rename_i g b
        refine ⟨.pointer (some ⟨g, b + (o + n.toNat * z), none⟩), ?_, .ref vs hg hcc hv⟩
        simp [Instr.indexAt, asIntOf, run_underlying hu, hc.1, hc.2, run_size hz, Instr.sureAddr, add_addr, Nat.add_assoc]
    · cases h
  · rename_i len e kk i o hu
    split at h
    · rename_i hc
      obtain ⟨z, hz, rfl⟩ := Option.map_eq_some_iff.1 h
      cases hx with
      | loc hr =>
        rename_i g sz tot T
        refine ⟨.pointer (some ⟨g, i * sz + (o + n.toNat * z), none⟩), ?_, .loc hr⟩
        simp [Instr.indexAt, asIntOf, run_underlying hu, hc.1, hc.2, run_size hz, Instr.sureAddr, add_addr, Nat.add_assoc]
    · cases h
  · cases h
theorem run_dIndex {t : TypeId} {x d : D} {k : IntKind} {n : Int} {v : Value} (hx : VR W C x v) (h : dIndex P t x n = some d) : ∃ u, (Instr.index t v (.int k n)).run P W = .ok u W ∧ VR W C d u := by
  unfold dIndex at h
  split at h
  · rename_i len e cs hu
    split at h
    · rename_i hc
      split at h
      · rename_i z hz
        obtain ⟨vs, rfl, hvs⟩ := hx.of_agg
        obtain ⟨u, hu', hr⟩ := run_part' h hvs W
        exact ⟨u, by simp [Instr.index, asIntOf, run_underlying hu, hc.1, hc.2, run_size hz, hu'], hr⟩
      · cases h
    · cases h
  · rename_i s hu
    split at h
    · rename_i hc
      obtain ⟨b, hb, rfl⟩ := Option.map_eq_some_iff.1 h
      cases hx with
      | str s =>
        exact ⟨_, by simp [Instr.index, asIntOf, run_underlying hu, hc, hb], .int _ _⟩
    · cases h
  · cases h
end
end Go.Proofs.YtlamgjbngblefaaDoor.Dm
