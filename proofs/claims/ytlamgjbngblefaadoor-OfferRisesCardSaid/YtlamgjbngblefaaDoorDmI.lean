/-
  The machine's append of zeros onto a slice of known capacity, where there is no room.
-/
import Derived.Test.YtlamgjbngblefaaDoorDmA
import Derived.Lib.AppendZerosOnto
namespace Go.Proofs.YtlamgjbngblefaaDoor.Dm
open Go Go.RowKit

section
variable {P : Program} {W : World} {C : Cx} {S : List Ob}
theorem zeros_fl {z : List D} {vz : Array Value} (hz : VRs W C z vz.toList) (h1 : z.all D.one = true) (n : Nat) : FL W C z.length (List.replicate n z) (Builtin.zeroCells vz n).toList := by
  have hl : z.length = vz.size := by have := hz.1; simpa using this
  refine ⟨fun i e he => ?_, by simp [size_zeroCells, hl], fun i j e c he hc => ?_, fun i j e c he hc => ?_⟩
  · rw [List.getElem?_replicate] at he
    split at he
    · cases he; rfl
    · cases he
  · rw [List.getElem?_replicate] at he
    split at he
    · cases he; exact all_one h1 c (List.mem_of_getElem? hc)
    · cases he
  · rw [List.getElem?_replicate] at he
    split at he
    · rename_i hi
      cases he
      obtain ⟨u, hu, hr⟩ := hz.get hc
      have hj : j < z.length := (List.getElem?_eq_some_iff.1 hc).1
      refine ⟨u, ?_, hr⟩
      rw [Array.getElem?_toList] at hu ⊢
      have hlt : i * z.length + j < n * vz.size := by rw [← hl]; exact lt_rows hi hj
      have hmod : (i * z.length + j) % vz.size = j := by rw [← hl, Nat.mul_comm, Nat.mul_add_mod, Nat.mod_eq_of_lt hj]
      have hjs : j < vz.size := by omega
      rw [← hu]
      simp [Builtin.zeroCells, hlt, hmod, hjs]
    · cases he
theorem run_dAppendMake (hs : SR W C S) {t u ty : TypeId} {s x d : D} {vs vx : Value} {S' : List Ob} (hs' : VR W C s vs) (hx : VR W C x vx) (h : dAppendMake P S t u s x = some (d, S')) :
    ∃ r W' C', (Builtin.append_ #[t, u] ty #[vs, vx]).run P W = .ok r W' ∧ VR W' C' d r ∧ SR W' C' S' ∧ Fr W C S W' C' S' := by
  unfold dAppendMake at h
  split at h
  · rename_i kn e hn he
    have hu := elem_underlying he
    split at h
    · rename_i n z hsz hz
      obtain ⟨zv, hzr, ⟨i, hi, hiz⟩, hzv⟩ := run_zero hz
      have hzc := (fromVal_vr (W := W) (C := C) hzv).cells (fromVal_def hzv)
      have his : i.size = n + 1 := by
        obtain ⟨i', hi', h'⟩ := info_of_size hsz
        rw [hi] at hi'; cases hi'; exact h'
      have hby : bytesT P e = i.bytes := by simp [bytesT, hi]
      split at h
      · rename_i hzl
        split at h
        · rename_i k len cap kq m
          split at h
          · rename_i sz es hk
            split at h
            · rename_i hc
              obtain ⟨rfl, hm, hle, hcap, hmx, hbd⟩ := hc
              cases h
              cases hs' with
              | osc hr hl hcc =>
                rename_i g sz' tot T
                cases hx
                have hsrc : srcOf S (n + 1) (.os k 0 len false) = some ((es.drop 0).take len) := by
                  simp only [srcOf, hk]
                  rw [if_pos (by simpa using hle)]
                obtain ⟨⟨rfl, -⟩, -, -⟩ := hs.at hk (by simp) hr
                have hos : VR W C (.os k 0 len false) (.slice (some ⟨g, 0 * (n + 1), none⟩) len cap) := .os hr hl (fun e => by cases e) (fun _ => hcc) (by omega)
                obtain ⟨b, cb, vo, hveq, hcb, hfo, hbo⟩ := src_spec hs hos hsrc
                have hlen : ((es.drop 0).take len).length = len := by simp; omega
                rw [hlen] at hveq hbo hcb
                cases hveq
                have hlz : zv.cells.size = n + 1 := by have := hzc.1; simp at this; omega
                have hcell : ∀ j w, vo[j]? = some w → W.drew.cell? ((⟨g, 0 * (n + 1), none⟩ : Addr).add j) = some w := by
                  intro j w hw
                  by_cases h0 : 0 < len
                  · obtain ⟨g', b', e', hc'⟩ := hbo h0
                    cases e'
                    rw [add_addr]
                    exact hc' j w hw
                  · have : vo.length = 0 := by rw [hfo.len, hlen, show len = 0 by omega, Nat.zero_mul]
                    rw [List.eq_nil_of_length_eq_zero this] at hw
                    cases hw
                have hold := run_firstCells_some (P := P) W.drew (n + 1) len ⟨g, 0 * (n + 1), none⟩ len cap vo (by rw [hfo.len, hlen]) hcell
                have hmn : (m.toNat : Int) = m := by omega
                have hrun := Lib.run_append_grow_zeros (P := P) W t u ty e i zv kq kn hu hn hi hiz (some ⟨g, 0 * (n + 1), none⟩) len cap vo (by rw [his]; exact hold) m.toNat (by omega) (by omega) hcap (by simp only [maxLen] at hmx; omega) (by rw [← hby]; exact Nat.le_trans (Nat.mul_le_mul_right _ (Nat.le_add_left m.toNat len)) (by omega)) (growslice_fits hcap (by rw [← hby]; exact hbd))
                rw [hmn] at hrun
                have hge := grownCap_ge W (len + m.toNat) cap e
                have hz1 : z.cells.length = n + 1 := hzl.1
                have hfz := zeros_fl hzc hzl.2 m.toNat
                rw [hz1] at hfz
                have htot : ((es.drop 0).take len ++ List.replicate m.toNat z.cells).length = len + m.toNat := by rw [List.length_append, hlen, List.length_replicate]
                obtain ⟨C', h1, h2, h3⟩ := push_row hs (hfo.append hfz) zv.cells hlz (grownCap W (len + m.toNat) cap e) (by rw [htot]; exact hge) e W.drew rfl (vo.toArray ++ Builtin.zeroCells zv.cells m.toNat ++ Builtin.zeroCells zv.cells (grownCap W (len + m.toNat) cap e - (len + m.toNat))) (by rw [htot]; simp)
                rw [htot] at h3
                exact ⟨_, _, C', hrun, h3, by simpa using h1, by simpa using h2⟩
            · cases h
          · cases h
        · cases h
      · cases h
    · cases h
  · cases h
end
end Go.Proofs.YtlamgjbngblefaaDoor.Dm
