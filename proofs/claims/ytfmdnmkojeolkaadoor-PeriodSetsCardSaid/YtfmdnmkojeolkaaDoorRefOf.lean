/-
  The canonical period of a list of days, in layer 4's reference.
-/
import Derived.Test.YtfmdnmkojeolkaaDoorRefDays
import Derived.Test.YtfmdnmkojeolkaaDoorPerNormal
namespace Go.Proofs.YtfmdnmkojeolkaaDoor
open Go.RowKit Go.Shelf

theorem of_empty (v : Value) (w : World) (hv : IntsAt w v []) :
    Calls Tryd.prog 61 #[v] w fun e w' => e = .returned (canonV []) ∧ Below w.heap.size w w' := by
  obtain ⟨oa, cap, rfl, -, -⟩ := hv
  have hR := Box3.new w 37 (.int .i64 0) (.int .i64 0) (.int .i64 0)
  have hB := (Below.refl w.heap.size w).alloc (Nat.le_refl _) (.cells #[.int .i64 0, .int .i64 0, .int .i64 0] 37)
  have hr0 := hR.c0; have hr1 := hR.c1; have hr2 := hR.c2
  have hf0 := hR.f0 0; have hf1 := hR.f0 1; have hf2 := hR.f0 2
  simp only [List.length_nil]
  go_enter Tryd.func61, Tryd.ntmps61
  go_wp2_with fail
  refine bodyPost_ret (v := .tuple #[.agg #[.int .i64 0, .int .i64 0, .int .i64 0], .bool false]) ?_ rfl ⟨rfl, ?_⟩
  · simp [results, Tryd.results61, go_sem]
  · exact hB

theorem hd_get {l : List Int} (h : 0 < l.length) : l[0]? = some (Per.hd l) := by
  cases l with
  | nil => simp at h
  | cons a l => rfl
theorem lst_get : ∀ {l : List Int} {n : Nat}, l.length = n + 1 → l[n]? = some (Per.lst l)
  | [], _, h => by simp at h
  | [a], n, h => by simp at h; subst h; rfl
  | a :: b :: l, n, h => by
    cases n with
    | zero => simp at h
    | succ n => exact lst_get (l := b :: l) (by simpa using h)
theorem mask_take {l : List Int} {k : Nat} {x : Int} (h : l[k]? = some x) : Per.mask (l.take (k + 1)) = Per.orBit (Per.mask (l.take k)) x := by
  rw [List.take_add_one, h]
  exact Per.mask_snoc _ _

set_option maxHeartbeats 1000000 in
theorem of_some (l : List Int) (n : Nat) (hn : l.length = n + 1) (v : Value) (w : World) (hv : IntsAt w v l) :
    Calls Tryd.prog 61 #[v] w fun e w' => e = .returned (canonV l) ∧ Below w.heap.size w w' := by
  obtain ⟨oa, cap, rfl, hm, hc⟩ := hv
  obtain ⟨g, rfl, hg, hc⟩ := hc (by omega)
  have hi0 := hc 0 _ (hd_get (by omega))
  have hin := hc n _ (lst_get hn)
  rw [hn]
  rw [hn] at hm
  unfold maxLen at hm
  have HN := Lib.hid hn
  have HCC := Lib.hid hc
  have hmix : Tryd.prog.follows .mixedOrders = true := by kernel_rfl
  have hnz : ((n : Int) + 1 == 0) = false := by simp; omega
  clear hn hc
  go_enter Tryd.func61, Tryd.ntmps61
  go_wp2_with fail
  have hi0' : (w.alloc (.cells #[.int .i64 0, .int .i64 0, .int .i64 0] 37)).cell? ⟨g, 0, none⟩ = some (.int .i64 (Per.hd l)) := by rw [World.cell?_alloc_past _ _ _ hg]; exact hi0
  have hin' : (w.alloc (.cells #[.int .i64 0, .int .i64 0, .int .i64 0] 37)).cell? ⟨g, n, none⟩ = some (.int .i64 (Per.lst l)) := by rw [World.cell?_alloc_past _ _ _ hg]; exact hin
  go_region
  go_wp2_with fail
  have hP : Box3 (((w.alloc (.cells #[.int .i64 0, .int .i64 0, .int .i64 0] 37)).alloc (.cells #[.int .i64 (Per.hd l), .int .i64 (Per.lst l), .int .i64 0] 37)).drew) (w.heap.size + 1) 37 (.int .i64 (Per.hd l)) (.int .i64 (Per.lst l)) (.int .i64 (Per.mask (l.take 0))) := by
    have := Box3.new (w.alloc (.cells #[.int .i64 0, .int .i64 0, .int .i64 0] 37)) 37 (.int .i64 (Per.hd l)) (.int .i64 (Per.lst l)) (.int .i64 0)
    rw [World.size_alloc] at this
    exact this
  have hR : Box3 (((w.alloc (.cells #[.int .i64 0, .int .i64 0, .int .i64 0] 37)).alloc (.cells #[.int .i64 (Per.hd l), .int .i64 (Per.lst l), .int .i64 0] 37)).drew) w.heap.size 37 (.int .i64 0) (.int .i64 0) (.int .i64 0) := (Box3.new w 37 (.int .i64 0) (.int .i64 0) (.int .i64 0)).alloc _
  have hB := (((Below.refl w.heap.size w).alloc (Nat.le_refl _) (.cells #[.int .i64 0, .int .i64 0, .int .i64 0] 37)).alloc (by simp) (.cells #[.int .i64 (Per.hd l), .int .i64 (Per.lst l), .int .i64 0] 37)).drew
  have hz : (((w.alloc (.cells #[.int .i64 0, .int .i64 0, .int .i64 0] 37)).alloc (.cells #[.int .i64 (Per.hd l), .int .i64 (Per.lst l), .int .i64 0] 37)).drew).heap.size = w.heap.size + 1 + 1 := by simp
  clear hi0' hin' hi0 hin
  generalize (((w.alloc (.cells #[.int .i64 0, .int .i64 0, .int .i64 0] 37)).alloc (.cells #[.int .i64 (Per.hd l), .int .i64 (Per.lst l), .int .i64 0] 37)).drew) = w3 at *
  go_loopw [5] (fun i wr => ∃ k : Nat, k ≤ n + 1 ∧ i = .int .i64 k ∧ Box3 wr (w.heap.size + 1) 37 (.int .i64 (Per.hd l)) (.int .i64 (Per.lst l)) (.int .i64 (Per.mask (l.take k))) ∧ Box3 wr w.heap.size 37 (.int .i64 0) (.int .i64 0) (.int .i64 0) ∧ Below w.heap.size w wr ∧ w.heap.size + 1 < wr.heap.size) (fun i _ => (n + 1 - intOf i).toNat)
  case atStart => exact ⟨0, by omega, rfl, hP, hR, hB, by omega⟩
  case round =>
    obtain ⟨k, hk, rfl, hPr, hRr, hBr, hzr⟩ := hrel
    clear hP hR hB
    by_cases hlt : k < n + 1
    · obtain ⟨x, hx⟩ : ∃ x, l[k]? = some x := ⟨_, List.getElem?_eq_getElem (by rw [HN.out]; exact hlt)⟩
      have hcx := (hBr.cell (p := ⟨g, k, none⟩) hg).trans (HCC.out k x hx)
      have HM := Lib.hid (mask_take hx)
      clear hx
      obtain ⟨hm0, hm1⟩ := Per.mask_bd (l.take k)
      have hp2 := hPr.c2
      obtain ⟨hbit1, hbit2⟩ := Per.bit_bd x
      have hbz : (Per.bit x == 0) = false := by simp; omega
      have hne : ¬ Per.bit x = 0 := by omega
      generalize Per.mask (l.take k) = M at *
      have hwr : IntKind.i64.wrap (M.tdiv (Per.bit x)) = M / Per.bit x := IntWalk.i64_quo _ _ ⟨by omega, by omega, by omega⟩
      have hq0 : 0 ≤ M / Per.bit x := Int.ediv_nonneg (by omega) (by omega)
      have hS : wr.cell? ⟨w.heap.size + 1, 2, none⟩ = some (.int .i64 M) ∧ wr.cell? ⟨g, k, none⟩ = some (.int .i64 x) := ⟨hp2, hcx⟩
      by_cases hbm : M / Per.bit x % 2 = 0
      · have ht : ((M / Per.bit x).tmod 2 == 0) = true := by rw [Cal.tmod_pos hq0]; simpa using hbm
        have E := Lib.hid (show Per.orBit M x = M + Per.bit x by unfold Per.orBit; rw [if_pos hbm])
        clear hbm
        go_wp2_with fail
        go_region_held3 (fun w' => w'.cell? ⟨w.heap.size + 1, 2, none⟩ = some (.int .i64 M) ∧ w'.cell? ⟨g, k, none⟩ = some (.int .i64 x)) (first | exact hS | assumption) (first | (go_at_call 66; refine (bit_any _ _).mono ?_; rintro e w' ⟨rfl, rfl⟩))
        go_wp2_with fail
        have hfz := hPr.f0 2
        have hsum : IntKind.i64.wrap (M + Per.bit x) = M + Per.bit x := IntWalk.i64_in _ (by omega)
        go_region_with (go_at_call 66; refine (bit_any _ _).mono ?_; rintro e w' ⟨rfl, rfl⟩)
        all_goals
          go_wp2_with fail
          go_roundw
          case rel => exact ⟨k + 1, by omega, by go_num, by rw [HM.out, E.out]; exact hPr.set2 _, hRr.other (a := ⟨w.heap.size + 1, 2, none⟩) _ (by dsimp only; omega), ((hBr.setCell (p := ⟨w.heap.size + 1, 2, none⟩) (by dsimp only; omega) _).drew).drew, by simpa using hzr⟩
          case measure => simp [intOf]; omega
      · have ht : ((M / Per.bit x).tmod 2 == 0) = false := by rw [Cal.tmod_pos hq0]; simpa using hbm
        have E := Lib.hid (show Per.orBit M x = M by unfold Per.orBit; rw [if_neg hbm])
        clear hbm
        go_wp2_with fail
        go_region_held3 (fun w' => w'.cell? ⟨w.heap.size + 1, 2, none⟩ = some (.int .i64 M) ∧ w'.cell? ⟨g, k, none⟩ = some (.int .i64 x)) (first | exact hS | assumption) (first | (go_at_call 66; refine (bit_any _ _).mono ?_; rintro e w' ⟨rfl, rfl⟩))
        go_wp2_with fail
        go_roundw
        case rel => exact ⟨k + 1, by omega, by go_num, by rw [HM.out, E.out]; exact hPr, hRr, hBr.drew, hzr⟩
        case measure => simp [intOf]; omega
    · have E := Lib.hid (show l.take k = l by rw [List.take_of_length_le (by have := HN.out; omega)])
      rw [E.out] at hPr
      have E2 := Lib.hid (show Per.canon l = ⟨Per.hd l, Per.lst l, Per.mask l⟩ ∧ Per.ne l = true by refine ⟨Per.canon_eq l, Per.ne_iff.2 ?_⟩; intro e; have := HN.out; rw [e] at this; simp at this)
      have hp0 := hPr.c0; have hp1 := hPr.c1; have hp2 := hPr.c2
      have hr0 := hRr.c0; have hr1 := hRr.c1; have hr2 := hRr.c2
      have hf0 := hRr.f0 0; have hf1 := hRr.f0 1; have hf2 := hRr.f0 2
      go_wp2_with fail
      refine bodyPost_ret (v := .tuple #[.agg #[.int .i64 (Per.hd l), .int .i64 (Per.lst l), .int .i64 (Per.mask l)], .bool true]) ?_ rfl ⟨by unfold canonV; rw [E2.out.1, E2.out.2], ?_⟩
      · simp [results, Tryd.results61, go_sem, hr0, hr1, hr2]
      · exact ((hBr.setCell (p := ⟨w.heap.size, 0, none⟩) (Nat.le_refl _) _).setCell (p := ⟨w.heap.size, 1, none⟩) (Nat.le_refl _) _).setCell (p := ⟨w.heap.size, 2, none⟩) (Nat.le_refl _) _

theorem rOf_any (l : List Int) (v : Value) (w : World) (hv : IntsAt w v l) :
    Calls Tryd.prog 61 #[v] w fun e w' => e = .returned (canonV l) ∧ Below w.heap.size w w' := by
  cases l with
  | nil => exact of_empty v w hv
  | cons a l => exact of_some (a :: l) l.length rfl v w hv
end Go.Proofs.YtfmdnmkojeolkaaDoor
