/-
  Cutting a text at its slashes, in layer 4's reference.
-/
import Derived.Test.YtfmdnmkojeolkaaDoorPerParse
import Derived.Test.YtfmdnmkojeolkaaDoorRefDays
namespace Go.Proofs.YtfmdnmkojeolkaaDoor
open Go.RowKit Go.Shelf

theorem info_str : (Tryd.prog.info? 9).map (fun i => (i.zero, i.size, i.bytes)) = some (some (.string ByteArray.empty), 1, 16) := by kernel_rfl

/-- What holds while the text is cut: a is where the piece begins, k where the walk stands. -/
def CutInv (s : ByteArray) (a k : Nat) (done : List ByteArray) : Prop :=
  done.length ≤ k ∧ ((k ≤ s.size ∧ Per.pieces s = done ++ (Per.cutL (s.data.toList.drop a)).map Per.ba ∧ ∀ c ∈ Txt.seg s a k, c ≠ 47) ∨ (k = s.size + 1 ∧ Per.pieces s = done))
theorem cut_start (s : ByteArray) : CutInv s 0 0 [] := ⟨Nat.le_refl _, .inl ⟨Nat.zero_le _, rfl, fun c hc => by simp [Txt.seg_nil] at hc⟩⟩
theorem seg_whole (s : ByteArray) (a : Nat) : Txt.seg s a s.size = s.data.toList.drop a := by
  unfold Txt.seg
  rw [List.take_of_length_le (by simp)]
theorem ba_extract (s : ByteArray) (a k : Nat) : Per.ba (Txt.seg s a k) = s.extract a k := Txt.ba_ext (by rw [Per.ba_list, Txt.seg_extract])
theorem cut_end {s : ByteArray} {a : Nat} {done : List ByteArray} (h : CutInv s a s.size done) : CutInv s (s.size + 1) (s.size + 1) (done ++ [s.extract a s.size]) := by
  obtain ⟨hl, h⟩ := h
  refine ⟨by simp; omega, .inr ⟨rfl, ?_⟩⟩
  rcases h with ⟨-, h2, h3⟩ | ⟨h1, -⟩
  · rw [seg_whole] at h3
    rw [h2, Per.cutL_whole h3, ← seg_whole, List.map_cons, List.map_nil, ba_extract]
  · omega
theorem drop_split (s : ByteArray) {a k : Nat} (ha : a ≤ k) (hk : k < s.size) : s.data.toList.drop a = Txt.seg s a k ++ s[k] :: s.data.toList.drop (k + 1) := by
  unfold Txt.seg
  have h1 : s.data.toList.drop a = (s.data.toList.take k).drop a ++ s.data.toList.drop k := by
    conv => lhs; rw [← List.take_append_drop k s.data.toList]
    rw [List.drop_append_of_le_length (by simp; omega)]
  rw [h1, List.drop_eq_getElem_cons (i := k) (by simpa using hk)]
  rfl
theorem cut_hit {s : ByteArray} {a k : Nat} {done : List ByteArray} (h : CutInv s a k done) (ha : a ≤ k) (hk : k < s.size) (hc : s[k] = 47) : CutInv s (k + 1) (k + 1) (done ++ [s.extract a k]) := by
  obtain ⟨hl, h⟩ := h
  rcases h with ⟨h1, h2, h3⟩ | ⟨h1, -⟩
  · refine ⟨by simp; omega, .inl ⟨by omega, ?_, fun c hc => by simp [Txt.seg_nil] at hc⟩⟩
    rw [h2, drop_split s ha hk, hc, Per.cutL_app _ h3, List.map_cons, ba_extract]
    simp
  · omega
theorem cut_miss {s : ByteArray} {a k : Nat} {done : List ByteArray} (h : CutInv s a k done) (ha : a ≤ k) (hk : k < s.size) (hc : ¬ s[k] = 47) : CutInv s a (k + 1) done := by
  obtain ⟨hl, h⟩ := h
  rcases h with ⟨h1, h2, h3⟩ | ⟨h1, -⟩
  · refine ⟨by omega, .inl ⟨by omega, h2, ?_⟩⟩
    rw [Txt.seg_snoc s a k hk ha]
    intro c hcm
    rw [List.mem_append, List.mem_singleton] at hcm
    rcases hcm with hcm | rfl
    · exact h3 c hcm
    · exact hc
  · omega
theorem cut_done {s : ByteArray} {a k : Nat} {done : List ByteArray} (h : CutInv s a k done) (hk : s.size < k) : Per.pieces s = done := by
  rcases h.2 with ⟨h1, -, -⟩ | ⟨-, h2⟩
  · omega
  · exact h2
theorem byte_ne {a : UInt8} (h : ¬ a = 47) : ((a.toNat : Int) == 47) = false := by
  rw [beq_eq_false_iff_ne]
  intro e
  apply h
  apply UInt8.toNat_inj.1
  have : (47 : UInt8).toNat = 47 := rfl
  omega
theorem byte_eq {a : UInt8} (h : a = 47) : ((a.toNat : Int) == 47) = true := by subst h; decide

set_option maxHeartbeats 1000000 in
theorem rCut_any (s : ByteArray) (w : World) (hs : s.size ≤ 200) :
    Calls Tryd.prog 69 #[.string s, .int .u8 47] w fun e w' => ∃ v, e = .returned v ∧ w'.ownsRow w.heap.size 9 1 v (Per.pieces s).length ((Per.pieces s).map Value.string) ∧ Below w.heap.size w w' := by
  obtain ⟨i0, hi, hz0, hz1, hz2⟩ := info_parts info_str
  go_enter Tryd.func69, Tryd.ntmps69
  go_wp2_with fail
  go_loopw [5, 6, 7] (fun o f i wr => ∃ (k a : Nat) (done : List ByteArray), a ≤ k ∧ k ≤ s.size + 1 ∧ i = .int .i64 k ∧ f = .int .i64 a ∧ wr.ownsRow w.heap.size 9 1 o done.length (done.map Value.string) ∧ CutInv s a k done ∧ Below w.heap.size w wr) (fun _ _ i _ => (s.size + 1 - intOf i).toNat)
  case atStart => exact ⟨0, 0, [], Nat.le_refl _, by omega, rfl, rfl, World.ownsRow_nil _ _ _ _, cut_start s, Below.refl _ _⟩
  case round =>
    obtain ⟨k, a, done, ha, hk, rfl, rfl, hrow, hinv, hbr⟩ := hrel
    have hdl := hinv.1
    have HI := Lib.hid hinv
    have hzr := hbr.size
    clear hinv
    by_cases hlt : k ≤ s.size
    · rcases Nat.lt_or_ge k s.size with hk2 | hk2
      · have hne : ((k : Int) == (s.size : Int)) = false := by rw [beq_eq_false_iff_ne]; omega
        by_cases hc : s[k] = 47
        · have HN := Lib.hid (cut_hit HI.out ha hk2 hc)
          have hc' := byte_eq hc
          clear hc
          go_wp2_with (at_builtin; refine wpList_append_own _ rfl _ _ 69 rfl w.heap.size 9 i0 (.string ByteArray.empty) 1 16 Tryd.underlying69 hi hz0 hz1 hz2 rfl (by decide) _ _ _ rfl (hrow.alloc _) ⟨wr.heap.size, 0, none⟩ 1 1 [.string (s.extract a k)] rfl rfl (cell_one_new _ _ _) (by simp [Value.oneCell']) (by unfold maxLen; omega) (by omega) (by simp; omega) ?_; intro v' w6 hown' hgrow _; have hb6 := row_below hrow (by omega) hgrow; clear hgrow)
          go_roundw
          case rel => exact ⟨k + 1, k + 1, _, Nat.le_refl _, by omega, by go_num, by go_num, by simpa using hown', HN.out, hbr.trans hb6⟩
          case measure => simp [intOf]; omega
        · have HN := Lib.hid (cut_miss HI.out ha hk2 hc)
          have hc' := byte_ne hc
          clear hc
          go_wp2_with fail
          go_roundw
          case rel => exact ⟨k + 1, a, _, by omega, by omega, by go_num, rfl, hrow, HN.out, hbr⟩
          case measure => simp [intOf]; omega
      · obtain rfl : k = s.size := by omega
        have HN := Lib.hid (cut_end HI.out)
        go_wp2_with (at_builtin; refine wpList_append_own _ rfl _ _ 69 rfl w.heap.size 9 i0 (.string ByteArray.empty) 1 16 Tryd.underlying69 hi hz0 hz1 hz2 rfl (by decide) _ _ _ rfl (hrow.alloc _) ⟨wr.heap.size, 0, none⟩ 1 1 [.string (s.extract a s.size)] rfl rfl (cell_one_new _ _ _) (by simp [Value.oneCell']) (by unfold maxLen; omega) (by omega) (by simp; omega) ?_; intro v' w6 hown' hgrow _; have hb6 := row_below hrow (by omega) hgrow; clear hgrow)
        go_roundw
        case rel => exact ⟨s.size + 1, s.size + 1, _, Nat.le_refl _, by omega, by go_num, by go_num, by simpa using hown', HN.out, hbr.trans hb6⟩
        case measure => simp [intOf]
    · have E := Lib.hid (cut_done HI.out (by omega))
      go_wp2_with fail
      go_ret
      exact ⟨_, rfl, by rw [E.out]; exact hrow, hbr⟩
end Go.Proofs.YtfmdnmkojeolkaaDoor
