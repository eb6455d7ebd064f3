/-
  The walks of layer 4's reading of texts: weekdays, Parse.
-/
import Derived.Test.YtfmdnmkojeolkaaDoorPerTxt2
import Derived.Test.YtfmdnmkojeolkaaDoorShelfR1
import Derived.Test.YtfmdnmkojeolkaaDoorCalParse
namespace Go.Proofs.YtfmdnmkojeolkaaDoor
open Go.RowKit

theorem or_add {D : Int} {k : Nat} (h0 : 0 ≤ D) (h1 : D < 2 ^ k) (hk : k ≤ 6) : bits .or .i64 D (2 ^ k) = D + 2 ^ k := by
  have hp := pow_bd hk
  rw [i64_or _ _ h0 (by omega) (by omega) (by omega)]
  have key : ∀ (i : Fin 7) (m : Fin 128), ((m : Nat) : Int) < 2 ^ (i : Nat) → ((((m : Nat) : Int).toNat ||| ((2 : Int) ^ (i : Nat)).toNat : Nat) : Int) = ((m : Nat) : Int) + 2 ^ (i : Nat) := by decide +kernel
  have := key ⟨k, by omega⟩ ⟨D.toNat, by omega⟩
  simp only at this
  rw [show ((D.toNat : Nat) : Int) = D by omega] at this
  exact this h1

/-- The mask of a text of weekdays, and whether it is one. -/
def wmask (l : List UInt8) : Int := match Per.wst l with
  | none => 0
  | some (_, d) => d
def wok (l : List UInt8) : Bool := match Per.wst l with
  | none => false
  | some (last, _) => decide (last ≠ -1)

set_option maxHeartbeats 1000000 in
theorem weekdays_any (s : ByteArray) (w : World) (hs : s.size ≤ 1000) :
    Calls Tryd.prog 68 #[.string s] w fun e w' => e = .returned (.tuple #[.int .i64 (wmask s.data.toList), .bool (wok s.data.toList)]) ∧ w = w' := by
  go_enter Tryd.func68, Tryd.ntmps68
  go_wp2_with fail
  go_loop [4, 5, 10] (fun d last i => ∃ (k : Nat) (L D : Int), k ≤ s.size ∧ i = .int .i64 k ∧ last = .int .i64 L ∧ d = .int .i64 D ∧ Per.wst (s.data.toList.take k) = some (L, D)) (fun _ _ i => s.size - (intOf i).toNat)
  case atStart => exact ⟨0, -1, 0, Nat.zero_le _, rfl, rfl, rfl, rfl⟩
  case round =>
    obtain ⟨k, L, D, hk, rfl, rfl, rfl, hst⟩ := hrel
    obtain ⟨q1, q2, q3, q4, -, q6⟩ := Per.wst_spec _ _ _ hst
    have HS := Lib.hid hst
    have H4 := Lib.hid q4
    have H6 := Lib.hid q6
    clear hst q4 q6
    by_cases hlt : k < s.size
    · have hts := Lib.hid (Txt.take_snoc s k hlt)
      have h256 : (s[k].toNat : Int) < 256 := by have := s[k].toNat_lt; omega
      by_cases hlo : (s[k].toNat : Int) - 49 ≤ L
      · have HN := Lib.hid (Per.wst_none (l := s.data.toList) (k := k + 1) (by rw [hts.out, Per.wst_snoc, HS.out]; unfold Per.wstep; dsimp only; rw [if_pos (.inl hlo)]))
        go_wp2_with fail
        go_ret2
        exact ⟨ret_ib (by unfold wmask; rw [HN.out]) (by unfold wok; rw [HN.out]), rfl⟩
      by_cases hhi : 6 < (s[k].toNat : Int) - 49
      · have HN := Lib.hid (Per.wst_none (l := s.data.toList) (k := k + 1) (by rw [hts.out, Per.wst_snoc, HS.out]; unfold Per.wstep; dsimp only; rw [if_pos (.inr hhi)]))
        go_wp2_with fail
        go_ret2
        exact ⟨ret_ib (by unfold wmask; rw [HN.out]) (by unfold wok; rw [HN.out]), rfl⟩
      have HN := Lib.hid (show Per.wst (s.data.toList.take (k + 1)) = some ((s[k].toNat : Int) - 49, D + 2 ^ ((s[k].toNat : Int) - 49).toNat) by rw [hts.out, Per.wst_snoc, HS.out]; unfold Per.wstep; dsimp only; rw [if_neg (by omega)])
      have hk6 : ((s[k].toNat : Int) - 49).toNat ≤ 6 := by omega
      have hpw := pow_bd hk6
      have hlt2 : D < 2 ^ ((s[k].toNat : Int) - 49).toNat := Int.lt_of_lt_of_le H4.out (by exact_mod_cast Nat.pow_le_pow_right (by omega) (by omega))
      have hor := or_add q3 hlt2 hk6
      have hwr : wrap64 (2 ^ ((s[k].toNat : Int) - 49).toNat) = 2 ^ ((s[k].toNat : Int) - 49).toNat := IntWalk.wrap64_in _ ⟨by omega, by omega⟩
      have HO := Lib.hid hor
      have HW := Lib.hid hwr
      clear hor hwr
      go_wp2_with fail
      go_round
      case rel => exact ⟨k + 1, _, _, by omega, by go_num, rfl, by rw [show (2 : Int) ^ (s[k].toNat - 49) = 2 ^ ((s[k].toNat : Int) - 49).toNat by congr 1; omega, HW.out, HO.out], HN.out⟩
      case measure => simp [intOf]; omega
    · have HT := Lib.hid (show s.data.toList.take k = s.data.toList from List.take_of_length_le (by simp; omega))
      rw [HT.out] at HS
      have H5 := Lib.hid (show wok s.data.toList = decide (0 < D) by
        unfold wok; rw [HS.out]
        apply decide_eq_decide.2
        have := H6.out
        constructor <;> intro h <;> omega)
      have H7 := Lib.hid (show wmask s.data.toList = D by unfold wmask; rw [HS.out])
      by_cases hD : 0 < D
      · go_wp2_with fail
        go_ret2
        exact ⟨ret_ib H7.out.symm (by rw [H5.out, decide_eq_true hD]), rfl⟩
      · go_wp2_with fail
        go_ret2
        exact ⟨ret_ib H7.out.symm (by rw [H5.out, decide_eq_false (show ¬ 0 < D by omega)]), rfl⟩

theorem pieces_split (s : ByteArray) : Lib.splitB ⟨#[47]⟩ 0 (Lib.countB s ⟨#[47]⟩) s = Per.pieces s := by
  have h := Lib.splitB_data ⟨#[47]⟩ 0 (Lib.countB s ⟨#[47]⟩) s
  have h2 : (Lib.splitB ⟨#[47]⟩ 0 (Lib.countB s ⟨#[47]⟩) s).map (·.data.toList) = Per.cutL s.data.toList := h.trans (Per.splitK_cut s.data.toList)
  unfold Per.pieces
  rw [← h2, List.map_map]
  symm
  conv => rhs; rw [← List.map_id (Lib.splitB ⟨#[47]⟩ 0 (Lib.countB s ⟨#[47]⟩) s)]
  apply List.map_congr_left
  intro x _
  exact Per.ba_data x
theorem SplitStr_any (s : ByteArray) (m : Int) (w : World) (hs : s.size < 4294967281) (hm : w.cell? ⟨1, 0, none⟩ = some (.int .i64 m)) :
    Calls Tryd.prog 67 #[.string s, .string ⟨#[47]⟩] w fun e w' => e = .returned (.slice (some ⟨w.heap.size, 0, none⟩) (Per.pieces s).length (Per.pieces s).length) ∧ w' = w.alloc (.cells ((Per.pieces s).map Value.string).toArray 9) := by
  have h := strings_Split s ⟨#[47]⟩ m w hs hm (by decide)
  have e : (Per.pieces s).length = Lib.countB s ⟨#[47]⟩ + 1 := by rw [← pieces_split]; exact Lib.splitB_all ⟨#[47]⟩ (by decide) 0 _ s rfl
  rw [pieces_split, ← e] at h
  exact h

/-- What the two Parses hand back. -/
def parsedV (q : Per.P × Int) : Value := .tuple #[pv q.1, .int .i64 q.2]
theorem piece_size {s : ByteArray} {x : ByteArray} (h : x ∈ Per.pieces s) : x.size ≤ s.size := by
  have H : ∀ (l : List UInt8) (p : List UInt8), p ∈ Per.cutL l → p.length ≤ l.length := by
    intro l
    induction l with
    | nil => intro p hp; simp [Per.cutL] at hp; subst hp; exact Nat.le_refl _
    | cons c l ih =>
      intro p hp
      by_cases hc : c = 47
      · subst hc
        rw [Per.cutL_slash, List.mem_cons] at hp
        rcases hp with rfl | hp
        · simp
        · have := ih p hp; simp only [List.length_cons]; omega
      · cases hl : Per.cutL l with
        | nil => exact absurd hl (Per.cutL_ne l)
        | cons a ps =>
          rw [Per.cutL_other hc hl, List.mem_cons] at hp
          rcases hp with rfl | hp
          · have := ih a (by rw [hl]; simp); simp only [List.length_cons]; omega
          · have := ih p (by rw [hl]; simp [hp]); simp only [List.length_cons]; omega
  unfold Per.pieces at h
  rw [List.mem_map] at h
  obtain ⟨p, hp, rfl⟩ := h
  have := H _ _ hp
  rw [Txt.size_list, Per.ba_list, Txt.size_list]
  exact this

set_option maxHeartbeats 1000000 in
theorem pParse_any (s : ByteArray) (m : Int) (w : World) (hl : HasLen w) (hm : w.cell? ⟨1, 0, none⟩ = some (.int .i64 m)) (hs : s.size ≤ 200) :
    Calls Tryd.prog 49 #[.string s] w fun e w' => e = .returned (parsedV (Per.pp s)) ∧ Below w.heap.size w w' := by
  have hR := (Box3.new w 37 (.int .i64 0) (.int .i64 0) (.int .i64 0)).alloc (.cells ((Per.pieces s).map Value.string).toArray 9)
  have hB := ((Below.refl w.heap.size w).alloc (Nat.le_refl _) (.cells #[.int .i64 0, .int .i64 0, .int .i64 0] 37)).alloc (by simp) (.cells ((Per.pieces s).map Value.string).toArray 9)
  have hm' : (w.alloc (.cells #[.int .i64 0, .int .i64 0, .int .i64 0] 37)).cell? ⟨1, 0, none⟩ = some (.int .i64 m) := by rw [World.cell?_alloc_old _ _ _ (Nat.ne_of_lt (World.block_lt_of_cell? _ _ hm))]; exact hm
  have HSP := Lib.hid (SplitStr_any s m (w.alloc (.cells #[.int .i64 0, .int .i64 0, .int .i64 0] 37)) (by omega) hm')
  have hz : ((w.alloc (.cells #[.int .i64 0, .int .i64 0, .int .i64 0] 37)).alloc (.cells ((Per.pieces s).map Value.string).toArray 9)).heap.size = w.heap.size + 1 + 1 := by simp
  have hsz1 : (w.alloc (.cells #[.int .i64 0, .int .i64 0, .int .i64 0] 37)).heap.size = w.heap.size + 1 := by simp
  have hnew := fun j => World.cell?_alloc_mark (w.alloc (.cells #[.int .i64 0, .int .i64 0, .int .i64 0] 37)) ((Per.pieces s).map Value.string).toArray 9 (0, 0) j
  rw [hsz1] at hnew
  have HNW := Lib.hid hnew
  clear hm hm' hsz1 hnew
  go_enter Tryd.func49, Tryd.ntmps49
  go_wp2_with fail
  refine HSP.out.mono ?_
  rintro e w' ⟨rfl, rfl⟩
  rw [show (w.alloc (.cells #[.int .i64 0, .int .i64 0, .int .i64 0] 37)).heap.size = w.heap.size + 1 by simp]
  generalize (w.alloc (.cells #[.int .i64 0, .int .i64 0, .int .i64 0] 37)).alloc (.cells ((Per.pieces s).map Value.string).toArray 9) = w2 at *
  have hr0 := hR.c0; have hr1 := hR.c1; have hr2 := hR.c2
  have hf0 := hR.f0 0; have hf1 := hR.f0 1; have hf2 := hR.f0 2
  have hl2 := hl.below hB
  by_cases h3 : (Per.pieces s).length = 3
  rotate_left
  · have E := Lib.hid (show Per.pp s = (Per.zero, 3) from Per.ppl_no h3)
    have hne : (((Per.pieces s).length : Int) != 3) = true := by rw [bne_iff_ne]; omega
    clear h3 hR
    generalize (Per.pieces s).length = n at *
    go_wp2_with fail
    refine bodyPost_ret (v := .tuple #[.agg #[.int .i64 0, .int .i64 0, .int .i64 0], .int .i64 3]) ?_ rfl ⟨by rw [E.out]; rfl, ?_⟩
    · simp [results, Tryd.results49, go_sem, hr0, hr1, hr2]
    · exact ((hB.setCell (p := ⟨w.heap.size, 0, none⟩) (Nat.le_refl _) _).setCell (p := ⟨w.heap.size, 1, none⟩) (Nat.le_refl _) _).setCell (p := ⟨w.heap.size, 2, none⟩) (Nat.le_refl _) _

  obtain ⟨a, b, c, habc⟩ := Per.three h3
  have ha3 := piece_size (s := s) (x := a) (by rw [habc]; simp)
  have hb3 := piece_size (s := s) (x := b) (by rw [habc]; simp)
  have hc3 := piece_size (s := s) (x := c) (by rw [habc]; simp)
  have E0 := Lib.hid (show Per.pp s = Per.pp3 a b c by unfold Per.pp; rw [habc]; rfl)
  have hx0 : w2.cell? ⟨w.heap.size + 1, 0, none⟩ = some (.string a) := by have := HNW.out 0; rw [habc] at this; exact this
  have hx1 : w2.cell? ⟨w.heap.size + 1, 1, none⟩ = some (.string b) := by have := HNW.out 1; rw [habc] at this; exact this
  have hx2 : w2.cell? ⟨w.heap.size + 1, 2, none⟩ = some (.string c) := by have := HNW.out 2; rw [habc] at this; exact this
  rw [h3]
  clear h3 habc HNW HSP
  go_wp2_with fail
  refine (Parse_any a _ hl2).mono ?_
  rintro e w' ⟨rfl, rfl⟩
  by_cases ha : Txt.pe a = 0
  rotate_left
  · have E := Lib.hid (E0.out.trans (Per.pp3_a ha))
    have ha' : (Txt.pe a != 0) = true := by simpa using ha
    clear ha hx0 hx1 hx2 hR
    go_wp2_with fail
    refine bodyPost_ret (v := .tuple #[.agg #[.int .i64 0, .int .i64 0, .int .i64 0], .int .i64 (Txt.pe a)]) ?_ rfl ⟨by rw [E.out]; rfl, ?_⟩
    · simp [results, Tryd.results49, go_sem, hr0, hr1, hr2]
    · exact ((hB.setCell (p := ⟨w.heap.size, 0, none⟩) (Nat.le_refl _) _).setCell (p := ⟨w.heap.size, 1, none⟩) (Nat.le_refl _) _).setCell (p := ⟨w.heap.size, 2, none⟩) (Nat.le_refl _) _

  have HA := Lib.hid ha
  have ha' : (Txt.pe a != 0) = false := by simpa using ha
  clear ha
  go_wp2_with fail
  refine (Parse_any b _ hl2).mono ?_
  rintro e w' ⟨rfl, rfl⟩
  by_cases hb : Txt.pe b = 0
  rotate_left
  · have E := Lib.hid (E0.out.trans (Per.pp3_b HA.out hb))
    have hb' : (Txt.pe b != 0) = true := by simpa using hb
    clear hb hx0 hx1 hx2 hR
    go_wp2_with fail
    refine bodyPost_ret (v := .tuple #[.agg #[.int .i64 0, .int .i64 0, .int .i64 0], .int .i64 (Txt.pe b)]) ?_ rfl ⟨by rw [E.out]; rfl, ?_⟩
    · simp [results, Tryd.results49, go_sem, hr0, hr1, hr2]
    · exact ((hB.setCell (p := ⟨w.heap.size, 0, none⟩) (Nat.le_refl _) _).setCell (p := ⟨w.heap.size, 1, none⟩) (Nat.le_refl _) _).setCell (p := ⟨w.heap.size, 2, none⟩) (Nat.le_refl _) _

  have HB := Lib.hid hb
  have hb' : (Txt.pe b != 0) = false := by simpa using hb
  clear hb
  go_wp2_with fail
  refine (weekdays_any c _ (by omega)).mono ?_
  rintro e w' ⟨rfl, rfl⟩
  cases hw : Per.wst c.data.toList with
  | none =>
    have E := Lib.hid (E0.out.trans (Per.pp3_none HA.out HB.out hw))
    have hok : wok c.data.toList = false := by unfold wok; rw [hw]
    rw [hok]
    clear hw hx0 hx1 hx2 hR hok
    go_wp2_with fail
    refine bodyPost_ret (v := .tuple #[.agg #[.int .i64 0, .int .i64 0, .int .i64 0], .int .i64 3]) ?_ rfl ⟨by rw [E.out]; rfl, ?_⟩
    · simp [results, Tryd.results49, go_sem, hr0, hr1, hr2]
    · exact ((hB.setCell (p := ⟨w.heap.size, 0, none⟩) (Nat.le_refl _) _).setCell (p := ⟨w.heap.size, 1, none⟩) (Nat.le_refl _) _).setCell (p := ⟨w.heap.size, 2, none⟩) (Nat.le_refl _) _

  | some q =>
    obtain ⟨last, d⟩ := q
    by_cases hlast : last = -1
    · subst hlast
      have E := Lib.hid (E0.out.trans (Per.pp3_no HA.out HB.out hw))
      have hok : wok c.data.toList = false := by unfold wok; rw [hw]; rfl
      rw [hok]
      clear hw hx0 hx1 hx2 hR hok
      go_wp2_with fail
      refine bodyPost_ret (v := .tuple #[.agg #[.int .i64 0, .int .i64 0, .int .i64 0], .int .i64 3]) ?_ rfl ⟨by rw [E.out]; rfl, ?_⟩
      · simp [results, Tryd.results49, go_sem, hr0, hr1, hr2]
      · exact ((hB.setCell (p := ⟨w.heap.size, 0, none⟩) (Nat.le_refl _) _).setCell (p := ⟨w.heap.size, 1, none⟩) (Nat.le_refl _) _).setCell (p := ⟨w.heap.size, 2, none⟩) (Nat.le_refl _) _

    have hok : wok c.data.toList = true := by unfold wok; rw [hw]; simpa using hlast
    have hmk : wmask c.data.toList = d := by unfold wmask; rw [hw]
    rw [hok, hmk]
    have HW := Lib.hid hw
    have HL := Lib.hid hlast
    clear hw hlast hok hmk hx0 hx1 hx2
    go_wp2_with fail
    obtain ⟨f, hf⟩ : ∃ f, Txt.pv a = f := ⟨_, rfl⟩
    obtain ⟨t, ht⟩ : ∃ t, Txt.pv b = t := ⟨_, rfl⟩
    simp only [hf, ht]
    have hP := Box3.new w2 37 (.int .i64 f) (.int .i64 t) (.int .i64 d)
    rw [hz] at hP
    have hR3 := hR.alloc (.cells #[.int .i64 f, .int .i64 t, .int .i64 d] 37)
    have hB3 := hB.alloc (by omega) (.cells #[.int .i64 f, .int .i64 t, .int .i64 d] 37)
    have hz3 : (w2.alloc (.cells #[.int .i64 f, .int .i64 t, .int .i64 d] 37)).heap.size = w2.heap.size + 1 := by simp
    have HF := Lib.hid hf
    have HT := Lib.hid ht
    clear hf ht hR hB hr0 hr1 hr2 hf0 hf1 hf2 hl2
    generalize w2.alloc (.cells #[.int .i64 f, .int .i64 t, .int .i64 d] 37) = w3 at *
    refine (Check_any ⟨f, t, d⟩ _).mono ?_
    rintro e w4 ⟨rfl, hb4⟩
    have hP4 := hP.below hb4 (by omega)
    have hR4 := hR3.below hb4 (by omega)
    have hB4 := hB3.trans (hb4.mono (by omega))
    have hr0 := hR4.c0; have hr1 := hR4.c1; have hr2 := hR4.c2
    have hf0 := hR4.f0 0; have hf1 := hR4.f0 1; have hf2 := hR4.f0 2
    clear hP hR3 hB3 hb4
    by_cases hk : Per.chk ⟨f, t, d⟩ = 0
    rotate_left
    · have E := Lib.hid (show Per.pp s = (Per.zero, Per.chk ⟨f, t, d⟩) by rw [← HF.out, ← HT.out]; exact E0.out.trans (Per.pp3_bad HA.out HB.out HW.out HL.out (by rw [HF.out, HT.out]; exact hk)))
      have hk' : (Per.chk ⟨f, t, d⟩ != 0) = true := by simpa using hk
      clear hk hP4 hR4
      generalize Per.chk ⟨f, t, d⟩ = kk at *
      go_wp2_with fail
      refine bodyPost_ret (v := .tuple #[.agg #[.int .i64 0, .int .i64 0, .int .i64 0], .int .i64 kk]) ?_ rfl ⟨by rw [E.out]; rfl, ?_⟩
      · simp [results, Tryd.results49, go_sem, hr0, hr1, hr2]
      · exact ((hB4.setCell (p := ⟨w.heap.size, 0, none⟩) (Nat.le_refl _) _).setCell (p := ⟨w.heap.size, 1, none⟩) (Nat.le_refl _) _).setCell (p := ⟨w.heap.size, 2, none⟩) (Nat.le_refl _) _

    have E := Lib.hid (show Per.pp s = (⟨f, t, d⟩, 0) by rw [← HF.out, ← HT.out]; exact E0.out.trans (Per.pp3_ok HA.out HB.out HW.out HL.out (by rw [HF.out, HT.out]; exact hk)))
    have hk' : (Per.chk ⟨f, t, d⟩ != 0) = false := by simpa using hk
    have hp0 := hP4.c0; have hp1 := hP4.c1; have hp2 := hP4.c2
    clear hk hP4 hR4
    generalize Per.chk ⟨f, t, d⟩ = kk at *
    go_wp2_with fail
    refine bodyPost_ret (v := .tuple #[.agg #[.int .i64 f, .int .i64 t, .int .i64 d], .int .i64 0]) ?_ rfl ⟨by rw [E.out]; rfl, ?_⟩
    · simp [results, Tryd.results49, go_sem, hr0, hr1, hr2]
    · exact ((hB4.setCell (p := ⟨w.heap.size, 0, none⟩) (Nat.le_refl _) _).setCell (p := ⟨w.heap.size, 1, none⟩) (Nat.le_refl _) _).setCell (p := ⟨w.heap.size, 2, none⟩) (Nat.le_refl _) _
end Go.Proofs.YtfmdnmkojeolkaaDoor
