/-
  The regions that are run by plans: checked on tables of numbers.
  The machine of XDm at this seat's program: all regions are checked.
  The machine of XDm at this seat's program is sound.
  The bound of the second form, as the bulk of data.
-/
import Derived.Test.YtaklebjoenophaaGreatDmH
import Derived.Test.YtaklebjoenophaaGreatMw
import Derived.Test.YtaklebjoenophaaGreatRows
import Derived.Test.YtaklebjoenophaaGreatDmK
set_option linter.unusedSimpArgs false
set_option linter.unusedVariables false
namespace Go.Proofs.YtaklebjoenophaaGreat.Dm
open Go
theorem pl_39008014:linC E0 (.region 8 (opsAt (Tryz.prog.funcs[16]?) 8 14) true)=true:=
 linC_plan (L:=[10,11]) (p:=Yj [0,1,2,3,4,5,7] (.both (Yj [6] (.both (Yj [8] (.both (Yj [9] (.both (Yj [10,11,12,13] .done) (Yj [11,10,12,13] .done))) (.both (Yj [10] (.both (Yj [9,11,12,13] .done) (Yj [11] (.both (Yj [9,12,13] .done) (Yj [12,9,13] .done))))) (Yj [11] (.both (Yj [9,10,12,13] .done) (Yj [10] (.both (Yj [9,12,13] .done) (Yj [12,9,13] .done)))))))) (.both (Yj [10] (.both (Yj [8] (.both (Yj [9,11,12,13] .done) (Yj [11] (.both (Yj [9,12,13] .done) (Yj [12,9,13] .done))))) (Yj [11] (.both (Yj [8] (.both (Yj [9,12,13] .done) (Yj [12,9,13] .done))) (Yj [12,8,9,13] .done))))) (Yj [11] (.both (Yj [8] (.both (Yj [9,10,12,13] .done) (Yj [10] (.both (Yj [9,12,13] .done) (Yj [12,9,13] .done))))) (Yj [10] (.both (Yj [8] (.both (Yj [9,12,13] .done) (Yj [12,9,13] .done))) (Yj [12,8,9,13] .done)))))))) (.both (Yj [10] (.both (Yj [6] (.both (Yj [8] (.both (Yj [9,11,12,13] .done) (Yj [11] (.both (Yj [9,12,13] .done) (Yj [12,9,13] .done))))) (Yj [11] (.both (Yj [8] (.both (Yj [9,12,13] .done) (Yj [12,9,13] .done))) (Yj [12,8,9,13] .done))))) (Yj [11] (.both (Yj [6] (.both (Yj [8] (.both (Yj [9,12,13] .done) (Yj [12,9,13] .done))) (Yj [12,8,9,13] .done))) (Yj [12,6,8,9,13] .done))))) (Yj [11] (.both (Yj [6] (.both (Yj [8] (.both (Yj [9,10,12,13] .done) (Yj [10] (.both (Yj [9,12,13] .done) (Yj [12,9,13] .done))))) (Yj [10] (.both (Yj [8] (.both (Yj [9,12,13] .done) (Yj [12,9,13] .done))) (Yj [12,8,9,13] .done))))) (Yj [10] (.both (Yj [6] (.both (Yj [8] (.both (Yj [9,12,13] .done) (Yj [12,9,13] .done))) (Yj [12,8,9,13] .done))) (Yj [12,6,8,9,13] .done)))))))) (by as_aux_lemma=>kernel_rfl) (planR_of (n:=14) (aft:=[[],[0],[],[1,2],[3],[],[5],[],[6,7],[8],[],[],[10,4,0,1,2,3,4,10,11],[11,9,12,0,1,2,3,4,5,6,7,8,9,10,11,12]]) (bf:=[0,1,0,7,15,0,32,0,224,480,0,0,3103,8191]) (com:=[4068,4068,4064,4064,4064,7296,0,7232,0,0,0,0,0,0]) (by as_aux_lemma=>kernel_rfl) (by as_aux_lemma=>kernel_rfl) (by as_aux_lemma=>kernel_rfl) (by as_aux_lemma=>kernel_rfl) (by as_aux_lemma=>kernel_rfl) (by as_aux_lemma=>kernel_rfl))
theorem lin_airline_airlineref28_Better:linF E0 16=true:=
 linF_of (R:=[(8,(opsAt (Tryz.prog.funcs[16]?) 8 14))]) Tryz.func16 rfl [8014] (by as_aux_lemma=>kernel_rfl) (by as_aux_lemma=>kernel_rfl) (reg_cons pl_39008014 (reg_nil))
theorem pl_15001013:linC E0 (.region 1 (opsAt (Tryz.prog.funcs[24]?) 1 13) true)=true:=
 linC_plan (L:=[3,6]) (p:=Yj [0,1,2,4,5] (.both (Yj [3,7,8] (.both (Yj [6,9,10,11,12] .done) (Yj [9,6,10,11,12] .done))) (Yj [6,3,7,8,9,10,11,12] .done))) (by as_aux_lemma=>kernel_rfl) (planR_of (n:=13) (aft:=[[],[],[],[2,2],[],[4],[5,5],[0,0,2,3],[7,0,2,3],[8,3,0,2,3],[1,0,1,2,3,4,5,6,7,8,9],[10,0,1,2,3,4,5,6,7,8,9],[11,6,9,0,1,2,3,4,5,6,7,8,9]]) (bf:=[0,0,0,4,0,16,48,13,141,397,1023,2047,4095]) (com:=[126,1020,112,0,904,904,0,64,64,0,0,0,0]) (by as_aux_lemma=>kernel_rfl) (by as_aux_lemma=>kernel_rfl) (by as_aux_lemma=>kernel_rfl) (by as_aux_lemma=>kernel_rfl) (by as_aux_lemma=>kernel_rfl) (by as_aux_lemma=>kernel_rfl))
theorem pl_82014023:linC E0 (.region 14 (opsAt (Tryz.prog.funcs[24]?) 14 23) true)=true:=
 linC_plan (L:=[]) (p:=Yj [0,1,2,4,5,6,7,8,9,10,11,12,13,14,15,16,17,18,19] (.both (Yj [3,20,21,22] .done) (Yj [20,3,21,22] .done))) (by as_aux_lemma=>kernel_rfl) (planR_of (n:=23) (aft:=[[],[0],[1],[2],[],[],[5],[6],[7],[],[8,9],[10],[],[],[],[14],[],[16],[12,13,15,17],[18],[11,19],[3,4,0,1,2,3,4,5,6,7,8,9,10,11,12,13,14,15,16,17,18,19,20],[21,20,20,0,1,2,3,4,5,6,7,8,9,10,11,12,13,14,15,16,17,18,19,20]]) (bf:=[0,1,3,7,0,0,32,96,224,0,992,2016,0,0,0,16384,0,65536,258048,520192,1048544,2097151,4194303]) (com:=[2097136,2097136,2097136,0,2097128,1045000,1045000,1045000,1045000,1044488,1044488,1044488,253960,245768,196616,196616,8,8,8,8,0,0,0]) (by as_aux_lemma=>kernel_rfl) (by as_aux_lemma=>kernel_rfl) (by as_aux_lemma=>kernel_rfl) (by as_aux_lemma=>kernel_rfl) (by as_aux_lemma=>kernel_rfl) (by as_aux_lemma=>kernel_rfl))
theorem lin___airline_price_search__prepare:linF E0 24=true:=
 linF_of (R:=[(1,(opsAt (Tryz.prog.funcs[24]?) 1 13)),(14,(opsAt (Tryz.prog.funcs[24]?) 14 23))]) Tryz.func24 rfl [1013,14023] (by as_aux_lemma=>kernel_rfl) (by as_aux_lemma=>kernel_rfl) (reg_cons pl_15001013 (reg_cons pl_82014023 (reg_nil)))
theorem pl_32006022:linC E0 (.region 6 (opsAt (Tryz.prog.funcs[25]?) 6 22) true)=true:=
 linC_plan (L:=[]) (p:=Yj [0,1,2,3,4,5,6,7,9,10,11,13] (.both (Yj [8,12,16,17] (.both (Yj [14,15,18,19,20,21] .done) (Yj [18,14,15,19,20,21] .done))) (.both (Yj [12] (.both (Yj [8,16,17] (.both (Yj [14,15,18,19,20,21] .done) (Yj [18,14,15,19,20,21] .done))) (Yj [14,8,15,16,17,18,19,20,21] .done))) (Yj [14] (.both (Yj [8,12,15,16,17,18,19,20,21] .done) (Yj [12,8,15,16,17,18,19,20,21] .done)))))) (by as_aux_lemma=>kernel_rfl) (planR_of (n:=22) (aft:=[[],[],[],[2],[3],[4],[],[6],[5,7],[],[9],[10],[11],[],[13],[12,14],[0,0,2,3,4,5,6,7,8,12],[16,0,2,3,4,5,6,7,8,12],[17,8,8,0,2,3,4,5,6,7,8,12],[1,0,1,2,3,4,5,6,7,8,9,10,11,12,13,14,15,16,17,18],[19,0,1,2,3,4,5,6,7,8,9,10,11,12,13,14,15,16,17,18],[20,15,18,0,1,2,3,4,5,6,7,8,9,10,11,12,13,14,15,16,17,18]]) (bf:=[0,0,0,4,12,28,0,64,252,0,512,1536,3584,0,8192,32256,8189,73725,204797,524287,1048575,2097151]) (com:=[65534,524284,65216,65216,65216,65216,65024,65024,32768,24832,24832,24832,16384,463104,0,458752,49152,49152,0,0,0,0]) (by as_aux_lemma=>kernel_rfl) (by as_aux_lemma=>kernel_rfl) (by as_aux_lemma=>kernel_rfl) (by as_aux_lemma=>kernel_rfl) (by as_aux_lemma=>kernel_rfl) (by as_aux_lemma=>kernel_rfl))
theorem pl_56008026:linC E0 (.region 8 (opsAt (Tryz.prog.funcs[25]?) 8 26) true)=true:=
 linC_plan (L:=[]) (p:=Yj [0,1,2,3,4,5,6,7,8,9,10,11,12,13,14,15,16,17,20,21] (.both (Yj [18,19,22,23,24,25] .done) (Yj [22,18,19,23,24,25] .done))) (by as_aux_lemma=>kernel_rfl) (planR_of (n:=26) (aft:=[[],[],[],[2],[3],[4],[],[6],[7],[8],[9],[10],[5,11],[],[13],[14],[15],[],[17],[16,18],[0,0,2,3,4,5,6,7,8,9,10,11,12,16],[20,0,2,3,4,5,6,7,8,9,10,11,12,16],[21,12,0,2,3,4,5,6,7,8,9,10,11,12,16],[1,0,1,2,3,4,5,6,7,8,9,10,11,12,13,14,15,16,17,18,19,20,21,22],[23,0,1,2,3,4,5,6,7,8,9,10,11,12,13,14,15,16,17,18,19,20,21,22],[24,19,22,0,1,2,3,4,5,6,7,8,9,10,11,12,13,14,15,16,17,18,19,20,21,22]]) (bf:=[0,0,0,4,12,28,0,64,192,448,960,1984,4092,0,8192,24576,57344,0,131072,516096,131069,1179645,3276797,8388607,16777215,33554431]) (com:=[1048574,8388604,1044416,1044416,1044416,1044416,1040384,1040384,1040384,1040384,1040384,1040384,1040384,393216,393216,393216,393216,7340032,0,4194304,786432,786432,0,0,0,0]) (by as_aux_lemma=>kernel_rfl) (by as_aux_lemma=>kernel_rfl) (by as_aux_lemma=>kernel_rfl) (by as_aux_lemma=>kernel_rfl) (by as_aux_lemma=>kernel_rfl) (by as_aux_lemma=>kernel_rfl))
theorem lin___airline_price_search__from:linF E0 25=true:=
 linF_of (R:=[(6,(opsAt (Tryz.prog.funcs[25]?) 6 22)),(8,(opsAt (Tryz.prog.funcs[25]?) 8 26))]) Tryz.func25 rfl [6022,8026] (by as_aux_lemma=>kernel_rfl) (by as_aux_lemma=>kernel_rfl) (reg_cons pl_32006022 (reg_cons pl_56008026 (reg_nil)))
theorem pl_51009024:linC E0 (.region 9 (opsAt (Tryz.prog.funcs[83]?) 9 24) true)=true:=
 linC_plan (L:=[]) (p:=Yj [0,1,2,3,4,5,6,7,8,10,12,13] (.both (Yj [9,11,14,15,16,17,18,19,20,21,22,23] .done) (.both (Yj [11] (.both (Yj [9,14,15,16,17,18,19,20,21,22,23] .done) (Yj [14,15,16] (.both (Yj [9,17,18,19,20,21,22,23] .done) (Yj [17,9,18,19,20,21,22,23] .done))))) (Yj [14,15,16] (.both (Yj [9,11,17,18,19,20,21,22,23] .done) (.both (Yj [11] (.both (Yj [9,17,18,19,20,21,22,23] .done) (Yj [17,9,18,19,20,21,22,23] .done))) (Yj [17,18] (.both (Yj [9,11,19,20,21,22,23] .done) (Yj [11,9,19,20,21,22,23] .done))))))))) (by as_aux_lemma=>kernel_rfl) (planR_of (n:=24) (aft:=[[],[0],[],[],[2,3],[4],[5],[6],[7],[1,8],[],[10],[],[],[12,13],[14],[15],[16],[17],[11,18,9],[0,1,2,3,4,5,6,7,8,9,10,11],[20,9,19,0,1,2,3,4,5,6,7,8,9,10,11],[0,1,2,3,4,5,6,7,8,9,10,11,12,13,14,15,16,17,18,19,20,21],[22,19,21,0,1,2,3,4,5,6,7,8,9,10,11,12,13,14,15,16,17,18,19,20,21]]) (bf:=[0,1,0,0,12,28,60,124,252,511,0,1024,0,0,12288,28672,61440,126976,258048,524287,4095,2097151,4194303,8388607]) (com:=[523772,523772,523272,523264,523264,523264,523264,523264,523264,262144,520704,507904,1059328,1051136,1048576,1051136,1051136,1048576,1051136,1048576,0,0,0,0]) (by as_aux_lemma=>kernel_rfl) (by as_aux_lemma=>kernel_rfl) (by as_aux_lemma=>kernel_rfl) (by as_aux_lemma=>kernel_rfl) (by as_aux_lemma=>kernel_rfl) (by as_aux_lemma=>kernel_rfl))
theorem lin_airline_airlineref25_Trip:linF E0 83=true:=
 linF_of (R:=[(9,(opsAt (Tryz.prog.funcs[83]?) 9 24))]) Tryz.func83 rfl [9024] (by as_aux_lemma=>kernel_rfl) (by as_aux_lemma=>kernel_rfl) (reg_cons pl_51009024 (reg_nil))
theorem pl_86011016:linC E0 (.region 11 (opsAt (Tryz.prog.funcs[54]?) 11 16) true)=true:=
 linC_plan (L:=[]) (p:=Yj [0,1,2,3,5,6,7,8,10,11] (.both (Yj [4,9,12,13,14,15] .done) (Yj [9] (.both (Yj [4,12,13,14,15] .done) (Yj [12,4,13,14,15] .done))))) (by as_aux_lemma=>kernel_rfl) (planR_of (n:=16) (aft:=[[],[0],[1],[2],[3],[],[5],[6],[7],[8],[],[10],[9,11,9],[4,12,12],[13],[14,13,0,1,2,3,4,5,6,7,8,9,10,11,12,13,14]]) (bf:=[0,1,3,7,15,0,32,96,224,480,0,1024,4064,8191,16383,32767]) (com:=[8160,8160,8160,8160,0,3088,3088,3088,3088,0,528,528,0,0,0,0]) (by as_aux_lemma=>kernel_rfl) (by as_aux_lemma=>kernel_rfl) (by as_aux_lemma=>kernel_rfl) (by as_aux_lemma=>kernel_rfl) (by as_aux_lemma=>kernel_rfl) (by as_aux_lemma=>kernel_rfl))
theorem lin___airline_price_search__worth:linF E0 54=true:=
 linF_of (R:=[(11,(opsAt (Tryz.prog.funcs[54]?) 11 16))]) Tryz.func54 rfl [11016] (by as_aux_lemma=>kernel_rfl) (by as_aux_lemma=>kernel_rfl) (reg_cons pl_86011016 (reg_nil))
theorem pl_26001015:linC E0 (.region 1 (opsAt (Tryz.prog.funcs[53]?) 1 15) true)=true:=
 linC_plan (L:=[12]) (p:=Yj [0,1,2,3,4,5,6,7] (.both (Yj [8,9,10,11,12,13,14] .done) (Yj [12,8,9,10,11,13,14] .done))) (by as_aux_lemma=>kernel_rfl) (planR_of (n:=15) (aft:=[[],[0],[1],[2],[],[4],[5],[6],[3,7],[8],[9],[9],[],[12,10,8,0,1,2,3,4,5,6,7,8,9,10,12],[11,13,0,1,2,3,4,5,6,7,8,9,10,11,12,13]]) (bf:=[0,1,3,7,0,16,48,112,255,511,1023,1023,0,6143,16383]) (com:=[4336,4336,4336,4336,4096,4096,4096,4096,0,4096,6144,12288,0,0,0]) (by as_aux_lemma=>kernel_rfl) (by as_aux_lemma=>kernel_rfl) (by as_aux_lemma=>kernel_rfl) (by as_aux_lemma=>kernel_rfl) (by as_aux_lemma=>kernel_rfl) (by as_aux_lemma=>kernel_rfl))
theorem lin___airline_price_search__finish:linF E0 53=true:=
 linF_of (R:=[(1,(opsAt (Tryz.prog.funcs[53]?) 1 15))]) Tryz.func53 rfl [1015] (by as_aux_lemma=>kernel_rfl) (by as_aux_lemma=>kernel_rfl) (reg_cons pl_26001015 (reg_nil))
theorem pl_27002024:linC E0 (.region 2 (opsAt (Tryz.prog.funcs[55]?) 2 24) true)=true:=
 linC_plan (L:=[21]) (p:=Yj [0,1,2,3,4,5,6,7,8,9,10,11,12,13,14,15,16] (.both (Yj [17,18,19,20,21,22,23] .done) (Yj [21,17,18,19,20,22,23] .done))) (by as_aux_lemma=>kernel_rfl) (planR_of (n:=24) (aft:=[[],[0],[1],[2],[],[4],[5],[6],[],[8],[9],[10],[],[12],[13],[14],[],[3,7,11,15,16],[17],[18],[18],[],[21,19,17,0,1,2,3,4,5,6,7,8,9,10,11,12,13,14,15,16,17,18,19,21],[20,22,0,1,2,3,4,5,6,7,8,9,10,11,12,13,14,15,16,17,18,19,20,21,22]]) (bf:=[0,1,3,7,0,16,48,112,0,256,768,1792,0,4096,12288,28672,0,131071,262143,524287,524287,0,3145727,8388607]) (com:=[2228208,2228208,2228208,2228208,2227968,2227968,2227968,2227968,2224128,2224128,2224128,2224128,2162688,2162688,2162688,2162688,2097152,0,2097152,3145728,6291456,0,0,0]) (by as_aux_lemma=>kernel_rfl) (by as_aux_lemma=>kernel_rfl) (by as_aux_lemma=>kernel_rfl) (by as_aux_lemma=>kernel_rfl) (by as_aux_lemma=>kernel_rfl) (by as_aux_lemma=>kernel_rfl))
theorem lin___airline_airlineref28_search__full:linF E0 55=true:=
 linF_of (R:=[(2,(opsAt (Tryz.prog.funcs[55]?) 2 24))]) Tryz.func55 rfl [2024] (by as_aux_lemma=>kernel_rfl) (by as_aux_lemma=>kernel_rfl) (reg_cons pl_27002024 (reg_nil))
theorem lin_heavy:heavyFs.all (linF E0)=true:=by
 unfold heavyFs
 refine all_cons' lin_airline_airlineref28_Better ?_
 refine all_cons' lin___airline_price_search__prepare ?_
 refine all_cons' lin___airline_price_search__from ?_
 refine all_cons' lin_airline_airlineref25_Trip ?_
 refine all_cons' lin___airline_price_search__worth ?_
 refine all_cons' lin___airline_price_search__finish ?_
 refine all_cons' lin___airline_airlineref28_search__full ?_
 exact rfl
theorem lin_light:(List.range Tryz.prog.funcs.size).all (λf=>heavyFs.contains f || linF E0 f)=true:=by kernel_rfl
theorem lin_all:(List.range Tryz.prog.funcs.size).all (linF E0)=true:=by
 rw[List.all_eq_true]
 intro f hf
 have h:=List.all_eq_true.1 lin_light f hf
 rw[Bool.or_eq_true]at h
 rcases h with h |h
 ·exact List.all_eq_true.1 lin_heavy f (List.contains_iff_mem.1 h)
 ·exact h
theorem name_all:(List.range Tryz.prog.funcs.size).all (nameF E0)=true:=by kernel_rfl
theorem envOk0:EnvOk E0 where
 mixed:=by kernel_rfl
 names f fn hf:=by
  have hlt:f<Tryz.prog.funcs.size:=(Array.getElem?_eq_some_iff.1 hf).1
  have:=List.all_eq_true.1 name_all f (List.mem_range.2 hlt)
  unfold nameF at this
  rw[show E0.P.funcs[f]?=some fn from hf]at this
  simpa using this
 keys kt h:=by
  have hm:kt∈keyTs:=by simpa [E0,Je] using h
  simp only[keyTs,List.mem_cons,List.not_mem_nil,or_false]at hm
  first
  | (rcases hm with rfl |rfl
     ·exact Maps.string_keyed Tryz.underlying9
     ·exact Maps.Keyed.of_law (deep_law_laid (m:=20) (by kernel_rfl) (by decide) (Nat.le_of_ble_eq_true (by kernel_rfl)) (by kernel_rfl) (by kernel_rfl)))
  | (subst hm;exact Maps.string_keyed Tryz.underlying9)
  | (subst hm;exact Maps.Keyed.of_law (deep_law_laid (m:=20) (by kernel_rfl) (by decide) (Nat.le_of_ble_eq_true (by kernel_rfl)) (by kernel_rfl) (by kernel_rfl)))
  |exact hm.elim
 lin f fn c hf hb hm:=by
  have hlt:f<Tryz.prog.funcs.size:=(Array.getElem?_eq_some_iff.1 hf).1
  have:=List.all_eq_true.1 lin_all f (List.mem_range.2 hlt)
  unfold linF at this
  rw[show E0.P.funcs[f]?=some fn from hf]at this
  dsimp only at this
  rw[hb]at this
  simpa [hm] using this
 globals g cs h:=by cases h
 prims f p h:=by cases h
 exts g p h:=by
  change extOf g=some p at h
  unfold extOf at h
  split at h
  ·rename_i hm
   have h':=(Kz h).symm
   clear h
   subst h'
   first
   | (exfalso;revert hm;simp[cntFs];done)
   |skip
  split at h
  ·rename_i hm
   have h':=(Kz h).symm
   clear h
   subst h'
   first
   | (exfalso;revert hm;simp[idxFs];done)
   |skip
  ·split at h
   ·rename_i hm
    have h':=(Kz h).symm
    clear h
    subst h'
    first
    | (exfalso;revert hm;simp[clnFs];done)
    |skip
   ·split at h
    ·rename_i q hq
     have h':=(Kz h).symm
     clear h
     subst h'
     have hm:=List.mem_of_find?_eq_some hq
     have he:q.1=g:=by simpa using List.find?_some hq
     subst he
     first
     | (exfalso;revert hm;simp[ovlFs];done)
     |skip
    ·cases h
theorem linR_prim (p q:FuncId->Option (List D->List Ob->Option (D×List Ob))) (b:Bool) (ops:Array Oper):linR (Je p) b ops=linR (Je q) b ops:=rfl
theorem freeAt_prim (p q:FuncId->Option (List D->List Ob->Option (D×List Ob))) (ops:Array Oper) (bf:Array Nat) (L:List Nat) (listed:Array Bool) (i:Nat):freeAt (Je p) ops bf L listed i=freeAt (Je q) ops bf L listed i:=rfl
theorem planOk_prim (p q:FuncId->Option (List D->List Ob->Option (D×List Ob))) (ops:Array Oper) (bf:Array Nat) (L:List Nat):∀(pl:Plan) (inB:Bool) (n:Nat) (listed:Array Bool),Kg (Je p) ops bf L inB n listed pl=Kg (Je q) ops bf L inB n listed pl
 | .done,inB,n,listed=>by cases inB <;> cases n <;> rfl
 | .step i pl,inB,n,listed=>by
  cases n with
  |zero=>cases inB <;> rfl
  |succ n=>
   rw[Kg,Kg,planOk_prim p q ops bf L pl,freeAt_prim p q]
 | .both a b,inB,n,listed=>by
  cases n with
  |zero=>cases inB <;> rfl
  |succ n=>
   rw[Kg,Kg,planOk_prim p q ops bf L a,planOk_prim p q ops bf L b]
theorem planR_prim (p q:FuncId->Option (List D->List Ob->Option (D×List Ob))) (ops:Array Oper) (L:List Nat) (pl:Plan):planR (Je p) ops L pl=planR (Je q) ops L pl:=by
 unfold planR
 rw[planOk_prim p q]
theorem linC_prim (p q:FuncId->Option (List D->List Ob->Option (D×List Ob))):∀c:Code,linC (Je p) c=linC (Je q) c:=by
 intro c
 induction c with
 |seq x y ihx ihy=>simp only[linC,ihx,ihy]
 |cond c x y ihx ihy=>simp only[linC,ihx,ihy]
 |block id c ih=>simp only[linC,ih]
 |loop c ih=>simp only[linC,ih]
 |scope c ih=>simp only[linC,ih]
 |region id ops draw=>
  have e1:(Je p).plan=(Je q).plan:=rfl
  unfold linC
  rw[e1]
  congr 1
  split
  ·exact linR_prim p q _ ops
  ·exact planR_prim p q _ _ _
 |_=>rfl
def isT0:Option (D×List Ob)->Bool
 |some (.bool b,_)=>b
 |_=>false
theorem isT0_spec {o:Option (D×List Ob)} (h:isT0 o=true):∃T,o=some (.bool true,T):=by
 unfold isT0 at h
 split at h
 ·subst h;exact⟨_,rfl⟩
 ·cases h
mutual
theorem bulkW_le {H:Type}:∀d:DataW H,bulkW d<=Rows.uptoBulk d
 | .lit l=>by cases l <;> simp[bulkW,Rows.uptoBulk]
 | .nil=>by simp[bulkW,Rows.uptoBulk]
 | .ptr d=>by simp[bulkW,Rows.uptoBulk]
 | .slice es sp=>by
  have:=bulkWs_le es
  simp only[bulkW,Rows.uptoBulk];omega
 | .agg ps=>by
  have:=bulkWs_le ps
  simp only[bulkW,Rows.uptoBulk];omega
 | .iface t d=>by simp[bulkW,Rows.uptoBulk]
 | .map es=>by simp[bulkW,Rows.uptoBulk]
 | .held h=>by simp[bulkW,Rows.uptoBulk]
theorem bulkWs_le {H:Type}:∀l:List (DataW H),bulkWs l<=Rows.uptoBulkAll l
 | []=>Uk _
 |d::l=>by
  have h1:=bulkW_le d
  have h2:=bulkWs_le l
  simp only[bulkWs,Rows.uptoBulkAll];omega
end
theorem bulk_small {H:Type} {ds:List (DataW H)} (h:Rows.uptoSmall H (ds++[])=true):bulkWs ds<=1048576:=by
 rw[Ur]at h
 exact Vk (bulkWs_le ds) (Vb h)
end Go.Proofs.YtaklebjoenophaaGreat.Dm
