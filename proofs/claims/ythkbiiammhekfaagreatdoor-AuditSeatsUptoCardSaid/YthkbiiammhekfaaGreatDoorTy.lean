/-
  What the machine of XDm asks of this seat's types: sizes, zero values, places of fields. By program (wip/tools/types.py).
-/
import Derived.Test.YthkbiiammhekfaaGreatDoorEnv
set_option linter.unusedSimpArgs false
set_option linter.unusedVariables false
namespace Go.Proofs.YthkbiiammhekfaaGreatDoor.Dm
open Go
@[push_cast] theorem E_P (pr : PrimF) : (envOf pr).P = Tryz.prog := rfl
@[push_cast] theorem E_G (pr : PrimF) (g : Nat) : (envOf pr).G g = none := rfl
@[push_cast] theorem sz0 : sizeT Tryz.prog 0 = some 1 := by kernel_rfl
@[push_cast] theorem sz1 : sizeT Tryz.prog 1 = some 1 := by kernel_rfl
@[push_cast] theorem sz3 : sizeT Tryz.prog 3 = some 1 := by kernel_rfl
@[push_cast] theorem ag3 : aggT Tryz.prog 3 = some false := by kernel_rfl
@[push_cast] theorem ze3 : zeroT Tryz.prog 3 = some (.int .i64 0) := by kernel_rfl
@[push_cast] theorem by3 : bytesT Tryz.prog 3 = 8 := by kernel_rfl
@[push_cast] theorem fn7x0 : fieldN Tryz.prog 7 0 = some (2, 0) := by kernel_rfl
@[push_cast] theorem fn7x1 : fieldN Tryz.prog 7 1 = some (3, 1) := by kernel_rfl
@[push_cast] theorem fn7x2 : fieldN Tryz.prog 7 2 = some (4, 2) := by kernel_rfl
@[push_cast] theorem fn7x3 : fieldN Tryz.prog 7 3 = some (6, 3) := by kernel_rfl
@[push_cast] theorem fn8x0 : fieldN Tryz.prog 8 0 = some (2, 0) := by kernel_rfl
@[push_cast] theorem fn8x1 : fieldN Tryz.prog 8 1 = some (3, 1) := by kernel_rfl
@[push_cast] theorem fn8x2 : fieldN Tryz.prog 8 2 = some (4, 2) := by kernel_rfl
@[push_cast] theorem fn8x3 : fieldN Tryz.prog 8 3 = some (6, 3) := by kernel_rfl
@[push_cast] theorem sz9 : sizeT Tryz.prog 9 = some 1 := by kernel_rfl
@[push_cast] theorem ag9 : aggT Tryz.prog 9 = some false := by kernel_rfl
@[push_cast] theorem fn13x0 : fieldN Tryz.prog 13 0 = some (9, 0) := by kernel_rfl
@[push_cast] theorem fn13x1 : fieldN Tryz.prog 13 1 = some (12, 1) := by kernel_rfl
@[push_cast] theorem fn14x0 : fieldN Tryz.prog 14 0 = some (9, 0) := by kernel_rfl
@[push_cast] theorem fn14x1 : fieldN Tryz.prog 14 1 = some (12, 1) := by kernel_rfl
@[push_cast] theorem fn18x0 : fieldN Tryz.prog 18 0 = some (17, 0) := by kernel_rfl
@[push_cast] theorem fn19x0 : fieldN Tryz.prog 19 0 = some (17, 0) := by kernel_rfl
@[push_cast] theorem el27 : elemT Tryz.prog 27 = some 125 := by kernel_rfl
@[push_cast] theorem fn39x0 : fieldN Tryz.prog 39 0 = some (3, 0) := by kernel_rfl
@[push_cast] theorem fn39x1 : fieldN Tryz.prog 39 1 = some (38, 1) := by kernel_rfl
@[push_cast] theorem fn39x2 : fieldN Tryz.prog 39 2 = some (9, 2) := by kernel_rfl
@[push_cast] theorem fn39x3 : fieldN Tryz.prog 39 3 = some (3, 3) := by kernel_rfl
@[push_cast] theorem fn39x4 : fieldN Tryz.prog 39 4 = some (3, 4) := by kernel_rfl
@[push_cast] theorem fn40x0 : fieldN Tryz.prog 40 0 = some (3, 0) := by kernel_rfl
@[push_cast] theorem fn40x1 : fieldN Tryz.prog 40 1 = some (38, 1) := by kernel_rfl
@[push_cast] theorem fn40x2 : fieldN Tryz.prog 40 2 = some (9, 2) := by kernel_rfl
@[push_cast] theorem fn40x3 : fieldN Tryz.prog 40 3 = some (3, 3) := by kernel_rfl
@[push_cast] theorem fn40x4 : fieldN Tryz.prog 40 4 = some (3, 4) := by kernel_rfl
@[push_cast] theorem fn41x0 : fieldN Tryz.prog 41 0 = some (3, 0) := by kernel_rfl
@[push_cast] theorem fn41x1 : fieldN Tryz.prog 41 1 = some (3, 1) := by kernel_rfl
@[push_cast] theorem fn41x2 : fieldN Tryz.prog 41 2 = some (40, 2) := by kernel_rfl
@[push_cast] theorem fn41x3 : fieldN Tryz.prog 41 3 = some (9, 7) := by kernel_rfl
@[push_cast] theorem fn42x0 : fieldN Tryz.prog 42 0 = some (3, 0) := by kernel_rfl
@[push_cast] theorem fn42x1 : fieldN Tryz.prog 42 1 = some (3, 1) := by kernel_rfl
@[push_cast] theorem fn42x2 : fieldN Tryz.prog 42 2 = some (40, 2) := by kernel_rfl
@[push_cast] theorem fn42x3 : fieldN Tryz.prog 42 3 = some (9, 7) := by kernel_rfl
@[push_cast] theorem el44 : elemT Tryz.prog 44 = some 53 := by kernel_rfl
@[push_cast] theorem fn49x0 : fieldN Tryz.prog 49 0 = some (9, 0) := by kernel_rfl
@[push_cast] theorem fn49x1 : fieldN Tryz.prog 49 1 = some (3, 1) := by kernel_rfl
@[push_cast] theorem fn49x2 : fieldN Tryz.prog 49 2 = some (3, 2) := by kernel_rfl
@[push_cast] theorem fn49x3 : fieldN Tryz.prog 49 3 = some (9, 3) := by kernel_rfl
@[push_cast] theorem fn50x0 : fieldN Tryz.prog 50 0 = some (9, 0) := by kernel_rfl
@[push_cast] theorem fn50x1 : fieldN Tryz.prog 50 1 = some (3, 1) := by kernel_rfl
@[push_cast] theorem fn50x2 : fieldN Tryz.prog 50 2 = some (3, 2) := by kernel_rfl
@[push_cast] theorem fn50x3 : fieldN Tryz.prog 50 3 = some (9, 3) := by kernel_rfl
@[push_cast] theorem sz53 : sizeT Tryz.prog 53 = some 5 := by kernel_rfl
@[push_cast] theorem fn53x0 : fieldN Tryz.prog 53 0 = some (3, 0) := by kernel_rfl
@[push_cast] theorem fn53x1 : fieldN Tryz.prog 53 1 = some (38, 1) := by kernel_rfl
@[push_cast] theorem fn53x2 : fieldN Tryz.prog 53 2 = some (9, 2) := by kernel_rfl
@[push_cast] theorem fn53x3 : fieldN Tryz.prog 53 3 = some (3, 3) := by kernel_rfl
@[push_cast] theorem fn53x4 : fieldN Tryz.prog 53 4 = some (3, 4) := by kernel_rfl
@[push_cast] theorem el59 : elemT Tryz.prog 59 = some 64 := by kernel_rfl
@[push_cast] theorem sz61 : sizeT Tryz.prog 61 = some 1 := by kernel_rfl
@[push_cast] theorem ag61 : aggT Tryz.prog 61 = some false := by kernel_rfl
@[push_cast] theorem fn62x0 : fieldN Tryz.prog 62 0 = some (50, 0) := by kernel_rfl
@[push_cast] theorem fn62x1 : fieldN Tryz.prog 62 1 = some (9, 4) := by kernel_rfl
@[push_cast] theorem fn62x2 : fieldN Tryz.prog 62 2 = some (61, 5) := by kernel_rfl
@[push_cast] theorem fn62x3 : fieldN Tryz.prog 62 3 = some (61, 6) := by kernel_rfl
@[push_cast] theorem sz63 : sizeT Tryz.prog 63 = some 7 := by kernel_rfl
@[push_cast] theorem ag63 : aggT Tryz.prog 63 = some true := by kernel_rfl
@[push_cast] theorem fn63x0 : fieldN Tryz.prog 63 0 = some (50, 0) := by kernel_rfl
@[push_cast] theorem fn63x1 : fieldN Tryz.prog 63 1 = some (9, 4) := by kernel_rfl
@[push_cast] theorem fn63x2 : fieldN Tryz.prog 63 2 = some (61, 5) := by kernel_rfl
@[push_cast] theorem fn63x3 : fieldN Tryz.prog 63 3 = some (61, 6) := by kernel_rfl
@[push_cast] theorem sz64 : sizeT Tryz.prog 64 = some 7 := by kernel_rfl
@[push_cast] theorem ag64 : aggT Tryz.prog 64 = some true := by kernel_rfl
@[push_cast] theorem ze64 : zeroT Tryz.prog 64 = some (.agg [.str ⟨#[]⟩, .int .i64 0, .int .i64 0, .str ⟨#[]⟩, .str ⟨#[]⟩, .nils, .nils]) := by kernel_rfl
@[push_cast] theorem fn64x0 : fieldN Tryz.prog 64 0 = some (50, 0) := by kernel_rfl
@[push_cast] theorem fn64x1 : fieldN Tryz.prog 64 1 = some (9, 4) := by kernel_rfl
@[push_cast] theorem fn64x2 : fieldN Tryz.prog 64 2 = some (61, 5) := by kernel_rfl
@[push_cast] theorem fn64x3 : fieldN Tryz.prog 64 3 = some (61, 6) := by kernel_rfl
@[push_cast] theorem fn69x0 : fieldN Tryz.prog 69 0 = some (9, 0) := by kernel_rfl
@[push_cast] theorem fn69x1 : fieldN Tryz.prog 69 1 = some (3, 1) := by kernel_rfl
@[push_cast] theorem sz70 : sizeT Tryz.prog 70 = some 2 := by kernel_rfl
@[push_cast] theorem ag70 : aggT Tryz.prog 70 = some true := by kernel_rfl
@[push_cast] theorem ze70 : zeroT Tryz.prog 70 = some (.agg [.str ⟨#[]⟩, .int .i64 0]) := by kernel_rfl
@[push_cast] theorem fn70x0 : fieldN Tryz.prog 70 0 = some (9, 0) := by kernel_rfl
@[push_cast] theorem fn70x1 : fieldN Tryz.prog 70 1 = some (3, 1) := by kernel_rfl
@[push_cast] theorem sz71 : sizeT Tryz.prog 71 = some 1 := by kernel_rfl
@[push_cast] theorem ag71 : aggT Tryz.prog 71 = some false := by kernel_rfl
@[push_cast] theorem fn72x0 : fieldN Tryz.prog 72 0 = some (9, 0) := by kernel_rfl
@[push_cast] theorem fn72x1 : fieldN Tryz.prog 72 1 = some (3, 1) := by kernel_rfl
@[push_cast] theorem fn72x2 : fieldN Tryz.prog 72 2 = some (3, 2) := by kernel_rfl
@[push_cast] theorem fn72x3 : fieldN Tryz.prog 72 3 = some (71, 3) := by kernel_rfl
@[push_cast] theorem sz73 : sizeT Tryz.prog 73 = some 4 := by kernel_rfl
@[push_cast] theorem ag73 : aggT Tryz.prog 73 = some true := by kernel_rfl
@[push_cast] theorem ze73 : zeroT Tryz.prog 73 = some (.agg [.str ⟨#[]⟩, .int .i64 0, .int .i64 0, .nils]) := by kernel_rfl
@[push_cast] theorem fn73x0 : fieldN Tryz.prog 73 0 = some (9, 0) := by kernel_rfl
@[push_cast] theorem fn73x1 : fieldN Tryz.prog 73 1 = some (3, 1) := by kernel_rfl
@[push_cast] theorem fn73x2 : fieldN Tryz.prog 73 2 = some (3, 2) := by kernel_rfl
@[push_cast] theorem fn73x3 : fieldN Tryz.prog 73 3 = some (71, 3) := by kernel_rfl
@[push_cast] theorem sz74 : sizeT Tryz.prog 74 = some 1 := by kernel_rfl
@[push_cast] theorem ag74 : aggT Tryz.prog 74 = some false := by kernel_rfl
@[push_cast] theorem fn75x0 : fieldN Tryz.prog 75 0 = some (9, 0) := by kernel_rfl
@[push_cast] theorem fn75x1 : fieldN Tryz.prog 75 1 = some (74, 1) := by kernel_rfl
@[push_cast] theorem sz76 : sizeT Tryz.prog 76 = some 2 := by kernel_rfl
@[push_cast] theorem ag76 : aggT Tryz.prog 76 = some true := by kernel_rfl
@[push_cast] theorem ze76 : zeroT Tryz.prog 76 = some (.agg [.str ⟨#[]⟩, .nils]) := by kernel_rfl
@[push_cast] theorem fn76x0 : fieldN Tryz.prog 76 0 = some (9, 0) := by kernel_rfl
@[push_cast] theorem fn76x1 : fieldN Tryz.prog 76 1 = some (74, 1) := by kernel_rfl
@[push_cast] theorem pl76 : placesT Tryz.prog 76 = some [(0, 1), (1, 1)] := by kernel_rfl
@[push_cast] theorem sz77 : sizeT Tryz.prog 77 = some 1 := by kernel_rfl
@[push_cast] theorem ag77 : aggT Tryz.prog 77 = some false := by kernel_rfl
@[push_cast] theorem fn81x0 : fieldN Tryz.prog 81 0 = some (22, 0) := by kernel_rfl
@[push_cast] theorem fn81x1 : fieldN Tryz.prog 81 1 = some (80, 1) := by kernel_rfl
@[push_cast] theorem fn82x0 : fieldN Tryz.prog 82 0 = some (22, 0) := by kernel_rfl
@[push_cast] theorem fn82x1 : fieldN Tryz.prog 82 1 = some (80, 1) := by kernel_rfl
@[push_cast] theorem fn84x0 : fieldN Tryz.prog 84 0 = some (4, 0) := by kernel_rfl
@[push_cast] theorem fn84x1 : fieldN Tryz.prog 84 1 = some (22, 1) := by kernel_rfl
@[push_cast] theorem fn84x2 : fieldN Tryz.prog 84 2 = some (83, 2) := by kernel_rfl
@[push_cast] theorem fn85x0 : fieldN Tryz.prog 85 0 = some (4, 0) := by kernel_rfl
@[push_cast] theorem fn85x1 : fieldN Tryz.prog 85 1 = some (22, 1) := by kernel_rfl
@[push_cast] theorem fn85x2 : fieldN Tryz.prog 85 2 = some (83, 2) := by kernel_rfl
@[push_cast] theorem fn88x0 : fieldN Tryz.prog 88 0 = some (44, 0) := by kernel_rfl
@[push_cast] theorem fn88x1 : fieldN Tryz.prog 88 1 = some (86, 1) := by kernel_rfl
@[push_cast] theorem fn88x2 : fieldN Tryz.prog 88 2 = some (87, 2) := by kernel_rfl
@[push_cast] theorem fn89x0 : fieldN Tryz.prog 89 0 = some (44, 0) := by kernel_rfl
@[push_cast] theorem fn89x1 : fieldN Tryz.prog 89 1 = some (86, 1) := by kernel_rfl
@[push_cast] theorem fn89x2 : fieldN Tryz.prog 89 2 = some (87, 2) := by kernel_rfl
@[push_cast] theorem fn90x0 : fieldN Tryz.prog 90 0 = some (89, 0) := by kernel_rfl
@[push_cast] theorem fn90x1 : fieldN Tryz.prog 90 1 = some (4, 3) := by kernel_rfl
@[push_cast] theorem fn91x0 : fieldN Tryz.prog 91 0 = some (89, 0) := by kernel_rfl
@[push_cast] theorem fn91x1 : fieldN Tryz.prog 91 1 = some (4, 3) := by kernel_rfl
@[push_cast] theorem fn94x0 : fieldN Tryz.prog 94 0 = some (46, 0) := by kernel_rfl
@[push_cast] theorem fn95x0 : fieldN Tryz.prog 95 0 = some (46, 0) := by kernel_rfl
@[push_cast] theorem fn110x0 : fieldN Tryz.prog 110 0 = some (76, 0) := by kernel_rfl
@[push_cast] theorem fn110x1 : fieldN Tryz.prog 110 1 = some (109, 2) := by kernel_rfl
@[push_cast] theorem fn110x2 : fieldN Tryz.prog 110 2 = some (4, 3) := by kernel_rfl
@[push_cast] theorem fn111x0 : fieldN Tryz.prog 111 0 = some (76, 0) := by kernel_rfl
@[push_cast] theorem fn111x1 : fieldN Tryz.prog 111 1 = some (109, 2) := by kernel_rfl
@[push_cast] theorem fn111x2 : fieldN Tryz.prog 111 2 = some (4, 3) := by kernel_rfl
@[push_cast] theorem fn114x0 : fieldN Tryz.prog 114 0 = some (50, 0) := by kernel_rfl
@[push_cast] theorem fn114x1 : fieldN Tryz.prog 114 1 = some (9, 4) := by kernel_rfl
@[push_cast] theorem fn114x2 : fieldN Tryz.prog 114 2 = some (4, 5) := by kernel_rfl
@[push_cast] theorem fn114x3 : fieldN Tryz.prog 114 3 = some (109, 6) := by kernel_rfl
@[push_cast] theorem fn115x0 : fieldN Tryz.prog 115 0 = some (50, 0) := by kernel_rfl
@[push_cast] theorem fn115x1 : fieldN Tryz.prog 115 1 = some (9, 4) := by kernel_rfl
@[push_cast] theorem fn115x2 : fieldN Tryz.prog 115 2 = some (4, 5) := by kernel_rfl
@[push_cast] theorem fn115x3 : fieldN Tryz.prog 115 3 = some (109, 6) := by kernel_rfl
@[push_cast] theorem el119 : elemT Tryz.prog 119 = some 3 := by kernel_rfl
@[push_cast] theorem fn124x0 : fieldN Tryz.prog 124 0 = some (77, 0) := by kernel_rfl
@[push_cast] theorem fn124x1 : fieldN Tryz.prog 124 1 = some (9, 1) := by kernel_rfl
@[push_cast] theorem sz125 : sizeT Tryz.prog 125 = some 2 := by kernel_rfl
@[push_cast] theorem ag125 : aggT Tryz.prog 125 = some true := by kernel_rfl
@[push_cast] theorem ze125 : zeroT Tryz.prog 125 = some (.agg [.int .i64 0, .str ⟨#[]⟩]) := by kernel_rfl
@[push_cast] theorem fn125x0 : fieldN Tryz.prog 125 0 = some (77, 0) := by kernel_rfl
@[push_cast] theorem fn125x1 : fieldN Tryz.prog 125 1 = some (9, 1) := by kernel_rfl
@[push_cast] theorem pl125 : placesT Tryz.prog 125 = some [(0, 1), (1, 1)] := by kernel_rfl
@[push_cast] theorem fn128x0 : fieldN Tryz.prog 128 0 = some (9, 0) := by kernel_rfl
@[push_cast] theorem fn128x1 : fieldN Tryz.prog 128 1 = some (9, 1) := by kernel_rfl
@[push_cast] theorem fn128x2 : fieldN Tryz.prog 128 2 = some (9, 2) := by kernel_rfl
@[push_cast] theorem fn129x0 : fieldN Tryz.prog 129 0 = some (9, 0) := by kernel_rfl
@[push_cast] theorem fn129x1 : fieldN Tryz.prog 129 1 = some (9, 1) := by kernel_rfl
@[push_cast] theorem fn129x2 : fieldN Tryz.prog 129 2 = some (9, 2) := by kernel_rfl
@[push_cast] theorem fn132x0 : fieldN Tryz.prog 132 0 = some (3, 0) := by kernel_rfl
@[push_cast] theorem fn132x1 : fieldN Tryz.prog 132 1 = some (9, 1) := by kernel_rfl
@[push_cast] theorem fn132x2 : fieldN Tryz.prog 132 2 = some (129, 2) := by kernel_rfl
@[push_cast] theorem fn132x3 : fieldN Tryz.prog 132 3 = some (130, 5) := by kernel_rfl
@[push_cast] theorem fn132x4 : fieldN Tryz.prog 132 4 = some (3, 6) := by kernel_rfl
@[push_cast] theorem fn132x5 : fieldN Tryz.prog 132 5 = some (131, 7) := by kernel_rfl
@[push_cast] theorem fn132x6 : fieldN Tryz.prog 132 6 = some (3, 8) := by kernel_rfl
@[push_cast] theorem fn132x7 : fieldN Tryz.prog 132 7 = some (3, 9) := by kernel_rfl
@[push_cast] theorem fn133x0 : fieldN Tryz.prog 133 0 = some (3, 0) := by kernel_rfl
@[push_cast] theorem fn133x1 : fieldN Tryz.prog 133 1 = some (9, 1) := by kernel_rfl
@[push_cast] theorem fn133x2 : fieldN Tryz.prog 133 2 = some (129, 2) := by kernel_rfl
@[push_cast] theorem fn133x3 : fieldN Tryz.prog 133 3 = some (130, 5) := by kernel_rfl
@[push_cast] theorem fn133x4 : fieldN Tryz.prog 133 4 = some (3, 6) := by kernel_rfl
@[push_cast] theorem fn133x5 : fieldN Tryz.prog 133 5 = some (131, 7) := by kernel_rfl
@[push_cast] theorem fn133x6 : fieldN Tryz.prog 133 6 = some (3, 8) := by kernel_rfl
@[push_cast] theorem fn133x7 : fieldN Tryz.prog 133 7 = some (3, 9) := by kernel_rfl
@[push_cast] theorem fn136x0 : fieldN Tryz.prog 136 0 = some (9, 0) := by kernel_rfl
@[push_cast] theorem fn136x1 : fieldN Tryz.prog 136 1 = some (3, 1) := by kernel_rfl
@[push_cast] theorem fn137x0 : fieldN Tryz.prog 137 0 = some (9, 0) := by kernel_rfl
@[push_cast] theorem fn137x1 : fieldN Tryz.prog 137 1 = some (3, 1) := by kernel_rfl
@[push_cast] theorem fn139x0 : fieldN Tryz.prog 139 0 = some (9, 0) := by kernel_rfl
@[push_cast] theorem fn139x1 : fieldN Tryz.prog 139 1 = some (3, 1) := by kernel_rfl
@[push_cast] theorem sz140 : sizeT Tryz.prog 140 = some 2 := by kernel_rfl
@[push_cast] theorem ag140 : aggT Tryz.prog 140 = some true := by kernel_rfl
@[push_cast] theorem ze140 : zeroT Tryz.prog 140 = some (.agg [.str ⟨#[]⟩, .int .i64 0]) := by kernel_rfl
@[push_cast] theorem fn140x0 : fieldN Tryz.prog 140 0 = some (9, 0) := by kernel_rfl
@[push_cast] theorem fn140x1 : fieldN Tryz.prog 140 1 = some (3, 1) := by kernel_rfl
@[push_cast] theorem fn153x0 : fieldN Tryz.prog 153 0 = some (27, 0) := by kernel_rfl
@[push_cast] theorem fn153x1 : fieldN Tryz.prog 153 1 = some (9, 1) := by kernel_rfl
@[push_cast] theorem fn154x0 : fieldN Tryz.prog 154 0 = some (27, 0) := by kernel_rfl
@[push_cast] theorem fn154x1 : fieldN Tryz.prog 154 1 = some (9, 1) := by kernel_rfl
@[push_cast] theorem fn182x0 : fieldN Tryz.prog 182 0 = some (9, 0) := by kernel_rfl
@[push_cast] theorem fn182x1 : fieldN Tryz.prog 182 1 = some (179, 1) := by kernel_rfl
@[push_cast] theorem fn182x2 : fieldN Tryz.prog 182 2 = some (3, 2) := by kernel_rfl
@[push_cast] theorem fn182x3 : fieldN Tryz.prog 182 3 = some (180, 3) := by kernel_rfl
@[push_cast] theorem fn182x4 : fieldN Tryz.prog 182 4 = some (181, 4) := by kernel_rfl
@[push_cast] theorem fn182x5 : fieldN Tryz.prog 182 5 = some (3, 5) := by kernel_rfl
@[push_cast] theorem fn183x0 : fieldN Tryz.prog 183 0 = some (9, 0) := by kernel_rfl
@[push_cast] theorem fn183x1 : fieldN Tryz.prog 183 1 = some (179, 1) := by kernel_rfl
@[push_cast] theorem fn183x2 : fieldN Tryz.prog 183 2 = some (3, 2) := by kernel_rfl
@[push_cast] theorem fn183x3 : fieldN Tryz.prog 183 3 = some (180, 3) := by kernel_rfl
@[push_cast] theorem fn183x4 : fieldN Tryz.prog 183 4 = some (181, 4) := by kernel_rfl
@[push_cast] theorem fn183x5 : fieldN Tryz.prog 183 5 = some (3, 5) := by kernel_rfl
@[push_cast] theorem fn187x0 : fieldN Tryz.prog 187 0 = some (9, 0) := by kernel_rfl
@[push_cast] theorem fn187x1 : fieldN Tryz.prog 187 1 = some (3, 1) := by kernel_rfl
@[push_cast] theorem fn187x2 : fieldN Tryz.prog 187 2 = some (3, 2) := by kernel_rfl
@[push_cast] theorem fn187x3 : fieldN Tryz.prog 187 3 = some (9, 3) := by kernel_rfl
@[push_cast] theorem fn187x4 : fieldN Tryz.prog 187 4 = some (9, 4) := by kernel_rfl
@[push_cast] theorem fn187x5 : fieldN Tryz.prog 187 5 = some (3, 5) := by kernel_rfl
@[push_cast] theorem fn187x6 : fieldN Tryz.prog 187 6 = some (3, 6) := by kernel_rfl
@[push_cast] theorem fn188x0 : fieldN Tryz.prog 188 0 = some (9, 0) := by kernel_rfl
@[push_cast] theorem fn188x1 : fieldN Tryz.prog 188 1 = some (3, 1) := by kernel_rfl
@[push_cast] theorem fn188x2 : fieldN Tryz.prog 188 2 = some (3, 2) := by kernel_rfl
@[push_cast] theorem fn188x3 : fieldN Tryz.prog 188 3 = some (9, 3) := by kernel_rfl
@[push_cast] theorem fn188x4 : fieldN Tryz.prog 188 4 = some (9, 4) := by kernel_rfl
@[push_cast] theorem fn188x5 : fieldN Tryz.prog 188 5 = some (3, 5) := by kernel_rfl
@[push_cast] theorem fn188x6 : fieldN Tryz.prog 188 6 = some (3, 6) := by kernel_rfl
@[push_cast] theorem fn189x0 : fieldN Tryz.prog 189 0 = some (188, 0) := by kernel_rfl
@[push_cast] theorem fn189x1 : fieldN Tryz.prog 189 1 = some (9, 7) := by kernel_rfl
@[push_cast] theorem fn190x0 : fieldN Tryz.prog 190 0 = some (188, 0) := by kernel_rfl
@[push_cast] theorem fn190x1 : fieldN Tryz.prog 190 1 = some (9, 7) := by kernel_rfl
@[push_cast] theorem fn191x0 : fieldN Tryz.prog 191 0 = some (190, 0) := by kernel_rfl
@[push_cast] theorem fn191x1 : fieldN Tryz.prog 191 1 = some (9, 8) := by kernel_rfl
@[push_cast] theorem fn191x2 : fieldN Tryz.prog 191 2 = some (3, 9) := by kernel_rfl
@[push_cast] theorem fn191x3 : fieldN Tryz.prog 191 3 = some (3, 10) := by kernel_rfl
@[push_cast] theorem fn192x0 : fieldN Tryz.prog 192 0 = some (190, 0) := by kernel_rfl
@[push_cast] theorem fn192x1 : fieldN Tryz.prog 192 1 = some (9, 8) := by kernel_rfl
@[push_cast] theorem fn192x2 : fieldN Tryz.prog 192 2 = some (3, 9) := by kernel_rfl
@[push_cast] theorem fn192x3 : fieldN Tryz.prog 192 3 = some (3, 10) := by kernel_rfl
@[push_cast] theorem fn194x0 : fieldN Tryz.prog 194 0 = some (3, 0) := by kernel_rfl
@[push_cast] theorem fn194x1 : fieldN Tryz.prog 194 1 = some (3, 1) := by kernel_rfl
@[push_cast] theorem fn194x2 : fieldN Tryz.prog 194 2 = some (3, 2) := by kernel_rfl
@[push_cast] theorem fn194x3 : fieldN Tryz.prog 194 3 = some (3, 3) := by kernel_rfl
@[push_cast] theorem fn195x0 : fieldN Tryz.prog 195 0 = some (3, 0) := by kernel_rfl
@[push_cast] theorem fn195x1 : fieldN Tryz.prog 195 1 = some (3, 1) := by kernel_rfl
@[push_cast] theorem fn195x2 : fieldN Tryz.prog 195 2 = some (3, 2) := by kernel_rfl
@[push_cast] theorem fn195x3 : fieldN Tryz.prog 195 3 = some (3, 3) := by kernel_rfl
@[push_cast] theorem fn221x0 : fieldN Tryz.prog 221 0 = some (27, 0) := by kernel_rfl
@[push_cast] theorem fn222x0 : fieldN Tryz.prog 222 0 = some (27, 0) := by kernel_rfl
@[push_cast] theorem fn226x0 : fieldN Tryz.prog 226 0 = some (9, 0) := by kernel_rfl
@[push_cast] theorem fn226x1 : fieldN Tryz.prog 226 1 = some (3, 1) := by kernel_rfl
@[push_cast] theorem fn227x0 : fieldN Tryz.prog 227 0 = some (9, 0) := by kernel_rfl
@[push_cast] theorem fn227x1 : fieldN Tryz.prog 227 1 = some (3, 1) := by kernel_rfl
@[push_cast] theorem fn271x0 : fieldN Tryz.prog 271 0 = some (5, 0) := by kernel_rfl
@[push_cast] theorem fn271x1 : fieldN Tryz.prog 271 1 = some (5, 1) := by kernel_rfl
@[push_cast] theorem fn272x0 : fieldN Tryz.prog 272 0 = some (5, 0) := by kernel_rfl
@[push_cast] theorem fn272x1 : fieldN Tryz.prog 272 1 = some (5, 1) := by kernel_rfl
@[push_cast] theorem fn277x0 : fieldN Tryz.prog 277 0 = some (17, 0) := by kernel_rfl
@[push_cast] theorem fn277x1 : fieldN Tryz.prog 277 1 = some (17, 1) := by kernel_rfl
@[push_cast] theorem fn277x2 : fieldN Tryz.prog 277 2 = some (17, 2) := by kernel_rfl
@[push_cast] theorem fn277x3 : fieldN Tryz.prog 277 3 = some (9, 3) := by kernel_rfl
@[push_cast] theorem fn278x0 : fieldN Tryz.prog 278 0 = some (17, 0) := by kernel_rfl
@[push_cast] theorem fn278x1 : fieldN Tryz.prog 278 1 = some (17, 1) := by kernel_rfl
@[push_cast] theorem fn278x2 : fieldN Tryz.prog 278 2 = some (17, 2) := by kernel_rfl
@[push_cast] theorem fn278x3 : fieldN Tryz.prog 278 3 = some (9, 3) := by kernel_rfl
@[push_cast] theorem fn280x0 : fieldN Tryz.prog 280 0 = some (279, 0) := by kernel_rfl
@[push_cast] theorem fn281x0 : fieldN Tryz.prog 281 0 = some (279, 0) := by kernel_rfl
@[push_cast] theorem fn289x0 : fieldN Tryz.prog 289 0 = some (12, 0) := by kernel_rfl
@[push_cast] theorem fn289x1 : fieldN Tryz.prog 289 1 = some (12, 1) := by kernel_rfl
@[push_cast] theorem fn289x2 : fieldN Tryz.prog 289 2 = some (262, 2) := by kernel_rfl
@[push_cast] theorem fn289x3 : fieldN Tryz.prog 289 3 = some (283, 3) := by kernel_rfl
@[push_cast] theorem fn289x4 : fieldN Tryz.prog 289 4 = some (5, 4) := by kernel_rfl
@[push_cast] theorem fn289x5 : fieldN Tryz.prog 289 5 = some (5, 5) := by kernel_rfl
@[push_cast] theorem fn289x6 : fieldN Tryz.prog 289 6 = some (284, 6) := by kernel_rfl
@[push_cast] theorem fn289x7 : fieldN Tryz.prog 289 7 = some (285, 7) := by kernel_rfl
@[push_cast] theorem fn289x8 : fieldN Tryz.prog 289 8 = some (286, 8) := by kernel_rfl
@[push_cast] theorem fn289x9 : fieldN Tryz.prog 289 9 = some (287, 9) := by kernel_rfl
@[push_cast] theorem fn289x10 : fieldN Tryz.prog 289 10 = some (288, 10) := by kernel_rfl
@[push_cast] theorem fn290x0 : fieldN Tryz.prog 290 0 = some (12, 0) := by kernel_rfl
@[push_cast] theorem fn290x1 : fieldN Tryz.prog 290 1 = some (12, 1) := by kernel_rfl
@[push_cast] theorem fn290x2 : fieldN Tryz.prog 290 2 = some (262, 2) := by kernel_rfl
@[push_cast] theorem fn290x3 : fieldN Tryz.prog 290 3 = some (283, 3) := by kernel_rfl
@[push_cast] theorem fn290x4 : fieldN Tryz.prog 290 4 = some (5, 4) := by kernel_rfl
@[push_cast] theorem fn290x5 : fieldN Tryz.prog 290 5 = some (5, 5) := by kernel_rfl
@[push_cast] theorem fn290x6 : fieldN Tryz.prog 290 6 = some (284, 6) := by kernel_rfl
@[push_cast] theorem fn290x7 : fieldN Tryz.prog 290 7 = some (285, 7) := by kernel_rfl
@[push_cast] theorem fn290x8 : fieldN Tryz.prog 290 8 = some (286, 8) := by kernel_rfl
@[push_cast] theorem fn290x9 : fieldN Tryz.prog 290 9 = some (287, 9) := by kernel_rfl
@[push_cast] theorem fn290x10 : fieldN Tryz.prog 290 10 = some (288, 10) := by kernel_rfl
@[push_cast] theorem fn291x0 : fieldN Tryz.prog 291 0 = some (190, 0) := by kernel_rfl
@[push_cast] theorem fn291x1 : fieldN Tryz.prog 291 1 = some (3, 8) := by kernel_rfl
@[push_cast] theorem fn291x2 : fieldN Tryz.prog 291 2 = some (3, 9) := by kernel_rfl
@[push_cast] theorem fn292x0 : fieldN Tryz.prog 292 0 = some (190, 0) := by kernel_rfl
@[push_cast] theorem fn292x1 : fieldN Tryz.prog 292 1 = some (3, 8) := by kernel_rfl
@[push_cast] theorem fn292x2 : fieldN Tryz.prog 292 2 = some (3, 9) := by kernel_rfl
@[push_cast] theorem fn293x0 : fieldN Tryz.prog 293 0 = some (9, 0) := by kernel_rfl
@[push_cast] theorem fn293x1 : fieldN Tryz.prog 293 1 = some (3, 1) := by kernel_rfl
@[push_cast] theorem fn293x2 : fieldN Tryz.prog 293 2 = some (3, 2) := by kernel_rfl
@[push_cast] theorem fn294x0 : fieldN Tryz.prog 294 0 = some (9, 0) := by kernel_rfl
@[push_cast] theorem fn294x1 : fieldN Tryz.prog 294 1 = some (3, 1) := by kernel_rfl
@[push_cast] theorem fn294x2 : fieldN Tryz.prog 294 2 = some (3, 2) := by kernel_rfl
attribute [push_cast] Tryz.underlying0 Tryz.underlying1 Tryz.underlying2 Tryz.underlying3 Tryz.underlying4 Tryz.underlying5 Tryz.underlying6 Tryz.underlying7 Tryz.underlying8 Tryz.underlying9 Tryz.underlying10 Tryz.underlying11 Tryz.underlying12 Tryz.underlying13 Tryz.underlying14 Tryz.underlying15 Tryz.underlying16 Tryz.underlying17 Tryz.underlying18 Tryz.underlying19
attribute [push_cast] Tryz.underlying20 Tryz.underlying21 Tryz.underlying22 Tryz.underlying23 Tryz.underlying24 Tryz.underlying25 Tryz.underlying26 Tryz.underlying27 Tryz.underlying28 Tryz.underlying29 Tryz.underlying30 Tryz.underlying31 Tryz.underlying32 Tryz.underlying33 Tryz.underlying34 Tryz.underlying35 Tryz.underlying36 Tryz.underlying37 Tryz.underlying38 Tryz.underlying39
attribute [push_cast] Tryz.underlying40 Tryz.underlying41 Tryz.underlying42 Tryz.underlying43 Tryz.underlying44 Tryz.underlying45 Tryz.underlying46 Tryz.underlying47 Tryz.underlying48 Tryz.underlying49 Tryz.underlying50 Tryz.underlying51 Tryz.underlying52 Tryz.underlying53 Tryz.underlying54 Tryz.underlying55 Tryz.underlying56 Tryz.underlying57 Tryz.underlying58 Tryz.underlying59
attribute [push_cast] Tryz.underlying60 Tryz.underlying61 Tryz.underlying62 Tryz.underlying63 Tryz.underlying64 Tryz.underlying65 Tryz.underlying66 Tryz.underlying67 Tryz.underlying68 Tryz.underlying69 Tryz.underlying70 Tryz.underlying71 Tryz.underlying72 Tryz.underlying73 Tryz.underlying74 Tryz.underlying75 Tryz.underlying76 Tryz.underlying77 Tryz.underlying78 Tryz.underlying79
attribute [push_cast] Tryz.underlying80 Tryz.underlying81 Tryz.underlying82 Tryz.underlying83 Tryz.underlying84 Tryz.underlying85 Tryz.underlying86 Tryz.underlying87 Tryz.underlying88 Tryz.underlying89 Tryz.underlying90 Tryz.underlying91 Tryz.underlying92 Tryz.underlying93 Tryz.underlying94 Tryz.underlying95 Tryz.underlying96 Tryz.underlying97 Tryz.underlying98 Tryz.underlying99
attribute [push_cast] Tryz.underlying100 Tryz.underlying101 Tryz.underlying102 Tryz.underlying103 Tryz.underlying104 Tryz.underlying105 Tryz.underlying106 Tryz.underlying107 Tryz.underlying108 Tryz.underlying109 Tryz.underlying110 Tryz.underlying111 Tryz.underlying112 Tryz.underlying113 Tryz.underlying114 Tryz.underlying115 Tryz.underlying116 Tryz.underlying117 Tryz.underlying118 Tryz.underlying119
attribute [push_cast] Tryz.underlying120 Tryz.underlying121 Tryz.underlying122 Tryz.underlying123 Tryz.underlying124 Tryz.underlying125 Tryz.underlying126 Tryz.underlying127 Tryz.underlying128 Tryz.underlying129 Tryz.underlying130 Tryz.underlying131 Tryz.underlying132 Tryz.underlying133 Tryz.underlying134 Tryz.underlying135 Tryz.underlying136 Tryz.underlying137 Tryz.underlying138 Tryz.underlying139
attribute [push_cast] Tryz.underlying140 Tryz.underlying141 Tryz.underlying142 Tryz.underlying143 Tryz.underlying144 Tryz.underlying145 Tryz.underlying146 Tryz.underlying147 Tryz.underlying148 Tryz.underlying149 Tryz.underlying150 Tryz.underlying151 Tryz.underlying152 Tryz.underlying153 Tryz.underlying154 Tryz.underlying155 Tryz.underlying156 Tryz.underlying157 Tryz.underlying158 Tryz.underlying159
attribute [push_cast] Tryz.underlying160 Tryz.underlying161 Tryz.underlying162 Tryz.underlying163 Tryz.underlying164 Tryz.underlying165 Tryz.underlying166 Tryz.underlying167 Tryz.underlying168 Tryz.underlying169 Tryz.underlying170 Tryz.underlying171 Tryz.underlying172 Tryz.underlying173 Tryz.underlying174 Tryz.underlying175 Tryz.underlying176 Tryz.underlying177 Tryz.underlying178 Tryz.underlying179
attribute [push_cast] Tryz.underlying180 Tryz.underlying181 Tryz.underlying182 Tryz.underlying183 Tryz.underlying184 Tryz.underlying185 Tryz.underlying186 Tryz.underlying187 Tryz.underlying188 Tryz.underlying189 Tryz.underlying190 Tryz.underlying191 Tryz.underlying192 Tryz.underlying193 Tryz.underlying194 Tryz.underlying195 Tryz.underlying196 Tryz.underlying197 Tryz.underlying198 Tryz.underlying199
attribute [push_cast] Tryz.underlying200 Tryz.underlying201 Tryz.underlying202 Tryz.underlying203 Tryz.underlying204 Tryz.underlying205 Tryz.underlying206 Tryz.underlying207 Tryz.underlying208 Tryz.underlying209 Tryz.underlying210 Tryz.underlying211 Tryz.underlying212 Tryz.underlying213 Tryz.underlying214 Tryz.underlying215 Tryz.underlying216 Tryz.underlying217 Tryz.underlying218 Tryz.underlying219
attribute [push_cast] Tryz.underlying220 Tryz.underlying221 Tryz.underlying222 Tryz.underlying223 Tryz.underlying224 Tryz.underlying225 Tryz.underlying226 Tryz.underlying227 Tryz.underlying228 Tryz.underlying229 Tryz.underlying230 Tryz.underlying231 Tryz.underlying232 Tryz.underlying233 Tryz.underlying234 Tryz.underlying235 Tryz.underlying236 Tryz.underlying237 Tryz.underlying238 Tryz.underlying239
attribute [push_cast] Tryz.underlying240 Tryz.underlying241 Tryz.underlying242 Tryz.underlying243 Tryz.underlying244 Tryz.underlying245 Tryz.underlying246 Tryz.underlying247 Tryz.underlying248 Tryz.underlying249 Tryz.underlying250 Tryz.underlying251 Tryz.underlying252 Tryz.underlying253 Tryz.underlying254 Tryz.underlying255 Tryz.underlying256 Tryz.underlying257 Tryz.underlying258 Tryz.underlying259
attribute [push_cast] Tryz.underlying260 Tryz.underlying261 Tryz.underlying262 Tryz.underlying263 Tryz.underlying264 Tryz.underlying265 Tryz.underlying266 Tryz.underlying267 Tryz.underlying268 Tryz.underlying269 Tryz.underlying270 Tryz.underlying271 Tryz.underlying272 Tryz.underlying273 Tryz.underlying274 Tryz.underlying275 Tryz.underlying276 Tryz.underlying277 Tryz.underlying278 Tryz.underlying279
attribute [push_cast] Tryz.underlying280 Tryz.underlying281 Tryz.underlying282 Tryz.underlying283 Tryz.underlying284 Tryz.underlying285 Tryz.underlying286 Tryz.underlying287 Tryz.underlying288 Tryz.underlying289 Tryz.underlying290 Tryz.underlying291 Tryz.underlying292 Tryz.underlying293 Tryz.underlying294 Tryz.underlying295
end Go.Proofs.YthkbiiammhekfaaGreatDoor.Dm
