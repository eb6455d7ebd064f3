/-
  What the machine of XDm asks of this seat's types: sizes, zero values, places of fields. By program (wip/tools/types.py).
-/
import Derived.Test.YtajhgnefcddenaaGreatDoorEnvL
namespace Go.Proofs.YtajhgnefcddenaaGreatDoor.Dm
open Go
@[push_cast] theorem E_P (pr : PrimF) : (envOf pr).P = Tryz.prog := rfl
@[push_cast] theorem E_G (pr : PrimF) (g : Nat) : (envOf pr).G g = none := rfl
@[push_cast] theorem sz0 : sizeT Tryz.prog 0 = some 1 := by kernel_rfl
@[push_cast] theorem sz3 : sizeT Tryz.prog 3 = some 1 := by kernel_rfl
@[push_cast] theorem ag3 : aggT Tryz.prog 3 = some false := by kernel_rfl
@[push_cast] theorem ze3 : zeroT Tryz.prog 3 = some (.int .i64 0) := by kernel_rfl
@[push_cast] theorem by3 : bytesT Tryz.prog 3 = 8 := by kernel_rfl
@[push_cast] theorem sz4 : sizeT Tryz.prog 4 = some 1 := by kernel_rfl
@[push_cast] theorem ag4 : aggT Tryz.prog 4 = some false := by kernel_rfl
@[push_cast] theorem ze4 : zeroT Tryz.prog 4 = some (.bool false) := by kernel_rfl
@[push_cast] theorem sz5 : sizeT Tryz.prog 5 = some 1 := by kernel_rfl
@[push_cast] theorem ag5 : aggT Tryz.prog 5 = some false := by kernel_rfl
@[push_cast] theorem fn7x0 : fieldN Tryz.prog 7 0 = some (2, 0) := by kernel_rfl
@[push_cast] theorem fn7x1 : fieldN Tryz.prog 7 1 = some (3, 1) := by kernel_rfl
@[push_cast] theorem fn7x2 : fieldN Tryz.prog 7 2 = some (4, 2) := by kernel_rfl
@[push_cast] theorem fn7x3 : fieldN Tryz.prog 7 3 = some (6, 3) := by kernel_rfl
@[push_cast] theorem fn8x0 : fieldN Tryz.prog 8 0 = some (2, 0) := by kernel_rfl
@[push_cast] theorem fn8x1 : fieldN Tryz.prog 8 1 = some (3, 1) := by kernel_rfl
@[push_cast] theorem fn8x2 : fieldN Tryz.prog 8 2 = some (4, 2) := by kernel_rfl
@[push_cast] theorem fn8x3 : fieldN Tryz.prog 8 3 = some (6, 3) := by kernel_rfl
@[push_cast] theorem sz9 : sizeT Tryz.prog 9 = some 1 := by kernel_rfl
@[push_cast] theorem ag9 : aggT Tryz.prog 9 = some false := by kernel_rfl
@[push_cast] theorem fn13x0 : fieldN Tryz.prog 13 0 = some (9, 0) := by kernel_rfl
@[push_cast] theorem fn13x1 : fieldN Tryz.prog 13 1 = some (12, 1) := by kernel_rfl
@[push_cast] theorem fn14x0 : fieldN Tryz.prog 14 0 = some (9, 0) := by kernel_rfl
@[push_cast] theorem fn14x1 : fieldN Tryz.prog 14 1 = some (12, 1) := by kernel_rfl
@[push_cast] theorem fn18x0 : fieldN Tryz.prog 18 0 = some (17, 0) := by kernel_rfl
@[push_cast] theorem fn19x0 : fieldN Tryz.prog 19 0 = some (17, 0) := by kernel_rfl
@[push_cast] theorem sz22 : sizeT Tryz.prog 22 = some 1 := by kernel_rfl
@[push_cast] theorem ag22 : aggT Tryz.prog 22 = some false := by kernel_rfl
@[push_cast] theorem sz27 : sizeT Tryz.prog 27 = some 1 := by kernel_rfl
@[push_cast] theorem ag27 : aggT Tryz.prog 27 = some false := by kernel_rfl
@[push_cast] theorem el27 : elemT Tryz.prog 27 = some 152 := by kernel_rfl
@[push_cast] theorem el38 : elemT Tryz.prog 38 = some 50 := by kernel_rfl
@[push_cast] theorem fn39x0 : fieldN Tryz.prog 39 0 = some (3, 0) := by kernel_rfl
@[push_cast] theorem fn39x1 : fieldN Tryz.prog 39 1 = some (38, 1) := by kernel_rfl
@[push_cast] theorem fn39x2 : fieldN Tryz.prog 39 2 = some (9, 2) := by kernel_rfl
@[push_cast] theorem fn39x3 : fieldN Tryz.prog 39 3 = some (3, 3) := by kernel_rfl
@[push_cast] theorem fn39x4 : fieldN Tryz.prog 39 4 = some (3, 4) := by kernel_rfl
@[push_cast] theorem fn40x0 : fieldN Tryz.prog 40 0 = some (3, 0) := by kernel_rfl
@[push_cast] theorem fn40x1 : fieldN Tryz.prog 40 1 = some (38, 1) := by kernel_rfl
@[push_cast] theorem fn40x2 : fieldN Tryz.prog 40 2 = some (9, 2) := by kernel_rfl
@[push_cast] theorem fn40x3 : fieldN Tryz.prog 40 3 = some (3, 3) := by kernel_rfl
@[push_cast] theorem fn40x4 : fieldN Tryz.prog 40 4 = some (3, 4) := by kernel_rfl
@[push_cast] theorem fn41x0 : fieldN Tryz.prog 41 0 = some (3, 0) := by kernel_rfl
@[push_cast] theorem fn41x1 : fieldN Tryz.prog 41 1 = some (3, 1) := by kernel_rfl
@[push_cast] theorem fn41x2 : fieldN Tryz.prog 41 2 = some (40, 2) := by kernel_rfl
@[push_cast] theorem fn41x3 : fieldN Tryz.prog 41 3 = some (9, 7) := by kernel_rfl
@[push_cast] theorem fn42x0 : fieldN Tryz.prog 42 0 = some (3, 0) := by kernel_rfl
@[push_cast] theorem fn42x1 : fieldN Tryz.prog 42 1 = some (3, 1) := by kernel_rfl
@[push_cast] theorem fn42x2 : fieldN Tryz.prog 42 2 = some (40, 2) := by kernel_rfl
@[push_cast] theorem fn42x3 : fieldN Tryz.prog 42 3 = some (9, 7) := by kernel_rfl
@[push_cast] theorem fn49x0 : fieldN Tryz.prog 49 0 = some (9, 0) := by kernel_rfl
@[push_cast] theorem fn49x1 : fieldN Tryz.prog 49 1 = some (3, 1) := by kernel_rfl
@[push_cast] theorem fn49x2 : fieldN Tryz.prog 49 2 = some (3, 2) := by kernel_rfl
@[push_cast] theorem fn49x3 : fieldN Tryz.prog 49 3 = some (9, 3) := by kernel_rfl
@[push_cast] theorem sz50 : sizeT Tryz.prog 50 = some 4 := by kernel_rfl
@[push_cast] theorem ag50 : aggT Tryz.prog 50 = some true := by kernel_rfl
@[push_cast] theorem ze50 : zeroT Tryz.prog 50 = some (.agg [.str ⟨#[]⟩, .int .i64 0, .int .i64 0, .str ⟨#[]⟩]) := by kernel_rfl
@[push_cast] theorem fn50x0 : fieldN Tryz.prog 50 0 = some (9, 0) := by kernel_rfl
@[push_cast] theorem fn50x1 : fieldN Tryz.prog 50 1 = some (3, 1) := by kernel_rfl
@[push_cast] theorem fn50x2 : fieldN Tryz.prog 50 2 = some (3, 2) := by kernel_rfl
@[push_cast] theorem fn50x3 : fieldN Tryz.prog 50 3 = some (9, 3) := by kernel_rfl
@[push_cast] theorem pe50 : plainEqT Tryz.prog 50 = true := by kernel_rfl
@[push_cast] theorem fn53x0 : fieldN Tryz.prog 53 0 = some (3, 0) := by kernel_rfl
@[push_cast] theorem fn53x1 : fieldN Tryz.prog 53 1 = some (38, 1) := by kernel_rfl
@[push_cast] theorem fn53x2 : fieldN Tryz.prog 53 2 = some (9, 2) := by kernel_rfl
@[push_cast] theorem fn53x3 : fieldN Tryz.prog 53 3 = some (3, 3) := by kernel_rfl
@[push_cast] theorem fn53x4 : fieldN Tryz.prog 53 4 = some (3, 4) := by kernel_rfl
@[push_cast] theorem sz61 : sizeT Tryz.prog 61 = some 1 := by kernel_rfl
@[push_cast] theorem ag61 : aggT Tryz.prog 61 = some false := by kernel_rfl
@[push_cast] theorem fn62x0 : fieldN Tryz.prog 62 0 = some (5, 0) := by kernel_rfl
@[push_cast] theorem fn62x1 : fieldN Tryz.prog 62 1 = some (5, 1) := by kernel_rfl
@[push_cast] theorem fn62x2 : fieldN Tryz.prog 62 2 = some (5, 2) := by kernel_rfl
@[push_cast] theorem fn62x3 : fieldN Tryz.prog 62 3 = some (5, 3) := by kernel_rfl
@[push_cast] theorem fn62x4 : fieldN Tryz.prog 62 4 = some (5, 4) := by kernel_rfl
@[push_cast] theorem fn62x5 : fieldN Tryz.prog 62 5 = some (61, 5) := by kernel_rfl
@[push_cast] theorem sz63 : sizeT Tryz.prog 63 = some 6 := by kernel_rfl
@[push_cast] theorem ag63 : aggT Tryz.prog 63 = some true := by kernel_rfl
@[push_cast] theorem fn63x0 : fieldN Tryz.prog 63 0 = some (5, 0) := by kernel_rfl
@[push_cast] theorem fn63x1 : fieldN Tryz.prog 63 1 = some (5, 1) := by kernel_rfl
@[push_cast] theorem fn63x2 : fieldN Tryz.prog 63 2 = some (5, 2) := by kernel_rfl
@[push_cast] theorem fn63x3 : fieldN Tryz.prog 63 3 = some (5, 3) := by kernel_rfl
@[push_cast] theorem fn63x4 : fieldN Tryz.prog 63 4 = some (5, 4) := by kernel_rfl
@[push_cast] theorem fn63x5 : fieldN Tryz.prog 63 5 = some (61, 5) := by kernel_rfl
@[push_cast] theorem el74 : elemT Tryz.prog 74 = some 134 := by kernel_rfl
@[push_cast] theorem fn80x0 : fieldN Tryz.prog 80 0 = some (9, 0) := by kernel_rfl
@[push_cast] theorem fn80x1 : fieldN Tryz.prog 80 1 = some (3, 1) := by kernel_rfl
@[push_cast] theorem sz81 : sizeT Tryz.prog 81 = some 2 := by kernel_rfl
@[push_cast] theorem ag81 : aggT Tryz.prog 81 = some true := by kernel_rfl
@[push_cast] theorem ze81 : zeroT Tryz.prog 81 = some (.agg [.str ⟨#[]⟩, .int .i64 0]) := by kernel_rfl
@[push_cast] theorem fn81x0 : fieldN Tryz.prog 81 0 = some (9, 0) := by kernel_rfl
@[push_cast] theorem fn81x1 : fieldN Tryz.prog 81 1 = some (3, 1) := by kernel_rfl
@[push_cast] theorem sz82 : sizeT Tryz.prog 82 = some 1 := by kernel_rfl
@[push_cast] theorem ag82 : aggT Tryz.prog 82 = some false := by kernel_rfl
@[push_cast] theorem fn83x0 : fieldN Tryz.prog 83 0 = some (9, 0) := by kernel_rfl
@[push_cast] theorem fn83x1 : fieldN Tryz.prog 83 1 = some (3, 1) := by kernel_rfl
@[push_cast] theorem fn83x2 : fieldN Tryz.prog 83 2 = some (3, 2) := by kernel_rfl
@[push_cast] theorem fn83x3 : fieldN Tryz.prog 83 3 = some (82, 3) := by kernel_rfl
@[push_cast] theorem sz84 : sizeT Tryz.prog 84 = some 4 := by kernel_rfl
@[push_cast] theorem ag84 : aggT Tryz.prog 84 = some true := by kernel_rfl
@[push_cast] theorem ze84 : zeroT Tryz.prog 84 = some (.agg [.str ⟨#[]⟩, .int .i64 0, .int .i64 0, .nils]) := by kernel_rfl
@[push_cast] theorem fn84x0 : fieldN Tryz.prog 84 0 = some (9, 0) := by kernel_rfl
@[push_cast] theorem fn84x1 : fieldN Tryz.prog 84 1 = some (3, 1) := by kernel_rfl
@[push_cast] theorem fn84x2 : fieldN Tryz.prog 84 2 = some (3, 2) := by kernel_rfl
@[push_cast] theorem fn84x3 : fieldN Tryz.prog 84 3 = some (82, 3) := by kernel_rfl
@[push_cast] theorem sz85 : sizeT Tryz.prog 85 = some 1 := by kernel_rfl
@[push_cast] theorem ag85 : aggT Tryz.prog 85 = some false := by kernel_rfl
@[push_cast] theorem fn86x0 : fieldN Tryz.prog 86 0 = some (9, 0) := by kernel_rfl
@[push_cast] theorem fn86x1 : fieldN Tryz.prog 86 1 = some (85, 1) := by kernel_rfl
@[push_cast] theorem sz87 : sizeT Tryz.prog 87 = some 2 := by kernel_rfl
@[push_cast] theorem ag87 : aggT Tryz.prog 87 = some true := by kernel_rfl
@[push_cast] theorem ze87 : zeroT Tryz.prog 87 = some (.agg [.str ⟨#[]⟩, .nils]) := by kernel_rfl
@[push_cast] theorem fn87x0 : fieldN Tryz.prog 87 0 = some (9, 0) := by kernel_rfl
@[push_cast] theorem fn87x1 : fieldN Tryz.prog 87 1 = some (85, 1) := by kernel_rfl
@[push_cast] theorem pl87 : placesT Tryz.prog 87 = some [(0, 1), (1, 1)] := by kernel_rfl
@[push_cast] theorem sz90 : sizeT Tryz.prog 90 = some 1 := by kernel_rfl
@[push_cast] theorem ag90 : aggT Tryz.prog 90 = some false := by kernel_rfl
@[push_cast] theorem fn91x0 : fieldN Tryz.prog 91 0 = some (22, 0) := by kernel_rfl
@[push_cast] theorem fn91x1 : fieldN Tryz.prog 91 1 = some (90, 1) := by kernel_rfl
@[push_cast] theorem ze92 : zeroT Tryz.prog 92 = some (.agg [.nils, .nilm]) := by kernel_rfl
@[push_cast] theorem fn92x0 : fieldN Tryz.prog 92 0 = some (22, 0) := by kernel_rfl
@[push_cast] theorem fn92x1 : fieldN Tryz.prog 92 1 = some (90, 1) := by kernel_rfl
@[push_cast] theorem pl92 : placesT Tryz.prog 92 = some [(0, 1), (1, 1)] := by kernel_rfl
@[push_cast] theorem sz93 : sizeT Tryz.prog 93 = some 1 := by kernel_rfl
@[push_cast] theorem ag93 : aggT Tryz.prog 93 = some false := by kernel_rfl
@[push_cast] theorem el93 : elemT Tryz.prog 93 = some 124 := by kernel_rfl
@[push_cast] theorem fn94x0 : fieldN Tryz.prog 94 0 = some (4, 0) := by kernel_rfl
@[push_cast] theorem fn94x1 : fieldN Tryz.prog 94 1 = some (22, 1) := by kernel_rfl
@[push_cast] theorem fn94x2 : fieldN Tryz.prog 94 2 = some (93, 2) := by kernel_rfl
@[push_cast] theorem ze95 : zeroT Tryz.prog 95 = some (.agg [.bool false, .nils, .nils]) := by kernel_rfl
@[push_cast] theorem fn95x0 : fieldN Tryz.prog 95 0 = some (4, 0) := by kernel_rfl
@[push_cast] theorem fn95x1 : fieldN Tryz.prog 95 1 = some (22, 1) := by kernel_rfl
@[push_cast] theorem fn95x2 : fieldN Tryz.prog 95 2 = some (93, 2) := by kernel_rfl
@[push_cast] theorem pl95 : placesT Tryz.prog 95 = some [(0, 1), (1, 1), (2, 1)] := by kernel_rfl
@[push_cast] theorem fn98x0 : fieldN Tryz.prog 98 0 = some (44, 0) := by kernel_rfl
@[push_cast] theorem fn98x1 : fieldN Tryz.prog 98 1 = some (96, 1) := by kernel_rfl
@[push_cast] theorem fn98x2 : fieldN Tryz.prog 98 2 = some (97, 2) := by kernel_rfl
@[push_cast] theorem fn99x0 : fieldN Tryz.prog 99 0 = some (44, 0) := by kernel_rfl
@[push_cast] theorem fn99x1 : fieldN Tryz.prog 99 1 = some (96, 1) := by kernel_rfl
@[push_cast] theorem fn99x2 : fieldN Tryz.prog 99 2 = some (97, 2) := by kernel_rfl
@[push_cast] theorem fn100x0 : fieldN Tryz.prog 100 0 = some (99, 0) := by kernel_rfl
@[push_cast] theorem fn100x1 : fieldN Tryz.prog 100 1 = some (4, 3) := by kernel_rfl
@[push_cast] theorem fn101x0 : fieldN Tryz.prog 101 0 = some (99, 0) := by kernel_rfl
@[push_cast] theorem fn101x1 : fieldN Tryz.prog 101 1 = some (4, 3) := by kernel_rfl
@[push_cast] theorem fn104x0 : fieldN Tryz.prog 104 0 = some (46, 0) := by kernel_rfl
@[push_cast] theorem fn105x0 : fieldN Tryz.prog 105 0 = some (46, 0) := by kernel_rfl
@[push_cast] theorem sz116 : sizeT Tryz.prog 116 = some 1 := by kernel_rfl
@[push_cast] theorem ag116 : aggT Tryz.prog 116 = some false := by kernel_rfl
@[push_cast] theorem ze116 : zeroT Tryz.prog 116 = some (.nilp) := by kernel_rfl
@[push_cast] theorem sz118 : sizeT Tryz.prog 118 = some 1 := by kernel_rfl
@[push_cast] theorem ag118 : aggT Tryz.prog 118 = some false := by kernel_rfl
@[push_cast] theorem el118 : elemT Tryz.prog 118 = some 128 := by kernel_rfl
@[push_cast] theorem fn119x0 : fieldN Tryz.prog 119 0 = some (87, 0) := by kernel_rfl
@[push_cast] theorem fn119x1 : fieldN Tryz.prog 119 1 = some (118, 2) := by kernel_rfl
@[push_cast] theorem fn119x2 : fieldN Tryz.prog 119 2 = some (4, 3) := by kernel_rfl
@[push_cast] theorem ze120 : zeroT Tryz.prog 120 = some (.agg [.str ⟨#[]⟩, .nils, .nils, .bool false]) := by kernel_rfl
@[push_cast] theorem fn120x0 : fieldN Tryz.prog 120 0 = some (87, 0) := by kernel_rfl
@[push_cast] theorem fn120x1 : fieldN Tryz.prog 120 1 = some (118, 2) := by kernel_rfl
@[push_cast] theorem fn120x2 : fieldN Tryz.prog 120 2 = some (4, 3) := by kernel_rfl
@[push_cast] theorem pl120 : placesT Tryz.prog 120 = some [(0, 2), (2, 1), (3, 1)] := by kernel_rfl
@[push_cast] theorem fn123x0 : fieldN Tryz.prog 123 0 = some (50, 0) := by kernel_rfl
@[push_cast] theorem fn123x1 : fieldN Tryz.prog 123 1 = some (9, 4) := by kernel_rfl
@[push_cast] theorem fn123x2 : fieldN Tryz.prog 123 2 = some (4, 5) := by kernel_rfl
@[push_cast] theorem fn123x3 : fieldN Tryz.prog 123 3 = some (118, 6) := by kernel_rfl
@[push_cast] theorem sz124 : sizeT Tryz.prog 124 = some 7 := by kernel_rfl
@[push_cast] theorem ze124 : zeroT Tryz.prog 124 = some (.agg [.str ⟨#[]⟩, .int .i64 0, .int .i64 0, .str ⟨#[]⟩, .str ⟨#[]⟩, .bool false, .nils]) := by kernel_rfl
@[push_cast] theorem fn124x0 : fieldN Tryz.prog 124 0 = some (50, 0) := by kernel_rfl
@[push_cast] theorem fn124x1 : fieldN Tryz.prog 124 1 = some (9, 4) := by kernel_rfl
@[push_cast] theorem fn124x2 : fieldN Tryz.prog 124 2 = some (4, 5) := by kernel_rfl
@[push_cast] theorem fn124x3 : fieldN Tryz.prog 124 3 = some (118, 6) := by kernel_rfl
@[push_cast] theorem pl124 : placesT Tryz.prog 124 = some [(0, 4), (4, 1), (5, 1), (6, 1)] := by kernel_rfl
@[push_cast] theorem sz128 : sizeT Tryz.prog 128 = some 1 := by kernel_rfl
@[push_cast] theorem ag128 : aggT Tryz.prog 128 = some false := by kernel_rfl
@[push_cast] theorem ze128 : zeroT Tryz.prog 128 = some (.nils) := by kernel_rfl
@[push_cast] theorem el128 : elemT Tryz.prog 128 = some 3 := by kernel_rfl
@[push_cast] theorem fn133x0 : fieldN Tryz.prog 133 0 = some (9, 0) := by kernel_rfl
@[push_cast] theorem fn133x1 : fieldN Tryz.prog 133 1 = some (3, 1) := by kernel_rfl
@[push_cast] theorem sz134 : sizeT Tryz.prog 134 = some 2 := by kernel_rfl
@[push_cast] theorem ag134 : aggT Tryz.prog 134 = some true := by kernel_rfl
@[push_cast] theorem ze134 : zeroT Tryz.prog 134 = some (.agg [.str ⟨#[]⟩, .int .i64 0]) := by kernel_rfl
@[push_cast] theorem fn134x0 : fieldN Tryz.prog 134 0 = some (9, 0) := by kernel_rfl
@[push_cast] theorem fn134x1 : fieldN Tryz.prog 134 1 = some (3, 1) := by kernel_rfl
@[push_cast] theorem pl134 : placesT Tryz.prog 134 = some [(0, 1), (1, 1)] := by kernel_rfl
@[push_cast] theorem el143 : elemT Tryz.prog 143 = some 116 := by kernel_rfl
@[push_cast] theorem fn151x0 : fieldN Tryz.prog 151 0 = some (59, 0) := by kernel_rfl
@[push_cast] theorem fn151x1 : fieldN Tryz.prog 151 1 = some (9, 1) := by kernel_rfl
@[push_cast] theorem sz152 : sizeT Tryz.prog 152 = some 2 := by kernel_rfl
@[push_cast] theorem ze152 : zeroT Tryz.prog 152 = some (.agg [.int .i64 0, .str ⟨#[]⟩]) := by kernel_rfl
@[push_cast] theorem fn152x0 : fieldN Tryz.prog 152 0 = some (59, 0) := by kernel_rfl
@[push_cast] theorem fn152x1 : fieldN Tryz.prog 152 1 = some (9, 1) := by kernel_rfl
@[push_cast] theorem pl152 : placesT Tryz.prog 152 = some [(0, 1), (1, 1)] := by kernel_rfl
@[push_cast] theorem fn161x0 : fieldN Tryz.prog 161 0 = some (27, 0) := by kernel_rfl
@[push_cast] theorem fn161x1 : fieldN Tryz.prog 161 1 = some (9, 1) := by kernel_rfl
@[push_cast] theorem ze162 : zeroT Tryz.prog 162 = some (.agg [.nils, .str ⟨#[]⟩]) := by kernel_rfl
@[push_cast] theorem fn162x0 : fieldN Tryz.prog 162 0 = some (27, 0) := by kernel_rfl
@[push_cast] theorem fn162x1 : fieldN Tryz.prog 162 1 = some (9, 1) := by kernel_rfl
@[push_cast] theorem fn243x0 : fieldN Tryz.prog 243 0 = some (17, 0) := by kernel_rfl
@[push_cast] theorem fn243x1 : fieldN Tryz.prog 243 1 = some (17, 1) := by kernel_rfl
@[push_cast] theorem fn243x2 : fieldN Tryz.prog 243 2 = some (17, 2) := by kernel_rfl
@[push_cast] theorem fn243x3 : fieldN Tryz.prog 243 3 = some (9, 3) := by kernel_rfl
@[push_cast] theorem fn244x0 : fieldN Tryz.prog 244 0 = some (17, 0) := by kernel_rfl
@[push_cast] theorem fn244x1 : fieldN Tryz.prog 244 1 = some (17, 1) := by kernel_rfl
@[push_cast] theorem fn244x2 : fieldN Tryz.prog 244 2 = some (17, 2) := by kernel_rfl
@[push_cast] theorem fn244x3 : fieldN Tryz.prog 244 3 = some (9, 3) := by kernel_rfl
@[push_cast] theorem fn246x0 : fieldN Tryz.prog 246 0 = some (245, 0) := by kernel_rfl
@[push_cast] theorem fn247x0 : fieldN Tryz.prog 247 0 = some (245, 0) := by kernel_rfl
@[push_cast] theorem fn255x0 : fieldN Tryz.prog 255 0 = some (12, 0) := by kernel_rfl
@[push_cast] theorem fn255x1 : fieldN Tryz.prog 255 1 = some (12, 1) := by kernel_rfl
@[push_cast] theorem fn255x2 : fieldN Tryz.prog 255 2 = some (217, 2) := by kernel_rfl
@[push_cast] theorem fn255x3 : fieldN Tryz.prog 255 3 = some (249, 3) := by kernel_rfl
@[push_cast] theorem fn255x4 : fieldN Tryz.prog 255 4 = some (5, 4) := by kernel_rfl
@[push_cast] theorem fn255x5 : fieldN Tryz.prog 255 5 = some (5, 5) := by kernel_rfl
@[push_cast] theorem fn255x6 : fieldN Tryz.prog 255 6 = some (250, 6) := by kernel_rfl
@[push_cast] theorem fn255x7 : fieldN Tryz.prog 255 7 = some (251, 7) := by kernel_rfl
@[push_cast] theorem fn255x8 : fieldN Tryz.prog 255 8 = some (252, 8) := by kernel_rfl
@[push_cast] theorem fn255x9 : fieldN Tryz.prog 255 9 = some (253, 9) := by kernel_rfl
@[push_cast] theorem fn255x10 : fieldN Tryz.prog 255 10 = some (254, 10) := by kernel_rfl
@[push_cast] theorem fn256x0 : fieldN Tryz.prog 256 0 = some (12, 0) := by kernel_rfl
@[push_cast] theorem fn256x1 : fieldN Tryz.prog 256 1 = some (12, 1) := by kernel_rfl
@[push_cast] theorem fn256x2 : fieldN Tryz.prog 256 2 = some (217, 2) := by kernel_rfl
@[push_cast] theorem fn256x3 : fieldN Tryz.prog 256 3 = some (249, 3) := by kernel_rfl
@[push_cast] theorem fn256x4 : fieldN Tryz.prog 256 4 = some (5, 4) := by kernel_rfl
@[push_cast] theorem fn256x5 : fieldN Tryz.prog 256 5 = some (5, 5) := by kernel_rfl
@[push_cast] theorem fn256x6 : fieldN Tryz.prog 256 6 = some (250, 6) := by kernel_rfl
@[push_cast] theorem fn256x7 : fieldN Tryz.prog 256 7 = some (251, 7) := by kernel_rfl
@[push_cast] theorem fn256x8 : fieldN Tryz.prog 256 8 = some (252, 8) := by kernel_rfl
@[push_cast] theorem fn256x9 : fieldN Tryz.prog 256 9 = some (253, 9) := by kernel_rfl
@[push_cast] theorem fn256x10 : fieldN Tryz.prog 256 10 = some (254, 10) := by kernel_rfl
attribute [push_cast] Tryz.underlying0 Tryz.underlying1 Tryz.underlying2 Tryz.underlying3 Tryz.underlying4 Tryz.underlying5 Tryz.underlying6 Tryz.underlying7 Tryz.underlying8 Tryz.underlying9 Tryz.underlying10 Tryz.underlying11 Tryz.underlying12 Tryz.underlying13 Tryz.underlying14 Tryz.underlying15 Tryz.underlying16 Tryz.underlying17 Tryz.underlying18 Tryz.underlying19
attribute [push_cast] Tryz.underlying20 Tryz.underlying21 Tryz.underlying22 Tryz.underlying23 Tryz.underlying24 Tryz.underlying25 Tryz.underlying26 Tryz.underlying27 Tryz.underlying28 Tryz.underlying29 Tryz.underlying30 Tryz.underlying31 Tryz.underlying32 Tryz.underlying33 Tryz.underlying34 Tryz.underlying35 Tryz.underlying36 Tryz.underlying37 Tryz.underlying38 Tryz.underlying39
attribute [push_cast] Tryz.underlying40 Tryz.underlying41 Tryz.underlying42 Tryz.underlying43 Tryz.underlying44 Tryz.underlying45 Tryz.underlying46 Tryz.underlying47 Tryz.underlying48 Tryz.underlying49 Tryz.underlying50 Tryz.underlying51 Tryz.underlying52 Tryz.underlying53 Tryz.underlying54 Tryz.underlying55 Tryz.underlying56 Tryz.underlying57 Tryz.underlying58 Tryz.underlying59
attribute [push_cast] Tryz.underlying60 Tryz.underlying61 Tryz.underlying62 Tryz.underlying63 Tryz.underlying64 Tryz.underlying65 Tryz.underlying66 Tryz.underlying67 Tryz.underlying68 Tryz.underlying69 Tryz.underlying70 Tryz.underlying71 Tryz.underlying72 Tryz.underlying73 Tryz.underlying74 Tryz.underlying75 Tryz.underlying76 Tryz.underlying77 Tryz.underlying78 Tryz.underlying79
attribute [push_cast] Tryz.underlying80 Tryz.underlying81 Tryz.underlying82 Tryz.underlying83 Tryz.underlying84 Tryz.underlying85 Tryz.underlying86 Tryz.underlying87 Tryz.underlying88 Tryz.underlying89 Tryz.underlying90 Tryz.underlying91 Tryz.underlying92 Tryz.underlying93 Tryz.underlying94 Tryz.underlying95 Tryz.underlying96 Tryz.underlying97 Tryz.underlying98 Tryz.underlying99
attribute [push_cast] Tryz.underlying100 Tryz.underlying101 Tryz.underlying102 Tryz.underlying103 Tryz.underlying104 Tryz.underlying105 Tryz.underlying106 Tryz.underlying107 Tryz.underlying108 Tryz.underlying109 Tryz.underlying110 Tryz.underlying111 Tryz.underlying112 Tryz.underlying113 Tryz.underlying114 Tryz.underlying115 Tryz.underlying116 Tryz.underlying117 Tryz.underlying118 Tryz.underlying119
attribute [push_cast] Tryz.underlying120 Tryz.underlying121 Tryz.underlying122 Tryz.underlying123 Tryz.underlying124 Tryz.underlying125 Tryz.underlying126 Tryz.underlying127 Tryz.underlying128 Tryz.underlying129 Tryz.underlying130 Tryz.underlying131 Tryz.underlying132 Tryz.underlying133 Tryz.underlying134 Tryz.underlying135 Tryz.underlying136 Tryz.underlying137 Tryz.underlying138 Tryz.underlying139
attribute [push_cast] Tryz.underlying140 Tryz.underlying141 Tryz.underlying142 Tryz.underlying143 Tryz.underlying144 Tryz.underlying145 Tryz.underlying146 Tryz.underlying147 Tryz.underlying148 Tryz.underlying149 Tryz.underlying150 Tryz.underlying151 Tryz.underlying152 Tryz.underlying153 Tryz.underlying154 Tryz.underlying155 Tryz.underlying156 Tryz.underlying157 Tryz.underlying158 Tryz.underlying159
attribute [push_cast] Tryz.underlying160 Tryz.underlying161 Tryz.underlying162 Tryz.underlying163 Tryz.underlying164 Tryz.underlying165 Tryz.underlying166 Tryz.underlying167 Tryz.underlying168 Tryz.underlying169 Tryz.underlying170 Tryz.underlying171 Tryz.underlying172 Tryz.underlying173 Tryz.underlying174 Tryz.underlying175 Tryz.underlying176 Tryz.underlying177 Tryz.underlying178 Tryz.underlying179
attribute [push_cast] Tryz.underlying180 Tryz.underlying181 Tryz.underlying182 Tryz.underlying183 Tryz.underlying184 Tryz.underlying185 Tryz.underlying186 Tryz.underlying187 Tryz.underlying188 Tryz.underlying189 Tryz.underlying190 Tryz.underlying191 Tryz.underlying192 Tryz.underlying193 Tryz.underlying194 Tryz.underlying195 Tryz.underlying196 Tryz.underlying197 Tryz.underlying198 Tryz.underlying199
attribute [push_cast] Tryz.underlying200 Tryz.underlying201 Tryz.underlying202 Tryz.underlying203 Tryz.underlying204 Tryz.underlying205 Tryz.underlying206 Tryz.underlying207 Tryz.underlying208 Tryz.underlying209 Tryz.underlying210 Tryz.underlying211 Tryz.underlying212 Tryz.underlying213 Tryz.underlying214 Tryz.underlying215 Tryz.underlying216 Tryz.underlying217 Tryz.underlying218 Tryz.underlying219
attribute [push_cast] Tryz.underlying220 Tryz.underlying221 Tryz.underlying222 Tryz.underlying223 Tryz.underlying224 Tryz.underlying225 Tryz.underlying226 Tryz.underlying227 Tryz.underlying228 Tryz.underlying229 Tryz.underlying230 Tryz.underlying231 Tryz.underlying232 Tryz.underlying233 Tryz.underlying234 Tryz.underlying235 Tryz.underlying236 Tryz.underlying237 Tryz.underlying238 Tryz.underlying239
attribute [push_cast] Tryz.underlying240 Tryz.underlying241 Tryz.underlying242 Tryz.underlying243 Tryz.underlying244 Tryz.underlying245 Tryz.underlying246 Tryz.underlying247 Tryz.underlying248 Tryz.underlying249 Tryz.underlying250 Tryz.underlying251 Tryz.underlying252 Tryz.underlying253 Tryz.underlying254 Tryz.underlying255 Tryz.underlying256 Tryz.underlying257
end Go.Proofs.YtajhgnefcddenaaGreatDoor.Dm
