/-
  What the machine of XDm asks of this seat's types: sizes, zero values, places of fields. By program (wip/tools/types.py).
-/
import Derived.Test.YtajhgnefcddenaaDoorEnvL
namespace Go.Proofs.YtajhgnefcddenaaDoor.Dm
open Go
@[push_cast] theorem E_P (pr : PrimF) : (envOf pr).P = Tryd.prog := rfl
@[push_cast] theorem E_G (pr : PrimF) (g : Nat) : (envOf pr).G g = none := rfl
@[push_cast] theorem sz0 : sizeT Tryd.prog 0 = some 1 := by kernel_rfl
@[push_cast] theorem sz1 : sizeT Tryd.prog 1 = some 1 := by kernel_rfl
@[push_cast] theorem sz3 : sizeT Tryd.prog 3 = some 1 := by kernel_rfl
@[push_cast] theorem ag3 : aggT Tryd.prog 3 = some false := by kernel_rfl
@[push_cast] theorem ze3 : zeroT Tryd.prog 3 = some (.int .i64 0) := by kernel_rfl
@[push_cast] theorem by3 : bytesT Tryd.prog 3 = 8 := by kernel_rfl
@[push_cast] theorem sz4 : sizeT Tryd.prog 4 = some 1 := by kernel_rfl
@[push_cast] theorem ag4 : aggT Tryd.prog 4 = some false := by kernel_rfl
@[push_cast] theorem ze4 : zeroT Tryd.prog 4 = some (.bool false) := by kernel_rfl
@[push_cast] theorem fn7x0 : fieldN Tryd.prog 7 0 = some (2, 0) := by kernel_rfl
@[push_cast] theorem fn7x1 : fieldN Tryd.prog 7 1 = some (3, 1) := by kernel_rfl
@[push_cast] theorem fn7x2 : fieldN Tryd.prog 7 2 = some (4, 2) := by kernel_rfl
@[push_cast] theorem fn7x3 : fieldN Tryd.prog 7 3 = some (6, 3) := by kernel_rfl
@[push_cast] theorem fn8x0 : fieldN Tryd.prog 8 0 = some (2, 0) := by kernel_rfl
@[push_cast] theorem fn8x1 : fieldN Tryd.prog 8 1 = some (3, 1) := by kernel_rfl
@[push_cast] theorem fn8x2 : fieldN Tryd.prog 8 2 = some (4, 2) := by kernel_rfl
@[push_cast] theorem fn8x3 : fieldN Tryd.prog 8 3 = some (6, 3) := by kernel_rfl
@[push_cast] theorem sz9 : sizeT Tryd.prog 9 = some 1 := by kernel_rfl
@[push_cast] theorem ag9 : aggT Tryd.prog 9 = some false := by kernel_rfl
@[push_cast] theorem fn13x0 : fieldN Tryd.prog 13 0 = some (9, 0) := by kernel_rfl
@[push_cast] theorem fn13x1 : fieldN Tryd.prog 13 1 = some (12, 1) := by kernel_rfl
@[push_cast] theorem fn14x0 : fieldN Tryd.prog 14 0 = some (9, 0) := by kernel_rfl
@[push_cast] theorem fn14x1 : fieldN Tryd.prog 14 1 = some (12, 1) := by kernel_rfl
@[push_cast] theorem fn18x0 : fieldN Tryd.prog 18 0 = some (17, 0) := by kernel_rfl
@[push_cast] theorem fn19x0 : fieldN Tryd.prog 19 0 = some (17, 0) := by kernel_rfl
@[push_cast] theorem sz22 : sizeT Tryd.prog 22 = some 1 := by kernel_rfl
@[push_cast] theorem ag22 : aggT Tryd.prog 22 = some false := by kernel_rfl
@[push_cast] theorem el22 : elemT Tryd.prog 22 = some 61 := by kernel_rfl
@[push_cast] theorem fn23x0 : fieldN Tryd.prog 23 0 = some (3, 0) := by kernel_rfl
@[push_cast] theorem fn23x1 : fieldN Tryd.prog 23 1 = some (22, 1) := by kernel_rfl
@[push_cast] theorem fn23x2 : fieldN Tryd.prog 23 2 = some (9, 2) := by kernel_rfl
@[push_cast] theorem fn23x3 : fieldN Tryd.prog 23 3 = some (3, 3) := by kernel_rfl
@[push_cast] theorem fn23x4 : fieldN Tryd.prog 23 4 = some (3, 4) := by kernel_rfl
@[push_cast] theorem fn24x0 : fieldN Tryd.prog 24 0 = some (3, 0) := by kernel_rfl
@[push_cast] theorem fn24x1 : fieldN Tryd.prog 24 1 = some (22, 1) := by kernel_rfl
@[push_cast] theorem fn24x2 : fieldN Tryd.prog 24 2 = some (9, 2) := by kernel_rfl
@[push_cast] theorem fn24x3 : fieldN Tryd.prog 24 3 = some (3, 3) := by kernel_rfl
@[push_cast] theorem fn24x4 : fieldN Tryd.prog 24 4 = some (3, 4) := by kernel_rfl
@[push_cast] theorem sz26 : sizeT Tryd.prog 26 = some 1 := by kernel_rfl
@[push_cast] theorem ag26 : aggT Tryd.prog 26 = some false := by kernel_rfl
@[push_cast] theorem sz27 : sizeT Tryd.prog 27 = some 1 := by kernel_rfl
@[push_cast] theorem ag27 : aggT Tryd.prog 27 = some false := by kernel_rfl
@[push_cast] theorem sz31 : sizeT Tryd.prog 31 = some 1 := by kernel_rfl
@[push_cast] theorem ag31 : aggT Tryd.prog 31 = some false := by kernel_rfl
@[push_cast] theorem el31 : elemT Tryd.prog 31 = some 39 := by kernel_rfl
@[push_cast] theorem sz32 : sizeT Tryd.prog 32 = some 1 := by kernel_rfl
@[push_cast] theorem sz33 : sizeT Tryd.prog 33 = some 1 := by kernel_rfl
@[push_cast] theorem ag33 : aggT Tryd.prog 33 = some false := by kernel_rfl
@[push_cast] theorem fn34x0 : fieldN Tryd.prog 34 0 = some (31, 0) := by kernel_rfl
@[push_cast] theorem fn34x1 : fieldN Tryd.prog 34 1 = some (32, 1) := by kernel_rfl
@[push_cast] theorem fn34x2 : fieldN Tryd.prog 34 2 = some (33, 2) := by kernel_rfl
@[push_cast] theorem sz35 : sizeT Tryd.prog 35 = some 3 := by kernel_rfl
@[push_cast] theorem fn35x0 : fieldN Tryd.prog 35 0 = some (31, 0) := by kernel_rfl
@[push_cast] theorem fn35x1 : fieldN Tryd.prog 35 1 = some (32, 1) := by kernel_rfl
@[push_cast] theorem fn35x2 : fieldN Tryd.prog 35 2 = some (33, 2) := by kernel_rfl
@[push_cast] theorem fn36x0 : fieldN Tryd.prog 36 0 = some (35, 0) := by kernel_rfl
@[push_cast] theorem fn36x1 : fieldN Tryd.prog 36 1 = some (4, 3) := by kernel_rfl
@[push_cast] theorem ze37 : zeroT Tryd.prog 37 = some (.agg [.nils, .nilf, .nilf, .bool false]) := by kernel_rfl
@[push_cast] theorem fn37x0 : fieldN Tryd.prog 37 0 = some (35, 0) := by kernel_rfl
@[push_cast] theorem fn37x1 : fieldN Tryd.prog 37 1 = some (4, 3) := by kernel_rfl
@[push_cast] theorem pl37 : placesT Tryd.prog 37 = some [(0, 3), (3, 1)] := by kernel_rfl
@[push_cast] theorem sz39 : sizeT Tryd.prog 39 = some 5 := by kernel_rfl
@[push_cast] theorem ag39 : aggT Tryd.prog 39 = some true := by kernel_rfl
@[push_cast] theorem ze39 : zeroT Tryd.prog 39 = some (.agg [.int .i64 0, .nils, .str ⟨#[]⟩, .int .i64 0, .int .i64 0]) := by kernel_rfl
@[push_cast] theorem fn39x0 : fieldN Tryd.prog 39 0 = some (3, 0) := by kernel_rfl
@[push_cast] theorem fn39x1 : fieldN Tryd.prog 39 1 = some (22, 1) := by kernel_rfl
@[push_cast] theorem fn39x2 : fieldN Tryd.prog 39 2 = some (9, 2) := by kernel_rfl
@[push_cast] theorem fn39x3 : fieldN Tryd.prog 39 3 = some (3, 3) := by kernel_rfl
@[push_cast] theorem fn39x4 : fieldN Tryd.prog 39 4 = some (3, 4) := by kernel_rfl
@[push_cast] theorem pl39 : placesT Tryd.prog 39 = some [(0, 1), (1, 1), (2, 1), (3, 1), (4, 1)] := by kernel_rfl
@[push_cast] theorem fn51x0 : fieldN Tryd.prog 51 0 = some (9, 0) := by kernel_rfl
@[push_cast] theorem fn51x1 : fieldN Tryd.prog 51 1 = some (3, 1) := by kernel_rfl
@[push_cast] theorem sz52 : sizeT Tryd.prog 52 = some 2 := by kernel_rfl
@[push_cast] theorem ag52 : aggT Tryd.prog 52 = some true := by kernel_rfl
@[push_cast] theorem ze52 : zeroT Tryd.prog 52 = some (.agg [.str ⟨#[]⟩, .int .i64 0]) := by kernel_rfl
@[push_cast] theorem fn52x0 : fieldN Tryd.prog 52 0 = some (9, 0) := by kernel_rfl
@[push_cast] theorem fn52x1 : fieldN Tryd.prog 52 1 = some (3, 1) := by kernel_rfl
@[push_cast] theorem pl52 : placesT Tryd.prog 52 = some [(0, 1), (1, 1)] := by kernel_rfl
@[push_cast] theorem sz53 : sizeT Tryd.prog 53 = some 1 := by kernel_rfl
@[push_cast] theorem ag53 : aggT Tryd.prog 53 = some false := by kernel_rfl
@[push_cast] theorem el53 : elemT Tryd.prog 53 = some 52 := by kernel_rfl
@[push_cast] theorem fn54x0 : fieldN Tryd.prog 54 0 = some (9, 0) := by kernel_rfl
@[push_cast] theorem fn54x1 : fieldN Tryd.prog 54 1 = some (3, 1) := by kernel_rfl
@[push_cast] theorem fn54x2 : fieldN Tryd.prog 54 2 = some (3, 2) := by kernel_rfl
@[push_cast] theorem fn54x3 : fieldN Tryd.prog 54 3 = some (53, 3) := by kernel_rfl
@[push_cast] theorem sz55 : sizeT Tryd.prog 55 = some 4 := by kernel_rfl
@[push_cast] theorem ag55 : aggT Tryd.prog 55 = some true := by kernel_rfl
@[push_cast] theorem ze55 : zeroT Tryd.prog 55 = some (.agg [.str ⟨#[]⟩, .int .i64 0, .int .i64 0, .nils]) := by kernel_rfl
@[push_cast] theorem fn55x0 : fieldN Tryd.prog 55 0 = some (9, 0) := by kernel_rfl
@[push_cast] theorem fn55x1 : fieldN Tryd.prog 55 1 = some (3, 1) := by kernel_rfl
@[push_cast] theorem fn55x2 : fieldN Tryd.prog 55 2 = some (3, 2) := by kernel_rfl
@[push_cast] theorem fn55x3 : fieldN Tryd.prog 55 3 = some (53, 3) := by kernel_rfl
@[push_cast] theorem pl55 : placesT Tryd.prog 55 = some [(0, 1), (1, 1), (2, 1), (3, 1)] := by kernel_rfl
@[push_cast] theorem sz56 : sizeT Tryd.prog 56 = some 1 := by kernel_rfl
@[push_cast] theorem ag56 : aggT Tryd.prog 56 = some false := by kernel_rfl
@[push_cast] theorem el56 : elemT Tryd.prog 56 = some 55 := by kernel_rfl
@[push_cast] theorem fn57x0 : fieldN Tryd.prog 57 0 = some (9, 0) := by kernel_rfl
@[push_cast] theorem fn57x1 : fieldN Tryd.prog 57 1 = some (56, 1) := by kernel_rfl
@[push_cast] theorem sz58 : sizeT Tryd.prog 58 = some 2 := by kernel_rfl
@[push_cast] theorem ag58 : aggT Tryd.prog 58 = some true := by kernel_rfl
@[push_cast] theorem ze58 : zeroT Tryd.prog 58 = some (.agg [.str ⟨#[]⟩, .nils]) := by kernel_rfl
@[push_cast] theorem fn58x0 : fieldN Tryd.prog 58 0 = some (9, 0) := by kernel_rfl
@[push_cast] theorem fn58x1 : fieldN Tryd.prog 58 1 = some (56, 1) := by kernel_rfl
@[push_cast] theorem pl58 : placesT Tryd.prog 58 = some [(0, 1), (1, 1)] := by kernel_rfl
@[push_cast] theorem sz59 : sizeT Tryd.prog 59 = some 1 := by kernel_rfl
@[push_cast] theorem ag59 : aggT Tryd.prog 59 = some false := by kernel_rfl
@[push_cast] theorem el59 : elemT Tryd.prog 59 = some 58 := by kernel_rfl
@[push_cast] theorem fn60x0 : fieldN Tryd.prog 60 0 = some (9, 0) := by kernel_rfl
@[push_cast] theorem fn60x1 : fieldN Tryd.prog 60 1 = some (3, 1) := by kernel_rfl
@[push_cast] theorem fn60x2 : fieldN Tryd.prog 60 2 = some (3, 2) := by kernel_rfl
@[push_cast] theorem fn60x3 : fieldN Tryd.prog 60 3 = some (9, 3) := by kernel_rfl
@[push_cast] theorem sz61 : sizeT Tryd.prog 61 = some 4 := by kernel_rfl
@[push_cast] theorem ag61 : aggT Tryd.prog 61 = some true := by kernel_rfl
@[push_cast] theorem ze61 : zeroT Tryd.prog 61 = some (.agg [.str ⟨#[]⟩, .int .i64 0, .int .i64 0, .str ⟨#[]⟩]) := by kernel_rfl
@[push_cast] theorem fn61x0 : fieldN Tryd.prog 61 0 = some (9, 0) := by kernel_rfl
@[push_cast] theorem fn61x1 : fieldN Tryd.prog 61 1 = some (3, 1) := by kernel_rfl
@[push_cast] theorem fn61x2 : fieldN Tryd.prog 61 2 = some (3, 2) := by kernel_rfl
@[push_cast] theorem fn61x3 : fieldN Tryd.prog 61 3 = some (9, 3) := by kernel_rfl
@[push_cast] theorem pl61 : placesT Tryd.prog 61 = some [(0, 1), (1, 1), (2, 1), (3, 1)] := by kernel_rfl
@[push_cast] theorem sz67 : sizeT Tryd.prog 67 = some 1 := by kernel_rfl
@[push_cast] theorem ag67 : aggT Tryd.prog 67 = some false := by kernel_rfl
@[push_cast] theorem fn68x0 : fieldN Tryd.prog 68 0 = some (59, 0) := by kernel_rfl
@[push_cast] theorem fn68x1 : fieldN Tryd.prog 68 1 = some (67, 1) := by kernel_rfl
@[push_cast] theorem ze69 : zeroT Tryd.prog 69 = some (.agg [.nils, .nilm]) := by kernel_rfl
@[push_cast] theorem fn69x0 : fieldN Tryd.prog 69 0 = some (59, 0) := by kernel_rfl
@[push_cast] theorem fn69x1 : fieldN Tryd.prog 69 1 = some (67, 1) := by kernel_rfl
@[push_cast] theorem pl69 : placesT Tryd.prog 69 = some [(0, 1), (1, 1)] := by kernel_rfl
@[push_cast] theorem sz79 : sizeT Tryd.prog 79 = some 1 := by kernel_rfl
@[push_cast] theorem ag79 : aggT Tryd.prog 79 = some false := by kernel_rfl
@[push_cast] theorem ze79 : zeroT Tryd.prog 79 = some (.nilp) := by kernel_rfl
@[push_cast] theorem sz82 : sizeT Tryd.prog 82 = some 1 := by kernel_rfl
@[push_cast] theorem ag82 : aggT Tryd.prog 82 = some false := by kernel_rfl
@[push_cast] theorem el82 : elemT Tryd.prog 82 = some 94 := by kernel_rfl
@[push_cast] theorem fn84x0 : fieldN Tryd.prog 84 0 = some (58, 0) := by kernel_rfl
@[push_cast] theorem fn84x1 : fieldN Tryd.prog 84 1 = some (82, 2) := by kernel_rfl
@[push_cast] theorem fn84x2 : fieldN Tryd.prog 84 2 = some (4, 3) := by kernel_rfl
@[push_cast] theorem ze85 : zeroT Tryd.prog 85 = some (.agg [.str ⟨#[]⟩, .nils, .nils, .bool false]) := by kernel_rfl
@[push_cast] theorem fn85x0 : fieldN Tryd.prog 85 0 = some (58, 0) := by kernel_rfl
@[push_cast] theorem fn85x1 : fieldN Tryd.prog 85 1 = some (82, 2) := by kernel_rfl
@[push_cast] theorem fn85x2 : fieldN Tryd.prog 85 2 = some (4, 3) := by kernel_rfl
@[push_cast] theorem pl85 : placesT Tryd.prog 85 = some [(0, 2), (2, 1), (3, 1)] := by kernel_rfl
@[push_cast] theorem el86 : elemT Tryd.prog 86 = some 79 := by kernel_rfl
@[push_cast] theorem sz94 : sizeT Tryd.prog 94 = some 1 := by kernel_rfl
@[push_cast] theorem ag94 : aggT Tryd.prog 94 = some false := by kernel_rfl
@[push_cast] theorem ze94 : zeroT Tryd.prog 94 = some (.nils) := by kernel_rfl
@[push_cast] theorem el94 : elemT Tryd.prog 94 = some 3 := by kernel_rfl
@[push_cast] theorem fn96x0 : fieldN Tryd.prog 96 0 = some (27, 0) := by kernel_rfl
@[push_cast] theorem fn96x1 : fieldN Tryd.prog 96 1 = some (9, 1) := by kernel_rfl
@[push_cast] theorem ze97 : zeroT Tryd.prog 97 = some (.agg [.nils, .str ⟨#[]⟩]) := by kernel_rfl
@[push_cast] theorem fn97x0 : fieldN Tryd.prog 97 0 = some (27, 0) := by kernel_rfl
@[push_cast] theorem fn97x1 : fieldN Tryd.prog 97 1 = some (9, 1) := by kernel_rfl
@[push_cast] theorem sz103 : sizeT Tryd.prog 103 = some 1 := by kernel_rfl
@[push_cast] theorem ag103 : aggT Tryd.prog 103 = some false := by kernel_rfl
@[push_cast] theorem fn116x0 : fieldN Tryd.prog 116 0 = some (40, 0) := by kernel_rfl
@[push_cast] theorem fn116x1 : fieldN Tryd.prog 116 1 = some (9, 1) := by kernel_rfl
@[push_cast] theorem fn117x0 : fieldN Tryd.prog 117 0 = some (40, 0) := by kernel_rfl
@[push_cast] theorem fn117x1 : fieldN Tryd.prog 117 1 = some (9, 1) := by kernel_rfl
@[push_cast] theorem fn149x0 : fieldN Tryd.prog 149 0 = some (17, 0) := by kernel_rfl
@[push_cast] theorem fn149x1 : fieldN Tryd.prog 149 1 = some (17, 1) := by kernel_rfl
@[push_cast] theorem fn149x2 : fieldN Tryd.prog 149 2 = some (17, 2) := by kernel_rfl
@[push_cast] theorem fn149x3 : fieldN Tryd.prog 149 3 = some (9, 3) := by kernel_rfl
@[push_cast] theorem fn150x0 : fieldN Tryd.prog 150 0 = some (17, 0) := by kernel_rfl
@[push_cast] theorem fn150x1 : fieldN Tryd.prog 150 1 = some (17, 1) := by kernel_rfl
@[push_cast] theorem fn150x2 : fieldN Tryd.prog 150 2 = some (17, 2) := by kernel_rfl
@[push_cast] theorem fn150x3 : fieldN Tryd.prog 150 3 = some (9, 3) := by kernel_rfl
@[push_cast] theorem fn152x0 : fieldN Tryd.prog 152 0 = some (151, 0) := by kernel_rfl
@[push_cast] theorem fn153x0 : fieldN Tryd.prog 153 0 = some (151, 0) := by kernel_rfl
@[push_cast] theorem fn161x0 : fieldN Tryd.prog 161 0 = some (12, 0) := by kernel_rfl
@[push_cast] theorem fn161x1 : fieldN Tryd.prog 161 1 = some (12, 1) := by kernel_rfl
@[push_cast] theorem fn161x2 : fieldN Tryd.prog 161 2 = some (142, 2) := by kernel_rfl
@[push_cast] theorem fn161x3 : fieldN Tryd.prog 161 3 = some (155, 3) := by kernel_rfl
@[push_cast] theorem fn161x4 : fieldN Tryd.prog 161 4 = some (5, 4) := by kernel_rfl
@[push_cast] theorem fn161x5 : fieldN Tryd.prog 161 5 = some (5, 5) := by kernel_rfl
@[push_cast] theorem fn161x6 : fieldN Tryd.prog 161 6 = some (156, 6) := by kernel_rfl
@[push_cast] theorem fn161x7 : fieldN Tryd.prog 161 7 = some (157, 7) := by kernel_rfl
@[push_cast] theorem fn161x8 : fieldN Tryd.prog 161 8 = some (158, 8) := by kernel_rfl
@[push_cast] theorem fn161x9 : fieldN Tryd.prog 161 9 = some (159, 9) := by kernel_rfl
@[push_cast] theorem fn161x10 : fieldN Tryd.prog 161 10 = some (160, 10) := by kernel_rfl
@[push_cast] theorem fn162x0 : fieldN Tryd.prog 162 0 = some (12, 0) := by kernel_rfl
@[push_cast] theorem fn162x1 : fieldN Tryd.prog 162 1 = some (12, 1) := by kernel_rfl
@[push_cast] theorem fn162x2 : fieldN Tryd.prog 162 2 = some (142, 2) := by kernel_rfl
@[push_cast] theorem fn162x3 : fieldN Tryd.prog 162 3 = some (155, 3) := by kernel_rfl
@[push_cast] theorem fn162x4 : fieldN Tryd.prog 162 4 = some (5, 4) := by kernel_rfl
@[push_cast] theorem fn162x5 : fieldN Tryd.prog 162 5 = some (5, 5) := by kernel_rfl
@[push_cast] theorem fn162x6 : fieldN Tryd.prog 162 6 = some (156, 6) := by kernel_rfl
@[push_cast] theorem fn162x7 : fieldN Tryd.prog 162 7 = some (157, 7) := by kernel_rfl
@[push_cast] theorem fn162x8 : fieldN Tryd.prog 162 8 = some (158, 8) := by kernel_rfl
@[push_cast] theorem fn162x9 : fieldN Tryd.prog 162 9 = some (159, 9) := by kernel_rfl
@[push_cast] theorem fn162x10 : fieldN Tryd.prog 162 10 = some (160, 10) := by kernel_rfl
attribute [push_cast] Tryd.underlying0 Tryd.underlying1 Tryd.underlying2 Tryd.underlying3 Tryd.underlying4 Tryd.underlying5 Tryd.underlying6 Tryd.underlying7 Tryd.underlying8 Tryd.underlying9 Tryd.underlying10 Tryd.underlying11 Tryd.underlying12 Tryd.underlying13 Tryd.underlying14 Tryd.underlying15 Tryd.underlying16 Tryd.underlying17 Tryd.underlying18 Tryd.underlying19
attribute [push_cast] Tryd.underlying20 Tryd.underlying21 Tryd.underlying22 Tryd.underlying23 Tryd.underlying24 Tryd.underlying25 Tryd.underlying26 Tryd.underlying27 Tryd.underlying28 Tryd.underlying29 Tryd.underlying30 Tryd.underlying31 Tryd.underlying32 Tryd.underlying33 Tryd.underlying34 Tryd.underlying35 Tryd.underlying36 Tryd.underlying37 Tryd.underlying38 Tryd.underlying39
attribute [push_cast] Tryd.underlying40 Tryd.underlying41 Tryd.underlying42 Tryd.underlying43 Tryd.underlying44 Tryd.underlying45 Tryd.underlying46 Tryd.underlying47 Tryd.underlying48 Tryd.underlying49 Tryd.underlying50 Tryd.underlying51 Tryd.underlying52 Tryd.underlying53 Tryd.underlying54 Tryd.underlying55 Tryd.underlying56 Tryd.underlying57 Tryd.underlying58 Tryd.underlying59
attribute [push_cast] Tryd.underlying60 Tryd.underlying61 Tryd.underlying62 Tryd.underlying63 Tryd.underlying64 Tryd.underlying65 Tryd.underlying66 Tryd.underlying67 Tryd.underlying68 Tryd.underlying69 Tryd.underlying70 Tryd.underlying71 Tryd.underlying72 Tryd.underlying73 Tryd.underlying74 Tryd.underlying75 Tryd.underlying76 Tryd.underlying77 Tryd.underlying78 Tryd.underlying79
attribute [push_cast] Tryd.underlying80 Tryd.underlying81 Tryd.underlying82 Tryd.underlying83 Tryd.underlying84 Tryd.underlying85 Tryd.underlying86 Tryd.underlying87 Tryd.underlying88 Tryd.underlying89 Tryd.underlying90 Tryd.underlying91 Tryd.underlying92 Tryd.underlying93 Tryd.underlying94 Tryd.underlying95 Tryd.underlying96 Tryd.underlying97 Tryd.underlying98 Tryd.underlying99
attribute [push_cast] Tryd.underlying100 Tryd.underlying101 Tryd.underlying102 Tryd.underlying103 Tryd.underlying104 Tryd.underlying105 Tryd.underlying106 Tryd.underlying107 Tryd.underlying108 Tryd.underlying109 Tryd.underlying110 Tryd.underlying111 Tryd.underlying112 Tryd.underlying113 Tryd.underlying114 Tryd.underlying115 Tryd.underlying116 Tryd.underlying117 Tryd.underlying118 Tryd.underlying119
attribute [push_cast] Tryd.underlying120 Tryd.underlying121 Tryd.underlying122 Tryd.underlying123 Tryd.underlying124 Tryd.underlying125 Tryd.underlying126 Tryd.underlying127 Tryd.underlying128 Tryd.underlying129 Tryd.underlying130 Tryd.underlying131 Tryd.underlying132 Tryd.underlying133 Tryd.underlying134 Tryd.underlying135 Tryd.underlying136 Tryd.underlying137 Tryd.underlying138 Tryd.underlying139
attribute [push_cast] Tryd.underlying140 Tryd.underlying141 Tryd.underlying142 Tryd.underlying143 Tryd.underlying144 Tryd.underlying145 Tryd.underlying146 Tryd.underlying147 Tryd.underlying148 Tryd.underlying149 Tryd.underlying150 Tryd.underlying151 Tryd.underlying152 Tryd.underlying153 Tryd.underlying154 Tryd.underlying155 Tryd.underlying156 Tryd.underlying157 Tryd.underlying158 Tryd.underlying159
attribute [push_cast] Tryd.underlying160 Tryd.underlying161 Tryd.underlying162 Tryd.underlying163
end Go.Proofs.YtajhgnefcddenaaDoor.Dm
