/-
  What the machine of XDm asks of this seat's types: sizes, zero values, places of fields. By program (wip/tools/types.py).
-/
import Derived.Test.YtlamgjbngblefaaGreatDoorEnv
namespace Go.Proofs.YtlamgjbngblefaaGreatDoor.Dm
open Go
@[push_cast] theorem E_P : E.P = Tryz.prog := rfl
@[push_cast] theorem E_G (g : Nat) : E.G g = none := rfl
@[push_cast] theorem sz0 : sizeT Tryz.prog 0 = some 1 := by kernel_rfl
@[push_cast] theorem sz3 : sizeT Tryz.prog 3 = some 1 := by kernel_rfl
@[push_cast] theorem ag3 : aggT Tryz.prog 3 = some false := by kernel_rfl
@[push_cast] theorem ze3 : zeroT Tryz.prog 3 = some (.int .i64 0) := by kernel_rfl
@[push_cast] theorem by3 : bytesT Tryz.prog 3 = 8 := by kernel_rfl
@[push_cast] theorem sz4 : sizeT Tryz.prog 4 = some 1 := by kernel_rfl
@[push_cast] theorem ag4 : aggT Tryz.prog 4 = some false := by kernel_rfl
@[push_cast] theorem ze4 : zeroT Tryz.prog 4 = some (.bool false) := by kernel_rfl
@[push_cast] theorem sz5 : sizeT Tryz.prog 5 = some 1 := by kernel_rfl
@[push_cast] theorem ag5 : aggT Tryz.prog 5 = some false := by kernel_rfl
@[push_cast] theorem fn7x0 : fieldN Tryz.prog 7 0 = some (2, 0) := by kernel_rfl
@[push_cast] theorem fn7x1 : fieldN Tryz.prog 7 1 = some (3, 1) := by kernel_rfl
@[push_cast] theorem fn7x2 : fieldN Tryz.prog 7 2 = some (4, 2) := by kernel_rfl
@[push_cast] theorem fn7x3 : fieldN Tryz.prog 7 3 = some (6, 3) := by kernel_rfl
@[push_cast] theorem fn8x0 : fieldN Tryz.prog 8 0 = some (2, 0) := by kernel_rfl
@[push_cast] theorem fn8x1 : fieldN Tryz.prog 8 1 = some (3, 1) := by kernel_rfl
@[push_cast] theorem fn8x2 : fieldN Tryz.prog 8 2 = some (4, 2) := by kernel_rfl
@[push_cast] theorem fn8x3 : fieldN Tryz.prog 8 3 = some (6, 3) := by kernel_rfl
@[push_cast] theorem sz9 : sizeT Tryz.prog 9 = some 1 := by kernel_rfl
@[push_cast] theorem ag9 : aggT Tryz.prog 9 = some false := by kernel_rfl
@[push_cast] theorem fn13x0 : fieldN Tryz.prog 13 0 = some (9, 0) := by kernel_rfl
@[push_cast] theorem fn13x1 : fieldN Tryz.prog 13 1 = some (12, 1) := by kernel_rfl
@[push_cast] theorem fn14x0 : fieldN Tryz.prog 14 0 = some (9, 0) := by kernel_rfl
@[push_cast] theorem fn14x1 : fieldN Tryz.prog 14 1 = some (12, 1) := by kernel_rfl
@[push_cast] theorem fn18x0 : fieldN Tryz.prog 18 0 = some (17, 0) := by kernel_rfl
@[push_cast] theorem fn19x0 : fieldN Tryz.prog 19 0 = some (17, 0) := by kernel_rfl
@[push_cast] theorem sz22 : sizeT Tryz.prog 22 = some 1 := by kernel_rfl
@[push_cast] theorem ag22 : aggT Tryz.prog 22 = some false := by kernel_rfl
@[push_cast] theorem el32 : elemT Tryz.prog 32 = some 60 := by kernel_rfl
@[push_cast] theorem el39 : elemT Tryz.prog 39 = some 43 := by kernel_rfl
@[push_cast] theorem fn42x0 : fieldN Tryz.prog 42 0 = some (9, 0) := by kernel_rfl
@[push_cast] theorem fn42x1 : fieldN Tryz.prog 42 1 = some (3, 1) := by kernel_rfl
@[push_cast] theorem sz43 : sizeT Tryz.prog 43 = some 2 := by kernel_rfl
@[push_cast] theorem ag43 : aggT Tryz.prog 43 = some true := by kernel_rfl
@[push_cast] theorem ze43 : zeroT Tryz.prog 43 = some (.agg [.str ⟨#[]⟩, .int .i64 0]) := by kernel_rfl
@[push_cast] theorem fn43x0 : fieldN Tryz.prog 43 0 = some (9, 0) := by kernel_rfl
@[push_cast] theorem fn43x1 : fieldN Tryz.prog 43 1 = some (3, 1) := by kernel_rfl
@[push_cast] theorem pl43 : placesT Tryz.prog 43 = some [(0, 1), (1, 1)] := by kernel_rfl
@[push_cast] theorem sz45 : sizeT Tryz.prog 45 = some 1 := by kernel_rfl
@[push_cast] theorem ag45 : aggT Tryz.prog 45 = some false := by kernel_rfl
@[push_cast] theorem el45 : elemT Tryz.prog 45 = some 100 := by kernel_rfl
@[push_cast] theorem sz50 : sizeT Tryz.prog 50 = some 1 := by kernel_rfl
@[push_cast] theorem ag50 : aggT Tryz.prog 50 = some false := by kernel_rfl
@[push_cast] theorem el50 : elemT Tryz.prog 50 = some 136 := by kernel_rfl
@[push_cast] theorem sz54 : sizeT Tryz.prog 54 = some 1 := by kernel_rfl
@[push_cast] theorem ag54 : aggT Tryz.prog 54 = some false := by kernel_rfl
@[push_cast] theorem fn55x0 : fieldN Tryz.prog 55 0 = some (5, 0) := by kernel_rfl
@[push_cast] theorem fn55x1 : fieldN Tryz.prog 55 1 = some (5, 1) := by kernel_rfl
@[push_cast] theorem fn55x2 : fieldN Tryz.prog 55 2 = some (5, 2) := by kernel_rfl
@[push_cast] theorem fn55x3 : fieldN Tryz.prog 55 3 = some (5, 3) := by kernel_rfl
@[push_cast] theorem fn55x4 : fieldN Tryz.prog 55 4 = some (5, 4) := by kernel_rfl
@[push_cast] theorem fn55x5 : fieldN Tryz.prog 55 5 = some (54, 5) := by kernel_rfl
@[push_cast] theorem sz56 : sizeT Tryz.prog 56 = some 6 := by kernel_rfl
@[push_cast] theorem ag56 : aggT Tryz.prog 56 = some true := by kernel_rfl
@[push_cast] theorem fn56x0 : fieldN Tryz.prog 56 0 = some (5, 0) := by kernel_rfl
@[push_cast] theorem fn56x1 : fieldN Tryz.prog 56 1 = some (5, 1) := by kernel_rfl
@[push_cast] theorem fn56x2 : fieldN Tryz.prog 56 2 = some (5, 2) := by kernel_rfl
@[push_cast] theorem fn56x3 : fieldN Tryz.prog 56 3 = some (5, 3) := by kernel_rfl
@[push_cast] theorem fn56x4 : fieldN Tryz.prog 56 4 = some (5, 4) := by kernel_rfl
@[push_cast] theorem fn56x5 : fieldN Tryz.prog 56 5 = some (54, 5) := by kernel_rfl
@[push_cast] theorem fn59x0 : fieldN Tryz.prog 59 0 = some (9, 0) := by kernel_rfl
@[push_cast] theorem fn59x1 : fieldN Tryz.prog 59 1 = some (3, 1) := by kernel_rfl
@[push_cast] theorem fn59x2 : fieldN Tryz.prog 59 2 = some (3, 2) := by kernel_rfl
@[push_cast] theorem fn59x3 : fieldN Tryz.prog 59 3 = some (9, 3) := by kernel_rfl
@[push_cast] theorem sz60 : sizeT Tryz.prog 60 = some 4 := by kernel_rfl
@[push_cast] theorem ag60 : aggT Tryz.prog 60 = some true := by kernel_rfl
@[push_cast] theorem ze60 : zeroT Tryz.prog 60 = some (.agg [.str ⟨#[]⟩, .int .i64 0, .int .i64 0, .str ⟨#[]⟩]) := by kernel_rfl
@[push_cast] theorem fn60x0 : fieldN Tryz.prog 60 0 = some (9, 0) := by kernel_rfl
@[push_cast] theorem fn60x1 : fieldN Tryz.prog 60 1 = some (3, 1) := by kernel_rfl
@[push_cast] theorem fn60x2 : fieldN Tryz.prog 60 2 = some (3, 2) := by kernel_rfl
@[push_cast] theorem fn60x3 : fieldN Tryz.prog 60 3 = some (9, 3) := by kernel_rfl
@[push_cast] theorem pe60 : plainEqT Tryz.prog 60 = true := by kernel_rfl
@[push_cast] theorem sz85 : sizeT Tryz.prog 85 = some 1 := by kernel_rfl
@[push_cast] theorem ag85 : aggT Tryz.prog 85 = some false := by kernel_rfl
@[push_cast] theorem fn86x0 : fieldN Tryz.prog 86 0 = some (22, 0) := by kernel_rfl
@[push_cast] theorem fn86x1 : fieldN Tryz.prog 86 1 = some (85, 1) := by kernel_rfl
@[push_cast] theorem ze87 : zeroT Tryz.prog 87 = some (.agg [.nils, .nilm]) := by kernel_rfl
@[push_cast] theorem fn87x0 : fieldN Tryz.prog 87 0 = some (22, 0) := by kernel_rfl
@[push_cast] theorem fn87x1 : fieldN Tryz.prog 87 1 = some (85, 1) := by kernel_rfl
@[push_cast] theorem pl87 : placesT Tryz.prog 87 = some [(0, 1), (1, 1)] := by kernel_rfl
@[push_cast] theorem fn92x0 : fieldN Tryz.prog 92 0 = some (9, 0) := by kernel_rfl
@[push_cast] theorem fn92x1 : fieldN Tryz.prog 92 1 = some (3, 1) := by kernel_rfl
@[push_cast] theorem sz93 : sizeT Tryz.prog 93 = some 2 := by kernel_rfl
@[push_cast] theorem ag93 : aggT Tryz.prog 93 = some true := by kernel_rfl
@[push_cast] theorem ze93 : zeroT Tryz.prog 93 = some (.agg [.str ⟨#[]⟩, .int .i64 0]) := by kernel_rfl
@[push_cast] theorem fn93x0 : fieldN Tryz.prog 93 0 = some (9, 0) := by kernel_rfl
@[push_cast] theorem fn93x1 : fieldN Tryz.prog 93 1 = some (3, 1) := by kernel_rfl
@[push_cast] theorem sz94 : sizeT Tryz.prog 94 = some 1 := by kernel_rfl
@[push_cast] theorem ag94 : aggT Tryz.prog 94 = some false := by kernel_rfl
@[push_cast] theorem fn95x0 : fieldN Tryz.prog 95 0 = some (9, 0) := by kernel_rfl
@[push_cast] theorem fn95x1 : fieldN Tryz.prog 95 1 = some (3, 1) := by kernel_rfl
@[push_cast] theorem fn95x2 : fieldN Tryz.prog 95 2 = some (3, 2) := by kernel_rfl
@[push_cast] theorem fn95x3 : fieldN Tryz.prog 95 3 = some (94, 3) := by kernel_rfl
@[push_cast] theorem sz96 : sizeT Tryz.prog 96 = some 4 := by kernel_rfl
@[push_cast] theorem ag96 : aggT Tryz.prog 96 = some true := by kernel_rfl
@[push_cast] theorem ze96 : zeroT Tryz.prog 96 = some (.agg [.str ⟨#[]⟩, .int .i64 0, .int .i64 0, .nils]) := by kernel_rfl
@[push_cast] theorem fn96x0 : fieldN Tryz.prog 96 0 = some (9, 0) := by kernel_rfl
@[push_cast] theorem fn96x1 : fieldN Tryz.prog 96 1 = some (3, 1) := by kernel_rfl
@[push_cast] theorem fn96x2 : fieldN Tryz.prog 96 2 = some (3, 2) := by kernel_rfl
@[push_cast] theorem fn96x3 : fieldN Tryz.prog 96 3 = some (94, 3) := by kernel_rfl
@[push_cast] theorem sz97 : sizeT Tryz.prog 97 = some 1 := by kernel_rfl
@[push_cast] theorem ag97 : aggT Tryz.prog 97 = some false := by kernel_rfl
@[push_cast] theorem fn98x0 : fieldN Tryz.prog 98 0 = some (9, 0) := by kernel_rfl
@[push_cast] theorem fn98x1 : fieldN Tryz.prog 98 1 = some (97, 1) := by kernel_rfl
@[push_cast] theorem sz99 : sizeT Tryz.prog 99 = some 2 := by kernel_rfl
@[push_cast] theorem ag99 : aggT Tryz.prog 99 = some true := by kernel_rfl
@[push_cast] theorem ze99 : zeroT Tryz.prog 99 = some (.agg [.str ⟨#[]⟩, .nils]) := by kernel_rfl
@[push_cast] theorem fn99x0 : fieldN Tryz.prog 99 0 = some (9, 0) := by kernel_rfl
@[push_cast] theorem fn99x1 : fieldN Tryz.prog 99 1 = some (97, 1) := by kernel_rfl
@[push_cast] theorem pl99 : placesT Tryz.prog 99 = some [(0, 1), (1, 1)] := by kernel_rfl
@[push_cast] theorem sz100 : sizeT Tryz.prog 100 = some 1 := by kernel_rfl
@[push_cast] theorem ag100 : aggT Tryz.prog 100 = some false := by kernel_rfl
@[push_cast] theorem ze100 : zeroT Tryz.prog 100 = some (.nils) := by kernel_rfl
@[push_cast] theorem el100 : elemT Tryz.prog 100 = some 3 := by kernel_rfl
@[push_cast] theorem el105 : elemT Tryz.prog 105 = some 109 := by kernel_rfl
@[push_cast] theorem sz109 : sizeT Tryz.prog 109 = some 1 := by kernel_rfl
@[push_cast] theorem ag109 : aggT Tryz.prog 109 = some false := by kernel_rfl
@[push_cast] theorem ze109 : zeroT Tryz.prog 109 = some (.nilp) := by kernel_rfl
@[push_cast] theorem fn114x0 : fieldN Tryz.prog 114 0 = some (99, 0) := by kernel_rfl
@[push_cast] theorem fn114x1 : fieldN Tryz.prog 114 1 = some (45, 2) := by kernel_rfl
@[push_cast] theorem fn114x2 : fieldN Tryz.prog 114 2 = some (4, 3) := by kernel_rfl
@[push_cast] theorem ze115 : zeroT Tryz.prog 115 = some (.agg [.str ⟨#[]⟩, .nils, .nils, .bool false]) := by kernel_rfl
@[push_cast] theorem fn115x0 : fieldN Tryz.prog 115 0 = some (99, 0) := by kernel_rfl
@[push_cast] theorem fn115x1 : fieldN Tryz.prog 115 1 = some (45, 2) := by kernel_rfl
@[push_cast] theorem fn115x2 : fieldN Tryz.prog 115 2 = some (4, 3) := by kernel_rfl
@[push_cast] theorem pl115 : placesT Tryz.prog 115 = some [(0, 2), (2, 1), (3, 1)] := by kernel_rfl
@[push_cast] theorem sz124 : sizeT Tryz.prog 124 = some 1 := by kernel_rfl
@[push_cast] theorem ag124 : aggT Tryz.prog 124 = some false := by kernel_rfl
@[push_cast] theorem el124 : elemT Tryz.prog 124 = some 146 := by kernel_rfl
@[push_cast] theorem fn125x0 : fieldN Tryz.prog 125 0 = some (4, 0) := by kernel_rfl
@[push_cast] theorem fn125x1 : fieldN Tryz.prog 125 1 = some (22, 1) := by kernel_rfl
@[push_cast] theorem fn125x2 : fieldN Tryz.prog 125 2 = some (124, 2) := by kernel_rfl
@[push_cast] theorem ze126 : zeroT Tryz.prog 126 = some (.agg [.bool false, .nils, .nils]) := by kernel_rfl
@[push_cast] theorem fn126x0 : fieldN Tryz.prog 126 0 = some (4, 0) := by kernel_rfl
@[push_cast] theorem fn126x1 : fieldN Tryz.prog 126 1 = some (22, 1) := by kernel_rfl
@[push_cast] theorem fn126x2 : fieldN Tryz.prog 126 2 = some (124, 2) := by kernel_rfl
@[push_cast] theorem pl126 : placesT Tryz.prog 126 = some [(0, 1), (1, 1), (2, 1)] := by kernel_rfl
@[push_cast] theorem fn135x0 : fieldN Tryz.prog 135 0 = some (36, 0) := by kernel_rfl
@[push_cast] theorem fn135x1 : fieldN Tryz.prog 135 1 = some (9, 1) := by kernel_rfl
@[push_cast] theorem sz136 : sizeT Tryz.prog 136 = some 2 := by kernel_rfl
@[push_cast] theorem ze136 : zeroT Tryz.prog 136 = some (.agg [.int .i64 0, .str ⟨#[]⟩]) := by kernel_rfl
@[push_cast] theorem fn136x0 : fieldN Tryz.prog 136 0 = some (36, 0) := by kernel_rfl
@[push_cast] theorem fn136x1 : fieldN Tryz.prog 136 1 = some (9, 1) := by kernel_rfl
@[push_cast] theorem pl136 : placesT Tryz.prog 136 = some [(0, 1), (1, 1)] := by kernel_rfl
@[push_cast] theorem fn145x0 : fieldN Tryz.prog 145 0 = some (60, 0) := by kernel_rfl
@[push_cast] theorem fn145x1 : fieldN Tryz.prog 145 1 = some (9, 4) := by kernel_rfl
@[push_cast] theorem fn145x2 : fieldN Tryz.prog 145 2 = some (4, 5) := by kernel_rfl
@[push_cast] theorem fn145x3 : fieldN Tryz.prog 145 3 = some (45, 6) := by kernel_rfl
@[push_cast] theorem sz146 : sizeT Tryz.prog 146 = some 7 := by kernel_rfl
@[push_cast] theorem ze146 : zeroT Tryz.prog 146 = some (.agg [.str ⟨#[]⟩, .int .i64 0, .int .i64 0, .str ⟨#[]⟩, .str ⟨#[]⟩, .bool false, .nils]) := by kernel_rfl
@[push_cast] theorem fn146x0 : fieldN Tryz.prog 146 0 = some (60, 0) := by kernel_rfl
@[push_cast] theorem fn146x1 : fieldN Tryz.prog 146 1 = some (9, 4) := by kernel_rfl
@[push_cast] theorem fn146x2 : fieldN Tryz.prog 146 2 = some (4, 5) := by kernel_rfl
@[push_cast] theorem fn146x3 : fieldN Tryz.prog 146 3 = some (45, 6) := by kernel_rfl
@[push_cast] theorem pl146 : placesT Tryz.prog 146 = some [(0, 4), (4, 1), (5, 1), (6, 1)] := by kernel_rfl
@[push_cast] theorem fn152x0 : fieldN Tryz.prog 152 0 = some (50, 0) := by kernel_rfl
@[push_cast] theorem fn152x1 : fieldN Tryz.prog 152 1 = some (9, 1) := by kernel_rfl
@[push_cast] theorem ze153 : zeroT Tryz.prog 153 = some (.agg [.nils, .str ⟨#[]⟩]) := by kernel_rfl
@[push_cast] theorem fn153x0 : fieldN Tryz.prog 153 0 = some (50, 0) := by kernel_rfl
@[push_cast] theorem fn153x1 : fieldN Tryz.prog 153 1 = some (9, 1) := by kernel_rfl
@[push_cast] theorem fn210x0 : fieldN Tryz.prog 210 0 = some (17, 0) := by kernel_rfl
@[push_cast] theorem fn210x1 : fieldN Tryz.prog 210 1 = some (17, 1) := by kernel_rfl
@[push_cast] theorem fn210x2 : fieldN Tryz.prog 210 2 = some (17, 2) := by kernel_rfl
@[push_cast] theorem fn210x3 : fieldN Tryz.prog 210 3 = some (9, 3) := by kernel_rfl
@[push_cast] theorem fn211x0 : fieldN Tryz.prog 211 0 = some (17, 0) := by kernel_rfl
@[push_cast] theorem fn211x1 : fieldN Tryz.prog 211 1 = some (17, 1) := by kernel_rfl
@[push_cast] theorem fn211x2 : fieldN Tryz.prog 211 2 = some (17, 2) := by kernel_rfl
@[push_cast] theorem fn211x3 : fieldN Tryz.prog 211 3 = some (9, 3) := by kernel_rfl
@[push_cast] theorem fn213x0 : fieldN Tryz.prog 213 0 = some (212, 0) := by kernel_rfl
@[push_cast] theorem fn214x0 : fieldN Tryz.prog 214 0 = some (212, 0) := by kernel_rfl
@[push_cast] theorem fn222x0 : fieldN Tryz.prog 222 0 = some (12, 0) := by kernel_rfl
@[push_cast] theorem fn222x1 : fieldN Tryz.prog 222 1 = some (12, 1) := by kernel_rfl
@[push_cast] theorem fn222x2 : fieldN Tryz.prog 222 2 = some (185, 2) := by kernel_rfl
@[push_cast] theorem fn222x3 : fieldN Tryz.prog 222 3 = some (216, 3) := by kernel_rfl
@[push_cast] theorem fn222x4 : fieldN Tryz.prog 222 4 = some (5, 4) := by kernel_rfl
@[push_cast] theorem fn222x5 : fieldN Tryz.prog 222 5 = some (5, 5) := by kernel_rfl
@[push_cast] theorem fn222x6 : fieldN Tryz.prog 222 6 = some (217, 6) := by kernel_rfl
@[push_cast] theorem fn222x7 : fieldN Tryz.prog 222 7 = some (218, 7) := by kernel_rfl
@[push_cast] theorem fn222x8 : fieldN Tryz.prog 222 8 = some (219, 8) := by kernel_rfl
@[push_cast] theorem fn222x9 : fieldN Tryz.prog 222 9 = some (220, 9) := by kernel_rfl
@[push_cast] theorem fn222x10 : fieldN Tryz.prog 222 10 = some (221, 10) := by kernel_rfl
@[push_cast] theorem fn223x0 : fieldN Tryz.prog 223 0 = some (12, 0) := by kernel_rfl
@[push_cast] theorem fn223x1 : fieldN Tryz.prog 223 1 = some (12, 1) := by kernel_rfl
@[push_cast] theorem fn223x2 : fieldN Tryz.prog 223 2 = some (185, 2) := by kernel_rfl
@[push_cast] theorem fn223x3 : fieldN Tryz.prog 223 3 = some (216, 3) := by kernel_rfl
@[push_cast] theorem fn223x4 : fieldN Tryz.prog 223 4 = some (5, 4) := by kernel_rfl
@[push_cast] theorem fn223x5 : fieldN Tryz.prog 223 5 = some (5, 5) := by kernel_rfl
@[push_cast] theorem fn223x6 : fieldN Tryz.prog 223 6 = some (217, 6) := by kernel_rfl
@[push_cast] theorem fn223x7 : fieldN Tryz.prog 223 7 = some (218, 7) := by kernel_rfl
@[push_cast] theorem fn223x8 : fieldN Tryz.prog 223 8 = some (219, 8) := by kernel_rfl
@[push_cast] theorem fn223x9 : fieldN Tryz.prog 223 9 = some (220, 9) := by kernel_rfl
@[push_cast] theorem fn223x10 : fieldN Tryz.prog 223 10 = some (221, 10) := by kernel_rfl
attribute [push_cast] Tryz.underlying0 Tryz.underlying1 Tryz.underlying2 Tryz.underlying3 Tryz.underlying4 Tryz.underlying5 Tryz.underlying6 Tryz.underlying7 Tryz.underlying8 Tryz.underlying9 Tryz.underlying10 Tryz.underlying11 Tryz.underlying12 Tryz.underlying13 Tryz.underlying14 Tryz.underlying15 Tryz.underlying16 Tryz.underlying17 Tryz.underlying18 Tryz.underlying19
attribute [push_cast] Tryz.underlying20 Tryz.underlying21 Tryz.underlying22 Tryz.underlying23 Tryz.underlying24 Tryz.underlying25 Tryz.underlying26 Tryz.underlying27 Tryz.underlying28 Tryz.underlying29 Tryz.underlying30 Tryz.underlying31 Tryz.underlying32 Tryz.underlying33 Tryz.underlying34 Tryz.underlying35 Tryz.underlying36 Tryz.underlying37 Tryz.underlying38 Tryz.underlying39
attribute [push_cast] Tryz.underlying40 Tryz.underlying41 Tryz.underlying42 Tryz.underlying43 Tryz.underlying44 Tryz.underlying45 Tryz.underlying46 Tryz.underlying47 Tryz.underlying48 Tryz.underlying49 Tryz.underlying50 Tryz.underlying51 Tryz.underlying52 Tryz.underlying53 Tryz.underlying54 Tryz.underlying55 Tryz.underlying56 Tryz.underlying57 Tryz.underlying58 Tryz.underlying59
attribute [push_cast] Tryz.underlying60 Tryz.underlying61 Tryz.underlying62 Tryz.underlying63 Tryz.underlying64 Tryz.underlying65 Tryz.underlying66 Tryz.underlying67 Tryz.underlying68 Tryz.underlying69 Tryz.underlying70 Tryz.underlying71 Tryz.underlying72 Tryz.underlying73 Tryz.underlying74 Tryz.underlying75 Tryz.underlying76 Tryz.underlying77 Tryz.underlying78 Tryz.underlying79
attribute [push_cast] Tryz.underlying80 Tryz.underlying81 Tryz.underlying82 Tryz.underlying83 Tryz.underlying84 Tryz.underlying85 Tryz.underlying86 Tryz.underlying87 Tryz.underlying88 Tryz.underlying89 Tryz.underlying90 Tryz.underlying91 Tryz.underlying92 Tryz.underlying93 Tryz.underlying94 Tryz.underlying95 Tryz.underlying96 Tryz.underlying97 Tryz.underlying98 Tryz.underlying99
attribute [push_cast] Tryz.underlying100 Tryz.underlying101 Tryz.underlying102 Tryz.underlying103 Tryz.underlying104 Tryz.underlying105 Tryz.underlying106 Tryz.underlying107 Tryz.underlying108 Tryz.underlying109 Tryz.underlying110 Tryz.underlying111 Tryz.underlying112 Tryz.underlying113 Tryz.underlying114 Tryz.underlying115 Tryz.underlying116 Tryz.underlying117 Tryz.underlying118 Tryz.underlying119
attribute [push_cast] Tryz.underlying120 Tryz.underlying121 Tryz.underlying122 Tryz.underlying123 Tryz.underlying124 Tryz.underlying125 Tryz.underlying126 Tryz.underlying127 Tryz.underlying128 Tryz.underlying129 Tryz.underlying130 Tryz.underlying131 Tryz.underlying132 Tryz.underlying133 Tryz.underlying134 Tryz.underlying135 Tryz.underlying136 Tryz.underlying137 Tryz.underlying138 Tryz.underlying139
attribute [push_cast] Tryz.underlying140 Tryz.underlying141 Tryz.underlying142 Tryz.underlying143 Tryz.underlying144 Tryz.underlying145 Tryz.underlying146 Tryz.underlying147 Tryz.underlying148 Tryz.underlying149 Tryz.underlying150 Tryz.underlying151 Tryz.underlying152 Tryz.underlying153 Tryz.underlying154 Tryz.underlying155 Tryz.underlying156 Tryz.underlying157 Tryz.underlying158 Tryz.underlying159
attribute [push_cast] Tryz.underlying160 Tryz.underlying161 Tryz.underlying162 Tryz.underlying163 Tryz.underlying164 Tryz.underlying165 Tryz.underlying166 Tryz.underlying167 Tryz.underlying168 Tryz.underlying169 Tryz.underlying170 Tryz.underlying171 Tryz.underlying172 Tryz.underlying173 Tryz.underlying174 Tryz.underlying175 Tryz.underlying176 Tryz.underlying177 Tryz.underlying178 Tryz.underlying179
attribute [push_cast] Tryz.underlying180 Tryz.underlying181 Tryz.underlying182 Tryz.underlying183 Tryz.underlying184 Tryz.underlying185 Tryz.underlying186 Tryz.underlying187 Tryz.underlying188 Tryz.underlying189 Tryz.underlying190 Tryz.underlying191 Tryz.underlying192 Tryz.underlying193 Tryz.underlying194 Tryz.underlying195 Tryz.underlying196 Tryz.underlying197 Tryz.underlying198 Tryz.underlying199
attribute [push_cast] Tryz.underlying200 Tryz.underlying201 Tryz.underlying202 Tryz.underlying203 Tryz.underlying204 Tryz.underlying205 Tryz.underlying206 Tryz.underlying207 Tryz.underlying208 Tryz.underlying209 Tryz.underlying210 Tryz.underlying211 Tryz.underlying212 Tryz.underlying213 Tryz.underlying214 Tryz.underlying215 Tryz.underlying216 Tryz.underlying217 Tryz.underlying218 Tryz.underlying219
attribute [push_cast] Tryz.underlying220 Tryz.underlying221 Tryz.underlying222 Tryz.underlying223 Tryz.underlying224
end Go.Proofs.YtlamgjbngblefaaGreatDoor.Dm
