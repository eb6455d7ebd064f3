/-
  What the machine of XDm asks of this seat's types: sizes, zero values, places of fields. By program (wip/tools/types.py).
-/
import Derived.Test.YtgomkmamgflbeaaDoorEnv
namespace Go.Proofs.YtgomkmamgflbeaaDoor.Dm
open Go
@[push_cast] theorem E_P : E.P = Tryd.prog := rfl
@[push_cast] theorem E_G (g : Nat) : E.G g = none := rfl
@[push_cast] theorem sz0 : sizeT Tryd.prog 0 = some 1 := by kernel_rfl
@[push_cast] theorem ag0 : aggT Tryd.prog 0 = some false := by kernel_rfl
@[push_cast] theorem by0 : bytesT Tryd.prog 0 = 0 := by kernel_rfl
@[push_cast] theorem sz1 : sizeT Tryd.prog 1 = some 1 := by kernel_rfl
@[push_cast] theorem ag1 : aggT Tryd.prog 1 = some false := by kernel_rfl
@[push_cast] theorem ze1 : zeroT Tryd.prog 1 = some (.nilf) := by kernel_rfl
@[push_cast] theorem by1 : bytesT Tryd.prog 1 = 8 := by kernel_rfl
@[push_cast] theorem sz2 : sizeT Tryd.prog 2 = some 1 := by kernel_rfl
@[push_cast] theorem ag2 : aggT Tryd.prog 2 = some false := by kernel_rfl
@[push_cast] theorem ze2 : zeroT Tryd.prog 2 = some (.int .i64 0) := by kernel_rfl
@[push_cast] theorem by2 : bytesT Tryd.prog 2 = 8 := by kernel_rfl
@[push_cast] theorem sz3 : sizeT Tryd.prog 3 = some 1 := by kernel_rfl
@[push_cast] theorem ag3 : aggT Tryd.prog 3 = some false := by kernel_rfl
@[push_cast] theorem ze3 : zeroT Tryd.prog 3 = some (.int .i64 0) := by kernel_rfl
@[push_cast] theorem by3 : bytesT Tryd.prog 3 = 8 := by kernel_rfl
@[push_cast] theorem sz4 : sizeT Tryd.prog 4 = some 1 := by kernel_rfl
@[push_cast] theorem ag4 : aggT Tryd.prog 4 = some false := by kernel_rfl
@[push_cast] theorem ze4 : zeroT Tryd.prog 4 = some (.bool false) := by kernel_rfl
@[push_cast] theorem by4 : bytesT Tryd.prog 4 = 1 := by kernel_rfl
@[push_cast] theorem sz5 : sizeT Tryd.prog 5 = some 1 := by kernel_rfl
@[push_cast] theorem ag5 : aggT Tryd.prog 5 = some false := by kernel_rfl
@[push_cast] theorem ze5 : zeroT Tryd.prog 5 = some (.int .u8 0) := by kernel_rfl
@[push_cast] theorem by5 : bytesT Tryd.prog 5 = 1 := by kernel_rfl
@[push_cast] theorem sz6 : sizeT Tryd.prog 6 = some 1 := by kernel_rfl
@[push_cast] theorem ag6 : aggT Tryd.prog 6 = some false := by kernel_rfl
@[push_cast] theorem ze6 : zeroT Tryd.prog 6 = some (.int .u8 0) := by kernel_rfl
@[push_cast] theorem by6 : bytesT Tryd.prog 6 = 1 := by kernel_rfl
@[push_cast] theorem sz7 : sizeT Tryd.prog 7 = some 4 := by kernel_rfl
@[push_cast] theorem ag7 : aggT Tryd.prog 7 = some true := by kernel_rfl
@[push_cast] theorem ze7 : zeroT Tryd.prog 7 = some (.agg [.int .i64 0, .int .i64 0, .bool false, .int .u8 0]) := by kernel_rfl
@[push_cast] theorem by7 : bytesT Tryd.prog 7 = 24 := by kernel_rfl
@[push_cast] theorem fn7x0 : fieldN Tryd.prog 7 0 = some (2, 0) := by kernel_rfl
@[push_cast] theorem fn7x1 : fieldN Tryd.prog 7 1 = some (3, 1) := by kernel_rfl
@[push_cast] theorem fn7x2 : fieldN Tryd.prog 7 2 = some (4, 2) := by kernel_rfl
@[push_cast] theorem fn7x3 : fieldN Tryd.prog 7 3 = some (6, 3) := by kernel_rfl
@[push_cast] theorem pl7 : placesT Tryd.prog 7 = some [(0, 1), (1, 1), (2, 1), (3, 1)] := by kernel_rfl
@[push_cast] theorem pe7 : plainEqT Tryd.prog 7 = true := by kernel_rfl
@[push_cast] theorem sh7 : Program.stoodInHeld Tryd.prog 7 = false := by kernel_rfl
@[push_cast] theorem sz8 : sizeT Tryd.prog 8 = some 4 := by kernel_rfl
@[push_cast] theorem ag8 : aggT Tryd.prog 8 = some true := by kernel_rfl
@[push_cast] theorem ze8 : zeroT Tryd.prog 8 = some (.agg [.int .i64 0, .int .i64 0, .bool false, .int .u8 0]) := by kernel_rfl
@[push_cast] theorem by8 : bytesT Tryd.prog 8 = 24 := by kernel_rfl
@[push_cast] theorem fn8x0 : fieldN Tryd.prog 8 0 = some (2, 0) := by kernel_rfl
@[push_cast] theorem fn8x1 : fieldN Tryd.prog 8 1 = some (3, 1) := by kernel_rfl
@[push_cast] theorem fn8x2 : fieldN Tryd.prog 8 2 = some (4, 2) := by kernel_rfl
@[push_cast] theorem fn8x3 : fieldN Tryd.prog 8 3 = some (6, 3) := by kernel_rfl
@[push_cast] theorem pl8 : placesT Tryd.prog 8 = some [(0, 1), (1, 1), (2, 1), (3, 1)] := by kernel_rfl
@[push_cast] theorem pe8 : plainEqT Tryd.prog 8 = true := by kernel_rfl
@[push_cast] theorem sh8 : Program.stoodInHeld Tryd.prog 8 = false := by kernel_rfl
@[push_cast] theorem sz9 : sizeT Tryd.prog 9 = some 1 := by kernel_rfl
@[push_cast] theorem ag9 : aggT Tryd.prog 9 = some false := by kernel_rfl
@[push_cast] theorem ze9 : zeroT Tryd.prog 9 = some (.str ⟨#[]⟩) := by kernel_rfl
@[push_cast] theorem by9 : bytesT Tryd.prog 9 = 16 := by kernel_rfl
@[push_cast] theorem sz10 : sizeT Tryd.prog 10 = some 1 := by kernel_rfl
@[push_cast] theorem ag10 : aggT Tryd.prog 10 = some false := by kernel_rfl
@[push_cast] theorem ze10 : zeroT Tryd.prog 10 = some (.str ⟨#[]⟩) := by kernel_rfl
@[push_cast] theorem by10 : bytesT Tryd.prog 10 = 16 := by kernel_rfl
@[push_cast] theorem sz11 : sizeT Tryd.prog 11 = some 1 := by kernel_rfl
@[push_cast] theorem ag11 : aggT Tryd.prog 11 = some false := by kernel_rfl
@[push_cast] theorem ze11 : zeroT Tryd.prog 11 = some (.str ⟨#[]⟩) := by kernel_rfl
@[push_cast] theorem by11 : bytesT Tryd.prog 11 = 16 := by kernel_rfl
@[push_cast] theorem sz12 : sizeT Tryd.prog 12 = some 1 := by kernel_rfl
@[push_cast] theorem ag12 : aggT Tryd.prog 12 = some false := by kernel_rfl
@[push_cast] theorem ze12 : zeroT Tryd.prog 12 = some (.int .u64 0) := by kernel_rfl
@[push_cast] theorem by12 : bytesT Tryd.prog 12 = 8 := by kernel_rfl
@[push_cast] theorem sz13 : sizeT Tryd.prog 13 = some 2 := by kernel_rfl
@[push_cast] theorem ag13 : aggT Tryd.prog 13 = some true := by kernel_rfl
@[push_cast] theorem ze13 : zeroT Tryd.prog 13 = some (.agg [.str ⟨#[]⟩, .int .u64 0]) := by kernel_rfl
@[push_cast] theorem by13 : bytesT Tryd.prog 13 = 24 := by kernel_rfl
@[push_cast] theorem fn13x0 : fieldN Tryd.prog 13 0 = some (9, 0) := by kernel_rfl
@[push_cast] theorem fn13x1 : fieldN Tryd.prog 13 1 = some (12, 1) := by kernel_rfl
@[push_cast] theorem pl13 : placesT Tryd.prog 13 = some [(0, 1), (1, 1)] := by kernel_rfl
@[push_cast] theorem pe13 : plainEqT Tryd.prog 13 = true := by kernel_rfl
@[push_cast] theorem sh13 : Program.stoodInHeld Tryd.prog 13 = true := by kernel_rfl
@[push_cast] theorem sz14 : sizeT Tryd.prog 14 = some 2 := by kernel_rfl
@[push_cast] theorem ag14 : aggT Tryd.prog 14 = some true := by kernel_rfl
@[push_cast] theorem ze14 : zeroT Tryd.prog 14 = some (.agg [.str ⟨#[]⟩, .int .u64 0]) := by kernel_rfl
@[push_cast] theorem by14 : bytesT Tryd.prog 14 = 24 := by kernel_rfl
@[push_cast] theorem fn14x0 : fieldN Tryd.prog 14 0 = some (9, 0) := by kernel_rfl
@[push_cast] theorem fn14x1 : fieldN Tryd.prog 14 1 = some (12, 1) := by kernel_rfl
@[push_cast] theorem pl14 : placesT Tryd.prog 14 = some [(0, 1), (1, 1)] := by kernel_rfl
@[push_cast] theorem pe14 : plainEqT Tryd.prog 14 = true := by kernel_rfl
@[push_cast] theorem sh14 : Program.stoodInHeld Tryd.prog 14 = true := by kernel_rfl
@[push_cast] theorem sz15 : sizeT Tryd.prog 15 = some 1 := by kernel_rfl
@[push_cast] theorem ag15 : aggT Tryd.prog 15 = some false := by kernel_rfl
@[push_cast] theorem ze15 : zeroT Tryd.prog 15 = some (.nilp) := by kernel_rfl
@[push_cast] theorem by15 : bytesT Tryd.prog 15 = 8 := by kernel_rfl
@[push_cast] theorem sz16 : sizeT Tryd.prog 16 = some 1 := by kernel_rfl
@[push_cast] theorem ag16 : aggT Tryd.prog 16 = some false := by kernel_rfl
@[push_cast] theorem ze16 : zeroT Tryd.prog 16 = some (.nilp) := by kernel_rfl
@[push_cast] theorem by16 : bytesT Tryd.prog 16 = 8 := by kernel_rfl
@[push_cast] theorem sz17 : sizeT Tryd.prog 17 = some 1 := by kernel_rfl
@[push_cast] theorem ag17 : aggT Tryd.prog 17 = some false := by kernel_rfl
@[push_cast] theorem ze17 : zeroT Tryd.prog 17 = some (.nilp) := by kernel_rfl
@[push_cast] theorem by17 : bytesT Tryd.prog 17 = 8 := by kernel_rfl
@[push_cast] theorem sz18 : sizeT Tryd.prog 18 = some 1 := by kernel_rfl
@[push_cast] theorem ag18 : aggT Tryd.prog 18 = some true := by kernel_rfl
@[push_cast] theorem ze18 : zeroT Tryd.prog 18 = some (.agg [.nilp]) := by kernel_rfl
@[push_cast] theorem by18 : bytesT Tryd.prog 18 = 8 := by kernel_rfl
@[push_cast] theorem fn18x0 : fieldN Tryd.prog 18 0 = some (17, 0) := by kernel_rfl
@[push_cast] theorem pl18 : placesT Tryd.prog 18 = some [(0, 1)] := by kernel_rfl
@[push_cast] theorem pe18 : plainEqT Tryd.prog 18 = true := by kernel_rfl
@[push_cast] theorem sh18 : Program.stoodInHeld Tryd.prog 18 = true := by kernel_rfl
@[push_cast] theorem sz19 : sizeT Tryd.prog 19 = some 1 := by kernel_rfl
@[push_cast] theorem ag19 : aggT Tryd.prog 19 = some true := by kernel_rfl
@[push_cast] theorem ze19 : zeroT Tryd.prog 19 = some (.agg [.nilp]) := by kernel_rfl
@[push_cast] theorem by19 : bytesT Tryd.prog 19 = 8 := by kernel_rfl
@[push_cast] theorem fn19x0 : fieldN Tryd.prog 19 0 = some (17, 0) := by kernel_rfl
@[push_cast] theorem pl19 : placesT Tryd.prog 19 = some [(0, 1)] := by kernel_rfl
@[push_cast] theorem pe19 : plainEqT Tryd.prog 19 = true := by kernel_rfl
@[push_cast] theorem sh19 : Program.stoodInHeld Tryd.prog 19 = true := by kernel_rfl
@[push_cast] theorem sz20 : sizeT Tryd.prog 20 = some 1 := by kernel_rfl
@[push_cast] theorem ag20 : aggT Tryd.prog 20 = some false := by kernel_rfl
@[push_cast] theorem ze20 : zeroT Tryd.prog 20 = some (.nili) := by kernel_rfl
@[push_cast] theorem by20 : bytesT Tryd.prog 20 = 16 := by kernel_rfl
@[push_cast] theorem sz21 : sizeT Tryd.prog 21 = some 1 := by kernel_rfl
@[push_cast] theorem ag21 : aggT Tryd.prog 21 = some false := by kernel_rfl
@[push_cast] theorem ze21 : zeroT Tryd.prog 21 = some (.int .i32 0) := by kernel_rfl
@[push_cast] theorem by21 : bytesT Tryd.prog 21 = 4 := by kernel_rfl
@[push_cast] theorem sz22 : sizeT Tryd.prog 22 = some 1 := by kernel_rfl
@[push_cast] theorem ag22 : aggT Tryd.prog 22 = some false := by kernel_rfl
@[push_cast] theorem ze22 : zeroT Tryd.prog 22 = some (.nils) := by kernel_rfl
@[push_cast] theorem by22 : bytesT Tryd.prog 22 = 24 := by kernel_rfl
@[push_cast] theorem el22 : elemT Tryd.prog 22 = some 59 := by kernel_rfl
@[push_cast] theorem sz23 : sizeT Tryd.prog 23 = some 7 := by kernel_rfl
@[push_cast] theorem ag23 : aggT Tryd.prog 23 = some true := by kernel_rfl
@[push_cast] theorem ze23 : zeroT Tryd.prog 23 = some (.agg [.str ⟨#[]⟩, .int .i64 0, .int .i64 0, .str ⟨#[]⟩, .str ⟨#[]⟩, .int .i64 0, .int .i64 0]) := by kernel_rfl
@[push_cast] theorem by23 : bytesT Tryd.prog 23 = 80 := by kernel_rfl
@[push_cast] theorem fn23x0 : fieldN Tryd.prog 23 0 = some (9, 0) := by kernel_rfl
@[push_cast] theorem fn23x1 : fieldN Tryd.prog 23 1 = some (3, 1) := by kernel_rfl
@[push_cast] theorem fn23x2 : fieldN Tryd.prog 23 2 = some (3, 2) := by kernel_rfl
@[push_cast] theorem fn23x3 : fieldN Tryd.prog 23 3 = some (9, 3) := by kernel_rfl
@[push_cast] theorem fn23x4 : fieldN Tryd.prog 23 4 = some (9, 4) := by kernel_rfl
@[push_cast] theorem fn23x5 : fieldN Tryd.prog 23 5 = some (3, 5) := by kernel_rfl
@[push_cast] theorem fn23x6 : fieldN Tryd.prog 23 6 = some (3, 6) := by kernel_rfl
@[push_cast] theorem pl23 : placesT Tryd.prog 23 = some [(0, 1), (1, 1), (2, 1), (3, 1), (4, 1), (5, 1), (6, 1)] := by kernel_rfl
@[push_cast] theorem pe23 : plainEqT Tryd.prog 23 = true := by kernel_rfl
@[push_cast] theorem sh23 : Program.stoodInHeld Tryd.prog 23 = false := by kernel_rfl
@[push_cast] theorem sz24 : sizeT Tryd.prog 24 = some 7 := by kernel_rfl
@[push_cast] theorem ag24 : aggT Tryd.prog 24 = some true := by kernel_rfl
@[push_cast] theorem ze24 : zeroT Tryd.prog 24 = some (.agg [.str ⟨#[]⟩, .int .i64 0, .int .i64 0, .str ⟨#[]⟩, .str ⟨#[]⟩, .int .i64 0, .int .i64 0]) := by kernel_rfl
@[push_cast] theorem by24 : bytesT Tryd.prog 24 = 80 := by kernel_rfl
@[push_cast] theorem fn24x0 : fieldN Tryd.prog 24 0 = some (9, 0) := by kernel_rfl
@[push_cast] theorem fn24x1 : fieldN Tryd.prog 24 1 = some (3, 1) := by kernel_rfl
@[push_cast] theorem fn24x2 : fieldN Tryd.prog 24 2 = some (3, 2) := by kernel_rfl
@[push_cast] theorem fn24x3 : fieldN Tryd.prog 24 3 = some (9, 3) := by kernel_rfl
@[push_cast] theorem fn24x4 : fieldN Tryd.prog 24 4 = some (9, 4) := by kernel_rfl
@[push_cast] theorem fn24x5 : fieldN Tryd.prog 24 5 = some (3, 5) := by kernel_rfl
@[push_cast] theorem fn24x6 : fieldN Tryd.prog 24 6 = some (3, 6) := by kernel_rfl
@[push_cast] theorem pl24 : placesT Tryd.prog 24 = some [(0, 1), (1, 1), (2, 1), (3, 1), (4, 1), (5, 1), (6, 1)] := by kernel_rfl
@[push_cast] theorem pe24 : plainEqT Tryd.prog 24 = true := by kernel_rfl
@[push_cast] theorem sh24 : Program.stoodInHeld Tryd.prog 24 = false := by kernel_rfl
@[push_cast] theorem sz25 : sizeT Tryd.prog 25 = some 1 := by kernel_rfl
@[push_cast] theorem ag25 : aggT Tryd.prog 25 = some false := by kernel_rfl
@[push_cast] theorem ze25 : zeroT Tryd.prog 25 = some (.nilf) := by kernel_rfl
@[push_cast] theorem by25 : bytesT Tryd.prog 25 = 8 := by kernel_rfl
@[push_cast] theorem sz26 : sizeT Tryd.prog 26 = some 1 := by kernel_rfl
@[push_cast] theorem ag26 : aggT Tryd.prog 26 = some false := by kernel_rfl
@[push_cast] theorem ze26 : zeroT Tryd.prog 26 = some (.nils) := by kernel_rfl
@[push_cast] theorem by26 : bytesT Tryd.prog 26 = 24 := by kernel_rfl
@[push_cast] theorem el26 : elemT Tryd.prog 26 = some 24 := by kernel_rfl
@[push_cast] theorem sz27 : sizeT Tryd.prog 27 = some 1 := by kernel_rfl
@[push_cast] theorem ag27 : aggT Tryd.prog 27 = some false := by kernel_rfl
@[push_cast] theorem ze27 : zeroT Tryd.prog 27 = some (.nilf) := by kernel_rfl
@[push_cast] theorem by27 : bytesT Tryd.prog 27 = 8 := by kernel_rfl
@[push_cast] theorem sz28 : sizeT Tryd.prog 28 = some 1 := by kernel_rfl
@[push_cast] theorem ag28 : aggT Tryd.prog 28 = some false := by kernel_rfl
@[push_cast] theorem ze28 : zeroT Tryd.prog 28 = some (.nilf) := by kernel_rfl
@[push_cast] theorem by28 : bytesT Tryd.prog 28 = 8 := by kernel_rfl
@[push_cast] theorem sz29 : sizeT Tryd.prog 29 = some 1 := by kernel_rfl
@[push_cast] theorem ag29 : aggT Tryd.prog 29 = some false := by kernel_rfl
@[push_cast] theorem ze29 : zeroT Tryd.prog 29 = some (.nils) := by kernel_rfl
@[push_cast] theorem by29 : bytesT Tryd.prog 29 = 24 := by kernel_rfl
@[push_cast] theorem el29 : elemT Tryd.prog 29 = some 61 := by kernel_rfl
@[push_cast] theorem sz30 : sizeT Tryd.prog 30 = some 1 := by kernel_rfl
@[push_cast] theorem ag30 : aggT Tryd.prog 30 = some false := by kernel_rfl
@[push_cast] theorem ze30 : zeroT Tryd.prog 30 = some (.nilf) := by kernel_rfl
@[push_cast] theorem by30 : bytesT Tryd.prog 30 = 8 := by kernel_rfl
@[push_cast] theorem sz31 : sizeT Tryd.prog 31 = some 1 := by kernel_rfl
@[push_cast] theorem ag31 : aggT Tryd.prog 31 = some false := by kernel_rfl
@[push_cast] theorem ze31 : zeroT Tryd.prog 31 = some (.nilf) := by kernel_rfl
@[push_cast] theorem by31 : bytesT Tryd.prog 31 = 8 := by kernel_rfl
@[push_cast] theorem sz32 : sizeT Tryd.prog 32 = some 1 := by kernel_rfl
@[push_cast] theorem ag32 : aggT Tryd.prog 32 = some false := by kernel_rfl
@[push_cast] theorem ze32 : zeroT Tryd.prog 32 = some (.nilf) := by kernel_rfl
@[push_cast] theorem by32 : bytesT Tryd.prog 32 = 8 := by kernel_rfl
@[push_cast] theorem sz33 : sizeT Tryd.prog 33 = some 1 := by kernel_rfl
@[push_cast] theorem ag33 : aggT Tryd.prog 33 = some false := by kernel_rfl
@[push_cast] theorem ze33 : zeroT Tryd.prog 33 = some (.nils) := by kernel_rfl
@[push_cast] theorem by33 : bytesT Tryd.prog 33 = 24 := by kernel_rfl
@[push_cast] theorem el33 : elemT Tryd.prog 33 = some 53 := by kernel_rfl
@[push_cast] theorem sz34 : sizeT Tryd.prog 34 = some 1 := by kernel_rfl
@[push_cast] theorem ag34 : aggT Tryd.prog 34 = some false := by kernel_rfl
@[push_cast] theorem ze34 : zeroT Tryd.prog 34 = some (.nils) := by kernel_rfl
@[push_cast] theorem by34 : bytesT Tryd.prog 34 = 24 := by kernel_rfl
@[push_cast] theorem el34 : elemT Tryd.prog 34 = some 93 := by kernel_rfl
@[push_cast] theorem sz35 : sizeT Tryd.prog 35 = some 2 := by kernel_rfl
@[push_cast] theorem ag35 : aggT Tryd.prog 35 = some true := by kernel_rfl
@[push_cast] theorem ze35 : zeroT Tryd.prog 35 = some (.agg [.nils, .nils]) := by kernel_rfl
@[push_cast] theorem by35 : bytesT Tryd.prog 35 = 48 := by kernel_rfl
@[push_cast] theorem fn35x0 : fieldN Tryd.prog 35 0 = some (33, 0) := by kernel_rfl
@[push_cast] theorem fn35x1 : fieldN Tryd.prog 35 1 = some (34, 1) := by kernel_rfl
@[push_cast] theorem pl35 : placesT Tryd.prog 35 = some [(0, 1), (1, 1)] := by kernel_rfl
@[push_cast] theorem pe35 : plainEqT Tryd.prog 35 = true := by kernel_rfl
@[push_cast] theorem sh35 : Program.stoodInHeld Tryd.prog 35 = false := by kernel_rfl
@[push_cast] theorem sz36 : sizeT Tryd.prog 36 = some 2 := by kernel_rfl
@[push_cast] theorem ag36 : aggT Tryd.prog 36 = some true := by kernel_rfl
@[push_cast] theorem ze36 : zeroT Tryd.prog 36 = some (.agg [.nils, .nils]) := by kernel_rfl
@[push_cast] theorem by36 : bytesT Tryd.prog 36 = 48 := by kernel_rfl
@[push_cast] theorem fn36x0 : fieldN Tryd.prog 36 0 = some (33, 0) := by kernel_rfl
@[push_cast] theorem fn36x1 : fieldN Tryd.prog 36 1 = some (34, 1) := by kernel_rfl
@[push_cast] theorem pl36 : placesT Tryd.prog 36 = some [(0, 1), (1, 1)] := by kernel_rfl
@[push_cast] theorem pe36 : plainEqT Tryd.prog 36 = true := by kernel_rfl
@[push_cast] theorem sh36 : Program.stoodInHeld Tryd.prog 36 = false := by kernel_rfl
@[push_cast] theorem sz37 : sizeT Tryd.prog 37 = some 1 := by kernel_rfl
@[push_cast] theorem ag37 : aggT Tryd.prog 37 = some false := by kernel_rfl
@[push_cast] theorem ze37 : zeroT Tryd.prog 37 = some (.nilf) := by kernel_rfl
@[push_cast] theorem by37 : bytesT Tryd.prog 37 = 8 := by kernel_rfl
@[push_cast] theorem sz38 : sizeT Tryd.prog 38 = some 1 := by kernel_rfl
@[push_cast] theorem ag38 : aggT Tryd.prog 38 = some false := by kernel_rfl
@[push_cast] theorem ze38 : zeroT Tryd.prog 38 = some (.int .i64 0) := by kernel_rfl
@[push_cast] theorem by38 : bytesT Tryd.prog 38 = 8 := by kernel_rfl
@[push_cast] theorem sz39 : sizeT Tryd.prog 39 = some 1 := by kernel_rfl
@[push_cast] theorem ag39 : aggT Tryd.prog 39 = some false := by kernel_rfl
@[push_cast] theorem ze39 : zeroT Tryd.prog 39 = some (.nilf) := by kernel_rfl
@[push_cast] theorem by39 : bytesT Tryd.prog 39 = 8 := by kernel_rfl
@[push_cast] theorem sz40 : sizeT Tryd.prog 40 = some 1 := by kernel_rfl
@[push_cast] theorem ag40 : aggT Tryd.prog 40 = some false := by kernel_rfl
@[push_cast] theorem ze40 : zeroT Tryd.prog 40 = some (.nilf) := by kernel_rfl
@[push_cast] theorem by40 : bytesT Tryd.prog 40 = 8 := by kernel_rfl
@[push_cast] theorem sz41 : sizeT Tryd.prog 41 = some 2 := by kernel_rfl
@[push_cast] theorem ag41 : aggT Tryd.prog 41 = some true := by kernel_rfl
@[push_cast] theorem ze41 : zeroT Tryd.prog 41 = some (.agg [.nils, .nils]) := by kernel_rfl
@[push_cast] theorem by41 : bytesT Tryd.prog 41 = 48 := by kernel_rfl
@[push_cast] theorem fn41x0 : fieldN Tryd.prog 41 0 = some (22, 0) := by kernel_rfl
@[push_cast] theorem fn41x1 : fieldN Tryd.prog 41 1 = some (26, 1) := by kernel_rfl
@[push_cast] theorem pl41 : placesT Tryd.prog 41 = some [(0, 1), (1, 1)] := by kernel_rfl
@[push_cast] theorem pe41 : plainEqT Tryd.prog 41 = true := by kernel_rfl
@[push_cast] theorem sh41 : Program.stoodInHeld Tryd.prog 41 = false := by kernel_rfl
@[push_cast] theorem sz42 : sizeT Tryd.prog 42 = some 2 := by kernel_rfl
@[push_cast] theorem ag42 : aggT Tryd.prog 42 = some true := by kernel_rfl
@[push_cast] theorem ze42 : zeroT Tryd.prog 42 = some (.agg [.nils, .nils]) := by kernel_rfl
@[push_cast] theorem by42 : bytesT Tryd.prog 42 = 48 := by kernel_rfl
@[push_cast] theorem fn42x0 : fieldN Tryd.prog 42 0 = some (22, 0) := by kernel_rfl
@[push_cast] theorem fn42x1 : fieldN Tryd.prog 42 1 = some (26, 1) := by kernel_rfl
@[push_cast] theorem pl42 : placesT Tryd.prog 42 = some [(0, 1), (1, 1)] := by kernel_rfl
@[push_cast] theorem pe42 : plainEqT Tryd.prog 42 = true := by kernel_rfl
@[push_cast] theorem sh42 : Program.stoodInHeld Tryd.prog 42 = false := by kernel_rfl
@[push_cast] theorem sz43 : sizeT Tryd.prog 43 = some 1 := by kernel_rfl
@[push_cast] theorem ag43 : aggT Tryd.prog 43 = some false := by kernel_rfl
@[push_cast] theorem ze43 : zeroT Tryd.prog 43 = some (.nils) := by kernel_rfl
@[push_cast] theorem by43 : bytesT Tryd.prog 43 = 24 := by kernel_rfl
@[push_cast] theorem el43 : elemT Tryd.prog 43 = some 54 := by kernel_rfl
@[push_cast] theorem sz44 : sizeT Tryd.prog 44 = some 1 := by kernel_rfl
@[push_cast] theorem ag44 : aggT Tryd.prog 44 = some false := by kernel_rfl
@[push_cast] theorem by44 : bytesT Tryd.prog 44 = 0 := by kernel_rfl
@[push_cast] theorem sz45 : sizeT Tryd.prog 45 = some 1 := by kernel_rfl
@[push_cast] theorem ag45 : aggT Tryd.prog 45 = some false := by kernel_rfl
@[push_cast] theorem ze45 : zeroT Tryd.prog 45 = some (.nilf) := by kernel_rfl
@[push_cast] theorem by45 : bytesT Tryd.prog 45 = 8 := by kernel_rfl
@[push_cast] theorem sz46 : sizeT Tryd.prog 46 = some 1 := by kernel_rfl
@[push_cast] theorem ag46 : aggT Tryd.prog 46 = some false := by kernel_rfl
@[push_cast] theorem ze46 : zeroT Tryd.prog 46 = some (.nilf) := by kernel_rfl
@[push_cast] theorem by46 : bytesT Tryd.prog 46 = 8 := by kernel_rfl
@[push_cast] theorem sz47 : sizeT Tryd.prog 47 = some 1 := by kernel_rfl
@[push_cast] theorem ag47 : aggT Tryd.prog 47 = some false := by kernel_rfl
@[push_cast] theorem ze47 : zeroT Tryd.prog 47 = some (.nilf) := by kernel_rfl
@[push_cast] theorem by47 : bytesT Tryd.prog 47 = 8 := by kernel_rfl
@[push_cast] theorem sz48 : sizeT Tryd.prog 48 = some 1 := by kernel_rfl
@[push_cast] theorem ag48 : aggT Tryd.prog 48 = some false := by kernel_rfl
@[push_cast] theorem ze48 : zeroT Tryd.prog 48 = some (.nilf) := by kernel_rfl
@[push_cast] theorem by48 : bytesT Tryd.prog 48 = 8 := by kernel_rfl
@[push_cast] theorem sz49 : sizeT Tryd.prog 49 = some 1 := by kernel_rfl
@[push_cast] theorem ag49 : aggT Tryd.prog 49 = some false := by kernel_rfl
@[push_cast] theorem ze49 : zeroT Tryd.prog 49 = some (.nils) := by kernel_rfl
@[push_cast] theorem by49 : bytesT Tryd.prog 49 = 24 := by kernel_rfl
@[push_cast] theorem el49 : elemT Tryd.prog 49 = some 106 := by kernel_rfl
@[push_cast] theorem sz50 : sizeT Tryd.prog 50 = some 2 := by kernel_rfl
@[push_cast] theorem ag50 : aggT Tryd.prog 50 = some true := by kernel_rfl
@[push_cast] theorem ze50 : zeroT Tryd.prog 50 = some (.agg [.int .i64 0, .nils]) := by kernel_rfl
@[push_cast] theorem by50 : bytesT Tryd.prog 50 = 32 := by kernel_rfl
@[push_cast] theorem fn50x0 : fieldN Tryd.prog 50 0 = some (3, 0) := by kernel_rfl
@[push_cast] theorem fn50x1 : fieldN Tryd.prog 50 1 = some (49, 1) := by kernel_rfl
@[push_cast] theorem pl50 : placesT Tryd.prog 50 = some [(0, 1), (1, 1)] := by kernel_rfl
@[push_cast] theorem pe50 : plainEqT Tryd.prog 50 = true := by kernel_rfl
@[push_cast] theorem sh50 : Program.stoodInHeld Tryd.prog 50 = false := by kernel_rfl
@[push_cast] theorem sz51 : sizeT Tryd.prog 51 = some 2 := by kernel_rfl
@[push_cast] theorem ag51 : aggT Tryd.prog 51 = some true := by kernel_rfl
@[push_cast] theorem ze51 : zeroT Tryd.prog 51 = some (.agg [.int .i64 0, .nils]) := by kernel_rfl
@[push_cast] theorem by51 : bytesT Tryd.prog 51 = 32 := by kernel_rfl
@[push_cast] theorem fn51x0 : fieldN Tryd.prog 51 0 = some (3, 0) := by kernel_rfl
@[push_cast] theorem fn51x1 : fieldN Tryd.prog 51 1 = some (49, 1) := by kernel_rfl
@[push_cast] theorem pl51 : placesT Tryd.prog 51 = some [(0, 1), (1, 1)] := by kernel_rfl
@[push_cast] theorem pe51 : plainEqT Tryd.prog 51 = true := by kernel_rfl
@[push_cast] theorem sh51 : Program.stoodInHeld Tryd.prog 51 = false := by kernel_rfl
@[push_cast] theorem sz52 : sizeT Tryd.prog 52 = some 5 := by kernel_rfl
@[push_cast] theorem ag52 : aggT Tryd.prog 52 = some true := by kernel_rfl
@[push_cast] theorem ze52 : zeroT Tryd.prog 52 = some (.agg [.str ⟨#[]⟩, .str ⟨#[]⟩, .str ⟨#[]⟩, .int .i64 0, .nils]) := by kernel_rfl
@[push_cast] theorem by52 : bytesT Tryd.prog 52 = 80 := by kernel_rfl
@[push_cast] theorem fn52x0 : fieldN Tryd.prog 52 0 = some (9, 0) := by kernel_rfl
@[push_cast] theorem fn52x1 : fieldN Tryd.prog 52 1 = some (9, 1) := by kernel_rfl
@[push_cast] theorem fn52x2 : fieldN Tryd.prog 52 2 = some (9, 2) := by kernel_rfl
@[push_cast] theorem fn52x3 : fieldN Tryd.prog 52 3 = some (51, 3) := by kernel_rfl
@[push_cast] theorem pl52 : placesT Tryd.prog 52 = some [(0, 1), (1, 1), (2, 1), (3, 2)] := by kernel_rfl
@[push_cast] theorem pe52 : plainEqT Tryd.prog 52 = true := by kernel_rfl
@[push_cast] theorem sh52 : Program.stoodInHeld Tryd.prog 52 = false := by kernel_rfl
@[push_cast] theorem sz53 : sizeT Tryd.prog 53 = some 5 := by kernel_rfl
@[push_cast] theorem ag53 : aggT Tryd.prog 53 = some true := by kernel_rfl
@[push_cast] theorem ze53 : zeroT Tryd.prog 53 = some (.agg [.str ⟨#[]⟩, .str ⟨#[]⟩, .str ⟨#[]⟩, .int .i64 0, .nils]) := by kernel_rfl
@[push_cast] theorem by53 : bytesT Tryd.prog 53 = 80 := by kernel_rfl
@[push_cast] theorem fn53x0 : fieldN Tryd.prog 53 0 = some (9, 0) := by kernel_rfl
@[push_cast] theorem fn53x1 : fieldN Tryd.prog 53 1 = some (9, 1) := by kernel_rfl
@[push_cast] theorem fn53x2 : fieldN Tryd.prog 53 2 = some (9, 2) := by kernel_rfl
@[push_cast] theorem fn53x3 : fieldN Tryd.prog 53 3 = some (51, 3) := by kernel_rfl
@[push_cast] theorem pl53 : placesT Tryd.prog 53 = some [(0, 1), (1, 1), (2, 1), (3, 2)] := by kernel_rfl
@[push_cast] theorem pe53 : plainEqT Tryd.prog 53 = true := by kernel_rfl
@[push_cast] theorem sh53 : Program.stoodInHeld Tryd.prog 53 = false := by kernel_rfl
@[push_cast] theorem sz54 : sizeT Tryd.prog 54 = some 1 := by kernel_rfl
@[push_cast] theorem ag54 : aggT Tryd.prog 54 = some false := by kernel_rfl
@[push_cast] theorem ze54 : zeroT Tryd.prog 54 = some (.nils) := by kernel_rfl
@[push_cast] theorem by54 : bytesT Tryd.prog 54 = 24 := by kernel_rfl
@[push_cast] theorem el54 : elemT Tryd.prog 54 = some 3 := by kernel_rfl
@[push_cast] theorem sz55 : sizeT Tryd.prog 55 = some 1 := by kernel_rfl
@[push_cast] theorem ag55 : aggT Tryd.prog 55 = some false := by kernel_rfl
@[push_cast] theorem by55 : bytesT Tryd.prog 55 = 0 := by kernel_rfl
@[push_cast] theorem sz56 : sizeT Tryd.prog 56 = some 1 := by kernel_rfl
@[push_cast] theorem ag56 : aggT Tryd.prog 56 = some false := by kernel_rfl
@[push_cast] theorem ze56 : zeroT Tryd.prog 56 = some (.nilf) := by kernel_rfl
@[push_cast] theorem by56 : bytesT Tryd.prog 56 = 8 := by kernel_rfl
@[push_cast] theorem sz57 : sizeT Tryd.prog 57 = some 1 := by kernel_rfl
@[push_cast] theorem ag57 : aggT Tryd.prog 57 = some false := by kernel_rfl
@[push_cast] theorem ze57 : zeroT Tryd.prog 57 = some (.nilf) := by kernel_rfl
@[push_cast] theorem by57 : bytesT Tryd.prog 57 = 8 := by kernel_rfl
@[push_cast] theorem sz58 : sizeT Tryd.prog 58 = some 4 := by kernel_rfl
@[push_cast] theorem ag58 : aggT Tryd.prog 58 = some true := by kernel_rfl
@[push_cast] theorem ze58 : zeroT Tryd.prog 58 = some (.agg [.str ⟨#[]⟩, .str ⟨#[]⟩, .str ⟨#[]⟩, .int .i64 0]) := by kernel_rfl
@[push_cast] theorem by58 : bytesT Tryd.prog 58 = 56 := by kernel_rfl
@[push_cast] theorem fn58x0 : fieldN Tryd.prog 58 0 = some (9, 0) := by kernel_rfl
@[push_cast] theorem fn58x1 : fieldN Tryd.prog 58 1 = some (9, 1) := by kernel_rfl
@[push_cast] theorem fn58x2 : fieldN Tryd.prog 58 2 = some (9, 2) := by kernel_rfl
@[push_cast] theorem fn58x3 : fieldN Tryd.prog 58 3 = some (3, 3) := by kernel_rfl
@[push_cast] theorem pl58 : placesT Tryd.prog 58 = some [(0, 1), (1, 1), (2, 1), (3, 1)] := by kernel_rfl
@[push_cast] theorem pe58 : plainEqT Tryd.prog 58 = true := by kernel_rfl
@[push_cast] theorem sh58 : Program.stoodInHeld Tryd.prog 58 = false := by kernel_rfl
@[push_cast] theorem sz59 : sizeT Tryd.prog 59 = some 4 := by kernel_rfl
@[push_cast] theorem ag59 : aggT Tryd.prog 59 = some true := by kernel_rfl
@[push_cast] theorem ze59 : zeroT Tryd.prog 59 = some (.agg [.str ⟨#[]⟩, .str ⟨#[]⟩, .str ⟨#[]⟩, .int .i64 0]) := by kernel_rfl
@[push_cast] theorem by59 : bytesT Tryd.prog 59 = 56 := by kernel_rfl
@[push_cast] theorem fn59x0 : fieldN Tryd.prog 59 0 = some (9, 0) := by kernel_rfl
@[push_cast] theorem fn59x1 : fieldN Tryd.prog 59 1 = some (9, 1) := by kernel_rfl
@[push_cast] theorem fn59x2 : fieldN Tryd.prog 59 2 = some (9, 2) := by kernel_rfl
@[push_cast] theorem fn59x3 : fieldN Tryd.prog 59 3 = some (3, 3) := by kernel_rfl
@[push_cast] theorem pl59 : placesT Tryd.prog 59 = some [(0, 1), (1, 1), (2, 1), (3, 1)] := by kernel_rfl
@[push_cast] theorem pe59 : plainEqT Tryd.prog 59 = true := by kernel_rfl
@[push_cast] theorem sh59 : Program.stoodInHeld Tryd.prog 59 = false := by kernel_rfl
@[push_cast] theorem sz60 : sizeT Tryd.prog 60 = some 2 := by kernel_rfl
@[push_cast] theorem ag60 : aggT Tryd.prog 60 = some true := by kernel_rfl
@[push_cast] theorem ze60 : zeroT Tryd.prog 60 = some (.agg [.int .i64 0, .str ⟨#[]⟩]) := by kernel_rfl
@[push_cast] theorem by60 : bytesT Tryd.prog 60 = 24 := by kernel_rfl
@[push_cast] theorem fn60x0 : fieldN Tryd.prog 60 0 = some (38, 0) := by kernel_rfl
@[push_cast] theorem fn60x1 : fieldN Tryd.prog 60 1 = some (9, 1) := by kernel_rfl
@[push_cast] theorem pl60 : placesT Tryd.prog 60 = some [(0, 1), (1, 1)] := by kernel_rfl
@[push_cast] theorem pe60 : plainEqT Tryd.prog 60 = true := by kernel_rfl
@[push_cast] theorem sh60 : Program.stoodInHeld Tryd.prog 60 = false := by kernel_rfl
@[push_cast] theorem sz61 : sizeT Tryd.prog 61 = some 2 := by kernel_rfl
@[push_cast] theorem ag61 : aggT Tryd.prog 61 = some true := by kernel_rfl
@[push_cast] theorem ze61 : zeroT Tryd.prog 61 = some (.agg [.int .i64 0, .str ⟨#[]⟩]) := by kernel_rfl
@[push_cast] theorem by61 : bytesT Tryd.prog 61 = 24 := by kernel_rfl
@[push_cast] theorem fn61x0 : fieldN Tryd.prog 61 0 = some (38, 0) := by kernel_rfl
@[push_cast] theorem fn61x1 : fieldN Tryd.prog 61 1 = some (9, 1) := by kernel_rfl
@[push_cast] theorem pl61 : placesT Tryd.prog 61 = some [(0, 1), (1, 1)] := by kernel_rfl
@[push_cast] theorem pe61 : plainEqT Tryd.prog 61 = true := by kernel_rfl
@[push_cast] theorem sh61 : Program.stoodInHeld Tryd.prog 61 = false := by kernel_rfl
@[push_cast] theorem sz62 : sizeT Tryd.prog 62 = some 1 := by kernel_rfl
@[push_cast] theorem ag62 : aggT Tryd.prog 62 = some false := by kernel_rfl
@[push_cast] theorem ze62 : zeroT Tryd.prog 62 = some (.nilf) := by kernel_rfl
@[push_cast] theorem by62 : bytesT Tryd.prog 62 = 8 := by kernel_rfl
@[push_cast] theorem sz63 : sizeT Tryd.prog 63 = some 1 := by kernel_rfl
@[push_cast] theorem ag63 : aggT Tryd.prog 63 = some false := by kernel_rfl
@[push_cast] theorem ze63 : zeroT Tryd.prog 63 = some (.nilf) := by kernel_rfl
@[push_cast] theorem by63 : bytesT Tryd.prog 63 = 8 := by kernel_rfl
@[push_cast] theorem sz64 : sizeT Tryd.prog 64 = some 1 := by kernel_rfl
@[push_cast] theorem ag64 : aggT Tryd.prog 64 = some false := by kernel_rfl
@[push_cast] theorem ze64 : zeroT Tryd.prog 64 = some (.nilf) := by kernel_rfl
@[push_cast] theorem by64 : bytesT Tryd.prog 64 = 8 := by kernel_rfl
@[push_cast] theorem sz65 : sizeT Tryd.prog 65 = some 1 := by kernel_rfl
@[push_cast] theorem ag65 : aggT Tryd.prog 65 = some false := by kernel_rfl
@[push_cast] theorem ze65 : zeroT Tryd.prog 65 = some (.nilf) := by kernel_rfl
@[push_cast] theorem by65 : bytesT Tryd.prog 65 = 8 := by kernel_rfl
@[push_cast] theorem sz66 : sizeT Tryd.prog 66 = some 1 := by kernel_rfl
@[push_cast] theorem ag66 : aggT Tryd.prog 66 = some false := by kernel_rfl
@[push_cast] theorem ze66 : zeroT Tryd.prog 66 = some (.nilf) := by kernel_rfl
@[push_cast] theorem by66 : bytesT Tryd.prog 66 = 8 := by kernel_rfl
@[push_cast] theorem sz67 : sizeT Tryd.prog 67 = some 1 := by kernel_rfl
@[push_cast] theorem ag67 : aggT Tryd.prog 67 = some false := by kernel_rfl
@[push_cast] theorem ze67 : zeroT Tryd.prog 67 = some (.nilf) := by kernel_rfl
@[push_cast] theorem by67 : bytesT Tryd.prog 67 = 8 := by kernel_rfl
@[push_cast] theorem sz68 : sizeT Tryd.prog 68 = some 1 := by kernel_rfl
@[push_cast] theorem ag68 : aggT Tryd.prog 68 = some false := by kernel_rfl
@[push_cast] theorem ze68 : zeroT Tryd.prog 68 = some (.nils) := by kernel_rfl
@[push_cast] theorem by68 : bytesT Tryd.prog 68 = 24 := by kernel_rfl
@[push_cast] theorem el68 : elemT Tryd.prog 68 = some 38 := by kernel_rfl
@[push_cast] theorem sz69 : sizeT Tryd.prog 69 = some 1 := by kernel_rfl
@[push_cast] theorem ag69 : aggT Tryd.prog 69 = some false := by kernel_rfl
@[push_cast] theorem ze69 : zeroT Tryd.prog 69 = some (.nilf) := by kernel_rfl
@[push_cast] theorem by69 : bytesT Tryd.prog 69 = 8 := by kernel_rfl
@[push_cast] theorem sz70 : sizeT Tryd.prog 70 = some 1 := by kernel_rfl
@[push_cast] theorem ag70 : aggT Tryd.prog 70 = some false := by kernel_rfl
@[push_cast] theorem ze70 : zeroT Tryd.prog 70 = some (.nilf) := by kernel_rfl
@[push_cast] theorem by70 : bytesT Tryd.prog 70 = 8 := by kernel_rfl
@[push_cast] theorem sz71 : sizeT Tryd.prog 71 = some 1 := by kernel_rfl
@[push_cast] theorem ag71 : aggT Tryd.prog 71 = some false := by kernel_rfl
@[push_cast] theorem ze71 : zeroT Tryd.prog 71 = some (.nilp) := by kernel_rfl
@[push_cast] theorem by71 : bytesT Tryd.prog 71 = 8 := by kernel_rfl
@[push_cast] theorem sz72 : sizeT Tryd.prog 72 = some 1 := by kernel_rfl
@[push_cast] theorem ag72 : aggT Tryd.prog 72 = some false := by kernel_rfl
@[push_cast] theorem ze72 : zeroT Tryd.prog 72 = some (.nils) := by kernel_rfl
@[push_cast] theorem by72 : bytesT Tryd.prog 72 = 24 := by kernel_rfl
@[push_cast] theorem el72 : elemT Tryd.prog 72 = some 9 := by kernel_rfl
@[push_cast] theorem sz73 : sizeT Tryd.prog 73 = some 7 := by kernel_rfl
@[push_cast] theorem ag73 : aggT Tryd.prog 73 = some true := by kernel_rfl
@[push_cast] theorem ze73 : zeroT Tryd.prog 73 = some (.agg [.nils, .nils, .str ⟨#[]⟩, .int .i64 0, .nils, .nils, .nils]) := by kernel_rfl
@[push_cast] theorem by73 : bytesT Tryd.prog 73 = 144 := by kernel_rfl
@[push_cast] theorem fn73x0 : fieldN Tryd.prog 73 0 = some (22, 0) := by kernel_rfl
@[push_cast] theorem fn73x1 : fieldN Tryd.prog 73 1 = some (26, 1) := by kernel_rfl
@[push_cast] theorem fn73x2 : fieldN Tryd.prog 73 2 = some (9, 2) := by kernel_rfl
@[push_cast] theorem fn73x3 : fieldN Tryd.prog 73 3 = some (3, 3) := by kernel_rfl
@[push_cast] theorem fn73x4 : fieldN Tryd.prog 73 4 = some (43, 4) := by kernel_rfl
@[push_cast] theorem fn73x5 : fieldN Tryd.prog 73 5 = some (72, 5) := by kernel_rfl
@[push_cast] theorem fn73x6 : fieldN Tryd.prog 73 6 = some (54, 6) := by kernel_rfl
@[push_cast] theorem pl73 : placesT Tryd.prog 73 = some [(0, 1), (1, 1), (2, 1), (3, 1), (4, 1), (5, 1), (6, 1)] := by kernel_rfl
@[push_cast] theorem pe73 : plainEqT Tryd.prog 73 = true := by kernel_rfl
@[push_cast] theorem sh73 : Program.stoodInHeld Tryd.prog 73 = false := by kernel_rfl
@[push_cast] theorem sz74 : sizeT Tryd.prog 74 = some 7 := by kernel_rfl
@[push_cast] theorem ag74 : aggT Tryd.prog 74 = some true := by kernel_rfl
@[push_cast] theorem ze74 : zeroT Tryd.prog 74 = some (.agg [.nils, .nils, .str ⟨#[]⟩, .int .i64 0, .nils, .nils, .nils]) := by kernel_rfl
@[push_cast] theorem by74 : bytesT Tryd.prog 74 = 144 := by kernel_rfl
@[push_cast] theorem fn74x0 : fieldN Tryd.prog 74 0 = some (22, 0) := by kernel_rfl
@[push_cast] theorem fn74x1 : fieldN Tryd.prog 74 1 = some (26, 1) := by kernel_rfl
@[push_cast] theorem fn74x2 : fieldN Tryd.prog 74 2 = some (9, 2) := by kernel_rfl
@[push_cast] theorem fn74x3 : fieldN Tryd.prog 74 3 = some (3, 3) := by kernel_rfl
@[push_cast] theorem fn74x4 : fieldN Tryd.prog 74 4 = some (43, 4) := by kernel_rfl
@[push_cast] theorem fn74x5 : fieldN Tryd.prog 74 5 = some (72, 5) := by kernel_rfl
@[push_cast] theorem fn74x6 : fieldN Tryd.prog 74 6 = some (54, 6) := by kernel_rfl
@[push_cast] theorem pl74 : placesT Tryd.prog 74 = some [(0, 1), (1, 1), (2, 1), (3, 1), (4, 1), (5, 1), (6, 1)] := by kernel_rfl
@[push_cast] theorem pe74 : plainEqT Tryd.prog 74 = true := by kernel_rfl
@[push_cast] theorem sh74 : Program.stoodInHeld Tryd.prog 74 = false := by kernel_rfl
@[push_cast] theorem sz75 : sizeT Tryd.prog 75 = some 1 := by kernel_rfl
@[push_cast] theorem ag75 : aggT Tryd.prog 75 = some false := by kernel_rfl
@[push_cast] theorem ze75 : zeroT Tryd.prog 75 = some (.nilf) := by kernel_rfl
@[push_cast] theorem by75 : bytesT Tryd.prog 75 = 8 := by kernel_rfl
@[push_cast] theorem sz76 : sizeT Tryd.prog 76 = some 1 := by kernel_rfl
@[push_cast] theorem ag76 : aggT Tryd.prog 76 = some false := by kernel_rfl
@[push_cast] theorem ze76 : zeroT Tryd.prog 76 = some (.nilf) := by kernel_rfl
@[push_cast] theorem by76 : bytesT Tryd.prog 76 = 8 := by kernel_rfl
@[push_cast] theorem sz77 : sizeT Tryd.prog 77 = some 1 := by kernel_rfl
@[push_cast] theorem ag77 : aggT Tryd.prog 77 = some false := by kernel_rfl
@[push_cast] theorem ze77 : zeroT Tryd.prog 77 = some (.nilf) := by kernel_rfl
@[push_cast] theorem by77 : bytesT Tryd.prog 77 = 8 := by kernel_rfl
@[push_cast] theorem sz78 : sizeT Tryd.prog 78 = some 1 := by kernel_rfl
@[push_cast] theorem ag78 : aggT Tryd.prog 78 = some false := by kernel_rfl
@[push_cast] theorem ze78 : zeroT Tryd.prog 78 = some (.nilf) := by kernel_rfl
@[push_cast] theorem by78 : bytesT Tryd.prog 78 = 8 := by kernel_rfl
@[push_cast] theorem sz79 : sizeT Tryd.prog 79 = some 1 := by kernel_rfl
@[push_cast] theorem ag79 : aggT Tryd.prog 79 = some false := by kernel_rfl
@[push_cast] theorem ze79 : zeroT Tryd.prog 79 = some (.nilf) := by kernel_rfl
@[push_cast] theorem by79 : bytesT Tryd.prog 79 = 8 := by kernel_rfl
@[push_cast] theorem sz80 : sizeT Tryd.prog 80 = some 1 := by kernel_rfl
@[push_cast] theorem ag80 : aggT Tryd.prog 80 = some false := by kernel_rfl
@[push_cast] theorem ze80 : zeroT Tryd.prog 80 = some (.nilf) := by kernel_rfl
@[push_cast] theorem by80 : bytesT Tryd.prog 80 = 8 := by kernel_rfl
@[push_cast] theorem sz81 : sizeT Tryd.prog 81 = some 1 := by kernel_rfl
@[push_cast] theorem ag81 : aggT Tryd.prog 81 = some false := by kernel_rfl
@[push_cast] theorem ze81 : zeroT Tryd.prog 81 = some (.nilf) := by kernel_rfl
@[push_cast] theorem by81 : bytesT Tryd.prog 81 = 8 := by kernel_rfl
@[push_cast] theorem sz82 : sizeT Tryd.prog 82 = some 1 := by kernel_rfl
@[push_cast] theorem ag82 : aggT Tryd.prog 82 = some false := by kernel_rfl
@[push_cast] theorem ze82 : zeroT Tryd.prog 82 = some (.nilf) := by kernel_rfl
@[push_cast] theorem by82 : bytesT Tryd.prog 82 = 8 := by kernel_rfl
@[push_cast] theorem sz83 : sizeT Tryd.prog 83 = some 1 := by kernel_rfl
@[push_cast] theorem ag83 : aggT Tryd.prog 83 = some false := by kernel_rfl
@[push_cast] theorem ze83 : zeroT Tryd.prog 83 = some (.nilf) := by kernel_rfl
@[push_cast] theorem by83 : bytesT Tryd.prog 83 = 8 := by kernel_rfl
@[push_cast] theorem sz84 : sizeT Tryd.prog 84 = some 1 := by kernel_rfl
@[push_cast] theorem ag84 : aggT Tryd.prog 84 = some false := by kernel_rfl
@[push_cast] theorem ze84 : zeroT Tryd.prog 84 = some (.nilf) := by kernel_rfl
@[push_cast] theorem by84 : bytesT Tryd.prog 84 = 8 := by kernel_rfl
@[push_cast] theorem sz85 : sizeT Tryd.prog 85 = some 1 := by kernel_rfl
@[push_cast] theorem ag85 : aggT Tryd.prog 85 = some false := by kernel_rfl
@[push_cast] theorem ze85 : zeroT Tryd.prog 85 = some (.nilf) := by kernel_rfl
@[push_cast] theorem by85 : bytesT Tryd.prog 85 = 8 := by kernel_rfl
@[push_cast] theorem sz86 : sizeT Tryd.prog 86 = some 1 := by kernel_rfl
@[push_cast] theorem ag86 : aggT Tryd.prog 86 = some false := by kernel_rfl
@[push_cast] theorem ze86 : zeroT Tryd.prog 86 = some (.nilf) := by kernel_rfl
@[push_cast] theorem by86 : bytesT Tryd.prog 86 = 8 := by kernel_rfl
@[push_cast] theorem sz87 : sizeT Tryd.prog 87 = some 1 := by kernel_rfl
@[push_cast] theorem ag87 : aggT Tryd.prog 87 = some false := by kernel_rfl
@[push_cast] theorem ze87 : zeroT Tryd.prog 87 = some (.int .u64 0) := by kernel_rfl
@[push_cast] theorem by87 : bytesT Tryd.prog 87 = 8 := by kernel_rfl
@[push_cast] theorem sz88 : sizeT Tryd.prog 88 = some 1 := by kernel_rfl
@[push_cast] theorem ag88 : aggT Tryd.prog 88 = some false := by kernel_rfl
@[push_cast] theorem ze88 : zeroT Tryd.prog 88 = some (.nilf) := by kernel_rfl
@[push_cast] theorem by88 : bytesT Tryd.prog 88 = 8 := by kernel_rfl
@[push_cast] theorem sz89 : sizeT Tryd.prog 89 = some 2 := by kernel_rfl
@[push_cast] theorem ag89 : aggT Tryd.prog 89 = some true := by kernel_rfl
@[push_cast] theorem ze89 : zeroT Tryd.prog 89 = some (.agg [.str ⟨#[]⟩, .str ⟨#[]⟩]) := by kernel_rfl
@[push_cast] theorem by89 : bytesT Tryd.prog 89 = 32 := by kernel_rfl
@[push_cast] theorem pl89 : placesT Tryd.prog 89 = some [(0, 1), (1, 1)] := by kernel_rfl
@[push_cast] theorem sz90 : sizeT Tryd.prog 90 = some 6 := by kernel_rfl
@[push_cast] theorem ag90 : aggT Tryd.prog 90 = some true := by kernel_rfl
@[push_cast] theorem ze90 : zeroT Tryd.prog 90 = some (.agg [.str ⟨#[]⟩, .str ⟨#[]⟩, .str ⟨#[]⟩, .str ⟨#[]⟩, .str ⟨#[]⟩, .str ⟨#[]⟩]) := by kernel_rfl
@[push_cast] theorem by90 : bytesT Tryd.prog 90 = 96 := by kernel_rfl
@[push_cast] theorem pl90 : placesT Tryd.prog 90 = some [(0, 2), (2, 2), (4, 2)] := by kernel_rfl
@[push_cast] theorem sz91 : sizeT Tryd.prog 91 = some 1 := by kernel_rfl
@[push_cast] theorem ag91 : aggT Tryd.prog 91 = some false := by kernel_rfl
@[push_cast] theorem ze91 : zeroT Tryd.prog 91 = some (.nilf) := by kernel_rfl
@[push_cast] theorem by91 : bytesT Tryd.prog 91 = 8 := by kernel_rfl
@[push_cast] theorem sz92 : sizeT Tryd.prog 92 = some 3 := by kernel_rfl
@[push_cast] theorem ag92 : aggT Tryd.prog 92 = some true := by kernel_rfl
@[push_cast] theorem ze92 : zeroT Tryd.prog 92 = some (.agg [.str ⟨#[]⟩, .str ⟨#[]⟩, .int .i64 0]) := by kernel_rfl
@[push_cast] theorem by92 : bytesT Tryd.prog 92 = 40 := by kernel_rfl
@[push_cast] theorem fn92x0 : fieldN Tryd.prog 92 0 = some (9, 0) := by kernel_rfl
@[push_cast] theorem fn92x1 : fieldN Tryd.prog 92 1 = some (9, 1) := by kernel_rfl
@[push_cast] theorem fn92x2 : fieldN Tryd.prog 92 2 = some (3, 2) := by kernel_rfl
@[push_cast] theorem pl92 : placesT Tryd.prog 92 = some [(0, 1), (1, 1), (2, 1)] := by kernel_rfl
@[push_cast] theorem pe92 : plainEqT Tryd.prog 92 = true := by kernel_rfl
@[push_cast] theorem sh92 : Program.stoodInHeld Tryd.prog 92 = false := by kernel_rfl
@[push_cast] theorem sz93 : sizeT Tryd.prog 93 = some 3 := by kernel_rfl
@[push_cast] theorem ag93 : aggT Tryd.prog 93 = some true := by kernel_rfl
@[push_cast] theorem ze93 : zeroT Tryd.prog 93 = some (.agg [.str ⟨#[]⟩, .str ⟨#[]⟩, .int .i64 0]) := by kernel_rfl
@[push_cast] theorem by93 : bytesT Tryd.prog 93 = 40 := by kernel_rfl
@[push_cast] theorem fn93x0 : fieldN Tryd.prog 93 0 = some (9, 0) := by kernel_rfl
@[push_cast] theorem fn93x1 : fieldN Tryd.prog 93 1 = some (9, 1) := by kernel_rfl
@[push_cast] theorem fn93x2 : fieldN Tryd.prog 93 2 = some (3, 2) := by kernel_rfl
@[push_cast] theorem pl93 : placesT Tryd.prog 93 = some [(0, 1), (1, 1), (2, 1)] := by kernel_rfl
@[push_cast] theorem pe93 : plainEqT Tryd.prog 93 = true := by kernel_rfl
@[push_cast] theorem sh93 : Program.stoodInHeld Tryd.prog 93 = false := by kernel_rfl
@[push_cast] theorem sz94 : sizeT Tryd.prog 94 = some 1 := by kernel_rfl
@[push_cast] theorem ag94 : aggT Tryd.prog 94 = some false := by kernel_rfl
@[push_cast] theorem ze94 : zeroT Tryd.prog 94 = some (.nilf) := by kernel_rfl
@[push_cast] theorem by94 : bytesT Tryd.prog 94 = 8 := by kernel_rfl
@[push_cast] theorem sz95 : sizeT Tryd.prog 95 = some 1 := by kernel_rfl
@[push_cast] theorem ag95 : aggT Tryd.prog 95 = some false := by kernel_rfl
@[push_cast] theorem ze95 : zeroT Tryd.prog 95 = some (.nilf) := by kernel_rfl
@[push_cast] theorem by95 : bytesT Tryd.prog 95 = 8 := by kernel_rfl
@[push_cast] theorem sz96 : sizeT Tryd.prog 96 = some 1 := by kernel_rfl
@[push_cast] theorem ag96 : aggT Tryd.prog 96 = some false := by kernel_rfl
@[push_cast] theorem ze96 : zeroT Tryd.prog 96 = some (.nilf) := by kernel_rfl
@[push_cast] theorem by96 : bytesT Tryd.prog 96 = 8 := by kernel_rfl
@[push_cast] theorem sz97 : sizeT Tryd.prog 97 = some 1 := by kernel_rfl
@[push_cast] theorem ag97 : aggT Tryd.prog 97 = some false := by kernel_rfl
@[push_cast] theorem ze97 : zeroT Tryd.prog 97 = some (.nilf) := by kernel_rfl
@[push_cast] theorem by97 : bytesT Tryd.prog 97 = 8 := by kernel_rfl
@[push_cast] theorem sz98 : sizeT Tryd.prog 98 = some 1 := by kernel_rfl
@[push_cast] theorem ag98 : aggT Tryd.prog 98 = some false := by kernel_rfl
@[push_cast] theorem ze98 : zeroT Tryd.prog 98 = some (.nilf) := by kernel_rfl
@[push_cast] theorem by98 : bytesT Tryd.prog 98 = 8 := by kernel_rfl
@[push_cast] theorem sz99 : sizeT Tryd.prog 99 = some 1 := by kernel_rfl
@[push_cast] theorem ag99 : aggT Tryd.prog 99 = some false := by kernel_rfl
@[push_cast] theorem ze99 : zeroT Tryd.prog 99 = some (.nilf) := by kernel_rfl
@[push_cast] theorem by99 : bytesT Tryd.prog 99 = 8 := by kernel_rfl
@[push_cast] theorem sz100 : sizeT Tryd.prog 100 = some 1 := by kernel_rfl
@[push_cast] theorem ag100 : aggT Tryd.prog 100 = some false := by kernel_rfl
@[push_cast] theorem ze100 : zeroT Tryd.prog 100 = some (.int .u64 0) := by kernel_rfl
@[push_cast] theorem by100 : bytesT Tryd.prog 100 = 8 := by kernel_rfl
@[push_cast] theorem sz101 : sizeT Tryd.prog 101 = some 1 := by kernel_rfl
@[push_cast] theorem ag101 : aggT Tryd.prog 101 = some false := by kernel_rfl
@[push_cast] theorem ze101 : zeroT Tryd.prog 101 = some (.nilf) := by kernel_rfl
@[push_cast] theorem by101 : bytesT Tryd.prog 101 = 8 := by kernel_rfl
@[push_cast] theorem sz102 : sizeT Tryd.prog 102 = some 1 := by kernel_rfl
@[push_cast] theorem ag102 : aggT Tryd.prog 102 = some false := by kernel_rfl
@[push_cast] theorem ze102 : zeroT Tryd.prog 102 = some (.nilf) := by kernel_rfl
@[push_cast] theorem by102 : bytesT Tryd.prog 102 = 8 := by kernel_rfl
@[push_cast] theorem sz103 : sizeT Tryd.prog 103 = some 1 := by kernel_rfl
@[push_cast] theorem ag103 : aggT Tryd.prog 103 = some false := by kernel_rfl
@[push_cast] theorem ze103 : zeroT Tryd.prog 103 = some (.nilf) := by kernel_rfl
@[push_cast] theorem by103 : bytesT Tryd.prog 103 = 8 := by kernel_rfl
@[push_cast] theorem sz104 : sizeT Tryd.prog 104 = some 1 := by kernel_rfl
@[push_cast] theorem ag104 : aggT Tryd.prog 104 = some false := by kernel_rfl
@[push_cast] theorem ze104 : zeroT Tryd.prog 104 = some (.nilf) := by kernel_rfl
@[push_cast] theorem by104 : bytesT Tryd.prog 104 = 8 := by kernel_rfl
@[push_cast] theorem sz105 : sizeT Tryd.prog 105 = some 2 := by kernel_rfl
@[push_cast] theorem ag105 : aggT Tryd.prog 105 = some true := by kernel_rfl
@[push_cast] theorem ze105 : zeroT Tryd.prog 105 = some (.agg [.int .i64 0, .int .i64 0]) := by kernel_rfl
@[push_cast] theorem by105 : bytesT Tryd.prog 105 = 16 := by kernel_rfl
@[push_cast] theorem fn105x0 : fieldN Tryd.prog 105 0 = some (3, 0) := by kernel_rfl
@[push_cast] theorem fn105x1 : fieldN Tryd.prog 105 1 = some (3, 1) := by kernel_rfl
@[push_cast] theorem pl105 : placesT Tryd.prog 105 = some [(0, 1), (1, 1)] := by kernel_rfl
@[push_cast] theorem pe105 : plainEqT Tryd.prog 105 = true := by kernel_rfl
@[push_cast] theorem sh105 : Program.stoodInHeld Tryd.prog 105 = false := by kernel_rfl
@[push_cast] theorem sz106 : sizeT Tryd.prog 106 = some 2 := by kernel_rfl
@[push_cast] theorem ag106 : aggT Tryd.prog 106 = some true := by kernel_rfl
@[push_cast] theorem ze106 : zeroT Tryd.prog 106 = some (.agg [.int .i64 0, .int .i64 0]) := by kernel_rfl
@[push_cast] theorem by106 : bytesT Tryd.prog 106 = 16 := by kernel_rfl
@[push_cast] theorem fn106x0 : fieldN Tryd.prog 106 0 = some (3, 0) := by kernel_rfl
@[push_cast] theorem fn106x1 : fieldN Tryd.prog 106 1 = some (3, 1) := by kernel_rfl
@[push_cast] theorem pl106 : placesT Tryd.prog 106 = some [(0, 1), (1, 1)] := by kernel_rfl
@[push_cast] theorem pe106 : plainEqT Tryd.prog 106 = true := by kernel_rfl
@[push_cast] theorem sh106 : Program.stoodInHeld Tryd.prog 106 = false := by kernel_rfl
@[push_cast] theorem sz107 : sizeT Tryd.prog 107 = some 1 := by kernel_rfl
@[push_cast] theorem ag107 : aggT Tryd.prog 107 = some false := by kernel_rfl
@[push_cast] theorem ze107 : zeroT Tryd.prog 107 = some (.nilf) := by kernel_rfl
@[push_cast] theorem by107 : bytesT Tryd.prog 107 = 8 := by kernel_rfl
@[push_cast] theorem sz108 : sizeT Tryd.prog 108 = some 1 := by kernel_rfl
@[push_cast] theorem ag108 : aggT Tryd.prog 108 = some false := by kernel_rfl
@[push_cast] theorem ze108 : zeroT Tryd.prog 108 = some (.nilf) := by kernel_rfl
@[push_cast] theorem by108 : bytesT Tryd.prog 108 = 8 := by kernel_rfl
@[push_cast] theorem sz109 : sizeT Tryd.prog 109 = some 1 := by kernel_rfl
@[push_cast] theorem ag109 : aggT Tryd.prog 109 = some false := by kernel_rfl
@[push_cast] theorem ze109 : zeroT Tryd.prog 109 = some (.int .i64 0) := by kernel_rfl
@[push_cast] theorem by109 : bytesT Tryd.prog 109 = 8 := by kernel_rfl
@[push_cast] theorem sz110 : sizeT Tryd.prog 110 = some 1 := by kernel_rfl
@[push_cast] theorem ag110 : aggT Tryd.prog 110 = some false := by kernel_rfl
@[push_cast] theorem by110 : bytesT Tryd.prog 110 = 0 := by kernel_rfl
@[push_cast] theorem sz111 : sizeT Tryd.prog 111 = some 1 := by kernel_rfl
@[push_cast] theorem ag111 : aggT Tryd.prog 111 = some false := by kernel_rfl
@[push_cast] theorem ze111 : zeroT Tryd.prog 111 = some (.nilf) := by kernel_rfl
@[push_cast] theorem by111 : bytesT Tryd.prog 111 = 8 := by kernel_rfl
@[push_cast] theorem sz112 : sizeT Tryd.prog 112 = some 1 := by kernel_rfl
@[push_cast] theorem ag112 : aggT Tryd.prog 112 = some false := by kernel_rfl
@[push_cast] theorem ze112 : zeroT Tryd.prog 112 = some (.nilf) := by kernel_rfl
@[push_cast] theorem by112 : bytesT Tryd.prog 112 = 8 := by kernel_rfl
@[push_cast] theorem sz113 : sizeT Tryd.prog 113 = some 1 := by kernel_rfl
@[push_cast] theorem ag113 : aggT Tryd.prog 113 = some false := by kernel_rfl
@[push_cast] theorem ze113 : zeroT Tryd.prog 113 = some (.nilf) := by kernel_rfl
@[push_cast] theorem by113 : bytesT Tryd.prog 113 = 8 := by kernel_rfl
@[push_cast] theorem sz114 : sizeT Tryd.prog 114 = some 1 := by kernel_rfl
@[push_cast] theorem ag114 : aggT Tryd.prog 114 = some false := by kernel_rfl
@[push_cast] theorem by114 : bytesT Tryd.prog 114 = 0 := by kernel_rfl
@[push_cast] theorem sz115 : sizeT Tryd.prog 115 = some 1 := by kernel_rfl
@[push_cast] theorem ag115 : aggT Tryd.prog 115 = some false := by kernel_rfl
@[push_cast] theorem ze115 : zeroT Tryd.prog 115 = some (.nilf) := by kernel_rfl
@[push_cast] theorem by115 : bytesT Tryd.prog 115 = 8 := by kernel_rfl
@[push_cast] theorem sz116 : sizeT Tryd.prog 116 = some 1 := by kernel_rfl
@[push_cast] theorem ag116 : aggT Tryd.prog 116 = some false := by kernel_rfl
@[push_cast] theorem ze116 : zeroT Tryd.prog 116 = some (.nilf) := by kernel_rfl
@[push_cast] theorem by116 : bytesT Tryd.prog 116 = 8 := by kernel_rfl
@[push_cast] theorem sz117 : sizeT Tryd.prog 117 = some 1 := by kernel_rfl
@[push_cast] theorem ag117 : aggT Tryd.prog 117 = some false := by kernel_rfl
@[push_cast] theorem ze117 : zeroT Tryd.prog 117 = some (.int .u32 0) := by kernel_rfl
@[push_cast] theorem by117 : bytesT Tryd.prog 117 = 4 := by kernel_rfl
@[push_cast] theorem sz118 : sizeT Tryd.prog 118 = some 1 := by kernel_rfl
@[push_cast] theorem ag118 : aggT Tryd.prog 118 = some false := by kernel_rfl
@[push_cast] theorem ze118 : zeroT Tryd.prog 118 = some (.nilf) := by kernel_rfl
@[push_cast] theorem by118 : bytesT Tryd.prog 118 = 8 := by kernel_rfl
@[push_cast] theorem sz119 : sizeT Tryd.prog 119 = some 24 := by kernel_rfl
@[push_cast] theorem ag119 : aggT Tryd.prog 119 = some true := by kernel_rfl
@[push_cast] theorem ze119 : zeroT Tryd.prog 119 = some (.agg [.int .u8 0, .int .u8 0, .int .u8 0, .int .u8 0, .int .u8 0, .int .u8 0, .int .u8 0, .int .u8 0, .int .u8 0, .int .u8 0, .int .u8 0, .int .u8 0, .int .u8 0, .int .u8 0, .int .u8 0, .int .u8 0, .int .u8 0, .int .u8 0, .int .u8 0, .int .u8 0, .int .u8 0, .int .u8 0, .int .u8 0, .int .u8 0]) := by kernel_rfl
@[push_cast] theorem by119 : bytesT Tryd.prog 119 = 24 := by kernel_rfl
@[push_cast] theorem sz120 : sizeT Tryd.prog 120 = some 1 := by kernel_rfl
@[push_cast] theorem ag120 : aggT Tryd.prog 120 = some false := by kernel_rfl
@[push_cast] theorem ze120 : zeroT Tryd.prog 120 = some (.nilf) := by kernel_rfl
@[push_cast] theorem by120 : bytesT Tryd.prog 120 = 8 := by kernel_rfl
@[push_cast] theorem sz121 : sizeT Tryd.prog 121 = some 1 := by kernel_rfl
@[push_cast] theorem ag121 : aggT Tryd.prog 121 = some false := by kernel_rfl
@[push_cast] theorem ze121 : zeroT Tryd.prog 121 = some (.nils) := by kernel_rfl
@[push_cast] theorem by121 : bytesT Tryd.prog 121 = 24 := by kernel_rfl
@[push_cast] theorem el121 : elemT Tryd.prog 121 = some 5 := by kernel_rfl
@[push_cast] theorem sz122 : sizeT Tryd.prog 122 = some 1 := by kernel_rfl
@[push_cast] theorem ag122 : aggT Tryd.prog 122 = some false := by kernel_rfl
@[push_cast] theorem by122 : bytesT Tryd.prog 122 = 0 := by kernel_rfl
@[push_cast] theorem sz123 : sizeT Tryd.prog 123 = some 1 := by kernel_rfl
@[push_cast] theorem ag123 : aggT Tryd.prog 123 = some false := by kernel_rfl
@[push_cast] theorem ze123 : zeroT Tryd.prog 123 = some (.nilf) := by kernel_rfl
@[push_cast] theorem by123 : bytesT Tryd.prog 123 = 8 := by kernel_rfl
@[push_cast] theorem sz124 : sizeT Tryd.prog 124 = some 1 := by kernel_rfl
@[push_cast] theorem ag124 : aggT Tryd.prog 124 = some false := by kernel_rfl
@[push_cast] theorem ze124 : zeroT Tryd.prog 124 = some (.int .u64 0) := by kernel_rfl
@[push_cast] theorem by124 : bytesT Tryd.prog 124 = 8 := by kernel_rfl
@[push_cast] theorem sz125 : sizeT Tryd.prog 125 = some 1 := by kernel_rfl
@[push_cast] theorem ag125 : aggT Tryd.prog 125 = some false := by kernel_rfl
@[push_cast] theorem ze125 : zeroT Tryd.prog 125 = some (.nilf) := by kernel_rfl
@[push_cast] theorem by125 : bytesT Tryd.prog 125 = 8 := by kernel_rfl
@[push_cast] theorem sz126 : sizeT Tryd.prog 126 = some 1 := by kernel_rfl
@[push_cast] theorem ag126 : aggT Tryd.prog 126 = some false := by kernel_rfl
@[push_cast] theorem ze126 : zeroT Tryd.prog 126 = some (.nilf) := by kernel_rfl
@[push_cast] theorem by126 : bytesT Tryd.prog 126 = 8 := by kernel_rfl
@[push_cast] theorem sz127 : sizeT Tryd.prog 127 = some 1 := by kernel_rfl
@[push_cast] theorem ag127 : aggT Tryd.prog 127 = some false := by kernel_rfl
@[push_cast] theorem ze127 : zeroT Tryd.prog 127 = some (.nilf) := by kernel_rfl
@[push_cast] theorem by127 : bytesT Tryd.prog 127 = 8 := by kernel_rfl
@[push_cast] theorem sz128 : sizeT Tryd.prog 128 = some 1 := by kernel_rfl
@[push_cast] theorem ag128 : aggT Tryd.prog 128 = some false := by kernel_rfl
@[push_cast] theorem ze128 : zeroT Tryd.prog 128 = some (.nilp) := by kernel_rfl
@[push_cast] theorem by128 : bytesT Tryd.prog 128 = 8 := by kernel_rfl
@[push_cast] theorem sz129 : sizeT Tryd.prog 129 = some 1 := by kernel_rfl
@[push_cast] theorem ag129 : aggT Tryd.prog 129 = some false := by kernel_rfl
@[push_cast] theorem ze129 : zeroT Tryd.prog 129 = some (.nilf) := by kernel_rfl
@[push_cast] theorem by129 : bytesT Tryd.prog 129 = 8 := by kernel_rfl
@[push_cast] theorem sz130 : sizeT Tryd.prog 130 = some 1 := by kernel_rfl
@[push_cast] theorem ag130 : aggT Tryd.prog 130 = some false := by kernel_rfl
@[push_cast] theorem ze130 : zeroT Tryd.prog 130 = some (.nilf) := by kernel_rfl
@[push_cast] theorem by130 : bytesT Tryd.prog 130 = 8 := by kernel_rfl
@[push_cast] theorem sz131 : sizeT Tryd.prog 131 = some 1 := by kernel_rfl
@[push_cast] theorem ag131 : aggT Tryd.prog 131 = some false := by kernel_rfl
@[push_cast] theorem ze131 : zeroT Tryd.prog 131 = some (.nilf) := by kernel_rfl
@[push_cast] theorem by131 : bytesT Tryd.prog 131 = 8 := by kernel_rfl
@[push_cast] theorem sz132 : sizeT Tryd.prog 132 = some 20 := by kernel_rfl
@[push_cast] theorem ag132 : aggT Tryd.prog 132 = some true := by kernel_rfl
@[push_cast] theorem ze132 : zeroT Tryd.prog 132 = some (.agg [.int .u64 0, .int .u64 0, .int .u64 0, .int .u64 0, .int .u64 0, .int .u64 0, .int .u64 0, .int .u64 0, .int .u64 0, .int .u64 0, .int .u64 0, .int .u64 0, .int .u64 0, .int .u64 0, .int .u64 0, .int .u64 0, .int .u64 0, .int .u64 0, .int .u64 0, .int .u64 0]) := by kernel_rfl
@[push_cast] theorem by132 : bytesT Tryd.prog 132 = 160 := by kernel_rfl
@[push_cast] theorem sz133 : sizeT Tryd.prog 133 = some 65 := by kernel_rfl
@[push_cast] theorem ag133 : aggT Tryd.prog 133 = some true := by kernel_rfl
@[push_cast] theorem ze133 : zeroT Tryd.prog 133 = some (.agg [.int .u8 0, .int .u8 0, .int .u8 0, .int .u8 0, .int .u8 0, .int .u8 0, .int .u8 0, .int .u8 0, .int .u8 0, .int .u8 0, .int .u8 0, .int .u8 0, .int .u8 0, .int .u8 0, .int .u8 0, .int .u8 0, .int .u8 0, .int .u8 0, .int .u8 0, .int .u8 0, .int .u8 0, .int .u8 0, .int .u8 0, .int .u8 0, .int .u8 0, .int .u8 0, .int .u8 0, .int .u8 0, .int .u8 0, .int .u8 0, .int .u8 0, .int .u8 0, .int .u8 0, .int .u8 0, .int .u8 0, .int .u8 0, .int .u8 0, .int .u8 0, .int .u8 0, .int .u8 0, .int .u8 0, .int .u8 0, .int .u8 0, .int .u8 0, .int .u8 0, .int .u8 0, .int .u8 0, .int .u8 0, .int .u8 0, .int .u8 0, .int .u8 0, .int .u8 0, .int .u8 0, .int .u8 0, .int .u8 0, .int .u8 0, .int .u8 0, .int .u8 0, .int .u8 0, .int .u8 0, .int .u8 0, .int .u8 0, .int .u8 0, .int .u8 0, .int .u8 0]) := by kernel_rfl
@[push_cast] theorem by133 : bytesT Tryd.prog 133 = 65 := by kernel_rfl
@[push_cast] theorem sz134 : sizeT Tryd.prog 134 = some 1 := by kernel_rfl
@[push_cast] theorem ag134 : aggT Tryd.prog 134 = some false := by kernel_rfl
@[push_cast] theorem ze134 : zeroT Tryd.prog 134 = some (.nilp) := by kernel_rfl
@[push_cast] theorem by134 : bytesT Tryd.prog 134 = 8 := by kernel_rfl
@[push_cast] theorem sz135 : sizeT Tryd.prog 135 = some 1 := by kernel_rfl
@[push_cast] theorem ag135 : aggT Tryd.prog 135 = some false := by kernel_rfl
@[push_cast] theorem by135 : bytesT Tryd.prog 135 = 0 := by kernel_rfl
@[push_cast] theorem sz136 : sizeT Tryd.prog 136 = some 1 := by kernel_rfl
@[push_cast] theorem ag136 : aggT Tryd.prog 136 = some false := by kernel_rfl
@[push_cast] theorem ze136 : zeroT Tryd.prog 136 = some (.nilf) := by kernel_rfl
@[push_cast] theorem by136 : bytesT Tryd.prog 136 = 8 := by kernel_rfl
@[push_cast] theorem sz137 : sizeT Tryd.prog 137 = some 32 := by kernel_rfl
@[push_cast] theorem ag137 : aggT Tryd.prog 137 = some true := by kernel_rfl
@[push_cast] theorem ze137 : zeroT Tryd.prog 137 = some (.agg [.int .u8 0, .int .u8 0, .int .u8 0, .int .u8 0, .int .u8 0, .int .u8 0, .int .u8 0, .int .u8 0, .int .u8 0, .int .u8 0, .int .u8 0, .int .u8 0, .int .u8 0, .int .u8 0, .int .u8 0, .int .u8 0, .int .u8 0, .int .u8 0, .int .u8 0, .int .u8 0, .int .u8 0, .int .u8 0, .int .u8 0, .int .u8 0, .int .u8 0, .int .u8 0, .int .u8 0, .int .u8 0, .int .u8 0, .int .u8 0, .int .u8 0, .int .u8 0]) := by kernel_rfl
@[push_cast] theorem by137 : bytesT Tryd.prog 137 = 32 := by kernel_rfl
@[push_cast] theorem sz138 : sizeT Tryd.prog 138 = some 64 := by kernel_rfl
@[push_cast] theorem ag138 : aggT Tryd.prog 138 = some true := by kernel_rfl
@[push_cast] theorem ze138 : zeroT Tryd.prog 138 = some (.agg [.int .u8 0, .int .u8 0, .int .u8 0, .int .u8 0, .int .u8 0, .int .u8 0, .int .u8 0, .int .u8 0, .int .u8 0, .int .u8 0, .int .u8 0, .int .u8 0, .int .u8 0, .int .u8 0, .int .u8 0, .int .u8 0, .int .u8 0, .int .u8 0, .int .u8 0, .int .u8 0, .int .u8 0, .int .u8 0, .int .u8 0, .int .u8 0, .int .u8 0, .int .u8 0, .int .u8 0, .int .u8 0, .int .u8 0, .int .u8 0, .int .u8 0, .int .u8 0, .int .u8 0, .int .u8 0, .int .u8 0, .int .u8 0, .int .u8 0, .int .u8 0, .int .u8 0, .int .u8 0, .int .u8 0, .int .u8 0, .int .u8 0, .int .u8 0, .int .u8 0, .int .u8 0, .int .u8 0, .int .u8 0, .int .u8 0, .int .u8 0, .int .u8 0, .int .u8 0, .int .u8 0, .int .u8 0, .int .u8 0, .int .u8 0, .int .u8 0, .int .u8 0, .int .u8 0, .int .u8 0, .int .u8 0, .int .u8 0, .int .u8 0, .int .u8 0]) := by kernel_rfl
@[push_cast] theorem by138 : bytesT Tryd.prog 138 = 64 := by kernel_rfl
@[push_cast] theorem sz139 : sizeT Tryd.prog 139 = some 1 := by kernel_rfl
@[push_cast] theorem ag139 : aggT Tryd.prog 139 = some false := by kernel_rfl
@[push_cast] theorem ze139 : zeroT Tryd.prog 139 = some (.nilf) := by kernel_rfl
@[push_cast] theorem by139 : bytesT Tryd.prog 139 = 8 := by kernel_rfl
@[push_cast] theorem sz140 : sizeT Tryd.prog 140 = some 4 := by kernel_rfl
@[push_cast] theorem ag140 : aggT Tryd.prog 140 = some true := by kernel_rfl
@[push_cast] theorem ze140 : zeroT Tryd.prog 140 = some (.agg [.nilp, .nilp, .nilp, .str ⟨#[]⟩]) := by kernel_rfl
@[push_cast] theorem by140 : bytesT Tryd.prog 140 = 40 := by kernel_rfl
@[push_cast] theorem fn140x0 : fieldN Tryd.prog 140 0 = some (17, 0) := by kernel_rfl
@[push_cast] theorem fn140x1 : fieldN Tryd.prog 140 1 = some (17, 1) := by kernel_rfl
@[push_cast] theorem fn140x2 : fieldN Tryd.prog 140 2 = some (17, 2) := by kernel_rfl
@[push_cast] theorem fn140x3 : fieldN Tryd.prog 140 3 = some (9, 3) := by kernel_rfl
@[push_cast] theorem pl140 : placesT Tryd.prog 140 = some [(0, 1), (1, 1), (2, 1), (3, 1)] := by kernel_rfl
@[push_cast] theorem pe140 : plainEqT Tryd.prog 140 = true := by kernel_rfl
@[push_cast] theorem sh140 : Program.stoodInHeld Tryd.prog 140 = true := by kernel_rfl
@[push_cast] theorem sz141 : sizeT Tryd.prog 141 = some 4 := by kernel_rfl
@[push_cast] theorem ag141 : aggT Tryd.prog 141 = some true := by kernel_rfl
@[push_cast] theorem ze141 : zeroT Tryd.prog 141 = some (.agg [.nilp, .nilp, .nilp, .str ⟨#[]⟩]) := by kernel_rfl
@[push_cast] theorem by141 : bytesT Tryd.prog 141 = 40 := by kernel_rfl
@[push_cast] theorem fn141x0 : fieldN Tryd.prog 141 0 = some (17, 0) := by kernel_rfl
@[push_cast] theorem fn141x1 : fieldN Tryd.prog 141 1 = some (17, 1) := by kernel_rfl
@[push_cast] theorem fn141x2 : fieldN Tryd.prog 141 2 = some (17, 2) := by kernel_rfl
@[push_cast] theorem fn141x3 : fieldN Tryd.prog 141 3 = some (9, 3) := by kernel_rfl
@[push_cast] theorem pl141 : placesT Tryd.prog 141 = some [(0, 1), (1, 1), (2, 1), (3, 1)] := by kernel_rfl
@[push_cast] theorem pe141 : plainEqT Tryd.prog 141 = true := by kernel_rfl
@[push_cast] theorem sh141 : Program.stoodInHeld Tryd.prog 141 = true := by kernel_rfl
@[push_cast] theorem sz142 : sizeT Tryd.prog 142 = some 0 := by kernel_rfl
@[push_cast] theorem ag142 : aggT Tryd.prog 142 = some true := by kernel_rfl
@[push_cast] theorem ze142 : zeroT Tryd.prog 142 = some (.agg []) := by kernel_rfl
@[push_cast] theorem by142 : bytesT Tryd.prog 142 = 0 := by kernel_rfl
@[push_cast] theorem pl142 : placesT Tryd.prog 142 = some [] := by kernel_rfl
@[push_cast] theorem sz143 : sizeT Tryd.prog 143 = some 0 := by kernel_rfl
@[push_cast] theorem ag143 : aggT Tryd.prog 143 = some true := by kernel_rfl
@[push_cast] theorem ze143 : zeroT Tryd.prog 143 = some (.agg []) := by kernel_rfl
@[push_cast] theorem by143 : bytesT Tryd.prog 143 = 0 := by kernel_rfl
@[push_cast] theorem fn143x0 : fieldN Tryd.prog 143 0 = some (142, 0) := by kernel_rfl
@[push_cast] theorem pl143 : placesT Tryd.prog 143 = some [(0, 0)] := by kernel_rfl
@[push_cast] theorem pe143 : plainEqT Tryd.prog 143 = true := by kernel_rfl
@[push_cast] theorem sh143 : Program.stoodInHeld Tryd.prog 143 = true := by kernel_rfl
@[push_cast] theorem sz144 : sizeT Tryd.prog 144 = some 0 := by kernel_rfl
@[push_cast] theorem ag144 : aggT Tryd.prog 144 = some true := by kernel_rfl
@[push_cast] theorem ze144 : zeroT Tryd.prog 144 = some (.agg []) := by kernel_rfl
@[push_cast] theorem by144 : bytesT Tryd.prog 144 = 0 := by kernel_rfl
@[push_cast] theorem fn144x0 : fieldN Tryd.prog 144 0 = some (142, 0) := by kernel_rfl
@[push_cast] theorem pl144 : placesT Tryd.prog 144 = some [(0, 0)] := by kernel_rfl
@[push_cast] theorem pe144 : plainEqT Tryd.prog 144 = true := by kernel_rfl
@[push_cast] theorem sh144 : Program.stoodInHeld Tryd.prog 144 = true := by kernel_rfl
@[push_cast] theorem sz145 : sizeT Tryd.prog 145 = some 1 := by kernel_rfl
@[push_cast] theorem ag145 : aggT Tryd.prog 145 = some false := by kernel_rfl
@[push_cast] theorem ze145 : zeroT Tryd.prog 145 = some (.nilf) := by kernel_rfl
@[push_cast] theorem by145 : bytesT Tryd.prog 145 = 8 := by kernel_rfl
@[push_cast] theorem sz146 : sizeT Tryd.prog 146 = some 1 := by kernel_rfl
@[push_cast] theorem ag146 : aggT Tryd.prog 146 = some false := by kernel_rfl
@[push_cast] theorem ze146 : zeroT Tryd.prog 146 = some (.int .u8 0) := by kernel_rfl
@[push_cast] theorem by146 : bytesT Tryd.prog 146 = 1 := by kernel_rfl
@[push_cast] theorem sz147 : sizeT Tryd.prog 147 = some 1 := by kernel_rfl
@[push_cast] theorem ag147 : aggT Tryd.prog 147 = some false := by kernel_rfl
@[push_cast] theorem ze147 : zeroT Tryd.prog 147 = some (.int .u8 0) := by kernel_rfl
@[push_cast] theorem by147 : bytesT Tryd.prog 147 = 1 := by kernel_rfl
@[push_cast] theorem sz148 : sizeT Tryd.prog 148 = some 1 := by kernel_rfl
@[push_cast] theorem ag148 : aggT Tryd.prog 148 = some false := by kernel_rfl
@[push_cast] theorem ze148 : zeroT Tryd.prog 148 = some (.nilf) := by kernel_rfl
@[push_cast] theorem by148 : bytesT Tryd.prog 148 = 8 := by kernel_rfl
@[push_cast] theorem sz149 : sizeT Tryd.prog 149 = some 1 := by kernel_rfl
@[push_cast] theorem ag149 : aggT Tryd.prog 149 = some false := by kernel_rfl
@[push_cast] theorem ze149 : zeroT Tryd.prog 149 = some (.nilp) := by kernel_rfl
@[push_cast] theorem by149 : bytesT Tryd.prog 149 = 8 := by kernel_rfl
@[push_cast] theorem sz150 : sizeT Tryd.prog 150 = some 1 := by kernel_rfl
@[push_cast] theorem ag150 : aggT Tryd.prog 150 = some false := by kernel_rfl
@[push_cast] theorem ze150 : zeroT Tryd.prog 150 = some (.int .i32 0) := by kernel_rfl
@[push_cast] theorem by150 : bytesT Tryd.prog 150 = 4 := by kernel_rfl
@[push_cast] theorem sz151 : sizeT Tryd.prog 151 = some 1 := by kernel_rfl
@[push_cast] theorem ag151 : aggT Tryd.prog 151 = some false := by kernel_rfl
@[push_cast] theorem ze151 : zeroT Tryd.prog 151 = some (.int .i32 0) := by kernel_rfl
@[push_cast] theorem by151 : bytesT Tryd.prog 151 = 4 := by kernel_rfl
@[push_cast] theorem sz152 : sizeT Tryd.prog 152 = some 11 := by kernel_rfl
@[push_cast] theorem ag152 : aggT Tryd.prog 152 = some true := by kernel_rfl
@[push_cast] theorem ze152 : zeroT Tryd.prog 152 = some (.agg [.int .u64 0, .int .u64 0, .int .u32 0, .int .u8 0, .int .u8 0, .int .u8 0, .int .u8 0, .nilf, .nilp, .int .i32 0, .int .i32 0]) := by kernel_rfl
@[push_cast] theorem by152 : bytesT Tryd.prog 152 = 48 := by kernel_rfl
@[push_cast] theorem fn152x0 : fieldN Tryd.prog 152 0 = some (12, 0) := by kernel_rfl
@[push_cast] theorem fn152x1 : fieldN Tryd.prog 152 1 = some (12, 1) := by kernel_rfl
@[push_cast] theorem fn152x2 : fieldN Tryd.prog 152 2 = some (117, 2) := by kernel_rfl
@[push_cast] theorem fn152x3 : fieldN Tryd.prog 152 3 = some (146, 3) := by kernel_rfl
@[push_cast] theorem fn152x4 : fieldN Tryd.prog 152 4 = some (5, 4) := by kernel_rfl
@[push_cast] theorem fn152x5 : fieldN Tryd.prog 152 5 = some (5, 5) := by kernel_rfl
@[push_cast] theorem fn152x6 : fieldN Tryd.prog 152 6 = some (147, 6) := by kernel_rfl
@[push_cast] theorem fn152x7 : fieldN Tryd.prog 152 7 = some (148, 7) := by kernel_rfl
@[push_cast] theorem fn152x8 : fieldN Tryd.prog 152 8 = some (149, 8) := by kernel_rfl
@[push_cast] theorem fn152x9 : fieldN Tryd.prog 152 9 = some (150, 9) := by kernel_rfl
@[push_cast] theorem fn152x10 : fieldN Tryd.prog 152 10 = some (151, 10) := by kernel_rfl
@[push_cast] theorem pl152 : placesT Tryd.prog 152 = some [(0, 1), (1, 1), (2, 1), (3, 1), (4, 1), (5, 1), (6, 1), (7, 1), (8, 1), (9, 1), (10, 1)] := by kernel_rfl
@[push_cast] theorem pe152 : plainEqT Tryd.prog 152 = true := by kernel_rfl
@[push_cast] theorem sh152 : Program.stoodInHeld Tryd.prog 152 = true := by kernel_rfl
@[push_cast] theorem sz153 : sizeT Tryd.prog 153 = some 11 := by kernel_rfl
@[push_cast] theorem ag153 : aggT Tryd.prog 153 = some true := by kernel_rfl
@[push_cast] theorem ze153 : zeroT Tryd.prog 153 = some (.agg [.int .u64 0, .int .u64 0, .int .u32 0, .int .u8 0, .int .u8 0, .int .u8 0, .int .u8 0, .nilf, .nilp, .int .i32 0, .int .i32 0]) := by kernel_rfl
@[push_cast] theorem by153 : bytesT Tryd.prog 153 = 48 := by kernel_rfl
@[push_cast] theorem fn153x0 : fieldN Tryd.prog 153 0 = some (12, 0) := by kernel_rfl
@[push_cast] theorem fn153x1 : fieldN Tryd.prog 153 1 = some (12, 1) := by kernel_rfl
@[push_cast] theorem fn153x2 : fieldN Tryd.prog 153 2 = some (117, 2) := by kernel_rfl
@[push_cast] theorem fn153x3 : fieldN Tryd.prog 153 3 = some (146, 3) := by kernel_rfl
@[push_cast] theorem fn153x4 : fieldN Tryd.prog 153 4 = some (5, 4) := by kernel_rfl
@[push_cast] theorem fn153x5 : fieldN Tryd.prog 153 5 = some (5, 5) := by kernel_rfl
@[push_cast] theorem fn153x6 : fieldN Tryd.prog 153 6 = some (147, 6) := by kernel_rfl
@[push_cast] theorem fn153x7 : fieldN Tryd.prog 153 7 = some (148, 7) := by kernel_rfl
@[push_cast] theorem fn153x8 : fieldN Tryd.prog 153 8 = some (149, 8) := by kernel_rfl
@[push_cast] theorem fn153x9 : fieldN Tryd.prog 153 9 = some (150, 9) := by kernel_rfl
@[push_cast] theorem fn153x10 : fieldN Tryd.prog 153 10 = some (151, 10) := by kernel_rfl
@[push_cast] theorem pl153 : placesT Tryd.prog 153 = some [(0, 1), (1, 1), (2, 1), (3, 1), (4, 1), (5, 1), (6, 1), (7, 1), (8, 1), (9, 1), (10, 1)] := by kernel_rfl
@[push_cast] theorem pe153 : plainEqT Tryd.prog 153 = true := by kernel_rfl
@[push_cast] theorem sh153 : Program.stoodInHeld Tryd.prog 153 = true := by kernel_rfl
@[push_cast] theorem sz154 : sizeT Tryd.prog 154 = some 1 := by kernel_rfl
@[push_cast] theorem ag154 : aggT Tryd.prog 154 = some false := by kernel_rfl
@[push_cast] theorem ze154 : zeroT Tryd.prog 154 = some (.nilp) := by kernel_rfl
@[push_cast] theorem by154 : bytesT Tryd.prog 154 = 8 := by kernel_rfl
attribute [push_cast] Tryd.underlying0 Tryd.underlying1 Tryd.underlying2 Tryd.underlying3 Tryd.underlying4 Tryd.underlying5 Tryd.underlying6 Tryd.underlying7 Tryd.underlying8 Tryd.underlying9 Tryd.underlying10 Tryd.underlying11 Tryd.underlying12 Tryd.underlying13 Tryd.underlying14 Tryd.underlying15 Tryd.underlying16 Tryd.underlying17 Tryd.underlying18 Tryd.underlying19
attribute [push_cast] Tryd.underlying20 Tryd.underlying21 Tryd.underlying22 Tryd.underlying23 Tryd.underlying24 Tryd.underlying25 Tryd.underlying26 Tryd.underlying27 Tryd.underlying28 Tryd.underlying29 Tryd.underlying30 Tryd.underlying31 Tryd.underlying32 Tryd.underlying33 Tryd.underlying34 Tryd.underlying35 Tryd.underlying36 Tryd.underlying37 Tryd.underlying38 Tryd.underlying39
attribute [push_cast] Tryd.underlying40 Tryd.underlying41 Tryd.underlying42 Tryd.underlying43 Tryd.underlying44 Tryd.underlying45 Tryd.underlying46 Tryd.underlying47 Tryd.underlying48 Tryd.underlying49 Tryd.underlying50 Tryd.underlying51 Tryd.underlying52 Tryd.underlying53 Tryd.underlying54 Tryd.underlying55 Tryd.underlying56 Tryd.underlying57 Tryd.underlying58 Tryd.underlying59
attribute [push_cast] Tryd.underlying60 Tryd.underlying61 Tryd.underlying62 Tryd.underlying63 Tryd.underlying64 Tryd.underlying65 Tryd.underlying66 Tryd.underlying67 Tryd.underlying68 Tryd.underlying69 Tryd.underlying70 Tryd.underlying71 Tryd.underlying72 Tryd.underlying73 Tryd.underlying74 Tryd.underlying75 Tryd.underlying76 Tryd.underlying77 Tryd.underlying78 Tryd.underlying79
attribute [push_cast] Tryd.underlying80 Tryd.underlying81 Tryd.underlying82 Tryd.underlying83 Tryd.underlying84 Tryd.underlying85 Tryd.underlying86 Tryd.underlying87 Tryd.underlying88 Tryd.underlying89 Tryd.underlying90 Tryd.underlying91 Tryd.underlying92 Tryd.underlying93 Tryd.underlying94 Tryd.underlying95 Tryd.underlying96 Tryd.underlying97 Tryd.underlying98 Tryd.underlying99
attribute [push_cast] Tryd.underlying100 Tryd.underlying101 Tryd.underlying102 Tryd.underlying103 Tryd.underlying104 Tryd.underlying105 Tryd.underlying106 Tryd.underlying107 Tryd.underlying108 Tryd.underlying109 Tryd.underlying110 Tryd.underlying111 Tryd.underlying112 Tryd.underlying113 Tryd.underlying114 Tryd.underlying115 Tryd.underlying116 Tryd.underlying117 Tryd.underlying118 Tryd.underlying119
attribute [push_cast] Tryd.underlying120 Tryd.underlying121 Tryd.underlying122 Tryd.underlying123 Tryd.underlying124 Tryd.underlying125 Tryd.underlying126 Tryd.underlying127 Tryd.underlying128 Tryd.underlying129 Tryd.underlying130 Tryd.underlying131 Tryd.underlying132 Tryd.underlying133 Tryd.underlying134 Tryd.underlying135 Tryd.underlying136 Tryd.underlying137 Tryd.underlying138 Tryd.underlying139
attribute [push_cast] Tryd.underlying140 Tryd.underlying141 Tryd.underlying142 Tryd.underlying143 Tryd.underlying144 Tryd.underlying145 Tryd.underlying146 Tryd.underlying147 Tryd.underlying148 Tryd.underlying149 Tryd.underlying150 Tryd.underlying151 Tryd.underlying152 Tryd.underlying153 Tryd.underlying154
end Go.Proofs.YtgomkmamgflbeaaDoor.Dm
