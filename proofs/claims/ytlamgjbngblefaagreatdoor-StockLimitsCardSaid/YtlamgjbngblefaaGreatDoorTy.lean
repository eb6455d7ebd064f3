/-
  What the machine of XDm asks of this seat's types: sizes, zero values, places of fields. By program (wip/tools/types.py).
-/
import Derived.Test.YtlamgjbngblefaaGreatDoorEnv
namespace Go.Proofs.YtlamgjbngblefaaGreatDoor.Dm
open Go
@[push_cast] theorem E_P : E.P = Tryz.prog := rfl
@[push_cast] theorem E_G (g : Nat) : E.G g = none := rfl
@[push_cast] theorem sz0 : sizeT Tryz.prog 0 = some 1 := by kernel_rfl
@[push_cast] theorem ag0 : aggT Tryz.prog 0 = some false := by kernel_rfl
@[push_cast] theorem by0 : bytesT Tryz.prog 0 = 0 := by kernel_rfl
@[push_cast] theorem sz1 : sizeT Tryz.prog 1 = some 1 := by kernel_rfl
@[push_cast] theorem ag1 : aggT Tryz.prog 1 = some false := by kernel_rfl
@[push_cast] theorem ze1 : zeroT Tryz.prog 1 = some (.nilf) := by kernel_rfl
@[push_cast] theorem by1 : bytesT Tryz.prog 1 = 8 := by kernel_rfl
@[push_cast] theorem sz2 : sizeT Tryz.prog 2 = some 1 := by kernel_rfl
@[push_cast] theorem ag2 : aggT Tryz.prog 2 = some false := by kernel_rfl
@[push_cast] theorem ze2 : zeroT Tryz.prog 2 = some (.int .i64 0) := by kernel_rfl
@[push_cast] theorem by2 : bytesT Tryz.prog 2 = 8 := by kernel_rfl
@[push_cast] theorem sz3 : sizeT Tryz.prog 3 = some 1 := by kernel_rfl
@[push_cast] theorem ag3 : aggT Tryz.prog 3 = some false := by kernel_rfl
@[push_cast] theorem ze3 : zeroT Tryz.prog 3 = some (.int .i64 0) := by kernel_rfl
@[push_cast] theorem by3 : bytesT Tryz.prog 3 = 8 := by kernel_rfl
@[push_cast] theorem sz4 : sizeT Tryz.prog 4 = some 1 := by kernel_rfl
@[push_cast] theorem ag4 : aggT Tryz.prog 4 = some false := by kernel_rfl
@[push_cast] theorem ze4 : zeroT Tryz.prog 4 = some (.bool false) := by kernel_rfl
@[push_cast] theorem by4 : bytesT Tryz.prog 4 = 1 := by kernel_rfl
@[push_cast] theorem sz5 : sizeT Tryz.prog 5 = some 1 := by kernel_rfl
@[push_cast] theorem ag5 : aggT Tryz.prog 5 = some false := by kernel_rfl
@[push_cast] theorem ze5 : zeroT Tryz.prog 5 = some (.int .u8 0) := by kernel_rfl
@[push_cast] theorem by5 : bytesT Tryz.prog 5 = 1 := by kernel_rfl
@[push_cast] theorem sz6 : sizeT Tryz.prog 6 = some 1 := by kernel_rfl
@[push_cast] theorem ag6 : aggT Tryz.prog 6 = some false := by kernel_rfl
@[push_cast] theorem ze6 : zeroT Tryz.prog 6 = some (.int .u8 0) := by kernel_rfl
@[push_cast] theorem by6 : bytesT Tryz.prog 6 = 1 := by kernel_rfl
@[push_cast] theorem sz7 : sizeT Tryz.prog 7 = some 4 := by kernel_rfl
@[push_cast] theorem ag7 : aggT Tryz.prog 7 = some true := by kernel_rfl
@[push_cast] theorem ze7 : zeroT Tryz.prog 7 = some (.agg [.int .i64 0, .int .i64 0, .bool false, .int .u8 0]) := by kernel_rfl
@[push_cast] theorem by7 : bytesT Tryz.prog 7 = 24 := by kernel_rfl
@[push_cast] theorem fn7x0 : fieldN Tryz.prog 7 0 = some (2, 0) := by kernel_rfl
@[push_cast] theorem fn7x1 : fieldN Tryz.prog 7 1 = some (3, 1) := by kernel_rfl
@[push_cast] theorem fn7x2 : fieldN Tryz.prog 7 2 = some (4, 2) := by kernel_rfl
@[push_cast] theorem fn7x3 : fieldN Tryz.prog 7 3 = some (6, 3) := by kernel_rfl
@[push_cast] theorem pl7 : placesT Tryz.prog 7 = some [(0, 1), (1, 1), (2, 1), (3, 1)] := by kernel_rfl
@[push_cast] theorem pe7 : plainEqT Tryz.prog 7 = true := by kernel_rfl
@[push_cast] theorem sh7 : Program.stoodInHeld Tryz.prog 7 = false := by kernel_rfl
@[push_cast] theorem sz8 : sizeT Tryz.prog 8 = some 4 := by kernel_rfl
@[push_cast] theorem ag8 : aggT Tryz.prog 8 = some true := by kernel_rfl
@[push_cast] theorem ze8 : zeroT Tryz.prog 8 = some (.agg [.int .i64 0, .int .i64 0, .bool false, .int .u8 0]) := by kernel_rfl
@[push_cast] theorem by8 : bytesT Tryz.prog 8 = 24 := by kernel_rfl
@[push_cast] theorem fn8x0 : fieldN Tryz.prog 8 0 = some (2, 0) := by kernel_rfl
@[push_cast] theorem fn8x1 : fieldN Tryz.prog 8 1 = some (3, 1) := by kernel_rfl
@[push_cast] theorem fn8x2 : fieldN Tryz.prog 8 2 = some (4, 2) := by kernel_rfl
@[push_cast] theorem fn8x3 : fieldN Tryz.prog 8 3 = some (6, 3) := by kernel_rfl
@[push_cast] theorem pl8 : placesT Tryz.prog 8 = some [(0, 1), (1, 1), (2, 1), (3, 1)] := by kernel_rfl
@[push_cast] theorem pe8 : plainEqT Tryz.prog 8 = true := by kernel_rfl
@[push_cast] theorem sh8 : Program.stoodInHeld Tryz.prog 8 = false := by kernel_rfl
@[push_cast] theorem sz9 : sizeT Tryz.prog 9 = some 1 := by kernel_rfl
@[push_cast] theorem ag9 : aggT Tryz.prog 9 = some false := by kernel_rfl
@[push_cast] theorem ze9 : zeroT Tryz.prog 9 = some (.str ⟨#[]⟩) := by kernel_rfl
@[push_cast] theorem by9 : bytesT Tryz.prog 9 = 16 := by kernel_rfl
@[push_cast] theorem sz10 : sizeT Tryz.prog 10 = some 1 := by kernel_rfl
@[push_cast] theorem ag10 : aggT Tryz.prog 10 = some false := by kernel_rfl
@[push_cast] theorem ze10 : zeroT Tryz.prog 10 = some (.str ⟨#[]⟩) := by kernel_rfl
@[push_cast] theorem by10 : bytesT Tryz.prog 10 = 16 := by kernel_rfl
@[push_cast] theorem sz11 : sizeT Tryz.prog 11 = some 1 := by kernel_rfl
@[push_cast] theorem ag11 : aggT Tryz.prog 11 = some false := by kernel_rfl
@[push_cast] theorem ze11 : zeroT Tryz.prog 11 = some (.str ⟨#[]⟩) := by kernel_rfl
@[push_cast] theorem by11 : bytesT Tryz.prog 11 = 16 := by kernel_rfl
@[push_cast] theorem sz12 : sizeT Tryz.prog 12 = some 1 := by kernel_rfl
@[push_cast] theorem ag12 : aggT Tryz.prog 12 = some false := by kernel_rfl
@[push_cast] theorem ze12 : zeroT Tryz.prog 12 = some (.int .u64 0) := by kernel_rfl
@[push_cast] theorem by12 : bytesT Tryz.prog 12 = 8 := by kernel_rfl
@[push_cast] theorem sz13 : sizeT Tryz.prog 13 = some 2 := by kernel_rfl
@[push_cast] theorem ag13 : aggT Tryz.prog 13 = some true := by kernel_rfl
@[push_cast] theorem ze13 : zeroT Tryz.prog 13 = some (.agg [.str ⟨#[]⟩, .int .u64 0]) := by kernel_rfl
@[push_cast] theorem by13 : bytesT Tryz.prog 13 = 24 := by kernel_rfl
@[push_cast] theorem fn13x0 : fieldN Tryz.prog 13 0 = some (9, 0) := by kernel_rfl
@[push_cast] theorem fn13x1 : fieldN Tryz.prog 13 1 = some (12, 1) := by kernel_rfl
@[push_cast] theorem pl13 : placesT Tryz.prog 13 = some [(0, 1), (1, 1)] := by kernel_rfl
@[push_cast] theorem pe13 : plainEqT Tryz.prog 13 = true := by kernel_rfl
@[push_cast] theorem sh13 : Program.stoodInHeld Tryz.prog 13 = true := by kernel_rfl
@[push_cast] theorem sz14 : sizeT Tryz.prog 14 = some 2 := by kernel_rfl
@[push_cast] theorem ag14 : aggT Tryz.prog 14 = some true := by kernel_rfl
@[push_cast] theorem ze14 : zeroT Tryz.prog 14 = some (.agg [.str ⟨#[]⟩, .int .u64 0]) := by kernel_rfl
@[push_cast] theorem by14 : bytesT Tryz.prog 14 = 24 := by kernel_rfl
@[push_cast] theorem fn14x0 : fieldN Tryz.prog 14 0 = some (9, 0) := by kernel_rfl
@[push_cast] theorem fn14x1 : fieldN Tryz.prog 14 1 = some (12, 1) := by kernel_rfl
@[push_cast] theorem pl14 : placesT Tryz.prog 14 = some [(0, 1), (1, 1)] := by kernel_rfl
@[push_cast] theorem pe14 : plainEqT Tryz.prog 14 = true := by kernel_rfl
@[push_cast] theorem sh14 : Program.stoodInHeld Tryz.prog 14 = true := by kernel_rfl
@[push_cast] theorem sz15 : sizeT Tryz.prog 15 = some 1 := by kernel_rfl
@[push_cast] theorem ag15 : aggT Tryz.prog 15 = some false := by kernel_rfl
@[push_cast] theorem ze15 : zeroT Tryz.prog 15 = some (.nilp) := by kernel_rfl
@[push_cast] theorem by15 : bytesT Tryz.prog 15 = 8 := by kernel_rfl
@[push_cast] theorem sz16 : sizeT Tryz.prog 16 = some 1 := by kernel_rfl
@[push_cast] theorem ag16 : aggT Tryz.prog 16 = some false := by kernel_rfl
@[push_cast] theorem ze16 : zeroT Tryz.prog 16 = some (.nilp) := by kernel_rfl
@[push_cast] theorem by16 : bytesT Tryz.prog 16 = 8 := by kernel_rfl
@[push_cast] theorem sz17 : sizeT Tryz.prog 17 = some 1 := by kernel_rfl
@[push_cast] theorem ag17 : aggT Tryz.prog 17 = some false := by kernel_rfl
@[push_cast] theorem ze17 : zeroT Tryz.prog 17 = some (.nilp) := by kernel_rfl
@[push_cast] theorem by17 : bytesT Tryz.prog 17 = 8 := by kernel_rfl
@[push_cast] theorem sz18 : sizeT Tryz.prog 18 = some 1 := by kernel_rfl
@[push_cast] theorem ag18 : aggT Tryz.prog 18 = some true := by kernel_rfl
@[push_cast] theorem ze18 : zeroT Tryz.prog 18 = some (.agg [.nilp]) := by kernel_rfl
@[push_cast] theorem by18 : bytesT Tryz.prog 18 = 8 := by kernel_rfl
@[push_cast] theorem fn18x0 : fieldN Tryz.prog 18 0 = some (17, 0) := by kernel_rfl
@[push_cast] theorem pl18 : placesT Tryz.prog 18 = some [(0, 1)] := by kernel_rfl
@[push_cast] theorem pe18 : plainEqT Tryz.prog 18 = true := by kernel_rfl
@[push_cast] theorem sh18 : Program.stoodInHeld Tryz.prog 18 = true := by kernel_rfl
@[push_cast] theorem sz19 : sizeT Tryz.prog 19 = some 1 := by kernel_rfl
@[push_cast] theorem ag19 : aggT Tryz.prog 19 = some true := by kernel_rfl
@[push_cast] theorem ze19 : zeroT Tryz.prog 19 = some (.agg [.nilp]) := by kernel_rfl
@[push_cast] theorem by19 : bytesT Tryz.prog 19 = 8 := by kernel_rfl
@[push_cast] theorem fn19x0 : fieldN Tryz.prog 19 0 = some (17, 0) := by kernel_rfl
@[push_cast] theorem pl19 : placesT Tryz.prog 19 = some [(0, 1)] := by kernel_rfl
@[push_cast] theorem pe19 : plainEqT Tryz.prog 19 = true := by kernel_rfl
@[push_cast] theorem sh19 : Program.stoodInHeld Tryz.prog 19 = true := by kernel_rfl
@[push_cast] theorem sz20 : sizeT Tryz.prog 20 = some 1 := by kernel_rfl
@[push_cast] theorem ag20 : aggT Tryz.prog 20 = some false := by kernel_rfl
@[push_cast] theorem ze20 : zeroT Tryz.prog 20 = some (.nili) := by kernel_rfl
@[push_cast] theorem by20 : bytesT Tryz.prog 20 = 16 := by kernel_rfl
@[push_cast] theorem sz21 : sizeT Tryz.prog 21 = some 1 := by kernel_rfl
@[push_cast] theorem ag21 : aggT Tryz.prog 21 = some false := by kernel_rfl
@[push_cast] theorem ze21 : zeroT Tryz.prog 21 = some (.int .i32 0) := by kernel_rfl
@[push_cast] theorem by21 : bytesT Tryz.prog 21 = 4 := by kernel_rfl
@[push_cast] theorem sz22 : sizeT Tryz.prog 22 = some 1 := by kernel_rfl
@[push_cast] theorem ag22 : aggT Tryz.prog 22 = some false := by kernel_rfl
@[push_cast] theorem ze22 : zeroT Tryz.prog 22 = some (.nils) := by kernel_rfl
@[push_cast] theorem by22 : bytesT Tryz.prog 22 = 24 := by kernel_rfl
@[push_cast] theorem el22 : elemT Tryz.prog 22 = some 99 := by kernel_rfl
@[push_cast] theorem sz23 : sizeT Tryz.prog 23 = some 1 := by kernel_rfl
@[push_cast] theorem ag23 : aggT Tryz.prog 23 = some false := by kernel_rfl
@[push_cast] theorem ze23 : zeroT Tryz.prog 23 = some (.nils) := by kernel_rfl
@[push_cast] theorem by23 : bytesT Tryz.prog 23 = 24 := by kernel_rfl
@[push_cast] theorem el23 : elemT Tryz.prog 23 = some 56 := by kernel_rfl
@[push_cast] theorem sz24 : sizeT Tryz.prog 24 = some 1 := by kernel_rfl
@[push_cast] theorem ag24 : aggT Tryz.prog 24 = some false := by kernel_rfl
@[push_cast] theorem ze24 : zeroT Tryz.prog 24 = some (.nils) := by kernel_rfl
@[push_cast] theorem by24 : bytesT Tryz.prog 24 = 24 := by kernel_rfl
@[push_cast] theorem el24 : elemT Tryz.prog 24 = some 5 := by kernel_rfl
@[push_cast] theorem sz25 : sizeT Tryz.prog 25 = some 1 := by kernel_rfl
@[push_cast] theorem ag25 : aggT Tryz.prog 25 = some false := by kernel_rfl
@[push_cast] theorem ze25 : zeroT Tryz.prog 25 = some (.nilf) := by kernel_rfl
@[push_cast] theorem by25 : bytesT Tryz.prog 25 = 8 := by kernel_rfl
@[push_cast] theorem sz26 : sizeT Tryz.prog 26 = some 1 := by kernel_rfl
@[push_cast] theorem ag26 : aggT Tryz.prog 26 = some false := by kernel_rfl
@[push_cast] theorem ze26 : zeroT Tryz.prog 26 = some (.nilf) := by kernel_rfl
@[push_cast] theorem by26 : bytesT Tryz.prog 26 = 8 := by kernel_rfl
@[push_cast] theorem sz27 : sizeT Tryz.prog 27 = some 1 := by kernel_rfl
@[push_cast] theorem ag27 : aggT Tryz.prog 27 = some false := by kernel_rfl
@[push_cast] theorem ze27 : zeroT Tryz.prog 27 = some (.nilp) := by kernel_rfl
@[push_cast] theorem by27 : bytesT Tryz.prog 27 = 8 := by kernel_rfl
@[push_cast] theorem sz28 : sizeT Tryz.prog 28 = some 1 := by kernel_rfl
@[push_cast] theorem ag28 : aggT Tryz.prog 28 = some false := by kernel_rfl
@[push_cast] theorem ze28 : zeroT Tryz.prog 28 = some (.nilp) := by kernel_rfl
@[push_cast] theorem by28 : bytesT Tryz.prog 28 = 8 := by kernel_rfl
@[push_cast] theorem sz29 : sizeT Tryz.prog 29 = some 1 := by kernel_rfl
@[push_cast] theorem ag29 : aggT Tryz.prog 29 = some false := by kernel_rfl
@[push_cast] theorem by29 : bytesT Tryz.prog 29 = 0 := by kernel_rfl
@[push_cast] theorem sz30 : sizeT Tryz.prog 30 = some 1 := by kernel_rfl
@[push_cast] theorem ag30 : aggT Tryz.prog 30 = some false := by kernel_rfl
@[push_cast] theorem ze30 : zeroT Tryz.prog 30 = some (.nilf) := by kernel_rfl
@[push_cast] theorem by30 : bytesT Tryz.prog 30 = 8 := by kernel_rfl
@[push_cast] theorem sz31 : sizeT Tryz.prog 31 = some 1 := by kernel_rfl
@[push_cast] theorem ag31 : aggT Tryz.prog 31 = some false := by kernel_rfl
@[push_cast] theorem ze31 : zeroT Tryz.prog 31 = some (.nilf) := by kernel_rfl
@[push_cast] theorem by31 : bytesT Tryz.prog 31 = 8 := by kernel_rfl
@[push_cast] theorem sz32 : sizeT Tryz.prog 32 = some 1 := by kernel_rfl
@[push_cast] theorem ag32 : aggT Tryz.prog 32 = some false := by kernel_rfl
@[push_cast] theorem ze32 : zeroT Tryz.prog 32 = some (.nils) := by kernel_rfl
@[push_cast] theorem by32 : bytesT Tryz.prog 32 = 24 := by kernel_rfl
@[push_cast] theorem el32 : elemT Tryz.prog 32 = some 60 := by kernel_rfl
@[push_cast] theorem sz33 : sizeT Tryz.prog 33 = some 1 := by kernel_rfl
@[push_cast] theorem ag33 : aggT Tryz.prog 33 = some false := by kernel_rfl
@[push_cast] theorem ze33 : zeroT Tryz.prog 33 = some (.nilf) := by kernel_rfl
@[push_cast] theorem by33 : bytesT Tryz.prog 33 = 8 := by kernel_rfl
@[push_cast] theorem sz34 : sizeT Tryz.prog 34 = some 1 := by kernel_rfl
@[push_cast] theorem ag34 : aggT Tryz.prog 34 = some false := by kernel_rfl
@[push_cast] theorem ze34 : zeroT Tryz.prog 34 = some (.nilf) := by kernel_rfl
@[push_cast] theorem by34 : bytesT Tryz.prog 34 = 8 := by kernel_rfl
@[push_cast] theorem sz35 : sizeT Tryz.prog 35 = some 1 := by kernel_rfl
@[push_cast] theorem ag35 : aggT Tryz.prog 35 = some false := by kernel_rfl
@[push_cast] theorem ze35 : zeroT Tryz.prog 35 = some (.nilf) := by kernel_rfl
@[push_cast] theorem by35 : bytesT Tryz.prog 35 = 8 := by kernel_rfl
@[push_cast] theorem sz36 : sizeT Tryz.prog 36 = some 1 := by kernel_rfl
@[push_cast] theorem ag36 : aggT Tryz.prog 36 = some false := by kernel_rfl
@[push_cast] theorem ze36 : zeroT Tryz.prog 36 = some (.int .i64 0) := by kernel_rfl
@[push_cast] theorem by36 : bytesT Tryz.prog 36 = 8 := by kernel_rfl
@[push_cast] theorem sz37 : sizeT Tryz.prog 37 = some 1 := by kernel_rfl
@[push_cast] theorem ag37 : aggT Tryz.prog 37 = some false := by kernel_rfl
@[push_cast] theorem ze37 : zeroT Tryz.prog 37 = some (.nilf) := by kernel_rfl
@[push_cast] theorem by37 : bytesT Tryz.prog 37 = 8 := by kernel_rfl
@[push_cast] theorem sz38 : sizeT Tryz.prog 38 = some 1 := by kernel_rfl
@[push_cast] theorem ag38 : aggT Tryz.prog 38 = some false := by kernel_rfl
@[push_cast] theorem ze38 : zeroT Tryz.prog 38 = some (.nilf) := by kernel_rfl
@[push_cast] theorem by38 : bytesT Tryz.prog 38 = 8 := by kernel_rfl
@[push_cast] theorem sz39 : sizeT Tryz.prog 39 = some 1 := by kernel_rfl
@[push_cast] theorem ag39 : aggT Tryz.prog 39 = some false := by kernel_rfl
@[push_cast] theorem ze39 : zeroT Tryz.prog 39 = some (.nils) := by kernel_rfl
@[push_cast] theorem by39 : bytesT Tryz.prog 39 = 24 := by kernel_rfl
@[push_cast] theorem el39 : elemT Tryz.prog 39 = some 43 := by kernel_rfl
@[push_cast] theorem sz40 : sizeT Tryz.prog 40 = some 1 := by kernel_rfl
@[push_cast] theorem ag40 : aggT Tryz.prog 40 = some false := by kernel_rfl
@[push_cast] theorem ze40 : zeroT Tryz.prog 40 = some (.nilf) := by kernel_rfl
@[push_cast] theorem by40 : bytesT Tryz.prog 40 = 8 := by kernel_rfl
@[push_cast] theorem sz41 : sizeT Tryz.prog 41 = some 1 := by kernel_rfl
@[push_cast] theorem ag41 : aggT Tryz.prog 41 = some false := by kernel_rfl
@[push_cast] theorem ze41 : zeroT Tryz.prog 41 = some (.nilf) := by kernel_rfl
@[push_cast] theorem by41 : bytesT Tryz.prog 41 = 8 := by kernel_rfl
@[push_cast] theorem sz42 : sizeT Tryz.prog 42 = some 2 := by kernel_rfl
@[push_cast] theorem ag42 : aggT Tryz.prog 42 = some true := by kernel_rfl
@[push_cast] theorem ze42 : zeroT Tryz.prog 42 = some (.agg [.str ⟨#[]⟩, .int .i64 0]) := by kernel_rfl
@[push_cast] theorem by42 : bytesT Tryz.prog 42 = 24 := by kernel_rfl
@[push_cast] theorem fn42x0 : fieldN Tryz.prog 42 0 = some (9, 0) := by kernel_rfl
@[push_cast] theorem fn42x1 : fieldN Tryz.prog 42 1 = some (3, 1) := by kernel_rfl
@[push_cast] theorem pl42 : placesT Tryz.prog 42 = some [(0, 1), (1, 1)] := by kernel_rfl
@[push_cast] theorem pe42 : plainEqT Tryz.prog 42 = true := by kernel_rfl
@[push_cast] theorem sh42 : Program.stoodInHeld Tryz.prog 42 = false := by kernel_rfl
@[push_cast] theorem sz43 : sizeT Tryz.prog 43 = some 2 := by kernel_rfl
@[push_cast] theorem ag43 : aggT Tryz.prog 43 = some true := by kernel_rfl
@[push_cast] theorem ze43 : zeroT Tryz.prog 43 = some (.agg [.str ⟨#[]⟩, .int .i64 0]) := by kernel_rfl
@[push_cast] theorem by43 : bytesT Tryz.prog 43 = 24 := by kernel_rfl
@[push_cast] theorem fn43x0 : fieldN Tryz.prog 43 0 = some (9, 0) := by kernel_rfl
@[push_cast] theorem fn43x1 : fieldN Tryz.prog 43 1 = some (3, 1) := by kernel_rfl
@[push_cast] theorem pl43 : placesT Tryz.prog 43 = some [(0, 1), (1, 1)] := by kernel_rfl
@[push_cast] theorem pe43 : plainEqT Tryz.prog 43 = true := by kernel_rfl
@[push_cast] theorem sh43 : Program.stoodInHeld Tryz.prog 43 = false := by kernel_rfl
@[push_cast] theorem sz44 : sizeT Tryz.prog 44 = some 1 := by kernel_rfl
@[push_cast] theorem ag44 : aggT Tryz.prog 44 = some false := by kernel_rfl
@[push_cast] theorem ze44 : zeroT Tryz.prog 44 = some (.nilf) := by kernel_rfl
@[push_cast] theorem by44 : bytesT Tryz.prog 44 = 8 := by kernel_rfl
@[push_cast] theorem sz45 : sizeT Tryz.prog 45 = some 1 := by kernel_rfl
@[push_cast] theorem ag45 : aggT Tryz.prog 45 = some false := by kernel_rfl
@[push_cast] theorem ze45 : zeroT Tryz.prog 45 = some (.nils) := by kernel_rfl
@[push_cast] theorem by45 : bytesT Tryz.prog 45 = 24 := by kernel_rfl
@[push_cast] theorem el45 : elemT Tryz.prog 45 = some 100 := by kernel_rfl
@[push_cast] theorem sz46 : sizeT Tryz.prog 46 = some 1 := by kernel_rfl
@[push_cast] theorem ag46 : aggT Tryz.prog 46 = some false := by kernel_rfl
@[push_cast] theorem ze46 : zeroT Tryz.prog 46 = some (.nilf) := by kernel_rfl
@[push_cast] theorem by46 : bytesT Tryz.prog 46 = 8 := by kernel_rfl
@[push_cast] theorem sz47 : sizeT Tryz.prog 47 = some 1 := by kernel_rfl
@[push_cast] theorem ag47 : aggT Tryz.prog 47 = some false := by kernel_rfl
@[push_cast] theorem ze47 : zeroT Tryz.prog 47 = some (.nilf) := by kernel_rfl
@[push_cast] theorem by47 : bytesT Tryz.prog 47 = 8 := by kernel_rfl
@[push_cast] theorem sz48 : sizeT Tryz.prog 48 = some 1 := by kernel_rfl
@[push_cast] theorem ag48 : aggT Tryz.prog 48 = some false := by kernel_rfl
@[push_cast] theorem ze48 : zeroT Tryz.prog 48 = some (.nilf) := by kernel_rfl
@[push_cast] theorem by48 : bytesT Tryz.prog 48 = 8 := by kernel_rfl
@[push_cast] theorem sz49 : sizeT Tryz.prog 49 = some 1 := by kernel_rfl
@[push_cast] theorem ag49 : aggT Tryz.prog 49 = some false := by kernel_rfl
@[push_cast] theorem ze49 : zeroT Tryz.prog 49 = some (.nilf) := by kernel_rfl
@[push_cast] theorem by49 : bytesT Tryz.prog 49 = 8 := by kernel_rfl
@[push_cast] theorem sz50 : sizeT Tryz.prog 50 = some 1 := by kernel_rfl
@[push_cast] theorem ag50 : aggT Tryz.prog 50 = some false := by kernel_rfl
@[push_cast] theorem ze50 : zeroT Tryz.prog 50 = some (.nils) := by kernel_rfl
@[push_cast] theorem by50 : bytesT Tryz.prog 50 = 24 := by kernel_rfl
@[push_cast] theorem el50 : elemT Tryz.prog 50 = some 136 := by kernel_rfl
@[push_cast] theorem sz51 : sizeT Tryz.prog 51 = some 1 := by kernel_rfl
@[push_cast] theorem ag51 : aggT Tryz.prog 51 = some false := by kernel_rfl
@[push_cast] theorem by51 : bytesT Tryz.prog 51 = 0 := by kernel_rfl
@[push_cast] theorem sz52 : sizeT Tryz.prog 52 = some 1 := by kernel_rfl
@[push_cast] theorem ag52 : aggT Tryz.prog 52 = some false := by kernel_rfl
@[push_cast] theorem ze52 : zeroT Tryz.prog 52 = some (.nilf) := by kernel_rfl
@[push_cast] theorem by52 : bytesT Tryz.prog 52 = 8 := by kernel_rfl
@[push_cast] theorem sz53 : sizeT Tryz.prog 53 = some 6 := by kernel_rfl
@[push_cast] theorem ag53 : aggT Tryz.prog 53 = some true := by kernel_rfl
@[push_cast] theorem ze53 : zeroT Tryz.prog 53 = some (.agg [.int .i64 0, .int .i64 0, .int .i64 0, .int .i64 0, .int .i64 0, .int .i64 0]) := by kernel_rfl
@[push_cast] theorem by53 : bytesT Tryz.prog 53 = 48 := by kernel_rfl
@[push_cast] theorem pl53 : placesT Tryz.prog 53 = some [(0, 1), (1, 1), (2, 1), (3, 1), (4, 1), (5, 1)] := by kernel_rfl
@[push_cast] theorem sz54 : sizeT Tryz.prog 54 = some 1 := by kernel_rfl
@[push_cast] theorem ag54 : aggT Tryz.prog 54 = some false := by kernel_rfl
@[push_cast] theorem ze54 : zeroT Tryz.prog 54 = some (.int .i8 0) := by kernel_rfl
@[push_cast] theorem by54 : bytesT Tryz.prog 54 = 1 := by kernel_rfl
@[push_cast] theorem sz55 : sizeT Tryz.prog 55 = some 6 := by kernel_rfl
@[push_cast] theorem ag55 : aggT Tryz.prog 55 = some true := by kernel_rfl
@[push_cast] theorem ze55 : zeroT Tryz.prog 55 = some (.agg [.int .u8 0, .int .u8 0, .int .u8 0, .int .u8 0, .int .u8 0, .int .i8 0]) := by kernel_rfl
@[push_cast] theorem by55 : bytesT Tryz.prog 55 = 6 := by kernel_rfl
@[push_cast] theorem fn55x0 : fieldN Tryz.prog 55 0 = some (5, 0) := by kernel_rfl
@[push_cast] theorem fn55x1 : fieldN Tryz.prog 55 1 = some (5, 1) := by kernel_rfl
@[push_cast] theorem fn55x2 : fieldN Tryz.prog 55 2 = some (5, 2) := by kernel_rfl
@[push_cast] theorem fn55x3 : fieldN Tryz.prog 55 3 = some (5, 3) := by kernel_rfl
@[push_cast] theorem fn55x4 : fieldN Tryz.prog 55 4 = some (5, 4) := by kernel_rfl
@[push_cast] theorem fn55x5 : fieldN Tryz.prog 55 5 = some (54, 5) := by kernel_rfl
@[push_cast] theorem pl55 : placesT Tryz.prog 55 = some [(0, 1), (1, 1), (2, 1), (3, 1), (4, 1), (5, 1)] := by kernel_rfl
@[push_cast] theorem pe55 : plainEqT Tryz.prog 55 = true := by kernel_rfl
@[push_cast] theorem sh55 : Program.stoodInHeld Tryz.prog 55 = false := by kernel_rfl
@[push_cast] theorem sz56 : sizeT Tryz.prog 56 = some 6 := by kernel_rfl
@[push_cast] theorem ag56 : aggT Tryz.prog 56 = some true := by kernel_rfl
@[push_cast] theorem ze56 : zeroT Tryz.prog 56 = some (.agg [.int .u8 0, .int .u8 0, .int .u8 0, .int .u8 0, .int .u8 0, .int .i8 0]) := by kernel_rfl
@[push_cast] theorem by56 : bytesT Tryz.prog 56 = 6 := by kernel_rfl
@[push_cast] theorem fn56x0 : fieldN Tryz.prog 56 0 = some (5, 0) := by kernel_rfl
@[push_cast] theorem fn56x1 : fieldN Tryz.prog 56 1 = some (5, 1) := by kernel_rfl
@[push_cast] theorem fn56x2 : fieldN Tryz.prog 56 2 = some (5, 2) := by kernel_rfl
@[push_cast] theorem fn56x3 : fieldN Tryz.prog 56 3 = some (5, 3) := by kernel_rfl
@[push_cast] theorem fn56x4 : fieldN Tryz.prog 56 4 = some (5, 4) := by kernel_rfl
@[push_cast] theorem fn56x5 : fieldN Tryz.prog 56 5 = some (54, 5) := by kernel_rfl
@[push_cast] theorem pl56 : placesT Tryz.prog 56 = some [(0, 1), (1, 1), (2, 1), (3, 1), (4, 1), (5, 1)] := by kernel_rfl
@[push_cast] theorem pe56 : plainEqT Tryz.prog 56 = true := by kernel_rfl
@[push_cast] theorem sh56 : Program.stoodInHeld Tryz.prog 56 = false := by kernel_rfl
@[push_cast] theorem sz57 : sizeT Tryz.prog 57 = some 1 := by kernel_rfl
@[push_cast] theorem ag57 : aggT Tryz.prog 57 = some false := by kernel_rfl
@[push_cast] theorem ze57 : zeroT Tryz.prog 57 = some (.nilf) := by kernel_rfl
@[push_cast] theorem by57 : bytesT Tryz.prog 57 = 8 := by kernel_rfl
@[push_cast] theorem sz58 : sizeT Tryz.prog 58 = some 1 := by kernel_rfl
@[push_cast] theorem ag58 : aggT Tryz.prog 58 = some false := by kernel_rfl
@[push_cast] theorem ze58 : zeroT Tryz.prog 58 = some (.nilf) := by kernel_rfl
@[push_cast] theorem by58 : bytesT Tryz.prog 58 = 8 := by kernel_rfl
@[push_cast] theorem sz59 : sizeT Tryz.prog 59 = some 4 := by kernel_rfl
@[push_cast] theorem ag59 : aggT Tryz.prog 59 = some true := by kernel_rfl
@[push_cast] theorem ze59 : zeroT Tryz.prog 59 = some (.agg [.str ⟨#[]⟩, .int .i64 0, .int .i64 0, .str ⟨#[]⟩]) := by kernel_rfl
@[push_cast] theorem by59 : bytesT Tryz.prog 59 = 48 := by kernel_rfl
@[push_cast] theorem fn59x0 : fieldN Tryz.prog 59 0 = some (9, 0) := by kernel_rfl
@[push_cast] theorem fn59x1 : fieldN Tryz.prog 59 1 = some (3, 1) := by kernel_rfl
@[push_cast] theorem fn59x2 : fieldN Tryz.prog 59 2 = some (3, 2) := by kernel_rfl
@[push_cast] theorem fn59x3 : fieldN Tryz.prog 59 3 = some (9, 3) := by kernel_rfl
@[push_cast] theorem pl59 : placesT Tryz.prog 59 = some [(0, 1), (1, 1), (2, 1), (3, 1)] := by kernel_rfl
@[push_cast] theorem pe59 : plainEqT Tryz.prog 59 = true := by kernel_rfl
@[push_cast] theorem sh59 : Program.stoodInHeld Tryz.prog 59 = false := by kernel_rfl
@[push_cast] theorem sz60 : sizeT Tryz.prog 60 = some 4 := by kernel_rfl
@[push_cast] theorem ag60 : aggT Tryz.prog 60 = some true := by kernel_rfl
@[push_cast] theorem ze60 : zeroT Tryz.prog 60 = some (.agg [.str ⟨#[]⟩, .int .i64 0, .int .i64 0, .str ⟨#[]⟩]) := by kernel_rfl
@[push_cast] theorem by60 : bytesT Tryz.prog 60 = 48 := by kernel_rfl
@[push_cast] theorem fn60x0 : fieldN Tryz.prog 60 0 = some (9, 0) := by kernel_rfl
@[push_cast] theorem fn60x1 : fieldN Tryz.prog 60 1 = some (3, 1) := by kernel_rfl
@[push_cast] theorem fn60x2 : fieldN Tryz.prog 60 2 = some (3, 2) := by kernel_rfl
@[push_cast] theorem fn60x3 : fieldN Tryz.prog 60 3 = some (9, 3) := by kernel_rfl
@[push_cast] theorem pl60 : placesT Tryz.prog 60 = some [(0, 1), (1, 1), (2, 1), (3, 1)] := by kernel_rfl
@[push_cast] theorem pe60 : plainEqT Tryz.prog 60 = true := by kernel_rfl
@[push_cast] theorem sh60 : Program.stoodInHeld Tryz.prog 60 = false := by kernel_rfl
@[push_cast] theorem sz61 : sizeT Tryz.prog 61 = some 1 := by kernel_rfl
@[push_cast] theorem ag61 : aggT Tryz.prog 61 = some false := by kernel_rfl
@[push_cast] theorem ze61 : zeroT Tryz.prog 61 = some (.nilf) := by kernel_rfl
@[push_cast] theorem by61 : bytesT Tryz.prog 61 = 8 := by kernel_rfl
@[push_cast] theorem sz62 : sizeT Tryz.prog 62 = some 1 := by kernel_rfl
@[push_cast] theorem ag62 : aggT Tryz.prog 62 = some false := by kernel_rfl
@[push_cast] theorem ze62 : zeroT Tryz.prog 62 = some (.nilf) := by kernel_rfl
@[push_cast] theorem by62 : bytesT Tryz.prog 62 = 8 := by kernel_rfl
@[push_cast] theorem sz63 : sizeT Tryz.prog 63 = some 1 := by kernel_rfl
@[push_cast] theorem ag63 : aggT Tryz.prog 63 = some false := by kernel_rfl
@[push_cast] theorem by63 : bytesT Tryz.prog 63 = 0 := by kernel_rfl
@[push_cast] theorem sz64 : sizeT Tryz.prog 64 = some 1 := by kernel_rfl
@[push_cast] theorem ag64 : aggT Tryz.prog 64 = some false := by kernel_rfl
@[push_cast] theorem ze64 : zeroT Tryz.prog 64 = some (.nilf) := by kernel_rfl
@[push_cast] theorem by64 : bytesT Tryz.prog 64 = 8 := by kernel_rfl
@[push_cast] theorem sz65 : sizeT Tryz.prog 65 = some 1 := by kernel_rfl
@[push_cast] theorem ag65 : aggT Tryz.prog 65 = some false := by kernel_rfl
@[push_cast] theorem ze65 : zeroT Tryz.prog 65 = some (.nilf) := by kernel_rfl
@[push_cast] theorem by65 : bytesT Tryz.prog 65 = 8 := by kernel_rfl
@[push_cast] theorem sz66 : sizeT Tryz.prog 66 = some 1 := by kernel_rfl
@[push_cast] theorem ag66 : aggT Tryz.prog 66 = some false := by kernel_rfl
@[push_cast] theorem ze66 : zeroT Tryz.prog 66 = some (.nilf) := by kernel_rfl
@[push_cast] theorem by66 : bytesT Tryz.prog 66 = 8 := by kernel_rfl
@[push_cast] theorem sz67 : sizeT Tryz.prog 67 = some 1 := by kernel_rfl
@[push_cast] theorem ag67 : aggT Tryz.prog 67 = some false := by kernel_rfl
@[push_cast] theorem by67 : bytesT Tryz.prog 67 = 0 := by kernel_rfl
@[push_cast] theorem sz68 : sizeT Tryz.prog 68 = some 1 := by kernel_rfl
@[push_cast] theorem ag68 : aggT Tryz.prog 68 = some false := by kernel_rfl
@[push_cast] theorem ze68 : zeroT Tryz.prog 68 = some (.nilf) := by kernel_rfl
@[push_cast] theorem by68 : bytesT Tryz.prog 68 = 8 := by kernel_rfl
@[push_cast] theorem sz69 : sizeT Tryz.prog 69 = some 1 := by kernel_rfl
@[push_cast] theorem ag69 : aggT Tryz.prog 69 = some false := by kernel_rfl
@[push_cast] theorem ze69 : zeroT Tryz.prog 69 = some (.nilf) := by kernel_rfl
@[push_cast] theorem by69 : bytesT Tryz.prog 69 = 8 := by kernel_rfl
@[push_cast] theorem sz70 : sizeT Tryz.prog 70 = some 1 := by kernel_rfl
@[push_cast] theorem ag70 : aggT Tryz.prog 70 = some false := by kernel_rfl
@[push_cast] theorem ze70 : zeroT Tryz.prog 70 = some (.nilf) := by kernel_rfl
@[push_cast] theorem by70 : bytesT Tryz.prog 70 = 8 := by kernel_rfl
@[push_cast] theorem sz71 : sizeT Tryz.prog 71 = some 1 := by kernel_rfl
@[push_cast] theorem ag71 : aggT Tryz.prog 71 = some false := by kernel_rfl
@[push_cast] theorem ze71 : zeroT Tryz.prog 71 = some (.nilf) := by kernel_rfl
@[push_cast] theorem by71 : bytesT Tryz.prog 71 = 8 := by kernel_rfl
@[push_cast] theorem sz72 : sizeT Tryz.prog 72 = some 1 := by kernel_rfl
@[push_cast] theorem ag72 : aggT Tryz.prog 72 = some false := by kernel_rfl
@[push_cast] theorem by72 : bytesT Tryz.prog 72 = 0 := by kernel_rfl
@[push_cast] theorem sz73 : sizeT Tryz.prog 73 = some 1 := by kernel_rfl
@[push_cast] theorem ag73 : aggT Tryz.prog 73 = some false := by kernel_rfl
@[push_cast] theorem ze73 : zeroT Tryz.prog 73 = some (.nilf) := by kernel_rfl
@[push_cast] theorem by73 : bytesT Tryz.prog 73 = 8 := by kernel_rfl
@[push_cast] theorem sz74 : sizeT Tryz.prog 74 = some 1 := by kernel_rfl
@[push_cast] theorem ag74 : aggT Tryz.prog 74 = some false := by kernel_rfl
@[push_cast] theorem ze74 : zeroT Tryz.prog 74 = some (.nilf) := by kernel_rfl
@[push_cast] theorem by74 : bytesT Tryz.prog 74 = 8 := by kernel_rfl
@[push_cast] theorem sz75 : sizeT Tryz.prog 75 = some 1 := by kernel_rfl
@[push_cast] theorem ag75 : aggT Tryz.prog 75 = some false := by kernel_rfl
@[push_cast] theorem ze75 : zeroT Tryz.prog 75 = some (.nilf) := by kernel_rfl
@[push_cast] theorem by75 : bytesT Tryz.prog 75 = 8 := by kernel_rfl
@[push_cast] theorem sz76 : sizeT Tryz.prog 76 = some 1 := by kernel_rfl
@[push_cast] theorem ag76 : aggT Tryz.prog 76 = some false := by kernel_rfl
@[push_cast] theorem ze76 : zeroT Tryz.prog 76 = some (.nilf) := by kernel_rfl
@[push_cast] theorem by76 : bytesT Tryz.prog 76 = 8 := by kernel_rfl
@[push_cast] theorem sz77 : sizeT Tryz.prog 77 = some 1 := by kernel_rfl
@[push_cast] theorem ag77 : aggT Tryz.prog 77 = some false := by kernel_rfl
@[push_cast] theorem ze77 : zeroT Tryz.prog 77 = some (.nilf) := by kernel_rfl
@[push_cast] theorem by77 : bytesT Tryz.prog 77 = 8 := by kernel_rfl
@[push_cast] theorem sz78 : sizeT Tryz.prog 78 = some 1 := by kernel_rfl
@[push_cast] theorem ag78 : aggT Tryz.prog 78 = some false := by kernel_rfl
@[push_cast] theorem ze78 : zeroT Tryz.prog 78 = some (.nilf) := by kernel_rfl
@[push_cast] theorem by78 : bytesT Tryz.prog 78 = 8 := by kernel_rfl
@[push_cast] theorem sz79 : sizeT Tryz.prog 79 = some 1 := by kernel_rfl
@[push_cast] theorem ag79 : aggT Tryz.prog 79 = some false := by kernel_rfl
@[push_cast] theorem ze79 : zeroT Tryz.prog 79 = some (.nilf) := by kernel_rfl
@[push_cast] theorem by79 : bytesT Tryz.prog 79 = 8 := by kernel_rfl
@[push_cast] theorem sz80 : sizeT Tryz.prog 80 = some 1 := by kernel_rfl
@[push_cast] theorem ag80 : aggT Tryz.prog 80 = some false := by kernel_rfl
@[push_cast] theorem ze80 : zeroT Tryz.prog 80 = some (.nilf) := by kernel_rfl
@[push_cast] theorem by80 : bytesT Tryz.prog 80 = 8 := by kernel_rfl
@[push_cast] theorem sz81 : sizeT Tryz.prog 81 = some 1 := by kernel_rfl
@[push_cast] theorem ag81 : aggT Tryz.prog 81 = some false := by kernel_rfl
@[push_cast] theorem ze81 : zeroT Tryz.prog 81 = some (.nilf) := by kernel_rfl
@[push_cast] theorem by81 : bytesT Tryz.prog 81 = 8 := by kernel_rfl
@[push_cast] theorem sz82 : sizeT Tryz.prog 82 = some 1 := by kernel_rfl
@[push_cast] theorem ag82 : aggT Tryz.prog 82 = some false := by kernel_rfl
@[push_cast] theorem ze82 : zeroT Tryz.prog 82 = some (.nilf) := by kernel_rfl
@[push_cast] theorem by82 : bytesT Tryz.prog 82 = 8 := by kernel_rfl
@[push_cast] theorem sz83 : sizeT Tryz.prog 83 = some 1 := by kernel_rfl
@[push_cast] theorem ag83 : aggT Tryz.prog 83 = some false := by kernel_rfl
@[push_cast] theorem ze83 : zeroT Tryz.prog 83 = some (.nilf) := by kernel_rfl
@[push_cast] theorem by83 : bytesT Tryz.prog 83 = 8 := by kernel_rfl
@[push_cast] theorem sz84 : sizeT Tryz.prog 84 = some 1 := by kernel_rfl
@[push_cast] theorem ag84 : aggT Tryz.prog 84 = some false := by kernel_rfl
@[push_cast] theorem ze84 : zeroT Tryz.prog 84 = some (.nilf) := by kernel_rfl
@[push_cast] theorem by84 : bytesT Tryz.prog 84 = 8 := by kernel_rfl
@[push_cast] theorem sz85 : sizeT Tryz.prog 85 = some 1 := by kernel_rfl
@[push_cast] theorem ag85 : aggT Tryz.prog 85 = some false := by kernel_rfl
@[push_cast] theorem ze85 : zeroT Tryz.prog 85 = some (.nilm) := by kernel_rfl
@[push_cast] theorem by85 : bytesT Tryz.prog 85 = 8 := by kernel_rfl
@[push_cast] theorem sz86 : sizeT Tryz.prog 86 = some 2 := by kernel_rfl
@[push_cast] theorem ag86 : aggT Tryz.prog 86 = some true := by kernel_rfl
@[push_cast] theorem ze86 : zeroT Tryz.prog 86 = some (.agg [.nils, .nilm]) := by kernel_rfl
@[push_cast] theorem by86 : bytesT Tryz.prog 86 = 32 := by kernel_rfl
@[push_cast] theorem fn86x0 : fieldN Tryz.prog 86 0 = some (22, 0) := by kernel_rfl
@[push_cast] theorem fn86x1 : fieldN Tryz.prog 86 1 = some (85, 1) := by kernel_rfl
@[push_cast] theorem pl86 : placesT Tryz.prog 86 = some [(0, 1), (1, 1)] := by kernel_rfl
@[push_cast] theorem pe86 : plainEqT Tryz.prog 86 = true := by kernel_rfl
@[push_cast] theorem sh86 : Program.stoodInHeld Tryz.prog 86 = false := by kernel_rfl
@[push_cast] theorem sz87 : sizeT Tryz.prog 87 = some 2 := by kernel_rfl
@[push_cast] theorem ag87 : aggT Tryz.prog 87 = some true := by kernel_rfl
@[push_cast] theorem ze87 : zeroT Tryz.prog 87 = some (.agg [.nils, .nilm]) := by kernel_rfl
@[push_cast] theorem by87 : bytesT Tryz.prog 87 = 32 := by kernel_rfl
@[push_cast] theorem fn87x0 : fieldN Tryz.prog 87 0 = some (22, 0) := by kernel_rfl
@[push_cast] theorem fn87x1 : fieldN Tryz.prog 87 1 = some (85, 1) := by kernel_rfl
@[push_cast] theorem pl87 : placesT Tryz.prog 87 = some [(0, 1), (1, 1)] := by kernel_rfl
@[push_cast] theorem pe87 : plainEqT Tryz.prog 87 = true := by kernel_rfl
@[push_cast] theorem sh87 : Program.stoodInHeld Tryz.prog 87 = false := by kernel_rfl
@[push_cast] theorem sz88 : sizeT Tryz.prog 88 = some 1 := by kernel_rfl
@[push_cast] theorem ag88 : aggT Tryz.prog 88 = some false := by kernel_rfl
@[push_cast] theorem ze88 : zeroT Tryz.prog 88 = some (.nils) := by kernel_rfl
@[push_cast] theorem by88 : bytesT Tryz.prog 88 = 24 := by kernel_rfl
@[push_cast] theorem el88 : elemT Tryz.prog 88 = some 27 := by kernel_rfl
@[push_cast] theorem sz89 : sizeT Tryz.prog 89 = some 1 := by kernel_rfl
@[push_cast] theorem ag89 : aggT Tryz.prog 89 = some false := by kernel_rfl
@[push_cast] theorem ze89 : zeroT Tryz.prog 89 = some (.nilf) := by kernel_rfl
@[push_cast] theorem by89 : bytesT Tryz.prog 89 = 8 := by kernel_rfl
@[push_cast] theorem sz90 : sizeT Tryz.prog 90 = some 1 := by kernel_rfl
@[push_cast] theorem ag90 : aggT Tryz.prog 90 = some false := by kernel_rfl
@[push_cast] theorem ze90 : zeroT Tryz.prog 90 = some (.nilf) := by kernel_rfl
@[push_cast] theorem by90 : bytesT Tryz.prog 90 = 8 := by kernel_rfl
@[push_cast] theorem sz91 : sizeT Tryz.prog 91 = some 1 := by kernel_rfl
@[push_cast] theorem ag91 : aggT Tryz.prog 91 = some false := by kernel_rfl
@[push_cast] theorem ze91 : zeroT Tryz.prog 91 = some (.nilf) := by kernel_rfl
@[push_cast] theorem by91 : bytesT Tryz.prog 91 = 8 := by kernel_rfl
@[push_cast] theorem sz92 : sizeT Tryz.prog 92 = some 2 := by kernel_rfl
@[push_cast] theorem ag92 : aggT Tryz.prog 92 = some true := by kernel_rfl
@[push_cast] theorem ze92 : zeroT Tryz.prog 92 = some (.agg [.str ⟨#[]⟩, .int .i64 0]) := by kernel_rfl
@[push_cast] theorem by92 : bytesT Tryz.prog 92 = 24 := by kernel_rfl
@[push_cast] theorem fn92x0 : fieldN Tryz.prog 92 0 = some (9, 0) := by kernel_rfl
@[push_cast] theorem fn92x1 : fieldN Tryz.prog 92 1 = some (3, 1) := by kernel_rfl
@[push_cast] theorem pl92 : placesT Tryz.prog 92 = some [(0, 1), (1, 1)] := by kernel_rfl
@[push_cast] theorem pe92 : plainEqT Tryz.prog 92 = true := by kernel_rfl
@[push_cast] theorem sh92 : Program.stoodInHeld Tryz.prog 92 = false := by kernel_rfl
@[push_cast] theorem sz93 : sizeT Tryz.prog 93 = some 2 := by kernel_rfl
@[push_cast] theorem ag93 : aggT Tryz.prog 93 = some true := by kernel_rfl
@[push_cast] theorem ze93 : zeroT Tryz.prog 93 = some (.agg [.str ⟨#[]⟩, .int .i64 0]) := by kernel_rfl
@[push_cast] theorem by93 : bytesT Tryz.prog 93 = 24 := by kernel_rfl
@[push_cast] theorem fn93x0 : fieldN Tryz.prog 93 0 = some (9, 0) := by kernel_rfl
@[push_cast] theorem fn93x1 : fieldN Tryz.prog 93 1 = some (3, 1) := by kernel_rfl
@[push_cast] theorem pl93 : placesT Tryz.prog 93 = some [(0, 1), (1, 1)] := by kernel_rfl
@[push_cast] theorem pe93 : plainEqT Tryz.prog 93 = true := by kernel_rfl
@[push_cast] theorem sh93 : Program.stoodInHeld Tryz.prog 93 = false := by kernel_rfl
@[push_cast] theorem sz94 : sizeT Tryz.prog 94 = some 1 := by kernel_rfl
@[push_cast] theorem ag94 : aggT Tryz.prog 94 = some false := by kernel_rfl
@[push_cast] theorem ze94 : zeroT Tryz.prog 94 = some (.nils) := by kernel_rfl
@[push_cast] theorem by94 : bytesT Tryz.prog 94 = 24 := by kernel_rfl
@[push_cast] theorem el94 : elemT Tryz.prog 94 = some 93 := by kernel_rfl
@[push_cast] theorem sz95 : sizeT Tryz.prog 95 = some 4 := by kernel_rfl
@[push_cast] theorem ag95 : aggT Tryz.prog 95 = some true := by kernel_rfl
@[push_cast] theorem ze95 : zeroT Tryz.prog 95 = some (.agg [.str ⟨#[]⟩, .int .i64 0, .int .i64 0, .nils]) := by kernel_rfl
@[push_cast] theorem by95 : bytesT Tryz.prog 95 = 56 := by kernel_rfl
@[push_cast] theorem fn95x0 : fieldN Tryz.prog 95 0 = some (9, 0) := by kernel_rfl
@[push_cast] theorem fn95x1 : fieldN Tryz.prog 95 1 = some (3, 1) := by kernel_rfl
@[push_cast] theorem fn95x2 : fieldN Tryz.prog 95 2 = some (3, 2) := by kernel_rfl
@[push_cast] theorem fn95x3 : fieldN Tryz.prog 95 3 = some (94, 3) := by kernel_rfl
@[push_cast] theorem pl95 : placesT Tryz.prog 95 = some [(0, 1), (1, 1), (2, 1), (3, 1)] := by kernel_rfl
@[push_cast] theorem pe95 : plainEqT Tryz.prog 95 = true := by kernel_rfl
@[push_cast] theorem sh95 : Program.stoodInHeld Tryz.prog 95 = false := by kernel_rfl
@[push_cast] theorem sz96 : sizeT Tryz.prog 96 = some 4 := by kernel_rfl
@[push_cast] theorem ag96 : aggT Tryz.prog 96 = some true := by kernel_rfl
@[push_cast] theorem ze96 : zeroT Tryz.prog 96 = some (.agg [.str ⟨#[]⟩, .int .i64 0, .int .i64 0, .nils]) := by kernel_rfl
@[push_cast] theorem by96 : bytesT Tryz.prog 96 = 56 := by kernel_rfl
@[push_cast] theorem fn96x0 : fieldN Tryz.prog 96 0 = some (9, 0) := by kernel_rfl
@[push_cast] theorem fn96x1 : fieldN Tryz.prog 96 1 = some (3, 1) := by kernel_rfl
@[push_cast] theorem fn96x2 : fieldN Tryz.prog 96 2 = some (3, 2) := by kernel_rfl
@[push_cast] theorem fn96x3 : fieldN Tryz.prog 96 3 = some (94, 3) := by kernel_rfl
@[push_cast] theorem pl96 : placesT Tryz.prog 96 = some [(0, 1), (1, 1), (2, 1), (3, 1)] := by kernel_rfl
@[push_cast] theorem pe96 : plainEqT Tryz.prog 96 = true := by kernel_rfl
@[push_cast] theorem sh96 : Program.stoodInHeld Tryz.prog 96 = false := by kernel_rfl
@[push_cast] theorem sz97 : sizeT Tryz.prog 97 = some 1 := by kernel_rfl
@[push_cast] theorem ag97 : aggT Tryz.prog 97 = some false := by kernel_rfl
@[push_cast] theorem ze97 : zeroT Tryz.prog 97 = some (.nils) := by kernel_rfl
@[push_cast] theorem by97 : bytesT Tryz.prog 97 = 24 := by kernel_rfl
@[push_cast] theorem el97 : elemT Tryz.prog 97 = some 96 := by kernel_rfl
@[push_cast] theorem sz98 : sizeT Tryz.prog 98 = some 2 := by kernel_rfl
@[push_cast] theorem ag98 : aggT Tryz.prog 98 = some true := by kernel_rfl
@[push_cast] theorem ze98 : zeroT Tryz.prog 98 = some (.agg [.str ⟨#[]⟩, .nils]) := by kernel_rfl
@[push_cast] theorem by98 : bytesT Tryz.prog 98 = 40 := by kernel_rfl
@[push_cast] theorem fn98x0 : fieldN Tryz.prog 98 0 = some (9, 0) := by kernel_rfl
@[push_cast] theorem fn98x1 : fieldN Tryz.prog 98 1 = some (97, 1) := by kernel_rfl
@[push_cast] theorem pl98 : placesT Tryz.prog 98 = some [(0, 1), (1, 1)] := by kernel_rfl
@[push_cast] theorem pe98 : plainEqT Tryz.prog 98 = true := by kernel_rfl
@[push_cast] theorem sh98 : Program.stoodInHeld Tryz.prog 98 = false := by kernel_rfl
@[push_cast] theorem sz99 : sizeT Tryz.prog 99 = some 2 := by kernel_rfl
@[push_cast] theorem ag99 : aggT Tryz.prog 99 = some true := by kernel_rfl
@[push_cast] theorem ze99 : zeroT Tryz.prog 99 = some (.agg [.str ⟨#[]⟩, .nils]) := by kernel_rfl
@[push_cast] theorem by99 : bytesT Tryz.prog 99 = 40 := by kernel_rfl
@[push_cast] theorem fn99x0 : fieldN Tryz.prog 99 0 = some (9, 0) := by kernel_rfl
@[push_cast] theorem fn99x1 : fieldN Tryz.prog 99 1 = some (97, 1) := by kernel_rfl
@[push_cast] theorem pl99 : placesT Tryz.prog 99 = some [(0, 1), (1, 1)] := by kernel_rfl
@[push_cast] theorem pe99 : plainEqT Tryz.prog 99 = true := by kernel_rfl
@[push_cast] theorem sh99 : Program.stoodInHeld Tryz.prog 99 = false := by kernel_rfl
@[push_cast] theorem sz100 : sizeT Tryz.prog 100 = some 1 := by kernel_rfl
@[push_cast] theorem ag100 : aggT Tryz.prog 100 = some false := by kernel_rfl
@[push_cast] theorem ze100 : zeroT Tryz.prog 100 = some (.nils) := by kernel_rfl
@[push_cast] theorem by100 : bytesT Tryz.prog 100 = 24 := by kernel_rfl
@[push_cast] theorem el100 : elemT Tryz.prog 100 = some 3 := by kernel_rfl
@[push_cast] theorem sz101 : sizeT Tryz.prog 101 = some 1 := by kernel_rfl
@[push_cast] theorem ag101 : aggT Tryz.prog 101 = some false := by kernel_rfl
@[push_cast] theorem ze101 : zeroT Tryz.prog 101 = some (.nilf) := by kernel_rfl
@[push_cast] theorem by101 : bytesT Tryz.prog 101 = 8 := by kernel_rfl
@[push_cast] theorem sz102 : sizeT Tryz.prog 102 = some 1 := by kernel_rfl
@[push_cast] theorem ag102 : aggT Tryz.prog 102 = some false := by kernel_rfl
@[push_cast] theorem ze102 : zeroT Tryz.prog 102 = some (.nilf) := by kernel_rfl
@[push_cast] theorem by102 : bytesT Tryz.prog 102 = 8 := by kernel_rfl
@[push_cast] theorem sz103 : sizeT Tryz.prog 103 = some 1 := by kernel_rfl
@[push_cast] theorem ag103 : aggT Tryz.prog 103 = some false := by kernel_rfl
@[push_cast] theorem ze103 : zeroT Tryz.prog 103 = some (.nils) := by kernel_rfl
@[push_cast] theorem by103 : bytesT Tryz.prog 103 = 24 := by kernel_rfl
@[push_cast] theorem el103 : elemT Tryz.prog 103 = some 9 := by kernel_rfl
@[push_cast] theorem sz104 : sizeT Tryz.prog 104 = some 1 := by kernel_rfl
@[push_cast] theorem ag104 : aggT Tryz.prog 104 = some false := by kernel_rfl
@[push_cast] theorem ze104 : zeroT Tryz.prog 104 = some (.nilf) := by kernel_rfl
@[push_cast] theorem by104 : bytesT Tryz.prog 104 = 8 := by kernel_rfl
@[push_cast] theorem sz105 : sizeT Tryz.prog 105 = some 1 := by kernel_rfl
@[push_cast] theorem ag105 : aggT Tryz.prog 105 = some false := by kernel_rfl
@[push_cast] theorem ze105 : zeroT Tryz.prog 105 = some (.nils) := by kernel_rfl
@[push_cast] theorem by105 : bytesT Tryz.prog 105 = 24 := by kernel_rfl
@[push_cast] theorem el105 : elemT Tryz.prog 105 = some 109 := by kernel_rfl
@[push_cast] theorem sz106 : sizeT Tryz.prog 106 = some 1 := by kernel_rfl
@[push_cast] theorem ag106 : aggT Tryz.prog 106 = some false := by kernel_rfl
@[push_cast] theorem by106 : bytesT Tryz.prog 106 = 0 := by kernel_rfl
@[push_cast] theorem sz107 : sizeT Tryz.prog 107 = some 1 := by kernel_rfl
@[push_cast] theorem ag107 : aggT Tryz.prog 107 = some false := by kernel_rfl
@[push_cast] theorem ze107 : zeroT Tryz.prog 107 = some (.nilf) := by kernel_rfl
@[push_cast] theorem by107 : bytesT Tryz.prog 107 = 8 := by kernel_rfl
@[push_cast] theorem sz108 : sizeT Tryz.prog 108 = some 1 := by kernel_rfl
@[push_cast] theorem ag108 : aggT Tryz.prog 108 = some false := by kernel_rfl
@[push_cast] theorem ze108 : zeroT Tryz.prog 108 = some (.nilf) := by kernel_rfl
@[push_cast] theorem by108 : bytesT Tryz.prog 108 = 8 := by kernel_rfl
@[push_cast] theorem sz109 : sizeT Tryz.prog 109 = some 1 := by kernel_rfl
@[push_cast] theorem ag109 : aggT Tryz.prog 109 = some false := by kernel_rfl
@[push_cast] theorem ze109 : zeroT Tryz.prog 109 = some (.nilp) := by kernel_rfl
@[push_cast] theorem by109 : bytesT Tryz.prog 109 = 8 := by kernel_rfl
@[push_cast] theorem sz110 : sizeT Tryz.prog 110 = some 1 := by kernel_rfl
@[push_cast] theorem ag110 : aggT Tryz.prog 110 = some false := by kernel_rfl
@[push_cast] theorem ze110 : zeroT Tryz.prog 110 = some (.nilf) := by kernel_rfl
@[push_cast] theorem by110 : bytesT Tryz.prog 110 = 8 := by kernel_rfl
@[push_cast] theorem sz111 : sizeT Tryz.prog 111 = some 1 := by kernel_rfl
@[push_cast] theorem ag111 : aggT Tryz.prog 111 = some false := by kernel_rfl
@[push_cast] theorem ze111 : zeroT Tryz.prog 111 = some (.nilf) := by kernel_rfl
@[push_cast] theorem by111 : bytesT Tryz.prog 111 = 8 := by kernel_rfl
@[push_cast] theorem sz112 : sizeT Tryz.prog 112 = some 1 := by kernel_rfl
@[push_cast] theorem ag112 : aggT Tryz.prog 112 = some false := by kernel_rfl
@[push_cast] theorem by112 : bytesT Tryz.prog 112 = 0 := by kernel_rfl
@[push_cast] theorem sz113 : sizeT Tryz.prog 113 = some 1 := by kernel_rfl
@[push_cast] theorem ag113 : aggT Tryz.prog 113 = some false := by kernel_rfl
@[push_cast] theorem ze113 : zeroT Tryz.prog 113 = some (.nilf) := by kernel_rfl
@[push_cast] theorem by113 : bytesT Tryz.prog 113 = 8 := by kernel_rfl
@[push_cast] theorem sz114 : sizeT Tryz.prog 114 = some 4 := by kernel_rfl
@[push_cast] theorem ag114 : aggT Tryz.prog 114 = some true := by kernel_rfl
@[push_cast] theorem ze114 : zeroT Tryz.prog 114 = some (.agg [.str ⟨#[]⟩, .nils, .nils, .bool false]) := by kernel_rfl
@[push_cast] theorem by114 : bytesT Tryz.prog 114 = 72 := by kernel_rfl
@[push_cast] theorem fn114x0 : fieldN Tryz.prog 114 0 = some (99, 0) := by kernel_rfl
@[push_cast] theorem fn114x1 : fieldN Tryz.prog 114 1 = some (45, 2) := by kernel_rfl
@[push_cast] theorem fn114x2 : fieldN Tryz.prog 114 2 = some (4, 3) := by kernel_rfl
@[push_cast] theorem pl114 : placesT Tryz.prog 114 = some [(0, 2), (2, 1), (3, 1)] := by kernel_rfl
@[push_cast] theorem pe114 : plainEqT Tryz.prog 114 = true := by kernel_rfl
@[push_cast] theorem sh114 : Program.stoodInHeld Tryz.prog 114 = false := by kernel_rfl
@[push_cast] theorem sz115 : sizeT Tryz.prog 115 = some 4 := by kernel_rfl
@[push_cast] theorem ag115 : aggT Tryz.prog 115 = some true := by kernel_rfl
@[push_cast] theorem ze115 : zeroT Tryz.prog 115 = some (.agg [.str ⟨#[]⟩, .nils, .nils, .bool false]) := by kernel_rfl
@[push_cast] theorem by115 : bytesT Tryz.prog 115 = 72 := by kernel_rfl
@[push_cast] theorem fn115x0 : fieldN Tryz.prog 115 0 = some (99, 0) := by kernel_rfl
@[push_cast] theorem fn115x1 : fieldN Tryz.prog 115 1 = some (45, 2) := by kernel_rfl
@[push_cast] theorem fn115x2 : fieldN Tryz.prog 115 2 = some (4, 3) := by kernel_rfl
@[push_cast] theorem pl115 : placesT Tryz.prog 115 = some [(0, 2), (2, 1), (3, 1)] := by kernel_rfl
@[push_cast] theorem pe115 : plainEqT Tryz.prog 115 = true := by kernel_rfl
@[push_cast] theorem sh115 : Program.stoodInHeld Tryz.prog 115 = false := by kernel_rfl
@[push_cast] theorem sz116 : sizeT Tryz.prog 116 = some 1 := by kernel_rfl
@[push_cast] theorem ag116 : aggT Tryz.prog 116 = some false := by kernel_rfl
@[push_cast] theorem ze116 : zeroT Tryz.prog 116 = some (.nilf) := by kernel_rfl
@[push_cast] theorem by116 : bytesT Tryz.prog 116 = 8 := by kernel_rfl
@[push_cast] theorem sz117 : sizeT Tryz.prog 117 = some 1 := by kernel_rfl
@[push_cast] theorem ag117 : aggT Tryz.prog 117 = some false := by kernel_rfl
@[push_cast] theorem ze117 : zeroT Tryz.prog 117 = some (.nilf) := by kernel_rfl
@[push_cast] theorem by117 : bytesT Tryz.prog 117 = 8 := by kernel_rfl
@[push_cast] theorem sz118 : sizeT Tryz.prog 118 = some 1 := by kernel_rfl
@[push_cast] theorem ag118 : aggT Tryz.prog 118 = some false := by kernel_rfl
@[push_cast] theorem ze118 : zeroT Tryz.prog 118 = some (.nilf) := by kernel_rfl
@[push_cast] theorem by118 : bytesT Tryz.prog 118 = 8 := by kernel_rfl
@[push_cast] theorem sz119 : sizeT Tryz.prog 119 = some 1 := by kernel_rfl
@[push_cast] theorem ag119 : aggT Tryz.prog 119 = some false := by kernel_rfl
@[push_cast] theorem ze119 : zeroT Tryz.prog 119 = some (.nilf) := by kernel_rfl
@[push_cast] theorem by119 : bytesT Tryz.prog 119 = 8 := by kernel_rfl
@[push_cast] theorem sz120 : sizeT Tryz.prog 120 = some 1 := by kernel_rfl
@[push_cast] theorem ag120 : aggT Tryz.prog 120 = some false := by kernel_rfl
@[push_cast] theorem ze120 : zeroT Tryz.prog 120 = some (.nilf) := by kernel_rfl
@[push_cast] theorem by120 : bytesT Tryz.prog 120 = 8 := by kernel_rfl
@[push_cast] theorem sz121 : sizeT Tryz.prog 121 = some 1 := by kernel_rfl
@[push_cast] theorem ag121 : aggT Tryz.prog 121 = some false := by kernel_rfl
@[push_cast] theorem ze121 : zeroT Tryz.prog 121 = some (.nilf) := by kernel_rfl
@[push_cast] theorem by121 : bytesT Tryz.prog 121 = 8 := by kernel_rfl
@[push_cast] theorem sz122 : sizeT Tryz.prog 122 = some 1 := by kernel_rfl
@[push_cast] theorem ag122 : aggT Tryz.prog 122 = some false := by kernel_rfl
@[push_cast] theorem ze122 : zeroT Tryz.prog 122 = some (.nilf) := by kernel_rfl
@[push_cast] theorem by122 : bytesT Tryz.prog 122 = 8 := by kernel_rfl
@[push_cast] theorem sz123 : sizeT Tryz.prog 123 = some 1 := by kernel_rfl
@[push_cast] theorem ag123 : aggT Tryz.prog 123 = some false := by kernel_rfl
@[push_cast] theorem ze123 : zeroT Tryz.prog 123 = some (.nilf) := by kernel_rfl
@[push_cast] theorem by123 : bytesT Tryz.prog 123 = 8 := by kernel_rfl
@[push_cast] theorem sz124 : sizeT Tryz.prog 124 = some 1 := by kernel_rfl
@[push_cast] theorem ag124 : aggT Tryz.prog 124 = some false := by kernel_rfl
@[push_cast] theorem ze124 : zeroT Tryz.prog 124 = some (.nils) := by kernel_rfl
@[push_cast] theorem by124 : bytesT Tryz.prog 124 = 24 := by kernel_rfl
@[push_cast] theorem el124 : elemT Tryz.prog 124 = some 146 := by kernel_rfl
@[push_cast] theorem sz125 : sizeT Tryz.prog 125 = some 3 := by kernel_rfl
@[push_cast] theorem ag125 : aggT Tryz.prog 125 = some true := by kernel_rfl
@[push_cast] theorem ze125 : zeroT Tryz.prog 125 = some (.agg [.bool false, .nils, .nils]) := by kernel_rfl
@[push_cast] theorem by125 : bytesT Tryz.prog 125 = 56 := by kernel_rfl
@[push_cast] theorem fn125x0 : fieldN Tryz.prog 125 0 = some (4, 0) := by kernel_rfl
@[push_cast] theorem fn125x1 : fieldN Tryz.prog 125 1 = some (22, 1) := by kernel_rfl
@[push_cast] theorem fn125x2 : fieldN Tryz.prog 125 2 = some (124, 2) := by kernel_rfl
@[push_cast] theorem pl125 : placesT Tryz.prog 125 = some [(0, 1), (1, 1), (2, 1)] := by kernel_rfl
@[push_cast] theorem pe125 : plainEqT Tryz.prog 125 = true := by kernel_rfl
@[push_cast] theorem sh125 : Program.stoodInHeld Tryz.prog 125 = false := by kernel_rfl
@[push_cast] theorem sz126 : sizeT Tryz.prog 126 = some 3 := by kernel_rfl
@[push_cast] theorem ag126 : aggT Tryz.prog 126 = some true := by kernel_rfl
@[push_cast] theorem ze126 : zeroT Tryz.prog 126 = some (.agg [.bool false, .nils, .nils]) := by kernel_rfl
@[push_cast] theorem by126 : bytesT Tryz.prog 126 = 56 := by kernel_rfl
@[push_cast] theorem fn126x0 : fieldN Tryz.prog 126 0 = some (4, 0) := by kernel_rfl
@[push_cast] theorem fn126x1 : fieldN Tryz.prog 126 1 = some (22, 1) := by kernel_rfl
@[push_cast] theorem fn126x2 : fieldN Tryz.prog 126 2 = some (124, 2) := by kernel_rfl
@[push_cast] theorem pl126 : placesT Tryz.prog 126 = some [(0, 1), (1, 1), (2, 1)] := by kernel_rfl
@[push_cast] theorem pe126 : plainEqT Tryz.prog 126 = true := by kernel_rfl
@[push_cast] theorem sh126 : Program.stoodInHeld Tryz.prog 126 = false := by kernel_rfl
@[push_cast] theorem sz127 : sizeT Tryz.prog 127 = some 1 := by kernel_rfl
@[push_cast] theorem ag127 : aggT Tryz.prog 127 = some false := by kernel_rfl
@[push_cast] theorem ze127 : zeroT Tryz.prog 127 = some (.nilf) := by kernel_rfl
@[push_cast] theorem by127 : bytesT Tryz.prog 127 = 8 := by kernel_rfl
@[push_cast] theorem sz128 : sizeT Tryz.prog 128 = some 1 := by kernel_rfl
@[push_cast] theorem ag128 : aggT Tryz.prog 128 = some false := by kernel_rfl
@[push_cast] theorem by128 : bytesT Tryz.prog 128 = 0 := by kernel_rfl
@[push_cast] theorem sz129 : sizeT Tryz.prog 129 = some 1 := by kernel_rfl
@[push_cast] theorem ag129 : aggT Tryz.prog 129 = some false := by kernel_rfl
@[push_cast] theorem ze129 : zeroT Tryz.prog 129 = some (.nilf) := by kernel_rfl
@[push_cast] theorem by129 : bytesT Tryz.prog 129 = 8 := by kernel_rfl
@[push_cast] theorem sz130 : sizeT Tryz.prog 130 = some 1 := by kernel_rfl
@[push_cast] theorem ag130 : aggT Tryz.prog 130 = some false := by kernel_rfl
@[push_cast] theorem ze130 : zeroT Tryz.prog 130 = some (.nilf) := by kernel_rfl
@[push_cast] theorem by130 : bytesT Tryz.prog 130 = 8 := by kernel_rfl
@[push_cast] theorem sz131 : sizeT Tryz.prog 131 = some 1 := by kernel_rfl
@[push_cast] theorem ag131 : aggT Tryz.prog 131 = some false := by kernel_rfl
@[push_cast] theorem ze131 : zeroT Tryz.prog 131 = some (.nilf) := by kernel_rfl
@[push_cast] theorem by131 : bytesT Tryz.prog 131 = 8 := by kernel_rfl
@[push_cast] theorem sz132 : sizeT Tryz.prog 132 = some 1 := by kernel_rfl
@[push_cast] theorem ag132 : aggT Tryz.prog 132 = some false := by kernel_rfl
@[push_cast] theorem ze132 : zeroT Tryz.prog 132 = some (.nilf) := by kernel_rfl
@[push_cast] theorem by132 : bytesT Tryz.prog 132 = 8 := by kernel_rfl
@[push_cast] theorem sz133 : sizeT Tryz.prog 133 = some 1 := by kernel_rfl
@[push_cast] theorem ag133 : aggT Tryz.prog 133 = some false := by kernel_rfl
@[push_cast] theorem ze133 : zeroT Tryz.prog 133 = some (.nilf) := by kernel_rfl
@[push_cast] theorem by133 : bytesT Tryz.prog 133 = 8 := by kernel_rfl
@[push_cast] theorem sz134 : sizeT Tryz.prog 134 = some 1 := by kernel_rfl
@[push_cast] theorem ag134 : aggT Tryz.prog 134 = some false := by kernel_rfl
@[push_cast] theorem ze134 : zeroT Tryz.prog 134 = some (.nilf) := by kernel_rfl
@[push_cast] theorem by134 : bytesT Tryz.prog 134 = 8 := by kernel_rfl
@[push_cast] theorem sz135 : sizeT Tryz.prog 135 = some 2 := by kernel_rfl
@[push_cast] theorem ag135 : aggT Tryz.prog 135 = some true := by kernel_rfl
@[push_cast] theorem ze135 : zeroT Tryz.prog 135 = some (.agg [.int .i64 0, .str ⟨#[]⟩]) := by kernel_rfl
@[push_cast] theorem by135 : bytesT Tryz.prog 135 = 24 := by kernel_rfl
@[push_cast] theorem fn135x0 : fieldN Tryz.prog 135 0 = some (36, 0) := by kernel_rfl
@[push_cast] theorem fn135x1 : fieldN Tryz.prog 135 1 = some (9, 1) := by kernel_rfl
@[push_cast] theorem pl135 : placesT Tryz.prog 135 = some [(0, 1), (1, 1)] := by kernel_rfl
@[push_cast] theorem pe135 : plainEqT Tryz.prog 135 = true := by kernel_rfl
@[push_cast] theorem sh135 : Program.stoodInHeld Tryz.prog 135 = false := by kernel_rfl
@[push_cast] theorem sz136 : sizeT Tryz.prog 136 = some 2 := by kernel_rfl
@[push_cast] theorem ag136 : aggT Tryz.prog 136 = some true := by kernel_rfl
@[push_cast] theorem ze136 : zeroT Tryz.prog 136 = some (.agg [.int .i64 0, .str ⟨#[]⟩]) := by kernel_rfl
@[push_cast] theorem by136 : bytesT Tryz.prog 136 = 24 := by kernel_rfl
@[push_cast] theorem fn136x0 : fieldN Tryz.prog 136 0 = some (36, 0) := by kernel_rfl
@[push_cast] theorem fn136x1 : fieldN Tryz.prog 136 1 = some (9, 1) := by kernel_rfl
@[push_cast] theorem pl136 : placesT Tryz.prog 136 = some [(0, 1), (1, 1)] := by kernel_rfl
@[push_cast] theorem pe136 : plainEqT Tryz.prog 136 = true := by kernel_rfl
@[push_cast] theorem sh136 : Program.stoodInHeld Tryz.prog 136 = false := by kernel_rfl
@[push_cast] theorem sz137 : sizeT Tryz.prog 137 = some 1 := by kernel_rfl
@[push_cast] theorem ag137 : aggT Tryz.prog 137 = some false := by kernel_rfl
@[push_cast] theorem ze137 : zeroT Tryz.prog 137 = some (.nilf) := by kernel_rfl
@[push_cast] theorem by137 : bytesT Tryz.prog 137 = 8 := by kernel_rfl
@[push_cast] theorem sz138 : sizeT Tryz.prog 138 = some 1 := by kernel_rfl
@[push_cast] theorem ag138 : aggT Tryz.prog 138 = some false := by kernel_rfl
@[push_cast] theorem ze138 : zeroT Tryz.prog 138 = some (.nilf) := by kernel_rfl
@[push_cast] theorem by138 : bytesT Tryz.prog 138 = 8 := by kernel_rfl
@[push_cast] theorem sz139 : sizeT Tryz.prog 139 = some 1 := by kernel_rfl
@[push_cast] theorem ag139 : aggT Tryz.prog 139 = some false := by kernel_rfl
@[push_cast] theorem ze139 : zeroT Tryz.prog 139 = some (.nilf) := by kernel_rfl
@[push_cast] theorem by139 : bytesT Tryz.prog 139 = 8 := by kernel_rfl
@[push_cast] theorem sz140 : sizeT Tryz.prog 140 = some 1 := by kernel_rfl
@[push_cast] theorem ag140 : aggT Tryz.prog 140 = some false := by kernel_rfl
@[push_cast] theorem ze140 : zeroT Tryz.prog 140 = some (.nilf) := by kernel_rfl
@[push_cast] theorem by140 : bytesT Tryz.prog 140 = 8 := by kernel_rfl
@[push_cast] theorem sz141 : sizeT Tryz.prog 141 = some 1 := by kernel_rfl
@[push_cast] theorem ag141 : aggT Tryz.prog 141 = some false := by kernel_rfl
@[push_cast] theorem ze141 : zeroT Tryz.prog 141 = some (.nilf) := by kernel_rfl
@[push_cast] theorem by141 : bytesT Tryz.prog 141 = 8 := by kernel_rfl
@[push_cast] theorem sz142 : sizeT Tryz.prog 142 = some 1 := by kernel_rfl
@[push_cast] theorem ag142 : aggT Tryz.prog 142 = some false := by kernel_rfl
@[push_cast] theorem ze142 : zeroT Tryz.prog 142 = some (.nilf) := by kernel_rfl
@[push_cast] theorem by142 : bytesT Tryz.prog 142 = 8 := by kernel_rfl
@[push_cast] theorem sz143 : sizeT Tryz.prog 143 = some 1 := by kernel_rfl
@[push_cast] theorem ag143 : aggT Tryz.prog 143 = some false := by kernel_rfl
@[push_cast] theorem ze143 : zeroT Tryz.prog 143 = some (.nilf) := by kernel_rfl
@[push_cast] theorem by143 : bytesT Tryz.prog 143 = 8 := by kernel_rfl
@[push_cast] theorem sz144 : sizeT Tryz.prog 144 = some 1 := by kernel_rfl
@[push_cast] theorem ag144 : aggT Tryz.prog 144 = some false := by kernel_rfl
@[push_cast] theorem ze144 : zeroT Tryz.prog 144 = some (.nilm) := by kernel_rfl
@[push_cast] theorem by144 : bytesT Tryz.prog 144 = 8 := by kernel_rfl
@[push_cast] theorem sz145 : sizeT Tryz.prog 145 = some 7 := by kernel_rfl
@[push_cast] theorem ag145 : aggT Tryz.prog 145 = some true := by kernel_rfl
@[push_cast] theorem ze145 : zeroT Tryz.prog 145 = some (.agg [.str ⟨#[]⟩, .int .i64 0, .int .i64 0, .str ⟨#[]⟩, .str ⟨#[]⟩, .bool false, .nils]) := by kernel_rfl
@[push_cast] theorem by145 : bytesT Tryz.prog 145 = 96 := by kernel_rfl
@[push_cast] theorem fn145x0 : fieldN Tryz.prog 145 0 = some (60, 0) := by kernel_rfl
@[push_cast] theorem fn145x1 : fieldN Tryz.prog 145 1 = some (9, 4) := by kernel_rfl
@[push_cast] theorem fn145x2 : fieldN Tryz.prog 145 2 = some (4, 5) := by kernel_rfl
@[push_cast] theorem fn145x3 : fieldN Tryz.prog 145 3 = some (45, 6) := by kernel_rfl
@[push_cast] theorem pl145 : placesT Tryz.prog 145 = some [(0, 4), (4, 1), (5, 1), (6, 1)] := by kernel_rfl
@[push_cast] theorem pe145 : plainEqT Tryz.prog 145 = true := by kernel_rfl
@[push_cast] theorem sh145 : Program.stoodInHeld Tryz.prog 145 = false := by kernel_rfl
@[push_cast] theorem sz146 : sizeT Tryz.prog 146 = some 7 := by kernel_rfl
@[push_cast] theorem ag146 : aggT Tryz.prog 146 = some true := by kernel_rfl
@[push_cast] theorem ze146 : zeroT Tryz.prog 146 = some (.agg [.str ⟨#[]⟩, .int .i64 0, .int .i64 0, .str ⟨#[]⟩, .str ⟨#[]⟩, .bool false, .nils]) := by kernel_rfl
@[push_cast] theorem by146 : bytesT Tryz.prog 146 = 96 := by kernel_rfl
@[push_cast] theorem fn146x0 : fieldN Tryz.prog 146 0 = some (60, 0) := by kernel_rfl
@[push_cast] theorem fn146x1 : fieldN Tryz.prog 146 1 = some (9, 4) := by kernel_rfl
@[push_cast] theorem fn146x2 : fieldN Tryz.prog 146 2 = some (4, 5) := by kernel_rfl
@[push_cast] theorem fn146x3 : fieldN Tryz.prog 146 3 = some (45, 6) := by kernel_rfl
@[push_cast] theorem pl146 : placesT Tryz.prog 146 = some [(0, 4), (4, 1), (5, 1), (6, 1)] := by kernel_rfl
@[push_cast] theorem pe146 : plainEqT Tryz.prog 146 = true := by kernel_rfl
@[push_cast] theorem sh146 : Program.stoodInHeld Tryz.prog 146 = false := by kernel_rfl
@[push_cast] theorem sz147 : sizeT Tryz.prog 147 = some 1 := by kernel_rfl
@[push_cast] theorem ag147 : aggT Tryz.prog 147 = some false := by kernel_rfl
@[push_cast] theorem ze147 : zeroT Tryz.prog 147 = some (.nilf) := by kernel_rfl
@[push_cast] theorem by147 : bytesT Tryz.prog 147 = 8 := by kernel_rfl
@[push_cast] theorem sz148 : sizeT Tryz.prog 148 = some 1 := by kernel_rfl
@[push_cast] theorem ag148 : aggT Tryz.prog 148 = some false := by kernel_rfl
@[push_cast] theorem ze148 : zeroT Tryz.prog 148 = some (.nilf) := by kernel_rfl
@[push_cast] theorem by148 : bytesT Tryz.prog 148 = 8 := by kernel_rfl
@[push_cast] theorem sz149 : sizeT Tryz.prog 149 = some 1 := by kernel_rfl
@[push_cast] theorem ag149 : aggT Tryz.prog 149 = some false := by kernel_rfl
@[push_cast] theorem ze149 : zeroT Tryz.prog 149 = some (.nilf) := by kernel_rfl
@[push_cast] theorem by149 : bytesT Tryz.prog 149 = 8 := by kernel_rfl
@[push_cast] theorem sz150 : sizeT Tryz.prog 150 = some 1 := by kernel_rfl
@[push_cast] theorem ag150 : aggT Tryz.prog 150 = some false := by kernel_rfl
@[push_cast] theorem ze150 : zeroT Tryz.prog 150 = some (.nilf) := by kernel_rfl
@[push_cast] theorem by150 : bytesT Tryz.prog 150 = 8 := by kernel_rfl
@[push_cast] theorem sz151 : sizeT Tryz.prog 151 = some 1 := by kernel_rfl
@[push_cast] theorem ag151 : aggT Tryz.prog 151 = some false := by kernel_rfl
@[push_cast] theorem ze151 : zeroT Tryz.prog 151 = some (.nilf) := by kernel_rfl
@[push_cast] theorem by151 : bytesT Tryz.prog 151 = 8 := by kernel_rfl
@[push_cast] theorem sz152 : sizeT Tryz.prog 152 = some 2 := by kernel_rfl
@[push_cast] theorem ag152 : aggT Tryz.prog 152 = some true := by kernel_rfl
@[push_cast] theorem ze152 : zeroT Tryz.prog 152 = some (.agg [.nils, .str ⟨#[]⟩]) := by kernel_rfl
@[push_cast] theorem by152 : bytesT Tryz.prog 152 = 40 := by kernel_rfl
@[push_cast] theorem fn152x0 : fieldN Tryz.prog 152 0 = some (50, 0) := by kernel_rfl
@[push_cast] theorem fn152x1 : fieldN Tryz.prog 152 1 = some (9, 1) := by kernel_rfl
@[push_cast] theorem pl152 : placesT Tryz.prog 152 = some [(0, 1), (1, 1)] := by kernel_rfl
@[push_cast] theorem pe152 : plainEqT Tryz.prog 152 = true := by kernel_rfl
@[push_cast] theorem sh152 : Program.stoodInHeld Tryz.prog 152 = false := by kernel_rfl
@[push_cast] theorem sz153 : sizeT Tryz.prog 153 = some 2 := by kernel_rfl
@[push_cast] theorem ag153 : aggT Tryz.prog 153 = some true := by kernel_rfl
@[push_cast] theorem ze153 : zeroT Tryz.prog 153 = some (.agg [.nils, .str ⟨#[]⟩]) := by kernel_rfl
@[push_cast] theorem by153 : bytesT Tryz.prog 153 = 40 := by kernel_rfl
@[push_cast] theorem fn153x0 : fieldN Tryz.prog 153 0 = some (50, 0) := by kernel_rfl
@[push_cast] theorem fn153x1 : fieldN Tryz.prog 153 1 = some (9, 1) := by kernel_rfl
@[push_cast] theorem pl153 : placesT Tryz.prog 153 = some [(0, 1), (1, 1)] := by kernel_rfl
@[push_cast] theorem pe153 : plainEqT Tryz.prog 153 = true := by kernel_rfl
@[push_cast] theorem sh153 : Program.stoodInHeld Tryz.prog 153 = false := by kernel_rfl
@[push_cast] theorem sz154 : sizeT Tryz.prog 154 = some 1 := by kernel_rfl
@[push_cast] theorem ag154 : aggT Tryz.prog 154 = some false := by kernel_rfl
@[push_cast] theorem ze154 : zeroT Tryz.prog 154 = some (.nilm) := by kernel_rfl
@[push_cast] theorem by154 : bytesT Tryz.prog 154 = 8 := by kernel_rfl
@[push_cast] theorem sz155 : sizeT Tryz.prog 155 = some 1 := by kernel_rfl
@[push_cast] theorem ag155 : aggT Tryz.prog 155 = some false := by kernel_rfl
@[push_cast] theorem ze155 : zeroT Tryz.prog 155 = some (.nilf) := by kernel_rfl
@[push_cast] theorem by155 : bytesT Tryz.prog 155 = 8 := by kernel_rfl
@[push_cast] theorem sz156 : sizeT Tryz.prog 156 = some 1 := by kernel_rfl
@[push_cast] theorem ag156 : aggT Tryz.prog 156 = some false := by kernel_rfl
@[push_cast] theorem ze156 : zeroT Tryz.prog 156 = some (.nilf) := by kernel_rfl
@[push_cast] theorem by156 : bytesT Tryz.prog 156 = 8 := by kernel_rfl
@[push_cast] theorem sz157 : sizeT Tryz.prog 157 = some 1 := by kernel_rfl
@[push_cast] theorem ag157 : aggT Tryz.prog 157 = some false := by kernel_rfl
@[push_cast] theorem ze157 : zeroT Tryz.prog 157 = some (.nilf) := by kernel_rfl
@[push_cast] theorem by157 : bytesT Tryz.prog 157 = 8 := by kernel_rfl
@[push_cast] theorem sz158 : sizeT Tryz.prog 158 = some 1 := by kernel_rfl
@[push_cast] theorem ag158 : aggT Tryz.prog 158 = some false := by kernel_rfl
@[push_cast] theorem ze158 : zeroT Tryz.prog 158 = some (.nilf) := by kernel_rfl
@[push_cast] theorem by158 : bytesT Tryz.prog 158 = 8 := by kernel_rfl
@[push_cast] theorem sz159 : sizeT Tryz.prog 159 = some 1 := by kernel_rfl
@[push_cast] theorem ag159 : aggT Tryz.prog 159 = some false := by kernel_rfl
@[push_cast] theorem ze159 : zeroT Tryz.prog 159 = some (.nilf) := by kernel_rfl
@[push_cast] theorem by159 : bytesT Tryz.prog 159 = 8 := by kernel_rfl
@[push_cast] theorem sz160 : sizeT Tryz.prog 160 = some 1 := by kernel_rfl
@[push_cast] theorem ag160 : aggT Tryz.prog 160 = some false := by kernel_rfl
@[push_cast] theorem ze160 : zeroT Tryz.prog 160 = some (.nilf) := by kernel_rfl
@[push_cast] theorem by160 : bytesT Tryz.prog 160 = 8 := by kernel_rfl
@[push_cast] theorem sz161 : sizeT Tryz.prog 161 = some 1 := by kernel_rfl
@[push_cast] theorem ag161 : aggT Tryz.prog 161 = some false := by kernel_rfl
@[push_cast] theorem ze161 : zeroT Tryz.prog 161 = some (.nilf) := by kernel_rfl
@[push_cast] theorem by161 : bytesT Tryz.prog 161 = 8 := by kernel_rfl
@[push_cast] theorem sz162 : sizeT Tryz.prog 162 = some 1 := by kernel_rfl
@[push_cast] theorem ag162 : aggT Tryz.prog 162 = some false := by kernel_rfl
@[push_cast] theorem ze162 : zeroT Tryz.prog 162 = some (.nilf) := by kernel_rfl
@[push_cast] theorem by162 : bytesT Tryz.prog 162 = 8 := by kernel_rfl
@[push_cast] theorem sz163 : sizeT Tryz.prog 163 = some 1 := by kernel_rfl
@[push_cast] theorem ag163 : aggT Tryz.prog 163 = some false := by kernel_rfl
@[push_cast] theorem ze163 : zeroT Tryz.prog 163 = some (.nilf) := by kernel_rfl
@[push_cast] theorem by163 : bytesT Tryz.prog 163 = 8 := by kernel_rfl
@[push_cast] theorem sz164 : sizeT Tryz.prog 164 = some 1 := by kernel_rfl
@[push_cast] theorem ag164 : aggT Tryz.prog 164 = some false := by kernel_rfl
@[push_cast] theorem ze164 : zeroT Tryz.prog 164 = some (.nilf) := by kernel_rfl
@[push_cast] theorem by164 : bytesT Tryz.prog 164 = 8 := by kernel_rfl
@[push_cast] theorem sz165 : sizeT Tryz.prog 165 = some 1 := by kernel_rfl
@[push_cast] theorem ag165 : aggT Tryz.prog 165 = some false := by kernel_rfl
@[push_cast] theorem ze165 : zeroT Tryz.prog 165 = some (.int .u64 0) := by kernel_rfl
@[push_cast] theorem by165 : bytesT Tryz.prog 165 = 8 := by kernel_rfl
@[push_cast] theorem sz166 : sizeT Tryz.prog 166 = some 1 := by kernel_rfl
@[push_cast] theorem ag166 : aggT Tryz.prog 166 = some false := by kernel_rfl
@[push_cast] theorem ze166 : zeroT Tryz.prog 166 = some (.nilf) := by kernel_rfl
@[push_cast] theorem by166 : bytesT Tryz.prog 166 = 8 := by kernel_rfl
@[push_cast] theorem sz167 : sizeT Tryz.prog 167 = some 1 := by kernel_rfl
@[push_cast] theorem ag167 : aggT Tryz.prog 167 = some false := by kernel_rfl
@[push_cast] theorem ze167 : zeroT Tryz.prog 167 = some (.nilf) := by kernel_rfl
@[push_cast] theorem by167 : bytesT Tryz.prog 167 = 8 := by kernel_rfl
@[push_cast] theorem sz168 : sizeT Tryz.prog 168 = some 1 := by kernel_rfl
@[push_cast] theorem ag168 : aggT Tryz.prog 168 = some false := by kernel_rfl
@[push_cast] theorem ze168 : zeroT Tryz.prog 168 = some (.nilf) := by kernel_rfl
@[push_cast] theorem by168 : bytesT Tryz.prog 168 = 8 := by kernel_rfl
@[push_cast] theorem sz169 : sizeT Tryz.prog 169 = some 1 := by kernel_rfl
@[push_cast] theorem ag169 : aggT Tryz.prog 169 = some false := by kernel_rfl
@[push_cast] theorem ze169 : zeroT Tryz.prog 169 = some (.nilp) := by kernel_rfl
@[push_cast] theorem by169 : bytesT Tryz.prog 169 = 8 := by kernel_rfl
@[push_cast] theorem sz170 : sizeT Tryz.prog 170 = some 1 := by kernel_rfl
@[push_cast] theorem ag170 : aggT Tryz.prog 170 = some false := by kernel_rfl
@[push_cast] theorem ze170 : zeroT Tryz.prog 170 = some (.nilf) := by kernel_rfl
@[push_cast] theorem by170 : bytesT Tryz.prog 170 = 8 := by kernel_rfl
@[push_cast] theorem sz171 : sizeT Tryz.prog 171 = some 1 := by kernel_rfl
@[push_cast] theorem ag171 : aggT Tryz.prog 171 = some false := by kernel_rfl
@[push_cast] theorem ze171 : zeroT Tryz.prog 171 = some (.nilf) := by kernel_rfl
@[push_cast] theorem by171 : bytesT Tryz.prog 171 = 8 := by kernel_rfl
@[push_cast] theorem sz172 : sizeT Tryz.prog 172 = some 1 := by kernel_rfl
@[push_cast] theorem ag172 : aggT Tryz.prog 172 = some false := by kernel_rfl
@[push_cast] theorem ze172 : zeroT Tryz.prog 172 = some (.nilf) := by kernel_rfl
@[push_cast] theorem by172 : bytesT Tryz.prog 172 = 8 := by kernel_rfl
@[push_cast] theorem sz173 : sizeT Tryz.prog 173 = some 1 := by kernel_rfl
@[push_cast] theorem ag173 : aggT Tryz.prog 173 = some false := by kernel_rfl
@[push_cast] theorem ze173 : zeroT Tryz.prog 173 = some (.nilf) := by kernel_rfl
@[push_cast] theorem by173 : bytesT Tryz.prog 173 = 8 := by kernel_rfl
@[push_cast] theorem sz174 : sizeT Tryz.prog 174 = some 1 := by kernel_rfl
@[push_cast] theorem ag174 : aggT Tryz.prog 174 = some false := by kernel_rfl
@[push_cast] theorem ze174 : zeroT Tryz.prog 174 = some (.int .u64 0) := by kernel_rfl
@[push_cast] theorem by174 : bytesT Tryz.prog 174 = 8 := by kernel_rfl
@[push_cast] theorem sz175 : sizeT Tryz.prog 175 = some 1 := by kernel_rfl
@[push_cast] theorem ag175 : aggT Tryz.prog 175 = some false := by kernel_rfl
@[push_cast] theorem ze175 : zeroT Tryz.prog 175 = some (.nilf) := by kernel_rfl
@[push_cast] theorem by175 : bytesT Tryz.prog 175 = 8 := by kernel_rfl
@[push_cast] theorem sz176 : sizeT Tryz.prog 176 = some 1 := by kernel_rfl
@[push_cast] theorem ag176 : aggT Tryz.prog 176 = some false := by kernel_rfl
@[push_cast] theorem ze176 : zeroT Tryz.prog 176 = some (.nilf) := by kernel_rfl
@[push_cast] theorem by176 : bytesT Tryz.prog 176 = 8 := by kernel_rfl
@[push_cast] theorem sz177 : sizeT Tryz.prog 177 = some 1 := by kernel_rfl
@[push_cast] theorem ag177 : aggT Tryz.prog 177 = some false := by kernel_rfl
@[push_cast] theorem ze177 : zeroT Tryz.prog 177 = some (.int .i64 0) := by kernel_rfl
@[push_cast] theorem by177 : bytesT Tryz.prog 177 = 8 := by kernel_rfl
@[push_cast] theorem sz178 : sizeT Tryz.prog 178 = some 1 := by kernel_rfl
@[push_cast] theorem ag178 : aggT Tryz.prog 178 = some false := by kernel_rfl
@[push_cast] theorem by178 : bytesT Tryz.prog 178 = 0 := by kernel_rfl
@[push_cast] theorem sz179 : sizeT Tryz.prog 179 = some 1 := by kernel_rfl
@[push_cast] theorem ag179 : aggT Tryz.prog 179 = some false := by kernel_rfl
@[push_cast] theorem ze179 : zeroT Tryz.prog 179 = some (.nilf) := by kernel_rfl
@[push_cast] theorem by179 : bytesT Tryz.prog 179 = 8 := by kernel_rfl
@[push_cast] theorem sz180 : sizeT Tryz.prog 180 = some 1 := by kernel_rfl
@[push_cast] theorem ag180 : aggT Tryz.prog 180 = some false := by kernel_rfl
@[push_cast] theorem ze180 : zeroT Tryz.prog 180 = some (.nilf) := by kernel_rfl
@[push_cast] theorem by180 : bytesT Tryz.prog 180 = 8 := by kernel_rfl
@[push_cast] theorem sz181 : sizeT Tryz.prog 181 = some 1 := by kernel_rfl
@[push_cast] theorem ag181 : aggT Tryz.prog 181 = some false := by kernel_rfl
@[push_cast] theorem ze181 : zeroT Tryz.prog 181 = some (.nilf) := by kernel_rfl
@[push_cast] theorem by181 : bytesT Tryz.prog 181 = 8 := by kernel_rfl
@[push_cast] theorem sz182 : sizeT Tryz.prog 182 = some 1 := by kernel_rfl
@[push_cast] theorem ag182 : aggT Tryz.prog 182 = some false := by kernel_rfl
@[push_cast] theorem by182 : bytesT Tryz.prog 182 = 0 := by kernel_rfl
@[push_cast] theorem sz183 : sizeT Tryz.prog 183 = some 1 := by kernel_rfl
@[push_cast] theorem ag183 : aggT Tryz.prog 183 = some false := by kernel_rfl
@[push_cast] theorem ze183 : zeroT Tryz.prog 183 = some (.nilf) := by kernel_rfl
@[push_cast] theorem by183 : bytesT Tryz.prog 183 = 8 := by kernel_rfl
@[push_cast] theorem sz184 : sizeT Tryz.prog 184 = some 1 := by kernel_rfl
@[push_cast] theorem ag184 : aggT Tryz.prog 184 = some false := by kernel_rfl
@[push_cast] theorem ze184 : zeroT Tryz.prog 184 = some (.nilf) := by kernel_rfl
@[push_cast] theorem by184 : bytesT Tryz.prog 184 = 8 := by kernel_rfl
@[push_cast] theorem sz185 : sizeT Tryz.prog 185 = some 1 := by kernel_rfl
@[push_cast] theorem ag185 : aggT Tryz.prog 185 = some false := by kernel_rfl
@[push_cast] theorem ze185 : zeroT Tryz.prog 185 = some (.int .u32 0) := by kernel_rfl
@[push_cast] theorem by185 : bytesT Tryz.prog 185 = 4 := by kernel_rfl
@[push_cast] theorem sz186 : sizeT Tryz.prog 186 = some 1 := by kernel_rfl
@[push_cast] theorem ag186 : aggT Tryz.prog 186 = some false := by kernel_rfl
@[push_cast] theorem ze186 : zeroT Tryz.prog 186 = some (.nilf) := by kernel_rfl
@[push_cast] theorem by186 : bytesT Tryz.prog 186 = 8 := by kernel_rfl
@[push_cast] theorem sz187 : sizeT Tryz.prog 187 = some 1 := by kernel_rfl
@[push_cast] theorem ag187 : aggT Tryz.prog 187 = some false := by kernel_rfl
@[push_cast] theorem ze187 : zeroT Tryz.prog 187 = some (.nilf) := by kernel_rfl
@[push_cast] theorem by187 : bytesT Tryz.prog 187 = 8 := by kernel_rfl
@[push_cast] theorem sz188 : sizeT Tryz.prog 188 = some 1 := by kernel_rfl
@[push_cast] theorem ag188 : aggT Tryz.prog 188 = some false := by kernel_rfl
@[push_cast] theorem ze188 : zeroT Tryz.prog 188 = some (.nilf) := by kernel_rfl
@[push_cast] theorem by188 : bytesT Tryz.prog 188 = 8 := by kernel_rfl
@[push_cast] theorem sz189 : sizeT Tryz.prog 189 = some 1 := by kernel_rfl
@[push_cast] theorem ag189 : aggT Tryz.prog 189 = some false := by kernel_rfl
@[push_cast] theorem ze189 : zeroT Tryz.prog 189 = some (.int .u64 0) := by kernel_rfl
@[push_cast] theorem by189 : bytesT Tryz.prog 189 = 8 := by kernel_rfl
@[push_cast] theorem sz190 : sizeT Tryz.prog 190 = some 1 := by kernel_rfl
@[push_cast] theorem ag190 : aggT Tryz.prog 190 = some false := by kernel_rfl
@[push_cast] theorem ze190 : zeroT Tryz.prog 190 = some (.nilf) := by kernel_rfl
@[push_cast] theorem by190 : bytesT Tryz.prog 190 = 8 := by kernel_rfl
@[push_cast] theorem sz191 : sizeT Tryz.prog 191 = some 1 := by kernel_rfl
@[push_cast] theorem ag191 : aggT Tryz.prog 191 = some false := by kernel_rfl
@[push_cast] theorem ze191 : zeroT Tryz.prog 191 = some (.nilf) := by kernel_rfl
@[push_cast] theorem by191 : bytesT Tryz.prog 191 = 8 := by kernel_rfl
@[push_cast] theorem sz192 : sizeT Tryz.prog 192 = some 1 := by kernel_rfl
@[push_cast] theorem ag192 : aggT Tryz.prog 192 = some false := by kernel_rfl
@[push_cast] theorem ze192 : zeroT Tryz.prog 192 = some (.nilf) := by kernel_rfl
@[push_cast] theorem by192 : bytesT Tryz.prog 192 = 8 := by kernel_rfl
@[push_cast] theorem sz193 : sizeT Tryz.prog 193 = some 1 := by kernel_rfl
@[push_cast] theorem ag193 : aggT Tryz.prog 193 = some false := by kernel_rfl
@[push_cast] theorem ze193 : zeroT Tryz.prog 193 = some (.nilp) := by kernel_rfl
@[push_cast] theorem by193 : bytesT Tryz.prog 193 = 8 := by kernel_rfl
@[push_cast] theorem sz194 : sizeT Tryz.prog 194 = some 1 := by kernel_rfl
@[push_cast] theorem ag194 : aggT Tryz.prog 194 = some false := by kernel_rfl
@[push_cast] theorem ze194 : zeroT Tryz.prog 194 = some (.nilf) := by kernel_rfl
@[push_cast] theorem by194 : bytesT Tryz.prog 194 = 8 := by kernel_rfl
@[push_cast] theorem sz195 : sizeT Tryz.prog 195 = some 1 := by kernel_rfl
@[push_cast] theorem ag195 : aggT Tryz.prog 195 = some false := by kernel_rfl
@[push_cast] theorem ze195 : zeroT Tryz.prog 195 = some (.nilf) := by kernel_rfl
@[push_cast] theorem by195 : bytesT Tryz.prog 195 = 8 := by kernel_rfl
@[push_cast] theorem sz196 : sizeT Tryz.prog 196 = some 1 := by kernel_rfl
@[push_cast] theorem ag196 : aggT Tryz.prog 196 = some false := by kernel_rfl
@[push_cast] theorem ze196 : zeroT Tryz.prog 196 = some (.nilp) := by kernel_rfl
@[push_cast] theorem by196 : bytesT Tryz.prog 196 = 8 := by kernel_rfl
@[push_cast] theorem sz197 : sizeT Tryz.prog 197 = some 1 := by kernel_rfl
@[push_cast] theorem ag197 : aggT Tryz.prog 197 = some false := by kernel_rfl
@[push_cast] theorem by197 : bytesT Tryz.prog 197 = 0 := by kernel_rfl
@[push_cast] theorem sz198 : sizeT Tryz.prog 198 = some 1 := by kernel_rfl
@[push_cast] theorem ag198 : aggT Tryz.prog 198 = some false := by kernel_rfl
@[push_cast] theorem ze198 : zeroT Tryz.prog 198 = some (.nilf) := by kernel_rfl
@[push_cast] theorem by198 : bytesT Tryz.prog 198 = 8 := by kernel_rfl
@[push_cast] theorem sz199 : sizeT Tryz.prog 199 = some 24 := by kernel_rfl
@[push_cast] theorem ag199 : aggT Tryz.prog 199 = some true := by kernel_rfl
@[push_cast] theorem ze199 : zeroT Tryz.prog 199 = some (.agg [.int .u8 0, .int .u8 0, .int .u8 0, .int .u8 0, .int .u8 0, .int .u8 0, .int .u8 0, .int .u8 0, .int .u8 0, .int .u8 0, .int .u8 0, .int .u8 0, .int .u8 0, .int .u8 0, .int .u8 0, .int .u8 0, .int .u8 0, .int .u8 0, .int .u8 0, .int .u8 0, .int .u8 0, .int .u8 0, .int .u8 0, .int .u8 0]) := by kernel_rfl
@[push_cast] theorem by199 : bytesT Tryz.prog 199 = 24 := by kernel_rfl
@[push_cast] theorem sz200 : sizeT Tryz.prog 200 = some 1 := by kernel_rfl
@[push_cast] theorem ag200 : aggT Tryz.prog 200 = some false := by kernel_rfl
@[push_cast] theorem ze200 : zeroT Tryz.prog 200 = some (.nilf) := by kernel_rfl
@[push_cast] theorem by200 : bytesT Tryz.prog 200 = 8 := by kernel_rfl
@[push_cast] theorem sz201 : sizeT Tryz.prog 201 = some 1 := by kernel_rfl
@[push_cast] theorem ag201 : aggT Tryz.prog 201 = some false := by kernel_rfl
@[push_cast] theorem by201 : bytesT Tryz.prog 201 = 0 := by kernel_rfl
@[push_cast] theorem sz202 : sizeT Tryz.prog 202 = some 1 := by kernel_rfl
@[push_cast] theorem ag202 : aggT Tryz.prog 202 = some false := by kernel_rfl
@[push_cast] theorem ze202 : zeroT Tryz.prog 202 = some (.nilf) := by kernel_rfl
@[push_cast] theorem by202 : bytesT Tryz.prog 202 = 8 := by kernel_rfl
@[push_cast] theorem sz203 : sizeT Tryz.prog 203 = some 1 := by kernel_rfl
@[push_cast] theorem ag203 : aggT Tryz.prog 203 = some false := by kernel_rfl
@[push_cast] theorem ze203 : zeroT Tryz.prog 203 = some (.nilf) := by kernel_rfl
@[push_cast] theorem by203 : bytesT Tryz.prog 203 = 8 := by kernel_rfl
@[push_cast] theorem sz204 : sizeT Tryz.prog 204 = some 1 := by kernel_rfl
@[push_cast] theorem ag204 : aggT Tryz.prog 204 = some false := by kernel_rfl
@[push_cast] theorem ze204 : zeroT Tryz.prog 204 = some (.nilf) := by kernel_rfl
@[push_cast] theorem by204 : bytesT Tryz.prog 204 = 8 := by kernel_rfl
@[push_cast] theorem sz205 : sizeT Tryz.prog 205 = some 20 := by kernel_rfl
@[push_cast] theorem ag205 : aggT Tryz.prog 205 = some true := by kernel_rfl
@[push_cast] theorem ze205 : zeroT Tryz.prog 205 = some (.agg [.int .u64 0, .int .u64 0, .int .u64 0, .int .u64 0, .int .u64 0, .int .u64 0, .int .u64 0, .int .u64 0, .int .u64 0, .int .u64 0, .int .u64 0, .int .u64 0, .int .u64 0, .int .u64 0, .int .u64 0, .int .u64 0, .int .u64 0, .int .u64 0, .int .u64 0, .int .u64 0]) := by kernel_rfl
@[push_cast] theorem by205 : bytesT Tryz.prog 205 = 160 := by kernel_rfl
@[push_cast] theorem sz206 : sizeT Tryz.prog 206 = some 65 := by kernel_rfl
@[push_cast] theorem ag206 : aggT Tryz.prog 206 = some true := by kernel_rfl
@[push_cast] theorem ze206 : zeroT Tryz.prog 206 = some (.agg [.int .u8 0, .int .u8 0, .int .u8 0, .int .u8 0, .int .u8 0, .int .u8 0, .int .u8 0, .int .u8 0, .int .u8 0, .int .u8 0, .int .u8 0, .int .u8 0, .int .u8 0, .int .u8 0, .int .u8 0, .int .u8 0, .int .u8 0, .int .u8 0, .int .u8 0, .int .u8 0, .int .u8 0, .int .u8 0, .int .u8 0, .int .u8 0, .int .u8 0, .int .u8 0, .int .u8 0, .int .u8 0, .int .u8 0, .int .u8 0, .int .u8 0, .int .u8 0, .int .u8 0, .int .u8 0, .int .u8 0, .int .u8 0, .int .u8 0, .int .u8 0, .int .u8 0, .int .u8 0, .int .u8 0, .int .u8 0, .int .u8 0, .int .u8 0, .int .u8 0, .int .u8 0, .int .u8 0, .int .u8 0, .int .u8 0, .int .u8 0, .int .u8 0, .int .u8 0, .int .u8 0, .int .u8 0, .int .u8 0, .int .u8 0, .int .u8 0, .int .u8 0, .int .u8 0, .int .u8 0, .int .u8 0, .int .u8 0, .int .u8 0, .int .u8 0, .int .u8 0]) := by kernel_rfl
@[push_cast] theorem by206 : bytesT Tryz.prog 206 = 65 := by kernel_rfl
@[push_cast] theorem sz207 : sizeT Tryz.prog 207 = some 32 := by kernel_rfl
@[push_cast] theorem ag207 : aggT Tryz.prog 207 = some true := by kernel_rfl
@[push_cast] theorem ze207 : zeroT Tryz.prog 207 = some (.agg [.int .u8 0, .int .u8 0, .int .u8 0, .int .u8 0, .int .u8 0, .int .u8 0, .int .u8 0, .int .u8 0, .int .u8 0, .int .u8 0, .int .u8 0, .int .u8 0, .int .u8 0, .int .u8 0, .int .u8 0, .int .u8 0, .int .u8 0, .int .u8 0, .int .u8 0, .int .u8 0, .int .u8 0, .int .u8 0, .int .u8 0, .int .u8 0, .int .u8 0, .int .u8 0, .int .u8 0, .int .u8 0, .int .u8 0, .int .u8 0, .int .u8 0, .int .u8 0]) := by kernel_rfl
@[push_cast] theorem by207 : bytesT Tryz.prog 207 = 32 := by kernel_rfl
@[push_cast] theorem sz208 : sizeT Tryz.prog 208 = some 64 := by kernel_rfl
@[push_cast] theorem ag208 : aggT Tryz.prog 208 = some true := by kernel_rfl
@[push_cast] theorem ze208 : zeroT Tryz.prog 208 = some (.agg [.int .u8 0, .int .u8 0, .int .u8 0, .int .u8 0, .int .u8 0, .int .u8 0, .int .u8 0, .int .u8 0, .int .u8 0, .int .u8 0, .int .u8 0, .int .u8 0, .int .u8 0, .int .u8 0, .int .u8 0, .int .u8 0, .int .u8 0, .int .u8 0, .int .u8 0, .int .u8 0, .int .u8 0, .int .u8 0, .int .u8 0, .int .u8 0, .int .u8 0, .int .u8 0, .int .u8 0, .int .u8 0, .int .u8 0, .int .u8 0, .int .u8 0, .int .u8 0, .int .u8 0, .int .u8 0, .int .u8 0, .int .u8 0, .int .u8 0, .int .u8 0, .int .u8 0, .int .u8 0, .int .u8 0, .int .u8 0, .int .u8 0, .int .u8 0, .int .u8 0, .int .u8 0, .int .u8 0, .int .u8 0, .int .u8 0, .int .u8 0, .int .u8 0, .int .u8 0, .int .u8 0, .int .u8 0, .int .u8 0, .int .u8 0, .int .u8 0, .int .u8 0, .int .u8 0, .int .u8 0, .int .u8 0, .int .u8 0, .int .u8 0, .int .u8 0]) := by kernel_rfl
@[push_cast] theorem by208 : bytesT Tryz.prog 208 = 64 := by kernel_rfl
@[push_cast] theorem sz209 : sizeT Tryz.prog 209 = some 1 := by kernel_rfl
@[push_cast] theorem ag209 : aggT Tryz.prog 209 = some false := by kernel_rfl
@[push_cast] theorem ze209 : zeroT Tryz.prog 209 = some (.nilf) := by kernel_rfl
@[push_cast] theorem by209 : bytesT Tryz.prog 209 = 8 := by kernel_rfl
@[push_cast] theorem sz210 : sizeT Tryz.prog 210 = some 4 := by kernel_rfl
@[push_cast] theorem ag210 : aggT Tryz.prog 210 = some true := by kernel_rfl
@[push_cast] theorem ze210 : zeroT Tryz.prog 210 = some (.agg [.nilp, .nilp, .nilp, .str ⟨#[]⟩]) := by kernel_rfl
@[push_cast] theorem by210 : bytesT Tryz.prog 210 = 40 := by kernel_rfl
@[push_cast] theorem fn210x0 : fieldN Tryz.prog 210 0 = some (17, 0) := by kernel_rfl
@[push_cast] theorem fn210x1 : fieldN Tryz.prog 210 1 = some (17, 1) := by kernel_rfl
@[push_cast] theorem fn210x2 : fieldN Tryz.prog 210 2 = some (17, 2) := by kernel_rfl
@[push_cast] theorem fn210x3 : fieldN Tryz.prog 210 3 = some (9, 3) := by kernel_rfl
@[push_cast] theorem pl210 : placesT Tryz.prog 210 = some [(0, 1), (1, 1), (2, 1), (3, 1)] := by kernel_rfl
@[push_cast] theorem pe210 : plainEqT Tryz.prog 210 = true := by kernel_rfl
@[push_cast] theorem sh210 : Program.stoodInHeld Tryz.prog 210 = true := by kernel_rfl
@[push_cast] theorem sz211 : sizeT Tryz.prog 211 = some 4 := by kernel_rfl
@[push_cast] theorem ag211 : aggT Tryz.prog 211 = some true := by kernel_rfl
@[push_cast] theorem ze211 : zeroT Tryz.prog 211 = some (.agg [.nilp, .nilp, .nilp, .str ⟨#[]⟩]) := by kernel_rfl
@[push_cast] theorem by211 : bytesT Tryz.prog 211 = 40 := by kernel_rfl
@[push_cast] theorem fn211x0 : fieldN Tryz.prog 211 0 = some (17, 0) := by kernel_rfl
@[push_cast] theorem fn211x1 : fieldN Tryz.prog 211 1 = some (17, 1) := by kernel_rfl
@[push_cast] theorem fn211x2 : fieldN Tryz.prog 211 2 = some (17, 2) := by kernel_rfl
@[push_cast] theorem fn211x3 : fieldN Tryz.prog 211 3 = some (9, 3) := by kernel_rfl
@[push_cast] theorem pl211 : placesT Tryz.prog 211 = some [(0, 1), (1, 1), (2, 1), (3, 1)] := by kernel_rfl
@[push_cast] theorem pe211 : plainEqT Tryz.prog 211 = true := by kernel_rfl
@[push_cast] theorem sh211 : Program.stoodInHeld Tryz.prog 211 = true := by kernel_rfl
@[push_cast] theorem sz212 : sizeT Tryz.prog 212 = some 0 := by kernel_rfl
@[push_cast] theorem ag212 : aggT Tryz.prog 212 = some true := by kernel_rfl
@[push_cast] theorem ze212 : zeroT Tryz.prog 212 = some (.agg []) := by kernel_rfl
@[push_cast] theorem by212 : bytesT Tryz.prog 212 = 0 := by kernel_rfl
@[push_cast] theorem pl212 : placesT Tryz.prog 212 = some [] := by kernel_rfl
@[push_cast] theorem sz213 : sizeT Tryz.prog 213 = some 0 := by kernel_rfl
@[push_cast] theorem ag213 : aggT Tryz.prog 213 = some true := by kernel_rfl
@[push_cast] theorem ze213 : zeroT Tryz.prog 213 = some (.agg []) := by kernel_rfl
@[push_cast] theorem by213 : bytesT Tryz.prog 213 = 0 := by kernel_rfl
@[push_cast] theorem fn213x0 : fieldN Tryz.prog 213 0 = some (212, 0) := by kernel_rfl
@[push_cast] theorem pl213 : placesT Tryz.prog 213 = some [(0, 0)] := by kernel_rfl
@[push_cast] theorem pe213 : plainEqT Tryz.prog 213 = true := by kernel_rfl
@[push_cast] theorem sh213 : Program.stoodInHeld Tryz.prog 213 = true := by kernel_rfl
@[push_cast] theorem sz214 : sizeT Tryz.prog 214 = some 0 := by kernel_rfl
@[push_cast] theorem ag214 : aggT Tryz.prog 214 = some true := by kernel_rfl
@[push_cast] theorem ze214 : zeroT Tryz.prog 214 = some (.agg []) := by kernel_rfl
@[push_cast] theorem by214 : bytesT Tryz.prog 214 = 0 := by kernel_rfl
@[push_cast] theorem fn214x0 : fieldN Tryz.prog 214 0 = some (212, 0) := by kernel_rfl
@[push_cast] theorem pl214 : placesT Tryz.prog 214 = some [(0, 0)] := by kernel_rfl
@[push_cast] theorem pe214 : plainEqT Tryz.prog 214 = true := by kernel_rfl
@[push_cast] theorem sh214 : Program.stoodInHeld Tryz.prog 214 = true := by kernel_rfl
@[push_cast] theorem sz215 : sizeT Tryz.prog 215 = some 1 := by kernel_rfl
@[push_cast] theorem ag215 : aggT Tryz.prog 215 = some false := by kernel_rfl
@[push_cast] theorem ze215 : zeroT Tryz.prog 215 = some (.nilf) := by kernel_rfl
@[push_cast] theorem by215 : bytesT Tryz.prog 215 = 8 := by kernel_rfl
@[push_cast] theorem sz216 : sizeT Tryz.prog 216 = some 1 := by kernel_rfl
@[push_cast] theorem ag216 : aggT Tryz.prog 216 = some false := by kernel_rfl
@[push_cast] theorem ze216 : zeroT Tryz.prog 216 = some (.int .u8 0) := by kernel_rfl
@[push_cast] theorem by216 : bytesT Tryz.prog 216 = 1 := by kernel_rfl
@[push_cast] theorem sz217 : sizeT Tryz.prog 217 = some 1 := by kernel_rfl
@[push_cast] theorem ag217 : aggT Tryz.prog 217 = some false := by kernel_rfl
@[push_cast] theorem ze217 : zeroT Tryz.prog 217 = some (.int .u8 0) := by kernel_rfl
@[push_cast] theorem by217 : bytesT Tryz.prog 217 = 1 := by kernel_rfl
@[push_cast] theorem sz218 : sizeT Tryz.prog 218 = some 1 := by kernel_rfl
@[push_cast] theorem ag218 : aggT Tryz.prog 218 = some false := by kernel_rfl
@[push_cast] theorem ze218 : zeroT Tryz.prog 218 = some (.nilf) := by kernel_rfl
@[push_cast] theorem by218 : bytesT Tryz.prog 218 = 8 := by kernel_rfl
@[push_cast] theorem sz219 : sizeT Tryz.prog 219 = some 1 := by kernel_rfl
@[push_cast] theorem ag219 : aggT Tryz.prog 219 = some false := by kernel_rfl
@[push_cast] theorem ze219 : zeroT Tryz.prog 219 = some (.nilp) := by kernel_rfl
@[push_cast] theorem by219 : bytesT Tryz.prog 219 = 8 := by kernel_rfl
@[push_cast] theorem sz220 : sizeT Tryz.prog 220 = some 1 := by kernel_rfl
@[push_cast] theorem ag220 : aggT Tryz.prog 220 = some false := by kernel_rfl
@[push_cast] theorem ze220 : zeroT Tryz.prog 220 = some (.int .i32 0) := by kernel_rfl
@[push_cast] theorem by220 : bytesT Tryz.prog 220 = 4 := by kernel_rfl
@[push_cast] theorem sz221 : sizeT Tryz.prog 221 = some 1 := by kernel_rfl
@[push_cast] theorem ag221 : aggT Tryz.prog 221 = some false := by kernel_rfl
@[push_cast] theorem ze221 : zeroT Tryz.prog 221 = some (.int .i32 0) := by kernel_rfl
@[push_cast] theorem by221 : bytesT Tryz.prog 221 = 4 := by kernel_rfl
@[push_cast] theorem sz222 : sizeT Tryz.prog 222 = some 11 := by kernel_rfl
@[push_cast] theorem ag222 : aggT Tryz.prog 222 = some true := by kernel_rfl
@[push_cast] theorem ze222 : zeroT Tryz.prog 222 = some (.agg [.int .u64 0, .int .u64 0, .int .u32 0, .int .u8 0, .int .u8 0, .int .u8 0, .int .u8 0, .nilf, .nilp, .int .i32 0, .int .i32 0]) := by kernel_rfl
@[push_cast] theorem by222 : bytesT Tryz.prog 222 = 48 := by kernel_rfl
@[push_cast] theorem fn222x0 : fieldN Tryz.prog 222 0 = some (12, 0) := by kernel_rfl
@[push_cast] theorem fn222x1 : fieldN Tryz.prog 222 1 = some (12, 1) := by kernel_rfl
@[push_cast] theorem fn222x2 : fieldN Tryz.prog 222 2 = some (185, 2) := by kernel_rfl
@[push_cast] theorem fn222x3 : fieldN Tryz.prog 222 3 = some (216, 3) := by kernel_rfl
@[push_cast] theorem fn222x4 : fieldN Tryz.prog 222 4 = some (5, 4) := by kernel_rfl
@[push_cast] theorem fn222x5 : fieldN Tryz.prog 222 5 = some (5, 5) := by kernel_rfl
@[push_cast] theorem fn222x6 : fieldN Tryz.prog 222 6 = some (217, 6) := by kernel_rfl
@[push_cast] theorem fn222x7 : fieldN Tryz.prog 222 7 = some (218, 7) := by kernel_rfl
@[push_cast] theorem fn222x8 : fieldN Tryz.prog 222 8 = some (219, 8) := by kernel_rfl
@[push_cast] theorem fn222x9 : fieldN Tryz.prog 222 9 = some (220, 9) := by kernel_rfl
@[push_cast] theorem fn222x10 : fieldN Tryz.prog 222 10 = some (221, 10) := by kernel_rfl
@[push_cast] theorem pl222 : placesT Tryz.prog 222 = some [(0, 1), (1, 1), (2, 1), (3, 1), (4, 1), (5, 1), (6, 1), (7, 1), (8, 1), (9, 1), (10, 1)] := by kernel_rfl
@[push_cast] theorem pe222 : plainEqT Tryz.prog 222 = true := by kernel_rfl
@[push_cast] theorem sh222 : Program.stoodInHeld Tryz.prog 222 = true := by kernel_rfl
@[push_cast] theorem sz223 : sizeT Tryz.prog 223 = some 11 := by kernel_rfl
@[push_cast] theorem ag223 : aggT Tryz.prog 223 = some true := by kernel_rfl
@[push_cast] theorem ze223 : zeroT Tryz.prog 223 = some (.agg [.int .u64 0, .int .u64 0, .int .u32 0, .int .u8 0, .int .u8 0, .int .u8 0, .int .u8 0, .nilf, .nilp, .int .i32 0, .int .i32 0]) := by kernel_rfl
@[push_cast] theorem by223 : bytesT Tryz.prog 223 = 48 := by kernel_rfl
@[push_cast] theorem fn223x0 : fieldN Tryz.prog 223 0 = some (12, 0) := by kernel_rfl
@[push_cast] theorem fn223x1 : fieldN Tryz.prog 223 1 = some (12, 1) := by kernel_rfl
@[push_cast] theorem fn223x2 : fieldN Tryz.prog 223 2 = some (185, 2) := by kernel_rfl
@[push_cast] theorem fn223x3 : fieldN Tryz.prog 223 3 = some (216, 3) := by kernel_rfl
@[push_cast] theorem fn223x4 : fieldN Tryz.prog 223 4 = some (5, 4) := by kernel_rfl
@[push_cast] theorem fn223x5 : fieldN Tryz.prog 223 5 = some (5, 5) := by kernel_rfl
@[push_cast] theorem fn223x6 : fieldN Tryz.prog 223 6 = some (217, 6) := by kernel_rfl
@[push_cast] theorem fn223x7 : fieldN Tryz.prog 223 7 = some (218, 7) := by kernel_rfl
@[push_cast] theorem fn223x8 : fieldN Tryz.prog 223 8 = some (219, 8) := by kernel_rfl
@[push_cast] theorem fn223x9 : fieldN Tryz.prog 223 9 = some (220, 9) := by kernel_rfl
@[push_cast] theorem fn223x10 : fieldN Tryz.prog 223 10 = some (221, 10) := by kernel_rfl
@[push_cast] theorem pl223 : placesT Tryz.prog 223 = some [(0, 1), (1, 1), (2, 1), (3, 1), (4, 1), (5, 1), (6, 1), (7, 1), (8, 1), (9, 1), (10, 1)] := by kernel_rfl
@[push_cast] theorem pe223 : plainEqT Tryz.prog 223 = true := by kernel_rfl
@[push_cast] theorem sh223 : Program.stoodInHeld Tryz.prog 223 = true := by kernel_rfl
@[push_cast] theorem sz224 : sizeT Tryz.prog 224 = some 1 := by kernel_rfl
@[push_cast] theorem ag224 : aggT Tryz.prog 224 = some false := by kernel_rfl
@[push_cast] theorem ze224 : zeroT Tryz.prog 224 = some (.nilp) := by kernel_rfl
@[push_cast] theorem by224 : bytesT Tryz.prog 224 = 8 := by kernel_rfl
attribute [push_cast] Tryz.underlying0 Tryz.underlying1 Tryz.underlying2 Tryz.underlying3 Tryz.underlying4 Tryz.underlying5 Tryz.underlying6 Tryz.underlying7 Tryz.underlying8 Tryz.underlying9 Tryz.underlying10 Tryz.underlying11 Tryz.underlying12 Tryz.underlying13 Tryz.underlying14 Tryz.underlying15 Tryz.underlying16 Tryz.underlying17 Tryz.underlying18 Tryz.underlying19
attribute [push_cast] Tryz.underlying20 Tryz.underlying21 Tryz.underlying22 Tryz.underlying23 Tryz.underlying24 Tryz.underlying25 Tryz.underlying26 Tryz.underlying27 Tryz.underlying28 Tryz.underlying29 Tryz.underlying30 Tryz.underlying31 Tryz.underlying32 Tryz.underlying33 Tryz.underlying34 Tryz.underlying35 Tryz.underlying36 Tryz.underlying37 Tryz.underlying38 Tryz.underlying39
attribute [push_cast] Tryz.underlying40 Tryz.underlying41 Tryz.underlying42 Tryz.underlying43 Tryz.underlying44 Tryz.underlying45 Tryz.underlying46 Tryz.underlying47 Tryz.underlying48 Tryz.underlying49 Tryz.underlying50 Tryz.underlying51 Tryz.underlying52 Tryz.underlying53 Tryz.underlying54 Tryz.underlying55 Tryz.underlying56 Tryz.underlying57 Tryz.underlying58 Tryz.underlying59
attribute [push_cast] Tryz.underlying60 Tryz.underlying61 Tryz.underlying62 Tryz.underlying63 Tryz.underlying64 Tryz.underlying65 Tryz.underlying66 Tryz.underlying67 Tryz.underlying68 Tryz.underlying69 Tryz.underlying70 Tryz.underlying71 Tryz.underlying72 Tryz.underlying73 Tryz.underlying74 Tryz.underlying75 Tryz.underlying76 Tryz.underlying77 Tryz.underlying78 Tryz.underlying79
attribute [push_cast] Tryz.underlying80 Tryz.underlying81 Tryz.underlying82 Tryz.underlying83 Tryz.underlying84 Tryz.underlying85 Tryz.underlying86 Tryz.underlying87 Tryz.underlying88 Tryz.underlying89 Tryz.underlying90 Tryz.underlying91 Tryz.underlying92 Tryz.underlying93 Tryz.underlying94 Tryz.underlying95 Tryz.underlying96 Tryz.underlying97 Tryz.underlying98 Tryz.underlying99
attribute [push_cast] Tryz.underlying100 Tryz.underlying101 Tryz.underlying102 Tryz.underlying103 Tryz.underlying104 Tryz.underlying105 Tryz.underlying106 Tryz.underlying107 Tryz.underlying108 Tryz.underlying109 Tryz.underlying110 Tryz.underlying111 Tryz.underlying112 Tryz.underlying113 Tryz.underlying114 Tryz.underlying115 Tryz.underlying116 Tryz.underlying117 Tryz.underlying118 Tryz.underlying119
attribute [push_cast] Tryz.underlying120 Tryz.underlying121 Tryz.underlying122 Tryz.underlying123 Tryz.underlying124 Tryz.underlying125 Tryz.underlying126 Tryz.underlying127 Tryz.underlying128 Tryz.underlying129 Tryz.underlying130 Tryz.underlying131 Tryz.underlying132 Tryz.underlying133 Tryz.underlying134 Tryz.underlying135 Tryz.underlying136 Tryz.underlying137 Tryz.underlying138 Tryz.underlying139
attribute [push_cast] Tryz.underlying140 Tryz.underlying141 Tryz.underlying142 Tryz.underlying143 Tryz.underlying144 Tryz.underlying145 Tryz.underlying146 Tryz.underlying147 Tryz.underlying148 Tryz.underlying149 Tryz.underlying150 Tryz.underlying151 Tryz.underlying152 Tryz.underlying153 Tryz.underlying154 Tryz.underlying155 Tryz.underlying156 Tryz.underlying157 Tryz.underlying158 Tryz.underlying159
attribute [push_cast] Tryz.underlying160 Tryz.underlying161 Tryz.underlying162 Tryz.underlying163 Tryz.underlying164 Tryz.underlying165 Tryz.underlying166 Tryz.underlying167 Tryz.underlying168 Tryz.underlying169 Tryz.underlying170 Tryz.underlying171 Tryz.underlying172 Tryz.underlying173 Tryz.underlying174 Tryz.underlying175 Tryz.underlying176 Tryz.underlying177 Tryz.underlying178 Tryz.underlying179
attribute [push_cast] Tryz.underlying180 Tryz.underlying181 Tryz.underlying182 Tryz.underlying183 Tryz.underlying184 Tryz.underlying185 Tryz.underlying186 Tryz.underlying187 Tryz.underlying188 Tryz.underlying189 Tryz.underlying190 Tryz.underlying191 Tryz.underlying192 Tryz.underlying193 Tryz.underlying194 Tryz.underlying195 Tryz.underlying196 Tryz.underlying197 Tryz.underlying198 Tryz.underlying199
attribute [push_cast] Tryz.underlying200 Tryz.underlying201 Tryz.underlying202 Tryz.underlying203 Tryz.underlying204 Tryz.underlying205 Tryz.underlying206 Tryz.underlying207 Tryz.underlying208 Tryz.underlying209 Tryz.underlying210 Tryz.underlying211 Tryz.underlying212 Tryz.underlying213 Tryz.underlying214 Tryz.underlying215 Tryz.underlying216 Tryz.underlying217 Tryz.underlying218 Tryz.underlying219
attribute [push_cast] Tryz.underlying220 Tryz.underlying221 Tryz.underlying222 Tryz.underlying223 Tryz.underlying224
end Go.Proofs.YtlamgjbngblefaaGreatDoor.Dm
