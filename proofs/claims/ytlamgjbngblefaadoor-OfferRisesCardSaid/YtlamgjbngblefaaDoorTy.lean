/-
  What the machine of XDm asks of this seat's types: sizes, zero values, places of fields. By program (wip/tools/types.py).
-/
import Derived.Test.YtlamgjbngblefaaDoorEnv
namespace Go.Proofs.YtlamgjbngblefaaDoor.Dm
open Go
@[push_cast] theorem E_P : E.P = Tryd.prog := rfl
@[push_cast] theorem E_G (g : Nat) : E.G g = none := rfl
@[push_cast] theorem sz0 : sizeT Tryd.prog 0 = some 1 := by kernel_rfl
@[push_cast] theorem ag0 : aggT Tryd.prog 0 = some false := by kernel_rfl
@[push_cast] theorem by0 : bytesT Tryd.prog 0 = 0 := by kernel_rfl
@[push_cast] theorem sz1 : sizeT Tryd.prog 1 = some 1 := by kernel_rfl
@[push_cast] theorem ag1 : aggT Tryd.prog 1 = some false := by kernel_rfl
@[push_cast] theorem ze1 : zeroT Tryd.prog 1 = some (.nilf) := by kernel_rfl
@[push_cast] theorem by1 : bytesT Tryd.prog 1 = 8 := by kernel_rfl
@[push_cast] theorem sz2 : sizeT Tryd.prog 2 = some 1 := by kernel_rfl
@[push_cast] theorem ag2 : aggT Tryd.prog 2 = some false := by kernel_rfl
@[push_cast] theorem ze2 : zeroT Tryd.prog 2 = some (.int .i64 0) := by kernel_rfl
@[push_cast] theorem by2 : bytesT Tryd.prog 2 = 8 := by kernel_rfl
@[push_cast] theorem sz3 : sizeT Tryd.prog 3 = some 1 := by kernel_rfl
@[push_cast] theorem ag3 : aggT Tryd.prog 3 = some false := by kernel_rfl
@[push_cast] theorem ze3 : zeroT Tryd.prog 3 = some (.int .i64 0) := by kernel_rfl
@[push_cast] theorem by3 : bytesT Tryd.prog 3 = 8 := by kernel_rfl
@[push_cast] theorem sz4 : sizeT Tryd.prog 4 = some 1 := by kernel_rfl
@[push_cast] theorem ag4 : aggT Tryd.prog 4 = some false := by kernel_rfl
@[push_cast] theorem ze4 : zeroT Tryd.prog 4 = some (.bool false) := by kernel_rfl
@[push_cast] theorem by4 : bytesT Tryd.prog 4 = 1 := by kernel_rfl
@[push_cast] theorem sz5 : sizeT Tryd.prog 5 = some 1 := by kernel_rfl
@[push_cast] theorem ag5 : aggT Tryd.prog 5 = some false := by kernel_rfl
@[push_cast] theorem ze5 : zeroT Tryd.prog 5 = some (.int .u8 0) := by kernel_rfl
@[push_cast] theorem by5 : bytesT Tryd.prog 5 = 1 := by kernel_rfl
@[push_cast] theorem sz6 : sizeT Tryd.prog 6 = some 1 := by kernel_rfl
@[push_cast] theorem ag6 : aggT Tryd.prog 6 = some false := by kernel_rfl
@[push_cast] theorem ze6 : zeroT Tryd.prog 6 = some (.int .u8 0) := by kernel_rfl
@[push_cast] theorem by6 : bytesT Tryd.prog 6 = 1 := by kernel_rfl
@[push_cast] theorem sz7 : sizeT Tryd.prog 7 = some 4 := by kernel_rfl
@[push_cast] theorem ag7 : aggT Tryd.prog 7 = some true := by kernel_rfl
@[push_cast] theorem ze7 : zeroT Tryd.prog 7 = some (.agg [.int .i64 0, .int .i64 0, .bool false, .int .u8 0]) := by kernel_rfl
@[push_cast] theorem by7 : bytesT Tryd.prog 7 = 24 := by kernel_rfl
@[push_cast] theorem fn7x0 : fieldN Tryd.prog 7 0 = some (2, 0) := by kernel_rfl
@[push_cast] theorem fn7x1 : fieldN Tryd.prog 7 1 = some (3, 1) := by kernel_rfl
@[push_cast] theorem fn7x2 : fieldN Tryd.prog 7 2 = some (4, 2) := by kernel_rfl
@[push_cast] theorem fn7x3 : fieldN Tryd.prog 7 3 = some (6, 3) := by kernel_rfl
@[push_cast] theorem pl7 : placesT Tryd.prog 7 = some [(0, 1), (1, 1), (2, 1), (3, 1)] := by kernel_rfl
@[push_cast] theorem pe7 : plainEqT Tryd.prog 7 = true := by kernel_rfl
@[push_cast] theorem sh7 : Program.stoodInHeld Tryd.prog 7 = false := by kernel_rfl
@[push_cast] theorem sz8 : sizeT Tryd.prog 8 = some 4 := by kernel_rfl
@[push_cast] theorem ag8 : aggT Tryd.prog 8 = some true := by kernel_rfl
@[push_cast] theorem ze8 : zeroT Tryd.prog 8 = some (.agg [.int .i64 0, .int .i64 0, .bool false, .int .u8 0]) := by kernel_rfl
@[push_cast] theorem by8 : bytesT Tryd.prog 8 = 24 := by kernel_rfl
@[push_cast] theorem fn8x0 : fieldN Tryd.prog 8 0 = some (2, 0) := by kernel_rfl
@[push_cast] theorem fn8x1 : fieldN Tryd.prog 8 1 = some (3, 1) := by kernel_rfl
@[push_cast] theorem fn8x2 : fieldN Tryd.prog 8 2 = some (4, 2) := by kernel_rfl
@[push_cast] theorem fn8x3 : fieldN Tryd.prog 8 3 = some (6, 3) := by kernel_rfl
@[push_cast] theorem pl8 : placesT Tryd.prog 8 = some [(0, 1), (1, 1), (2, 1), (3, 1)] := by kernel_rfl
@[push_cast] theorem pe8 : plainEqT Tryd.prog 8 = true := by kernel_rfl
@[push_cast] theorem sh8 : Program.stoodInHeld Tryd.prog 8 = false := by kernel_rfl
@[push_cast] theorem sz9 : sizeT Tryd.prog 9 = some 1 := by kernel_rfl
@[push_cast] theorem ag9 : aggT Tryd.prog 9 = some false := by kernel_rfl
@[push_cast] theorem ze9 : zeroT Tryd.prog 9 = some (.str ⟨#[]⟩) := by kernel_rfl
@[push_cast] theorem by9 : bytesT Tryd.prog 9 = 16 := by kernel_rfl
@[push_cast] theorem sz10 : sizeT Tryd.prog 10 = some 1 := by kernel_rfl
@[push_cast] theorem ag10 : aggT Tryd.prog 10 = some false := by kernel_rfl
@[push_cast] theorem ze10 : zeroT Tryd.prog 10 = some (.str ⟨#[]⟩) := by kernel_rfl
@[push_cast] theorem by10 : bytesT Tryd.prog 10 = 16 := by kernel_rfl
@[push_cast] theorem sz11 : sizeT Tryd.prog 11 = some 1 := by kernel_rfl
@[push_cast] theorem ag11 : aggT Tryd.prog 11 = some false := by kernel_rfl
@[push_cast] theorem ze11 : zeroT Tryd.prog 11 = some (.str ⟨#[]⟩) := by kernel_rfl
@[push_cast] theorem by11 : bytesT Tryd.prog 11 = 16 := by kernel_rfl
@[push_cast] theorem sz12 : sizeT Tryd.prog 12 = some 1 := by kernel_rfl
@[push_cast] theorem ag12 : aggT Tryd.prog 12 = some false := by kernel_rfl
@[push_cast] theorem ze12 : zeroT Tryd.prog 12 = some (.int .u64 0) := by kernel_rfl
@[push_cast] theorem by12 : bytesT Tryd.prog 12 = 8 := by kernel_rfl
@[push_cast] theorem sz13 : sizeT Tryd.prog 13 = some 2 := by kernel_rfl
@[push_cast] theorem ag13 : aggT Tryd.prog 13 = some true := by kernel_rfl
@[push_cast] theorem ze13 : zeroT Tryd.prog 13 = some (.agg [.str ⟨#[]⟩, .int .u64 0]) := by kernel_rfl
@[push_cast] theorem by13 : bytesT Tryd.prog 13 = 24 := by kernel_rfl
@[push_cast] theorem fn13x0 : fieldN Tryd.prog 13 0 = some (9, 0) := by kernel_rfl
@[push_cast] theorem fn13x1 : fieldN Tryd.prog 13 1 = some (12, 1) := by kernel_rfl
@[push_cast] theorem pl13 : placesT Tryd.prog 13 = some [(0, 1), (1, 1)] := by kernel_rfl
@[push_cast] theorem pe13 : plainEqT Tryd.prog 13 = true := by kernel_rfl
@[push_cast] theorem sh13 : Program.stoodInHeld Tryd.prog 13 = true := by kernel_rfl
@[push_cast] theorem sz14 : sizeT Tryd.prog 14 = some 2 := by kernel_rfl
@[push_cast] theorem ag14 : aggT Tryd.prog 14 = some true := by kernel_rfl
@[push_cast] theorem ze14 : zeroT Tryd.prog 14 = some (.agg [.str ⟨#[]⟩, .int .u64 0]) := by kernel_rfl
@[push_cast] theorem by14 : bytesT Tryd.prog 14 = 24 := by kernel_rfl
@[push_cast] theorem fn14x0 : fieldN Tryd.prog 14 0 = some (9, 0) := by kernel_rfl
@[push_cast] theorem fn14x1 : fieldN Tryd.prog 14 1 = some (12, 1) := by kernel_rfl
@[push_cast] theorem pl14 : placesT Tryd.prog 14 = some [(0, 1), (1, 1)] := by kernel_rfl
@[push_cast] theorem pe14 : plainEqT Tryd.prog 14 = true := by kernel_rfl
@[push_cast] theorem sh14 : Program.stoodInHeld Tryd.prog 14 = true := by kernel_rfl
@[push_cast] theorem sz15 : sizeT Tryd.prog 15 = some 1 := by kernel_rfl
@[push_cast] theorem ag15 : aggT Tryd.prog 15 = some false := by kernel_rfl
@[push_cast] theorem ze15 : zeroT Tryd.prog 15 = some (.nilp) := by kernel_rfl
@[push_cast] theorem by15 : bytesT Tryd.prog 15 = 8 := by kernel_rfl
@[push_cast] theorem sz16 : sizeT Tryd.prog 16 = some 1 := by kernel_rfl
@[push_cast] theorem ag16 : aggT Tryd.prog 16 = some false := by kernel_rfl
@[push_cast] theorem ze16 : zeroT Tryd.prog 16 = some (.nilp) := by kernel_rfl
@[push_cast] theorem by16 : bytesT Tryd.prog 16 = 8 := by kernel_rfl
@[push_cast] theorem sz17 : sizeT Tryd.prog 17 = some 1 := by kernel_rfl
@[push_cast] theorem ag17 : aggT Tryd.prog 17 = some false := by kernel_rfl
@[push_cast] theorem ze17 : zeroT Tryd.prog 17 = some (.nilp) := by kernel_rfl
@[push_cast] theorem by17 : bytesT Tryd.prog 17 = 8 := by kernel_rfl
@[push_cast] theorem sz18 : sizeT Tryd.prog 18 = some 1 := by kernel_rfl
@[push_cast] theorem ag18 : aggT Tryd.prog 18 = some true := by kernel_rfl
@[push_cast] theorem ze18 : zeroT Tryd.prog 18 = some (.agg [.nilp]) := by kernel_rfl
@[push_cast] theorem by18 : bytesT Tryd.prog 18 = 8 := by kernel_rfl
@[push_cast] theorem fn18x0 : fieldN Tryd.prog 18 0 = some (17, 0) := by kernel_rfl
@[push_cast] theorem pl18 : placesT Tryd.prog 18 = some [(0, 1)] := by kernel_rfl
@[push_cast] theorem pe18 : plainEqT Tryd.prog 18 = true := by kernel_rfl
@[push_cast] theorem sh18 : Program.stoodInHeld Tryd.prog 18 = true := by kernel_rfl
@[push_cast] theorem sz19 : sizeT Tryd.prog 19 = some 1 := by kernel_rfl
@[push_cast] theorem ag19 : aggT Tryd.prog 19 = some true := by kernel_rfl
@[push_cast] theorem ze19 : zeroT Tryd.prog 19 = some (.agg [.nilp]) := by kernel_rfl
@[push_cast] theorem by19 : bytesT Tryd.prog 19 = 8 := by kernel_rfl
@[push_cast] theorem fn19x0 : fieldN Tryd.prog 19 0 = some (17, 0) := by kernel_rfl
@[push_cast] theorem pl19 : placesT Tryd.prog 19 = some [(0, 1)] := by kernel_rfl
@[push_cast] theorem pe19 : plainEqT Tryd.prog 19 = true := by kernel_rfl
@[push_cast] theorem sh19 : Program.stoodInHeld Tryd.prog 19 = true := by kernel_rfl
@[push_cast] theorem sz20 : sizeT Tryd.prog 20 = some 1 := by kernel_rfl
@[push_cast] theorem ag20 : aggT Tryd.prog 20 = some false := by kernel_rfl
@[push_cast] theorem ze20 : zeroT Tryd.prog 20 = some (.nili) := by kernel_rfl
@[push_cast] theorem by20 : bytesT Tryd.prog 20 = 16 := by kernel_rfl
@[push_cast] theorem sz21 : sizeT Tryd.prog 21 = some 1 := by kernel_rfl
@[push_cast] theorem ag21 : aggT Tryd.prog 21 = some false := by kernel_rfl
@[push_cast] theorem ze21 : zeroT Tryd.prog 21 = some (.int .i32 0) := by kernel_rfl
@[push_cast] theorem by21 : bytesT Tryd.prog 21 = 4 := by kernel_rfl
@[push_cast] theorem sz22 : sizeT Tryd.prog 22 = some 1 := by kernel_rfl
@[push_cast] theorem ag22 : aggT Tryd.prog 22 = some false := by kernel_rfl
@[push_cast] theorem ze22 : zeroT Tryd.prog 22 = some (.nils) := by kernel_rfl
@[push_cast] theorem by22 : bytesT Tryd.prog 22 = 24 := by kernel_rfl
@[push_cast] theorem el22 : elemT Tryd.prog 22 = some 49 := by kernel_rfl
@[push_cast] theorem sz23 : sizeT Tryd.prog 23 = some 1 := by kernel_rfl
@[push_cast] theorem ag23 : aggT Tryd.prog 23 = some false := by kernel_rfl
@[push_cast] theorem ze23 : zeroT Tryd.prog 23 = some (.nils) := by kernel_rfl
@[push_cast] theorem by23 : bytesT Tryd.prog 23 = 24 := by kernel_rfl
@[push_cast] theorem el23 : elemT Tryd.prog 23 = some 66 := by kernel_rfl
@[push_cast] theorem sz24 : sizeT Tryd.prog 24 = some 1 := by kernel_rfl
@[push_cast] theorem ag24 : aggT Tryd.prog 24 = some false := by kernel_rfl
@[push_cast] theorem ze24 : zeroT Tryd.prog 24 = some (.nils) := by kernel_rfl
@[push_cast] theorem by24 : bytesT Tryd.prog 24 = 24 := by kernel_rfl
@[push_cast] theorem el24 : elemT Tryd.prog 24 = some 5 := by kernel_rfl
@[push_cast] theorem sz25 : sizeT Tryd.prog 25 = some 1 := by kernel_rfl
@[push_cast] theorem ag25 : aggT Tryd.prog 25 = some false := by kernel_rfl
@[push_cast] theorem ze25 : zeroT Tryd.prog 25 = some (.nils) := by kernel_rfl
@[push_cast] theorem by25 : bytesT Tryd.prog 25 = 24 := by kernel_rfl
@[push_cast] theorem el25 : elemT Tryd.prog 25 = some 40 := by kernel_rfl
@[push_cast] theorem sz26 : sizeT Tryd.prog 26 = some 1 := by kernel_rfl
@[push_cast] theorem ag26 : aggT Tryd.prog 26 = some false := by kernel_rfl
@[push_cast] theorem ze26 : zeroT Tryd.prog 26 = some (.nilf) := by kernel_rfl
@[push_cast] theorem by26 : bytesT Tryd.prog 26 = 8 := by kernel_rfl
@[push_cast] theorem sz27 : sizeT Tryd.prog 27 = some 1 := by kernel_rfl
@[push_cast] theorem ag27 : aggT Tryd.prog 27 = some false := by kernel_rfl
@[push_cast] theorem ze27 : zeroT Tryd.prog 27 = some (.nilf) := by kernel_rfl
@[push_cast] theorem by27 : bytesT Tryd.prog 27 = 8 := by kernel_rfl
@[push_cast] theorem sz28 : sizeT Tryd.prog 28 = some 1 := by kernel_rfl
@[push_cast] theorem ag28 : aggT Tryd.prog 28 = some false := by kernel_rfl
@[push_cast] theorem ze28 : zeroT Tryd.prog 28 = some (.nilf) := by kernel_rfl
@[push_cast] theorem by28 : bytesT Tryd.prog 28 = 8 := by kernel_rfl
@[push_cast] theorem sz29 : sizeT Tryd.prog 29 = some 1 := by kernel_rfl
@[push_cast] theorem ag29 : aggT Tryd.prog 29 = some false := by kernel_rfl
@[push_cast] theorem ze29 : zeroT Tryd.prog 29 = some (.nilp) := by kernel_rfl
@[push_cast] theorem by29 : bytesT Tryd.prog 29 = 8 := by kernel_rfl
@[push_cast] theorem sz30 : sizeT Tryd.prog 30 = some 1 := by kernel_rfl
@[push_cast] theorem ag30 : aggT Tryd.prog 30 = some false := by kernel_rfl
@[push_cast] theorem by30 : bytesT Tryd.prog 30 = 0 := by kernel_rfl
@[push_cast] theorem sz31 : sizeT Tryd.prog 31 = some 1 := by kernel_rfl
@[push_cast] theorem ag31 : aggT Tryd.prog 31 = some false := by kernel_rfl
@[push_cast] theorem ze31 : zeroT Tryd.prog 31 = some (.nilf) := by kernel_rfl
@[push_cast] theorem by31 : bytesT Tryd.prog 31 = 8 := by kernel_rfl
@[push_cast] theorem sz32 : sizeT Tryd.prog 32 = some 1 := by kernel_rfl
@[push_cast] theorem ag32 : aggT Tryd.prog 32 = some false := by kernel_rfl
@[push_cast] theorem ze32 : zeroT Tryd.prog 32 = some (.nilf) := by kernel_rfl
@[push_cast] theorem by32 : bytesT Tryd.prog 32 = 8 := by kernel_rfl
@[push_cast] theorem sz33 : sizeT Tryd.prog 33 = some 1 := by kernel_rfl
@[push_cast] theorem ag33 : aggT Tryd.prog 33 = some false := by kernel_rfl
@[push_cast] theorem ze33 : zeroT Tryd.prog 33 = some (.nils) := by kernel_rfl
@[push_cast] theorem by33 : bytesT Tryd.prog 33 = 24 := by kernel_rfl
@[push_cast] theorem el33 : elemT Tryd.prog 33 = some 55 := by kernel_rfl
@[push_cast] theorem sz34 : sizeT Tryd.prog 34 = some 1 := by kernel_rfl
@[push_cast] theorem ag34 : aggT Tryd.prog 34 = some false := by kernel_rfl
@[push_cast] theorem ze34 : zeroT Tryd.prog 34 = some (.nilf) := by kernel_rfl
@[push_cast] theorem by34 : bytesT Tryd.prog 34 = 8 := by kernel_rfl
@[push_cast] theorem sz35 : sizeT Tryd.prog 35 = some 1 := by kernel_rfl
@[push_cast] theorem ag35 : aggT Tryd.prog 35 = some false := by kernel_rfl
@[push_cast] theorem ze35 : zeroT Tryd.prog 35 = some (.nilf) := by kernel_rfl
@[push_cast] theorem by35 : bytesT Tryd.prog 35 = 8 := by kernel_rfl
@[push_cast] theorem sz36 : sizeT Tryd.prog 36 = some 1 := by kernel_rfl
@[push_cast] theorem ag36 : aggT Tryd.prog 36 = some false := by kernel_rfl
@[push_cast] theorem ze36 : zeroT Tryd.prog 36 = some (.nilf) := by kernel_rfl
@[push_cast] theorem by36 : bytesT Tryd.prog 36 = 8 := by kernel_rfl
@[push_cast] theorem sz37 : sizeT Tryd.prog 37 = some 1 := by kernel_rfl
@[push_cast] theorem ag37 : aggT Tryd.prog 37 = some false := by kernel_rfl
@[push_cast] theorem ze37 : zeroT Tryd.prog 37 = some (.nilf) := by kernel_rfl
@[push_cast] theorem by37 : bytesT Tryd.prog 37 = 8 := by kernel_rfl
@[push_cast] theorem sz38 : sizeT Tryd.prog 38 = some 1 := by kernel_rfl
@[push_cast] theorem ag38 : aggT Tryd.prog 38 = some false := by kernel_rfl
@[push_cast] theorem ze38 : zeroT Tryd.prog 38 = some (.nils) := by kernel_rfl
@[push_cast] theorem by38 : bytesT Tryd.prog 38 = 24 := by kernel_rfl
@[push_cast] theorem el38 : elemT Tryd.prog 38 = some 74 := by kernel_rfl
@[push_cast] theorem sz39 : sizeT Tryd.prog 39 = some 1 := by kernel_rfl
@[push_cast] theorem ag39 : aggT Tryd.prog 39 = some false := by kernel_rfl
@[push_cast] theorem ze39 : zeroT Tryd.prog 39 = some (.nilf) := by kernel_rfl
@[push_cast] theorem by39 : bytesT Tryd.prog 39 = 8 := by kernel_rfl
@[push_cast] theorem sz40 : sizeT Tryd.prog 40 = some 1 := by kernel_rfl
@[push_cast] theorem ag40 : aggT Tryd.prog 40 = some false := by kernel_rfl
@[push_cast] theorem ze40 : zeroT Tryd.prog 40 = some (.nils) := by kernel_rfl
@[push_cast] theorem by40 : bytesT Tryd.prog 40 = 24 := by kernel_rfl
@[push_cast] theorem el40 : elemT Tryd.prog 40 = some 3 := by kernel_rfl
@[push_cast] theorem sz41 : sizeT Tryd.prog 41 = some 1 := by kernel_rfl
@[push_cast] theorem ag41 : aggT Tryd.prog 41 = some false := by kernel_rfl
@[push_cast] theorem ze41 : zeroT Tryd.prog 41 = some (.nilf) := by kernel_rfl
@[push_cast] theorem by41 : bytesT Tryd.prog 41 = 8 := by kernel_rfl
@[push_cast] theorem sz42 : sizeT Tryd.prog 42 = some 2 := by kernel_rfl
@[push_cast] theorem ag42 : aggT Tryd.prog 42 = some true := by kernel_rfl
@[push_cast] theorem ze42 : zeroT Tryd.prog 42 = some (.agg [.str ⟨#[]⟩, .int .i64 0]) := by kernel_rfl
@[push_cast] theorem by42 : bytesT Tryd.prog 42 = 24 := by kernel_rfl
@[push_cast] theorem fn42x0 : fieldN Tryd.prog 42 0 = some (9, 0) := by kernel_rfl
@[push_cast] theorem fn42x1 : fieldN Tryd.prog 42 1 = some (3, 1) := by kernel_rfl
@[push_cast] theorem pl42 : placesT Tryd.prog 42 = some [(0, 1), (1, 1)] := by kernel_rfl
@[push_cast] theorem pe42 : plainEqT Tryd.prog 42 = true := by kernel_rfl
@[push_cast] theorem sh42 : Program.stoodInHeld Tryd.prog 42 = false := by kernel_rfl
@[push_cast] theorem sz43 : sizeT Tryd.prog 43 = some 2 := by kernel_rfl
@[push_cast] theorem ag43 : aggT Tryd.prog 43 = some true := by kernel_rfl
@[push_cast] theorem ze43 : zeroT Tryd.prog 43 = some (.agg [.str ⟨#[]⟩, .int .i64 0]) := by kernel_rfl
@[push_cast] theorem by43 : bytesT Tryd.prog 43 = 24 := by kernel_rfl
@[push_cast] theorem fn43x0 : fieldN Tryd.prog 43 0 = some (9, 0) := by kernel_rfl
@[push_cast] theorem fn43x1 : fieldN Tryd.prog 43 1 = some (3, 1) := by kernel_rfl
@[push_cast] theorem pl43 : placesT Tryd.prog 43 = some [(0, 1), (1, 1)] := by kernel_rfl
@[push_cast] theorem pe43 : plainEqT Tryd.prog 43 = true := by kernel_rfl
@[push_cast] theorem sh43 : Program.stoodInHeld Tryd.prog 43 = false := by kernel_rfl
@[push_cast] theorem sz44 : sizeT Tryd.prog 44 = some 1 := by kernel_rfl
@[push_cast] theorem ag44 : aggT Tryd.prog 44 = some false := by kernel_rfl
@[push_cast] theorem ze44 : zeroT Tryd.prog 44 = some (.nils) := by kernel_rfl
@[push_cast] theorem by44 : bytesT Tryd.prog 44 = 24 := by kernel_rfl
@[push_cast] theorem el44 : elemT Tryd.prog 44 = some 43 := by kernel_rfl
@[push_cast] theorem sz45 : sizeT Tryd.prog 45 = some 4 := by kernel_rfl
@[push_cast] theorem ag45 : aggT Tryd.prog 45 = some true := by kernel_rfl
@[push_cast] theorem ze45 : zeroT Tryd.prog 45 = some (.agg [.str ⟨#[]⟩, .int .i64 0, .int .i64 0, .nils]) := by kernel_rfl
@[push_cast] theorem by45 : bytesT Tryd.prog 45 = 56 := by kernel_rfl
@[push_cast] theorem fn45x0 : fieldN Tryd.prog 45 0 = some (9, 0) := by kernel_rfl
@[push_cast] theorem fn45x1 : fieldN Tryd.prog 45 1 = some (3, 1) := by kernel_rfl
@[push_cast] theorem fn45x2 : fieldN Tryd.prog 45 2 = some (3, 2) := by kernel_rfl
@[push_cast] theorem fn45x3 : fieldN Tryd.prog 45 3 = some (44, 3) := by kernel_rfl
@[push_cast] theorem pl45 : placesT Tryd.prog 45 = some [(0, 1), (1, 1), (2, 1), (3, 1)] := by kernel_rfl
@[push_cast] theorem pe45 : plainEqT Tryd.prog 45 = true := by kernel_rfl
@[push_cast] theorem sh45 : Program.stoodInHeld Tryd.prog 45 = false := by kernel_rfl
@[push_cast] theorem sz46 : sizeT Tryd.prog 46 = some 4 := by kernel_rfl
@[push_cast] theorem ag46 : aggT Tryd.prog 46 = some true := by kernel_rfl
@[push_cast] theorem ze46 : zeroT Tryd.prog 46 = some (.agg [.str ⟨#[]⟩, .int .i64 0, .int .i64 0, .nils]) := by kernel_rfl
@[push_cast] theorem by46 : bytesT Tryd.prog 46 = 56 := by kernel_rfl
@[push_cast] theorem fn46x0 : fieldN Tryd.prog 46 0 = some (9, 0) := by kernel_rfl
@[push_cast] theorem fn46x1 : fieldN Tryd.prog 46 1 = some (3, 1) := by kernel_rfl
@[push_cast] theorem fn46x2 : fieldN Tryd.prog 46 2 = some (3, 2) := by kernel_rfl
@[push_cast] theorem fn46x3 : fieldN Tryd.prog 46 3 = some (44, 3) := by kernel_rfl
@[push_cast] theorem pl46 : placesT Tryd.prog 46 = some [(0, 1), (1, 1), (2, 1), (3, 1)] := by kernel_rfl
@[push_cast] theorem pe46 : plainEqT Tryd.prog 46 = true := by kernel_rfl
@[push_cast] theorem sh46 : Program.stoodInHeld Tryd.prog 46 = false := by kernel_rfl
@[push_cast] theorem sz47 : sizeT Tryd.prog 47 = some 1 := by kernel_rfl
@[push_cast] theorem ag47 : aggT Tryd.prog 47 = some false := by kernel_rfl
@[push_cast] theorem ze47 : zeroT Tryd.prog 47 = some (.nils) := by kernel_rfl
@[push_cast] theorem by47 : bytesT Tryd.prog 47 = 24 := by kernel_rfl
@[push_cast] theorem el47 : elemT Tryd.prog 47 = some 46 := by kernel_rfl
@[push_cast] theorem sz48 : sizeT Tryd.prog 48 = some 2 := by kernel_rfl
@[push_cast] theorem ag48 : aggT Tryd.prog 48 = some true := by kernel_rfl
@[push_cast] theorem ze48 : zeroT Tryd.prog 48 = some (.agg [.str ⟨#[]⟩, .nils]) := by kernel_rfl
@[push_cast] theorem by48 : bytesT Tryd.prog 48 = 40 := by kernel_rfl
@[push_cast] theorem fn48x0 : fieldN Tryd.prog 48 0 = some (9, 0) := by kernel_rfl
@[push_cast] theorem fn48x1 : fieldN Tryd.prog 48 1 = some (47, 1) := by kernel_rfl
@[push_cast] theorem pl48 : placesT Tryd.prog 48 = some [(0, 1), (1, 1)] := by kernel_rfl
@[push_cast] theorem pe48 : plainEqT Tryd.prog 48 = true := by kernel_rfl
@[push_cast] theorem sh48 : Program.stoodInHeld Tryd.prog 48 = false := by kernel_rfl
@[push_cast] theorem sz49 : sizeT Tryd.prog 49 = some 2 := by kernel_rfl
@[push_cast] theorem ag49 : aggT Tryd.prog 49 = some true := by kernel_rfl
@[push_cast] theorem ze49 : zeroT Tryd.prog 49 = some (.agg [.str ⟨#[]⟩, .nils]) := by kernel_rfl
@[push_cast] theorem by49 : bytesT Tryd.prog 49 = 40 := by kernel_rfl
@[push_cast] theorem fn49x0 : fieldN Tryd.prog 49 0 = some (9, 0) := by kernel_rfl
@[push_cast] theorem fn49x1 : fieldN Tryd.prog 49 1 = some (47, 1) := by kernel_rfl
@[push_cast] theorem pl49 : placesT Tryd.prog 49 = some [(0, 1), (1, 1)] := by kernel_rfl
@[push_cast] theorem pe49 : plainEqT Tryd.prog 49 = true := by kernel_rfl
@[push_cast] theorem sh49 : Program.stoodInHeld Tryd.prog 49 = false := by kernel_rfl
@[push_cast] theorem sz50 : sizeT Tryd.prog 50 = some 1 := by kernel_rfl
@[push_cast] theorem ag50 : aggT Tryd.prog 50 = some false := by kernel_rfl
@[push_cast] theorem by50 : bytesT Tryd.prog 50 = 0 := by kernel_rfl
@[push_cast] theorem sz51 : sizeT Tryd.prog 51 = some 1 := by kernel_rfl
@[push_cast] theorem ag51 : aggT Tryd.prog 51 = some false := by kernel_rfl
@[push_cast] theorem ze51 : zeroT Tryd.prog 51 = some (.nilf) := by kernel_rfl
@[push_cast] theorem by51 : bytesT Tryd.prog 51 = 8 := by kernel_rfl
@[push_cast] theorem sz52 : sizeT Tryd.prog 52 = some 1 := by kernel_rfl
@[push_cast] theorem ag52 : aggT Tryd.prog 52 = some false := by kernel_rfl
@[push_cast] theorem ze52 : zeroT Tryd.prog 52 = some (.int .i64 0) := by kernel_rfl
@[push_cast] theorem by52 : bytesT Tryd.prog 52 = 8 := by kernel_rfl
@[push_cast] theorem sz53 : sizeT Tryd.prog 53 = some 1 := by kernel_rfl
@[push_cast] theorem ag53 : aggT Tryd.prog 53 = some false := by kernel_rfl
@[push_cast] theorem ze53 : zeroT Tryd.prog 53 = some (.nilf) := by kernel_rfl
@[push_cast] theorem by53 : bytesT Tryd.prog 53 = 8 := by kernel_rfl
@[push_cast] theorem sz54 : sizeT Tryd.prog 54 = some 4 := by kernel_rfl
@[push_cast] theorem ag54 : aggT Tryd.prog 54 = some true := by kernel_rfl
@[push_cast] theorem ze54 : zeroT Tryd.prog 54 = some (.agg [.str ⟨#[]⟩, .int .i64 0, .int .i64 0, .str ⟨#[]⟩]) := by kernel_rfl
@[push_cast] theorem by54 : bytesT Tryd.prog 54 = 48 := by kernel_rfl
@[push_cast] theorem fn54x0 : fieldN Tryd.prog 54 0 = some (9, 0) := by kernel_rfl
@[push_cast] theorem fn54x1 : fieldN Tryd.prog 54 1 = some (3, 1) := by kernel_rfl
@[push_cast] theorem fn54x2 : fieldN Tryd.prog 54 2 = some (3, 2) := by kernel_rfl
@[push_cast] theorem fn54x3 : fieldN Tryd.prog 54 3 = some (9, 3) := by kernel_rfl
@[push_cast] theorem pl54 : placesT Tryd.prog 54 = some [(0, 1), (1, 1), (2, 1), (3, 1)] := by kernel_rfl
@[push_cast] theorem pe54 : plainEqT Tryd.prog 54 = true := by kernel_rfl
@[push_cast] theorem sh54 : Program.stoodInHeld Tryd.prog 54 = false := by kernel_rfl
@[push_cast] theorem sz55 : sizeT Tryd.prog 55 = some 4 := by kernel_rfl
@[push_cast] theorem ag55 : aggT Tryd.prog 55 = some true := by kernel_rfl
@[push_cast] theorem ze55 : zeroT Tryd.prog 55 = some (.agg [.str ⟨#[]⟩, .int .i64 0, .int .i64 0, .str ⟨#[]⟩]) := by kernel_rfl
@[push_cast] theorem by55 : bytesT Tryd.prog 55 = 48 := by kernel_rfl
@[push_cast] theorem fn55x0 : fieldN Tryd.prog 55 0 = some (9, 0) := by kernel_rfl
@[push_cast] theorem fn55x1 : fieldN Tryd.prog 55 1 = some (3, 1) := by kernel_rfl
@[push_cast] theorem fn55x2 : fieldN Tryd.prog 55 2 = some (3, 2) := by kernel_rfl
@[push_cast] theorem fn55x3 : fieldN Tryd.prog 55 3 = some (9, 3) := by kernel_rfl
@[push_cast] theorem pl55 : placesT Tryd.prog 55 = some [(0, 1), (1, 1), (2, 1), (3, 1)] := by kernel_rfl
@[push_cast] theorem pe55 : plainEqT Tryd.prog 55 = true := by kernel_rfl
@[push_cast] theorem sh55 : Program.stoodInHeld Tryd.prog 55 = false := by kernel_rfl
@[push_cast] theorem sz56 : sizeT Tryd.prog 56 = some 1 := by kernel_rfl
@[push_cast] theorem ag56 : aggT Tryd.prog 56 = some false := by kernel_rfl
@[push_cast] theorem ze56 : zeroT Tryd.prog 56 = some (.nilf) := by kernel_rfl
@[push_cast] theorem by56 : bytesT Tryd.prog 56 = 8 := by kernel_rfl
@[push_cast] theorem sz57 : sizeT Tryd.prog 57 = some 1 := by kernel_rfl
@[push_cast] theorem ag57 : aggT Tryd.prog 57 = some false := by kernel_rfl
@[push_cast] theorem ze57 : zeroT Tryd.prog 57 = some (.nils) := by kernel_rfl
@[push_cast] theorem by57 : bytesT Tryd.prog 57 = 24 := by kernel_rfl
@[push_cast] theorem el57 : elemT Tryd.prog 57 = some 61 := by kernel_rfl
@[push_cast] theorem sz58 : sizeT Tryd.prog 58 = some 1 := by kernel_rfl
@[push_cast] theorem ag58 : aggT Tryd.prog 58 = some false := by kernel_rfl
@[push_cast] theorem ze58 : zeroT Tryd.prog 58 = some (.nilf) := by kernel_rfl
@[push_cast] theorem by58 : bytesT Tryd.prog 58 = 8 := by kernel_rfl
@[push_cast] theorem sz59 : sizeT Tryd.prog 59 = some 1 := by kernel_rfl
@[push_cast] theorem ag59 : aggT Tryd.prog 59 = some false := by kernel_rfl
@[push_cast] theorem ze59 : zeroT Tryd.prog 59 = some (.nilf) := by kernel_rfl
@[push_cast] theorem by59 : bytesT Tryd.prog 59 = 8 := by kernel_rfl
@[push_cast] theorem sz60 : sizeT Tryd.prog 60 = some 2 := by kernel_rfl
@[push_cast] theorem ag60 : aggT Tryd.prog 60 = some true := by kernel_rfl
@[push_cast] theorem ze60 : zeroT Tryd.prog 60 = some (.agg [.str ⟨#[]⟩, .int .i64 0]) := by kernel_rfl
@[push_cast] theorem by60 : bytesT Tryd.prog 60 = 24 := by kernel_rfl
@[push_cast] theorem fn60x0 : fieldN Tryd.prog 60 0 = some (9, 0) := by kernel_rfl
@[push_cast] theorem fn60x1 : fieldN Tryd.prog 60 1 = some (3, 1) := by kernel_rfl
@[push_cast] theorem pl60 : placesT Tryd.prog 60 = some [(0, 1), (1, 1)] := by kernel_rfl
@[push_cast] theorem pe60 : plainEqT Tryd.prog 60 = true := by kernel_rfl
@[push_cast] theorem sh60 : Program.stoodInHeld Tryd.prog 60 = false := by kernel_rfl
@[push_cast] theorem sz61 : sizeT Tryd.prog 61 = some 2 := by kernel_rfl
@[push_cast] theorem ag61 : aggT Tryd.prog 61 = some true := by kernel_rfl
@[push_cast] theorem ze61 : zeroT Tryd.prog 61 = some (.agg [.str ⟨#[]⟩, .int .i64 0]) := by kernel_rfl
@[push_cast] theorem by61 : bytesT Tryd.prog 61 = 24 := by kernel_rfl
@[push_cast] theorem fn61x0 : fieldN Tryd.prog 61 0 = some (9, 0) := by kernel_rfl
@[push_cast] theorem fn61x1 : fieldN Tryd.prog 61 1 = some (3, 1) := by kernel_rfl
@[push_cast] theorem pl61 : placesT Tryd.prog 61 = some [(0, 1), (1, 1)] := by kernel_rfl
@[push_cast] theorem pe61 : plainEqT Tryd.prog 61 = true := by kernel_rfl
@[push_cast] theorem sh61 : Program.stoodInHeld Tryd.prog 61 = false := by kernel_rfl
@[push_cast] theorem sz62 : sizeT Tryd.prog 62 = some 1 := by kernel_rfl
@[push_cast] theorem ag62 : aggT Tryd.prog 62 = some false := by kernel_rfl
@[push_cast] theorem ze62 : zeroT Tryd.prog 62 = some (.nilf) := by kernel_rfl
@[push_cast] theorem by62 : bytesT Tryd.prog 62 = 8 := by kernel_rfl
@[push_cast] theorem sz63 : sizeT Tryd.prog 63 = some 1 := by kernel_rfl
@[push_cast] theorem ag63 : aggT Tryd.prog 63 = some false := by kernel_rfl
@[push_cast] theorem ze63 : zeroT Tryd.prog 63 = some (.nilf) := by kernel_rfl
@[push_cast] theorem by63 : bytesT Tryd.prog 63 = 8 := by kernel_rfl
@[push_cast] theorem sz64 : sizeT Tryd.prog 64 = some 1 := by kernel_rfl
@[push_cast] theorem ag64 : aggT Tryd.prog 64 = some false := by kernel_rfl
@[push_cast] theorem ze64 : zeroT Tryd.prog 64 = some (.int .i8 0) := by kernel_rfl
@[push_cast] theorem by64 : bytesT Tryd.prog 64 = 1 := by kernel_rfl
@[push_cast] theorem sz65 : sizeT Tryd.prog 65 = some 6 := by kernel_rfl
@[push_cast] theorem ag65 : aggT Tryd.prog 65 = some true := by kernel_rfl
@[push_cast] theorem ze65 : zeroT Tryd.prog 65 = some (.agg [.int .u8 0, .int .u8 0, .int .u8 0, .int .u8 0, .int .u8 0, .int .i8 0]) := by kernel_rfl
@[push_cast] theorem by65 : bytesT Tryd.prog 65 = 6 := by kernel_rfl
@[push_cast] theorem fn65x0 : fieldN Tryd.prog 65 0 = some (5, 0) := by kernel_rfl
@[push_cast] theorem fn65x1 : fieldN Tryd.prog 65 1 = some (5, 1) := by kernel_rfl
@[push_cast] theorem fn65x2 : fieldN Tryd.prog 65 2 = some (5, 2) := by kernel_rfl
@[push_cast] theorem fn65x3 : fieldN Tryd.prog 65 3 = some (5, 3) := by kernel_rfl
@[push_cast] theorem fn65x4 : fieldN Tryd.prog 65 4 = some (5, 4) := by kernel_rfl
@[push_cast] theorem fn65x5 : fieldN Tryd.prog 65 5 = some (64, 5) := by kernel_rfl
@[push_cast] theorem pl65 : placesT Tryd.prog 65 = some [(0, 1), (1, 1), (2, 1), (3, 1), (4, 1), (5, 1)] := by kernel_rfl
@[push_cast] theorem pe65 : plainEqT Tryd.prog 65 = true := by kernel_rfl
@[push_cast] theorem sh65 : Program.stoodInHeld Tryd.prog 65 = false := by kernel_rfl
@[push_cast] theorem sz66 : sizeT Tryd.prog 66 = some 6 := by kernel_rfl
@[push_cast] theorem ag66 : aggT Tryd.prog 66 = some true := by kernel_rfl
@[push_cast] theorem ze66 : zeroT Tryd.prog 66 = some (.agg [.int .u8 0, .int .u8 0, .int .u8 0, .int .u8 0, .int .u8 0, .int .i8 0]) := by kernel_rfl
@[push_cast] theorem by66 : bytesT Tryd.prog 66 = 6 := by kernel_rfl
@[push_cast] theorem fn66x0 : fieldN Tryd.prog 66 0 = some (5, 0) := by kernel_rfl
@[push_cast] theorem fn66x1 : fieldN Tryd.prog 66 1 = some (5, 1) := by kernel_rfl
@[push_cast] theorem fn66x2 : fieldN Tryd.prog 66 2 = some (5, 2) := by kernel_rfl
@[push_cast] theorem fn66x3 : fieldN Tryd.prog 66 3 = some (5, 3) := by kernel_rfl
@[push_cast] theorem fn66x4 : fieldN Tryd.prog 66 4 = some (5, 4) := by kernel_rfl
@[push_cast] theorem fn66x5 : fieldN Tryd.prog 66 5 = some (64, 5) := by kernel_rfl
@[push_cast] theorem pl66 : placesT Tryd.prog 66 = some [(0, 1), (1, 1), (2, 1), (3, 1), (4, 1), (5, 1)] := by kernel_rfl
@[push_cast] theorem pe66 : plainEqT Tryd.prog 66 = true := by kernel_rfl
@[push_cast] theorem sh66 : Program.stoodInHeld Tryd.prog 66 = false := by kernel_rfl
@[push_cast] theorem sz67 : sizeT Tryd.prog 67 = some 1 := by kernel_rfl
@[push_cast] theorem ag67 : aggT Tryd.prog 67 = some false := by kernel_rfl
@[push_cast] theorem ze67 : zeroT Tryd.prog 67 = some (.nilf) := by kernel_rfl
@[push_cast] theorem by67 : bytesT Tryd.prog 67 = 8 := by kernel_rfl
@[push_cast] theorem sz68 : sizeT Tryd.prog 68 = some 1 := by kernel_rfl
@[push_cast] theorem ag68 : aggT Tryd.prog 68 = some false := by kernel_rfl
@[push_cast] theorem ze68 : zeroT Tryd.prog 68 = some (.nilf) := by kernel_rfl
@[push_cast] theorem by68 : bytesT Tryd.prog 68 = 8 := by kernel_rfl
@[push_cast] theorem sz69 : sizeT Tryd.prog 69 = some 1 := by kernel_rfl
@[push_cast] theorem ag69 : aggT Tryd.prog 69 = some false := by kernel_rfl
@[push_cast] theorem ze69 : zeroT Tryd.prog 69 = some (.nilf) := by kernel_rfl
@[push_cast] theorem by69 : bytesT Tryd.prog 69 = 8 := by kernel_rfl
@[push_cast] theorem sz70 : sizeT Tryd.prog 70 = some 1 := by kernel_rfl
@[push_cast] theorem ag70 : aggT Tryd.prog 70 = some false := by kernel_rfl
@[push_cast] theorem ze70 : zeroT Tryd.prog 70 = some (.nils) := by kernel_rfl
@[push_cast] theorem by70 : bytesT Tryd.prog 70 = 24 := by kernel_rfl
@[push_cast] theorem el70 : elemT Tryd.prog 70 = some 9 := by kernel_rfl
@[push_cast] theorem sz71 : sizeT Tryd.prog 71 = some 1 := by kernel_rfl
@[push_cast] theorem ag71 : aggT Tryd.prog 71 = some false := by kernel_rfl
@[push_cast] theorem ze71 : zeroT Tryd.prog 71 = some (.nilf) := by kernel_rfl
@[push_cast] theorem by71 : bytesT Tryd.prog 71 = 8 := by kernel_rfl
@[push_cast] theorem sz72 : sizeT Tryd.prog 72 = some 1 := by kernel_rfl
@[push_cast] theorem ag72 : aggT Tryd.prog 72 = some false := by kernel_rfl
@[push_cast] theorem ze72 : zeroT Tryd.prog 72 = some (.nilf) := by kernel_rfl
@[push_cast] theorem by72 : bytesT Tryd.prog 72 = 8 := by kernel_rfl
@[push_cast] theorem sz73 : sizeT Tryd.prog 73 = some 2 := by kernel_rfl
@[push_cast] theorem ag73 : aggT Tryd.prog 73 = some true := by kernel_rfl
@[push_cast] theorem ze73 : zeroT Tryd.prog 73 = some (.agg [.int .i64 0, .str ⟨#[]⟩]) := by kernel_rfl
@[push_cast] theorem by73 : bytesT Tryd.prog 73 = 24 := by kernel_rfl
@[push_cast] theorem fn73x0 : fieldN Tryd.prog 73 0 = some (52, 0) := by kernel_rfl
@[push_cast] theorem fn73x1 : fieldN Tryd.prog 73 1 = some (9, 1) := by kernel_rfl
@[push_cast] theorem pl73 : placesT Tryd.prog 73 = some [(0, 1), (1, 1)] := by kernel_rfl
@[push_cast] theorem pe73 : plainEqT Tryd.prog 73 = true := by kernel_rfl
@[push_cast] theorem sh73 : Program.stoodInHeld Tryd.prog 73 = false := by kernel_rfl
@[push_cast] theorem sz74 : sizeT Tryd.prog 74 = some 2 := by kernel_rfl
@[push_cast] theorem ag74 : aggT Tryd.prog 74 = some true := by kernel_rfl
@[push_cast] theorem ze74 : zeroT Tryd.prog 74 = some (.agg [.int .i64 0, .str ⟨#[]⟩]) := by kernel_rfl
@[push_cast] theorem by74 : bytesT Tryd.prog 74 = 24 := by kernel_rfl
@[push_cast] theorem fn74x0 : fieldN Tryd.prog 74 0 = some (52, 0) := by kernel_rfl
@[push_cast] theorem fn74x1 : fieldN Tryd.prog 74 1 = some (9, 1) := by kernel_rfl
@[push_cast] theorem pl74 : placesT Tryd.prog 74 = some [(0, 1), (1, 1)] := by kernel_rfl
@[push_cast] theorem pe74 : plainEqT Tryd.prog 74 = true := by kernel_rfl
@[push_cast] theorem sh74 : Program.stoodInHeld Tryd.prog 74 = false := by kernel_rfl
@[push_cast] theorem sz75 : sizeT Tryd.prog 75 = some 1 := by kernel_rfl
@[push_cast] theorem ag75 : aggT Tryd.prog 75 = some false := by kernel_rfl
@[push_cast] theorem ze75 : zeroT Tryd.prog 75 = some (.nilf) := by kernel_rfl
@[push_cast] theorem by75 : bytesT Tryd.prog 75 = 8 := by kernel_rfl
@[push_cast] theorem sz76 : sizeT Tryd.prog 76 = some 1 := by kernel_rfl
@[push_cast] theorem ag76 : aggT Tryd.prog 76 = some false := by kernel_rfl
@[push_cast] theorem ze76 : zeroT Tryd.prog 76 = some (.nilm) := by kernel_rfl
@[push_cast] theorem by76 : bytesT Tryd.prog 76 = 8 := by kernel_rfl
@[push_cast] theorem sz77 : sizeT Tryd.prog 77 = some 2 := by kernel_rfl
@[push_cast] theorem ag77 : aggT Tryd.prog 77 = some true := by kernel_rfl
@[push_cast] theorem ze77 : zeroT Tryd.prog 77 = some (.agg [.nils, .nilm]) := by kernel_rfl
@[push_cast] theorem by77 : bytesT Tryd.prog 77 = 32 := by kernel_rfl
@[push_cast] theorem fn77x0 : fieldN Tryd.prog 77 0 = some (22, 0) := by kernel_rfl
@[push_cast] theorem fn77x1 : fieldN Tryd.prog 77 1 = some (76, 1) := by kernel_rfl
@[push_cast] theorem pl77 : placesT Tryd.prog 77 = some [(0, 1), (1, 1)] := by kernel_rfl
@[push_cast] theorem pe77 : plainEqT Tryd.prog 77 = true := by kernel_rfl
@[push_cast] theorem sh77 : Program.stoodInHeld Tryd.prog 77 = false := by kernel_rfl
@[push_cast] theorem sz78 : sizeT Tryd.prog 78 = some 2 := by kernel_rfl
@[push_cast] theorem ag78 : aggT Tryd.prog 78 = some true := by kernel_rfl
@[push_cast] theorem ze78 : zeroT Tryd.prog 78 = some (.agg [.nils, .nilm]) := by kernel_rfl
@[push_cast] theorem by78 : bytesT Tryd.prog 78 = 32 := by kernel_rfl
@[push_cast] theorem fn78x0 : fieldN Tryd.prog 78 0 = some (22, 0) := by kernel_rfl
@[push_cast] theorem fn78x1 : fieldN Tryd.prog 78 1 = some (76, 1) := by kernel_rfl
@[push_cast] theorem pl78 : placesT Tryd.prog 78 = some [(0, 1), (1, 1)] := by kernel_rfl
@[push_cast] theorem pe78 : plainEqT Tryd.prog 78 = true := by kernel_rfl
@[push_cast] theorem sh78 : Program.stoodInHeld Tryd.prog 78 = false := by kernel_rfl
@[push_cast] theorem sz79 : sizeT Tryd.prog 79 = some 1 := by kernel_rfl
@[push_cast] theorem ag79 : aggT Tryd.prog 79 = some false := by kernel_rfl
@[push_cast] theorem ze79 : zeroT Tryd.prog 79 = some (.nilp) := by kernel_rfl
@[push_cast] theorem by79 : bytesT Tryd.prog 79 = 8 := by kernel_rfl
@[push_cast] theorem sz80 : sizeT Tryd.prog 80 = some 1 := by kernel_rfl
@[push_cast] theorem ag80 : aggT Tryd.prog 80 = some false := by kernel_rfl
@[push_cast] theorem by80 : bytesT Tryd.prog 80 = 0 := by kernel_rfl
@[push_cast] theorem sz81 : sizeT Tryd.prog 81 = some 1 := by kernel_rfl
@[push_cast] theorem ag81 : aggT Tryd.prog 81 = some false := by kernel_rfl
@[push_cast] theorem ze81 : zeroT Tryd.prog 81 = some (.nilf) := by kernel_rfl
@[push_cast] theorem by81 : bytesT Tryd.prog 81 = 8 := by kernel_rfl
@[push_cast] theorem sz82 : sizeT Tryd.prog 82 = some 1 := by kernel_rfl
@[push_cast] theorem ag82 : aggT Tryd.prog 82 = some false := by kernel_rfl
@[push_cast] theorem ze82 : zeroT Tryd.prog 82 = some (.nilf) := by kernel_rfl
@[push_cast] theorem by82 : bytesT Tryd.prog 82 = 8 := by kernel_rfl
@[push_cast] theorem sz83 : sizeT Tryd.prog 83 = some 4 := by kernel_rfl
@[push_cast] theorem ag83 : aggT Tryd.prog 83 = some true := by kernel_rfl
@[push_cast] theorem ze83 : zeroT Tryd.prog 83 = some (.agg [.str ⟨#[]⟩, .nils, .nils, .bool false]) := by kernel_rfl
@[push_cast] theorem by83 : bytesT Tryd.prog 83 = 72 := by kernel_rfl
@[push_cast] theorem fn83x0 : fieldN Tryd.prog 83 0 = some (49, 0) := by kernel_rfl
@[push_cast] theorem fn83x1 : fieldN Tryd.prog 83 1 = some (25, 2) := by kernel_rfl
@[push_cast] theorem fn83x2 : fieldN Tryd.prog 83 2 = some (4, 3) := by kernel_rfl
@[push_cast] theorem pl83 : placesT Tryd.prog 83 = some [(0, 2), (2, 1), (3, 1)] := by kernel_rfl
@[push_cast] theorem pe83 : plainEqT Tryd.prog 83 = true := by kernel_rfl
@[push_cast] theorem sh83 : Program.stoodInHeld Tryd.prog 83 = false := by kernel_rfl
@[push_cast] theorem sz84 : sizeT Tryd.prog 84 = some 4 := by kernel_rfl
@[push_cast] theorem ag84 : aggT Tryd.prog 84 = some true := by kernel_rfl
@[push_cast] theorem ze84 : zeroT Tryd.prog 84 = some (.agg [.str ⟨#[]⟩, .nils, .nils, .bool false]) := by kernel_rfl
@[push_cast] theorem by84 : bytesT Tryd.prog 84 = 72 := by kernel_rfl
@[push_cast] theorem fn84x0 : fieldN Tryd.prog 84 0 = some (49, 0) := by kernel_rfl
@[push_cast] theorem fn84x1 : fieldN Tryd.prog 84 1 = some (25, 2) := by kernel_rfl
@[push_cast] theorem fn84x2 : fieldN Tryd.prog 84 2 = some (4, 3) := by kernel_rfl
@[push_cast] theorem pl84 : placesT Tryd.prog 84 = some [(0, 2), (2, 1), (3, 1)] := by kernel_rfl
@[push_cast] theorem pe84 : plainEqT Tryd.prog 84 = true := by kernel_rfl
@[push_cast] theorem sh84 : Program.stoodInHeld Tryd.prog 84 = false := by kernel_rfl
@[push_cast] theorem sz85 : sizeT Tryd.prog 85 = some 1 := by kernel_rfl
@[push_cast] theorem ag85 : aggT Tryd.prog 85 = some false := by kernel_rfl
@[push_cast] theorem ze85 : zeroT Tryd.prog 85 = some (.nilf) := by kernel_rfl
@[push_cast] theorem by85 : bytesT Tryd.prog 85 = 8 := by kernel_rfl
@[push_cast] theorem sz86 : sizeT Tryd.prog 86 = some 1 := by kernel_rfl
@[push_cast] theorem ag86 : aggT Tryd.prog 86 = some false := by kernel_rfl
@[push_cast] theorem ze86 : zeroT Tryd.prog 86 = some (.nilf) := by kernel_rfl
@[push_cast] theorem by86 : bytesT Tryd.prog 86 = 8 := by kernel_rfl
@[push_cast] theorem sz87 : sizeT Tryd.prog 87 = some 1 := by kernel_rfl
@[push_cast] theorem ag87 : aggT Tryd.prog 87 = some false := by kernel_rfl
@[push_cast] theorem ze87 : zeroT Tryd.prog 87 = some (.nilf) := by kernel_rfl
@[push_cast] theorem by87 : bytesT Tryd.prog 87 = 8 := by kernel_rfl
@[push_cast] theorem sz88 : sizeT Tryd.prog 88 = some 1 := by kernel_rfl
@[push_cast] theorem ag88 : aggT Tryd.prog 88 = some false := by kernel_rfl
@[push_cast] theorem ze88 : zeroT Tryd.prog 88 = some (.nilf) := by kernel_rfl
@[push_cast] theorem by88 : bytesT Tryd.prog 88 = 8 := by kernel_rfl
@[push_cast] theorem sz89 : sizeT Tryd.prog 89 = some 1 := by kernel_rfl
@[push_cast] theorem ag89 : aggT Tryd.prog 89 = some false := by kernel_rfl
@[push_cast] theorem ze89 : zeroT Tryd.prog 89 = some (.nilf) := by kernel_rfl
@[push_cast] theorem by89 : bytesT Tryd.prog 89 = 8 := by kernel_rfl
@[push_cast] theorem sz90 : sizeT Tryd.prog 90 = some 1 := by kernel_rfl
@[push_cast] theorem ag90 : aggT Tryd.prog 90 = some false := by kernel_rfl
@[push_cast] theorem ze90 : zeroT Tryd.prog 90 = some (.nilf) := by kernel_rfl
@[push_cast] theorem by90 : bytesT Tryd.prog 90 = 8 := by kernel_rfl
@[push_cast] theorem sz91 : sizeT Tryd.prog 91 = some 1 := by kernel_rfl
@[push_cast] theorem ag91 : aggT Tryd.prog 91 = some false := by kernel_rfl
@[push_cast] theorem ze91 : zeroT Tryd.prog 91 = some (.nilm) := by kernel_rfl
@[push_cast] theorem by91 : bytesT Tryd.prog 91 = 8 := by kernel_rfl
@[push_cast] theorem sz92 : sizeT Tryd.prog 92 = some 1 := by kernel_rfl
@[push_cast] theorem ag92 : aggT Tryd.prog 92 = some false := by kernel_rfl
@[push_cast] theorem by92 : bytesT Tryd.prog 92 = 0 := by kernel_rfl
@[push_cast] theorem sz93 : sizeT Tryd.prog 93 = some 1 := by kernel_rfl
@[push_cast] theorem ag93 : aggT Tryd.prog 93 = some false := by kernel_rfl
@[push_cast] theorem ze93 : zeroT Tryd.prog 93 = some (.nilf) := by kernel_rfl
@[push_cast] theorem by93 : bytesT Tryd.prog 93 = 8 := by kernel_rfl
@[push_cast] theorem sz94 : sizeT Tryd.prog 94 = some 1 := by kernel_rfl
@[push_cast] theorem ag94 : aggT Tryd.prog 94 = some false := by kernel_rfl
@[push_cast] theorem ze94 : zeroT Tryd.prog 94 = some (.nilf) := by kernel_rfl
@[push_cast] theorem by94 : bytesT Tryd.prog 94 = 8 := by kernel_rfl
@[push_cast] theorem sz95 : sizeT Tryd.prog 95 = some 1 := by kernel_rfl
@[push_cast] theorem ag95 : aggT Tryd.prog 95 = some false := by kernel_rfl
@[push_cast] theorem by95 : bytesT Tryd.prog 95 = 0 := by kernel_rfl
@[push_cast] theorem sz96 : sizeT Tryd.prog 96 = some 1 := by kernel_rfl
@[push_cast] theorem ag96 : aggT Tryd.prog 96 = some false := by kernel_rfl
@[push_cast] theorem ze96 : zeroT Tryd.prog 96 = some (.nilf) := by kernel_rfl
@[push_cast] theorem by96 : bytesT Tryd.prog 96 = 8 := by kernel_rfl
@[push_cast] theorem sz97 : sizeT Tryd.prog 97 = some 1 := by kernel_rfl
@[push_cast] theorem ag97 : aggT Tryd.prog 97 = some false := by kernel_rfl
@[push_cast] theorem ze97 : zeroT Tryd.prog 97 = some (.nilf) := by kernel_rfl
@[push_cast] theorem by97 : bytesT Tryd.prog 97 = 8 := by kernel_rfl
@[push_cast] theorem sz98 : sizeT Tryd.prog 98 = some 1 := by kernel_rfl
@[push_cast] theorem ag98 : aggT Tryd.prog 98 = some false := by kernel_rfl
@[push_cast] theorem ze98 : zeroT Tryd.prog 98 = some (.nilf) := by kernel_rfl
@[push_cast] theorem by98 : bytesT Tryd.prog 98 = 8 := by kernel_rfl
@[push_cast] theorem sz99 : sizeT Tryd.prog 99 = some 1 := by kernel_rfl
@[push_cast] theorem ag99 : aggT Tryd.prog 99 = some false := by kernel_rfl
@[push_cast] theorem ze99 : zeroT Tryd.prog 99 = some (.nilf) := by kernel_rfl
@[push_cast] theorem by99 : bytesT Tryd.prog 99 = 8 := by kernel_rfl
@[push_cast] theorem sz100 : sizeT Tryd.prog 100 = some 1 := by kernel_rfl
@[push_cast] theorem ag100 : aggT Tryd.prog 100 = some false := by kernel_rfl
@[push_cast] theorem ze100 : zeroT Tryd.prog 100 = some (.nilf) := by kernel_rfl
@[push_cast] theorem by100 : bytesT Tryd.prog 100 = 8 := by kernel_rfl
@[push_cast] theorem sz101 : sizeT Tryd.prog 101 = some 1 := by kernel_rfl
@[push_cast] theorem ag101 : aggT Tryd.prog 101 = some false := by kernel_rfl
@[push_cast] theorem ze101 : zeroT Tryd.prog 101 = some (.nilf) := by kernel_rfl
@[push_cast] theorem by101 : bytesT Tryd.prog 101 = 8 := by kernel_rfl
@[push_cast] theorem sz102 : sizeT Tryd.prog 102 = some 2 := by kernel_rfl
@[push_cast] theorem ag102 : aggT Tryd.prog 102 = some true := by kernel_rfl
@[push_cast] theorem ze102 : zeroT Tryd.prog 102 = some (.agg [.nils, .str ⟨#[]⟩]) := by kernel_rfl
@[push_cast] theorem by102 : bytesT Tryd.prog 102 = 40 := by kernel_rfl
@[push_cast] theorem fn102x0 : fieldN Tryd.prog 102 0 = some (38, 0) := by kernel_rfl
@[push_cast] theorem fn102x1 : fieldN Tryd.prog 102 1 = some (9, 1) := by kernel_rfl
@[push_cast] theorem pl102 : placesT Tryd.prog 102 = some [(0, 1), (1, 1)] := by kernel_rfl
@[push_cast] theorem pe102 : plainEqT Tryd.prog 102 = true := by kernel_rfl
@[push_cast] theorem sh102 : Program.stoodInHeld Tryd.prog 102 = false := by kernel_rfl
@[push_cast] theorem sz103 : sizeT Tryd.prog 103 = some 2 := by kernel_rfl
@[push_cast] theorem ag103 : aggT Tryd.prog 103 = some true := by kernel_rfl
@[push_cast] theorem ze103 : zeroT Tryd.prog 103 = some (.agg [.nils, .str ⟨#[]⟩]) := by kernel_rfl
@[push_cast] theorem by103 : bytesT Tryd.prog 103 = 40 := by kernel_rfl
@[push_cast] theorem fn103x0 : fieldN Tryd.prog 103 0 = some (38, 0) := by kernel_rfl
@[push_cast] theorem fn103x1 : fieldN Tryd.prog 103 1 = some (9, 1) := by kernel_rfl
@[push_cast] theorem pl103 : placesT Tryd.prog 103 = some [(0, 1), (1, 1)] := by kernel_rfl
@[push_cast] theorem pe103 : plainEqT Tryd.prog 103 = true := by kernel_rfl
@[push_cast] theorem sh103 : Program.stoodInHeld Tryd.prog 103 = false := by kernel_rfl
@[push_cast] theorem sz104 : sizeT Tryd.prog 104 = some 1 := by kernel_rfl
@[push_cast] theorem ag104 : aggT Tryd.prog 104 = some false := by kernel_rfl
@[push_cast] theorem ze104 : zeroT Tryd.prog 104 = some (.nilm) := by kernel_rfl
@[push_cast] theorem by104 : bytesT Tryd.prog 104 = 8 := by kernel_rfl
@[push_cast] theorem sz105 : sizeT Tryd.prog 105 = some 1 := by kernel_rfl
@[push_cast] theorem ag105 : aggT Tryd.prog 105 = some false := by kernel_rfl
@[push_cast] theorem ze105 : zeroT Tryd.prog 105 = some (.nilf) := by kernel_rfl
@[push_cast] theorem by105 : bytesT Tryd.prog 105 = 8 := by kernel_rfl
@[push_cast] theorem sz106 : sizeT Tryd.prog 106 = some 1 := by kernel_rfl
@[push_cast] theorem ag106 : aggT Tryd.prog 106 = some false := by kernel_rfl
@[push_cast] theorem ze106 : zeroT Tryd.prog 106 = some (.nilf) := by kernel_rfl
@[push_cast] theorem by106 : bytesT Tryd.prog 106 = 8 := by kernel_rfl
@[push_cast] theorem sz107 : sizeT Tryd.prog 107 = some 1 := by kernel_rfl
@[push_cast] theorem ag107 : aggT Tryd.prog 107 = some false := by kernel_rfl
@[push_cast] theorem ze107 : zeroT Tryd.prog 107 = some (.nilf) := by kernel_rfl
@[push_cast] theorem by107 : bytesT Tryd.prog 107 = 8 := by kernel_rfl
@[push_cast] theorem sz108 : sizeT Tryd.prog 108 = some 1 := by kernel_rfl
@[push_cast] theorem ag108 : aggT Tryd.prog 108 = some false := by kernel_rfl
@[push_cast] theorem ze108 : zeroT Tryd.prog 108 = some (.nils) := by kernel_rfl
@[push_cast] theorem by108 : bytesT Tryd.prog 108 = 24 := by kernel_rfl
@[push_cast] theorem el108 : elemT Tryd.prog 108 = some 79 := by kernel_rfl
@[push_cast] theorem sz109 : sizeT Tryd.prog 109 = some 1 := by kernel_rfl
@[push_cast] theorem ag109 : aggT Tryd.prog 109 = some false := by kernel_rfl
@[push_cast] theorem by109 : bytesT Tryd.prog 109 = 0 := by kernel_rfl
@[push_cast] theorem sz110 : sizeT Tryd.prog 110 = some 1 := by kernel_rfl
@[push_cast] theorem ag110 : aggT Tryd.prog 110 = some false := by kernel_rfl
@[push_cast] theorem ze110 : zeroT Tryd.prog 110 = some (.nilf) := by kernel_rfl
@[push_cast] theorem by110 : bytesT Tryd.prog 110 = 8 := by kernel_rfl
@[push_cast] theorem sz111 : sizeT Tryd.prog 111 = some 1 := by kernel_rfl
@[push_cast] theorem ag111 : aggT Tryd.prog 111 = some false := by kernel_rfl
@[push_cast] theorem ze111 : zeroT Tryd.prog 111 = some (.nilf) := by kernel_rfl
@[push_cast] theorem by111 : bytesT Tryd.prog 111 = 8 := by kernel_rfl
@[push_cast] theorem sz112 : sizeT Tryd.prog 112 = some 1 := by kernel_rfl
@[push_cast] theorem ag112 : aggT Tryd.prog 112 = some false := by kernel_rfl
@[push_cast] theorem ze112 : zeroT Tryd.prog 112 = some (.nilf) := by kernel_rfl
@[push_cast] theorem by112 : bytesT Tryd.prog 112 = 8 := by kernel_rfl
@[push_cast] theorem sz113 : sizeT Tryd.prog 113 = some 1 := by kernel_rfl
@[push_cast] theorem ag113 : aggT Tryd.prog 113 = some false := by kernel_rfl
@[push_cast] theorem ze113 : zeroT Tryd.prog 113 = some (.nilf) := by kernel_rfl
@[push_cast] theorem by113 : bytesT Tryd.prog 113 = 8 := by kernel_rfl
@[push_cast] theorem sz114 : sizeT Tryd.prog 114 = some 1 := by kernel_rfl
@[push_cast] theorem ag114 : aggT Tryd.prog 114 = some false := by kernel_rfl
@[push_cast] theorem ze114 : zeroT Tryd.prog 114 = some (.nilf) := by kernel_rfl
@[push_cast] theorem by114 : bytesT Tryd.prog 114 = 8 := by kernel_rfl
@[push_cast] theorem sz115 : sizeT Tryd.prog 115 = some 1 := by kernel_rfl
@[push_cast] theorem ag115 : aggT Tryd.prog 115 = some false := by kernel_rfl
@[push_cast] theorem ze115 : zeroT Tryd.prog 115 = some (.nilf) := by kernel_rfl
@[push_cast] theorem by115 : bytesT Tryd.prog 115 = 8 := by kernel_rfl
@[push_cast] theorem sz116 : sizeT Tryd.prog 116 = some 1 := by kernel_rfl
@[push_cast] theorem ag116 : aggT Tryd.prog 116 = some false := by kernel_rfl
@[push_cast] theorem ze116 : zeroT Tryd.prog 116 = some (.int .u64 0) := by kernel_rfl
@[push_cast] theorem by116 : bytesT Tryd.prog 116 = 8 := by kernel_rfl
@[push_cast] theorem sz117 : sizeT Tryd.prog 117 = some 1 := by kernel_rfl
@[push_cast] theorem ag117 : aggT Tryd.prog 117 = some false := by kernel_rfl
@[push_cast] theorem ze117 : zeroT Tryd.prog 117 = some (.nilf) := by kernel_rfl
@[push_cast] theorem by117 : bytesT Tryd.prog 117 = 8 := by kernel_rfl
@[push_cast] theorem sz118 : sizeT Tryd.prog 118 = some 1 := by kernel_rfl
@[push_cast] theorem ag118 : aggT Tryd.prog 118 = some false := by kernel_rfl
@[push_cast] theorem ze118 : zeroT Tryd.prog 118 = some (.nilf) := by kernel_rfl
@[push_cast] theorem by118 : bytesT Tryd.prog 118 = 8 := by kernel_rfl
@[push_cast] theorem sz119 : sizeT Tryd.prog 119 = some 1 := by kernel_rfl
@[push_cast] theorem ag119 : aggT Tryd.prog 119 = some false := by kernel_rfl
@[push_cast] theorem ze119 : zeroT Tryd.prog 119 = some (.nilp) := by kernel_rfl
@[push_cast] theorem by119 : bytesT Tryd.prog 119 = 8 := by kernel_rfl
@[push_cast] theorem sz120 : sizeT Tryd.prog 120 = some 1 := by kernel_rfl
@[push_cast] theorem ag120 : aggT Tryd.prog 120 = some false := by kernel_rfl
@[push_cast] theorem ze120 : zeroT Tryd.prog 120 = some (.nilf) := by kernel_rfl
@[push_cast] theorem by120 : bytesT Tryd.prog 120 = 8 := by kernel_rfl
@[push_cast] theorem sz121 : sizeT Tryd.prog 121 = some 1 := by kernel_rfl
@[push_cast] theorem ag121 : aggT Tryd.prog 121 = some false := by kernel_rfl
@[push_cast] theorem ze121 : zeroT Tryd.prog 121 = some (.nilf) := by kernel_rfl
@[push_cast] theorem by121 : bytesT Tryd.prog 121 = 8 := by kernel_rfl
@[push_cast] theorem sz122 : sizeT Tryd.prog 122 = some 1 := by kernel_rfl
@[push_cast] theorem ag122 : aggT Tryd.prog 122 = some false := by kernel_rfl
@[push_cast] theorem ze122 : zeroT Tryd.prog 122 = some (.nilf) := by kernel_rfl
@[push_cast] theorem by122 : bytesT Tryd.prog 122 = 8 := by kernel_rfl
@[push_cast] theorem sz123 : sizeT Tryd.prog 123 = some 1 := by kernel_rfl
@[push_cast] theorem ag123 : aggT Tryd.prog 123 = some false := by kernel_rfl
@[push_cast] theorem ze123 : zeroT Tryd.prog 123 = some (.nilf) := by kernel_rfl
@[push_cast] theorem by123 : bytesT Tryd.prog 123 = 8 := by kernel_rfl
@[push_cast] theorem sz124 : sizeT Tryd.prog 124 = some 1 := by kernel_rfl
@[push_cast] theorem ag124 : aggT Tryd.prog 124 = some false := by kernel_rfl
@[push_cast] theorem ze124 : zeroT Tryd.prog 124 = some (.nilf) := by kernel_rfl
@[push_cast] theorem by124 : bytesT Tryd.prog 124 = 8 := by kernel_rfl
@[push_cast] theorem sz125 : sizeT Tryd.prog 125 = some 1 := by kernel_rfl
@[push_cast] theorem ag125 : aggT Tryd.prog 125 = some false := by kernel_rfl
@[push_cast] theorem ze125 : zeroT Tryd.prog 125 = some (.nilf) := by kernel_rfl
@[push_cast] theorem by125 : bytesT Tryd.prog 125 = 8 := by kernel_rfl
@[push_cast] theorem sz126 : sizeT Tryd.prog 126 = some 1 := by kernel_rfl
@[push_cast] theorem ag126 : aggT Tryd.prog 126 = some false := by kernel_rfl
@[push_cast] theorem ze126 : zeroT Tryd.prog 126 = some (.nilf) := by kernel_rfl
@[push_cast] theorem by126 : bytesT Tryd.prog 126 = 8 := by kernel_rfl
@[push_cast] theorem sz127 : sizeT Tryd.prog 127 = some 1 := by kernel_rfl
@[push_cast] theorem ag127 : aggT Tryd.prog 127 = some false := by kernel_rfl
@[push_cast] theorem ze127 : zeroT Tryd.prog 127 = some (.nilf) := by kernel_rfl
@[push_cast] theorem by127 : bytesT Tryd.prog 127 = 8 := by kernel_rfl
@[push_cast] theorem sz128 : sizeT Tryd.prog 128 = some 1 := by kernel_rfl
@[push_cast] theorem ag128 : aggT Tryd.prog 128 = some false := by kernel_rfl
@[push_cast] theorem ze128 : zeroT Tryd.prog 128 = some (.nilf) := by kernel_rfl
@[push_cast] theorem by128 : bytesT Tryd.prog 128 = 8 := by kernel_rfl
@[push_cast] theorem sz129 : sizeT Tryd.prog 129 = some 1 := by kernel_rfl
@[push_cast] theorem ag129 : aggT Tryd.prog 129 = some false := by kernel_rfl
@[push_cast] theorem ze129 : zeroT Tryd.prog 129 = some (.nilf) := by kernel_rfl
@[push_cast] theorem by129 : bytesT Tryd.prog 129 = 8 := by kernel_rfl
@[push_cast] theorem sz130 : sizeT Tryd.prog 130 = some 24 := by kernel_rfl
@[push_cast] theorem ag130 : aggT Tryd.prog 130 = some true := by kernel_rfl
@[push_cast] theorem ze130 : zeroT Tryd.prog 130 = some (.agg [.int .u8 0, .int .u8 0, .int .u8 0, .int .u8 0, .int .u8 0, .int .u8 0, .int .u8 0, .int .u8 0, .int .u8 0, .int .u8 0, .int .u8 0, .int .u8 0, .int .u8 0, .int .u8 0, .int .u8 0, .int .u8 0, .int .u8 0, .int .u8 0, .int .u8 0, .int .u8 0, .int .u8 0, .int .u8 0, .int .u8 0, .int .u8 0]) := by kernel_rfl
@[push_cast] theorem by130 : bytesT Tryd.prog 130 = 24 := by kernel_rfl
@[push_cast] theorem sz131 : sizeT Tryd.prog 131 = some 1 := by kernel_rfl
@[push_cast] theorem ag131 : aggT Tryd.prog 131 = some false := by kernel_rfl
@[push_cast] theorem ze131 : zeroT Tryd.prog 131 = some (.nilf) := by kernel_rfl
@[push_cast] theorem by131 : bytesT Tryd.prog 131 = 8 := by kernel_rfl
@[push_cast] theorem sz132 : sizeT Tryd.prog 132 = some 1 := by kernel_rfl
@[push_cast] theorem ag132 : aggT Tryd.prog 132 = some false := by kernel_rfl
@[push_cast] theorem ze132 : zeroT Tryd.prog 132 = some (.nilf) := by kernel_rfl
@[push_cast] theorem by132 : bytesT Tryd.prog 132 = 8 := by kernel_rfl
@[push_cast] theorem sz133 : sizeT Tryd.prog 133 = some 1 := by kernel_rfl
@[push_cast] theorem ag133 : aggT Tryd.prog 133 = some false := by kernel_rfl
@[push_cast] theorem by133 : bytesT Tryd.prog 133 = 0 := by kernel_rfl
@[push_cast] theorem sz134 : sizeT Tryd.prog 134 = some 1 := by kernel_rfl
@[push_cast] theorem ag134 : aggT Tryd.prog 134 = some false := by kernel_rfl
@[push_cast] theorem ze134 : zeroT Tryd.prog 134 = some (.nilf) := by kernel_rfl
@[push_cast] theorem by134 : bytesT Tryd.prog 134 = 8 := by kernel_rfl
@[push_cast] theorem sz135 : sizeT Tryd.prog 135 = some 1 := by kernel_rfl
@[push_cast] theorem ag135 : aggT Tryd.prog 135 = some false := by kernel_rfl
@[push_cast] theorem ze135 : zeroT Tryd.prog 135 = some (.nilf) := by kernel_rfl
@[push_cast] theorem by135 : bytesT Tryd.prog 135 = 8 := by kernel_rfl
@[push_cast] theorem sz136 : sizeT Tryd.prog 136 = some 1 := by kernel_rfl
@[push_cast] theorem ag136 : aggT Tryd.prog 136 = some false := by kernel_rfl
@[push_cast] theorem ze136 : zeroT Tryd.prog 136 = some (.nilf) := by kernel_rfl
@[push_cast] theorem by136 : bytesT Tryd.prog 136 = 8 := by kernel_rfl
@[push_cast] theorem sz137 : sizeT Tryd.prog 137 = some 1 := by kernel_rfl
@[push_cast] theorem ag137 : aggT Tryd.prog 137 = some false := by kernel_rfl
@[push_cast] theorem ze137 : zeroT Tryd.prog 137 = some (.nilf) := by kernel_rfl
@[push_cast] theorem by137 : bytesT Tryd.prog 137 = 8 := by kernel_rfl
@[push_cast] theorem sz138 : sizeT Tryd.prog 138 = some 20 := by kernel_rfl
@[push_cast] theorem ag138 : aggT Tryd.prog 138 = some true := by kernel_rfl
@[push_cast] theorem ze138 : zeroT Tryd.prog 138 = some (.agg [.int .u64 0, .int .u64 0, .int .u64 0, .int .u64 0, .int .u64 0, .int .u64 0, .int .u64 0, .int .u64 0, .int .u64 0, .int .u64 0, .int .u64 0, .int .u64 0, .int .u64 0, .int .u64 0, .int .u64 0, .int .u64 0, .int .u64 0, .int .u64 0, .int .u64 0, .int .u64 0]) := by kernel_rfl
@[push_cast] theorem by138 : bytesT Tryd.prog 138 = 160 := by kernel_rfl
@[push_cast] theorem sz139 : sizeT Tryd.prog 139 = some 1 := by kernel_rfl
@[push_cast] theorem ag139 : aggT Tryd.prog 139 = some false := by kernel_rfl
@[push_cast] theorem ze139 : zeroT Tryd.prog 139 = some (.int .u32 0) := by kernel_rfl
@[push_cast] theorem by139 : bytesT Tryd.prog 139 = 4 := by kernel_rfl
@[push_cast] theorem sz140 : sizeT Tryd.prog 140 = some 65 := by kernel_rfl
@[push_cast] theorem ag140 : aggT Tryd.prog 140 = some true := by kernel_rfl
@[push_cast] theorem ze140 : zeroT Tryd.prog 140 = some (.agg [.int .u8 0, .int .u8 0, .int .u8 0, .int .u8 0, .int .u8 0, .int .u8 0, .int .u8 0, .int .u8 0, .int .u8 0, .int .u8 0, .int .u8 0, .int .u8 0, .int .u8 0, .int .u8 0, .int .u8 0, .int .u8 0, .int .u8 0, .int .u8 0, .int .u8 0, .int .u8 0, .int .u8 0, .int .u8 0, .int .u8 0, .int .u8 0, .int .u8 0, .int .u8 0, .int .u8 0, .int .u8 0, .int .u8 0, .int .u8 0, .int .u8 0, .int .u8 0, .int .u8 0, .int .u8 0, .int .u8 0, .int .u8 0, .int .u8 0, .int .u8 0, .int .u8 0, .int .u8 0, .int .u8 0, .int .u8 0, .int .u8 0, .int .u8 0, .int .u8 0, .int .u8 0, .int .u8 0, .int .u8 0, .int .u8 0, .int .u8 0, .int .u8 0, .int .u8 0, .int .u8 0, .int .u8 0, .int .u8 0, .int .u8 0, .int .u8 0, .int .u8 0, .int .u8 0, .int .u8 0, .int .u8 0, .int .u8 0, .int .u8 0, .int .u8 0, .int .u8 0]) := by kernel_rfl
@[push_cast] theorem by140 : bytesT Tryd.prog 140 = 65 := by kernel_rfl
@[push_cast] theorem sz141 : sizeT Tryd.prog 141 = some 1 := by kernel_rfl
@[push_cast] theorem ag141 : aggT Tryd.prog 141 = some false := by kernel_rfl
@[push_cast] theorem ze141 : zeroT Tryd.prog 141 = some (.int .u64 0) := by kernel_rfl
@[push_cast] theorem by141 : bytesT Tryd.prog 141 = 8 := by kernel_rfl
@[push_cast] theorem sz142 : sizeT Tryd.prog 142 = some 1 := by kernel_rfl
@[push_cast] theorem ag142 : aggT Tryd.prog 142 = some false := by kernel_rfl
@[push_cast] theorem ze142 : zeroT Tryd.prog 142 = some (.nilf) := by kernel_rfl
@[push_cast] theorem by142 : bytesT Tryd.prog 142 = 8 := by kernel_rfl
@[push_cast] theorem sz143 : sizeT Tryd.prog 143 = some 1 := by kernel_rfl
@[push_cast] theorem ag143 : aggT Tryd.prog 143 = some false := by kernel_rfl
@[push_cast] theorem ze143 : zeroT Tryd.prog 143 = some (.nilf) := by kernel_rfl
@[push_cast] theorem by143 : bytesT Tryd.prog 143 = 8 := by kernel_rfl
@[push_cast] theorem sz144 : sizeT Tryd.prog 144 = some 32 := by kernel_rfl
@[push_cast] theorem ag144 : aggT Tryd.prog 144 = some true := by kernel_rfl
@[push_cast] theorem ze144 : zeroT Tryd.prog 144 = some (.agg [.int .u8 0, .int .u8 0, .int .u8 0, .int .u8 0, .int .u8 0, .int .u8 0, .int .u8 0, .int .u8 0, .int .u8 0, .int .u8 0, .int .u8 0, .int .u8 0, .int .u8 0, .int .u8 0, .int .u8 0, .int .u8 0, .int .u8 0, .int .u8 0, .int .u8 0, .int .u8 0, .int .u8 0, .int .u8 0, .int .u8 0, .int .u8 0, .int .u8 0, .int .u8 0, .int .u8 0, .int .u8 0, .int .u8 0, .int .u8 0, .int .u8 0, .int .u8 0]) := by kernel_rfl
@[push_cast] theorem by144 : bytesT Tryd.prog 144 = 32 := by kernel_rfl
@[push_cast] theorem sz145 : sizeT Tryd.prog 145 = some 64 := by kernel_rfl
@[push_cast] theorem ag145 : aggT Tryd.prog 145 = some true := by kernel_rfl
@[push_cast] theorem ze145 : zeroT Tryd.prog 145 = some (.agg [.int .u8 0, .int .u8 0, .int .u8 0, .int .u8 0, .int .u8 0, .int .u8 0, .int .u8 0, .int .u8 0, .int .u8 0, .int .u8 0, .int .u8 0, .int .u8 0, .int .u8 0, .int .u8 0, .int .u8 0, .int .u8 0, .int .u8 0, .int .u8 0, .int .u8 0, .int .u8 0, .int .u8 0, .int .u8 0, .int .u8 0, .int .u8 0, .int .u8 0, .int .u8 0, .int .u8 0, .int .u8 0, .int .u8 0, .int .u8 0, .int .u8 0, .int .u8 0, .int .u8 0, .int .u8 0, .int .u8 0, .int .u8 0, .int .u8 0, .int .u8 0, .int .u8 0, .int .u8 0, .int .u8 0, .int .u8 0, .int .u8 0, .int .u8 0, .int .u8 0, .int .u8 0, .int .u8 0, .int .u8 0, .int .u8 0, .int .u8 0, .int .u8 0, .int .u8 0, .int .u8 0, .int .u8 0, .int .u8 0, .int .u8 0, .int .u8 0, .int .u8 0, .int .u8 0, .int .u8 0, .int .u8 0, .int .u8 0, .int .u8 0, .int .u8 0]) := by kernel_rfl
@[push_cast] theorem by145 : bytesT Tryd.prog 145 = 64 := by kernel_rfl
@[push_cast] theorem sz146 : sizeT Tryd.prog 146 = some 1 := by kernel_rfl
@[push_cast] theorem ag146 : aggT Tryd.prog 146 = some false := by kernel_rfl
@[push_cast] theorem ze146 : zeroT Tryd.prog 146 = some (.nilf) := by kernel_rfl
@[push_cast] theorem by146 : bytesT Tryd.prog 146 = 8 := by kernel_rfl
@[push_cast] theorem sz147 : sizeT Tryd.prog 147 = some 4 := by kernel_rfl
@[push_cast] theorem ag147 : aggT Tryd.prog 147 = some true := by kernel_rfl
@[push_cast] theorem ze147 : zeroT Tryd.prog 147 = some (.agg [.nilp, .nilp, .nilp, .str ⟨#[]⟩]) := by kernel_rfl
@[push_cast] theorem by147 : bytesT Tryd.prog 147 = 40 := by kernel_rfl
@[push_cast] theorem fn147x0 : fieldN Tryd.prog 147 0 = some (17, 0) := by kernel_rfl
@[push_cast] theorem fn147x1 : fieldN Tryd.prog 147 1 = some (17, 1) := by kernel_rfl
@[push_cast] theorem fn147x2 : fieldN Tryd.prog 147 2 = some (17, 2) := by kernel_rfl
@[push_cast] theorem fn147x3 : fieldN Tryd.prog 147 3 = some (9, 3) := by kernel_rfl
@[push_cast] theorem pl147 : placesT Tryd.prog 147 = some [(0, 1), (1, 1), (2, 1), (3, 1)] := by kernel_rfl
@[push_cast] theorem pe147 : plainEqT Tryd.prog 147 = true := by kernel_rfl
@[push_cast] theorem sh147 : Program.stoodInHeld Tryd.prog 147 = true := by kernel_rfl
@[push_cast] theorem sz148 : sizeT Tryd.prog 148 = some 4 := by kernel_rfl
@[push_cast] theorem ag148 : aggT Tryd.prog 148 = some true := by kernel_rfl
@[push_cast] theorem ze148 : zeroT Tryd.prog 148 = some (.agg [.nilp, .nilp, .nilp, .str ⟨#[]⟩]) := by kernel_rfl
@[push_cast] theorem by148 : bytesT Tryd.prog 148 = 40 := by kernel_rfl
@[push_cast] theorem fn148x0 : fieldN Tryd.prog 148 0 = some (17, 0) := by kernel_rfl
@[push_cast] theorem fn148x1 : fieldN Tryd.prog 148 1 = some (17, 1) := by kernel_rfl
@[push_cast] theorem fn148x2 : fieldN Tryd.prog 148 2 = some (17, 2) := by kernel_rfl
@[push_cast] theorem fn148x3 : fieldN Tryd.prog 148 3 = some (9, 3) := by kernel_rfl
@[push_cast] theorem pl148 : placesT Tryd.prog 148 = some [(0, 1), (1, 1), (2, 1), (3, 1)] := by kernel_rfl
@[push_cast] theorem pe148 : plainEqT Tryd.prog 148 = true := by kernel_rfl
@[push_cast] theorem sh148 : Program.stoodInHeld Tryd.prog 148 = true := by kernel_rfl
@[push_cast] theorem sz149 : sizeT Tryd.prog 149 = some 0 := by kernel_rfl
@[push_cast] theorem ag149 : aggT Tryd.prog 149 = some true := by kernel_rfl
@[push_cast] theorem ze149 : zeroT Tryd.prog 149 = some (.agg []) := by kernel_rfl
@[push_cast] theorem by149 : bytesT Tryd.prog 149 = 0 := by kernel_rfl
@[push_cast] theorem pl149 : placesT Tryd.prog 149 = some [] := by kernel_rfl
@[push_cast] theorem sz150 : sizeT Tryd.prog 150 = some 0 := by kernel_rfl
@[push_cast] theorem ag150 : aggT Tryd.prog 150 = some true := by kernel_rfl
@[push_cast] theorem ze150 : zeroT Tryd.prog 150 = some (.agg []) := by kernel_rfl
@[push_cast] theorem by150 : bytesT Tryd.prog 150 = 0 := by kernel_rfl
@[push_cast] theorem fn150x0 : fieldN Tryd.prog 150 0 = some (149, 0) := by kernel_rfl
@[push_cast] theorem pl150 : placesT Tryd.prog 150 = some [(0, 0)] := by kernel_rfl
@[push_cast] theorem pe150 : plainEqT Tryd.prog 150 = true := by kernel_rfl
@[push_cast] theorem sh150 : Program.stoodInHeld Tryd.prog 150 = true := by kernel_rfl
@[push_cast] theorem sz151 : sizeT Tryd.prog 151 = some 0 := by kernel_rfl
@[push_cast] theorem ag151 : aggT Tryd.prog 151 = some true := by kernel_rfl
@[push_cast] theorem ze151 : zeroT Tryd.prog 151 = some (.agg []) := by kernel_rfl
@[push_cast] theorem by151 : bytesT Tryd.prog 151 = 0 := by kernel_rfl
@[push_cast] theorem fn151x0 : fieldN Tryd.prog 151 0 = some (149, 0) := by kernel_rfl
@[push_cast] theorem pl151 : placesT Tryd.prog 151 = some [(0, 0)] := by kernel_rfl
@[push_cast] theorem pe151 : plainEqT Tryd.prog 151 = true := by kernel_rfl
@[push_cast] theorem sh151 : Program.stoodInHeld Tryd.prog 151 = true := by kernel_rfl
@[push_cast] theorem sz152 : sizeT Tryd.prog 152 = some 1 := by kernel_rfl
@[push_cast] theorem ag152 : aggT Tryd.prog 152 = some false := by kernel_rfl
@[push_cast] theorem ze152 : zeroT Tryd.prog 152 = some (.nilf) := by kernel_rfl
@[push_cast] theorem by152 : bytesT Tryd.prog 152 = 8 := by kernel_rfl
@[push_cast] theorem sz153 : sizeT Tryd.prog 153 = some 1 := by kernel_rfl
@[push_cast] theorem ag153 : aggT Tryd.prog 153 = some false := by kernel_rfl
@[push_cast] theorem ze153 : zeroT Tryd.prog 153 = some (.int .u8 0) := by kernel_rfl
@[push_cast] theorem by153 : bytesT Tryd.prog 153 = 1 := by kernel_rfl
@[push_cast] theorem sz154 : sizeT Tryd.prog 154 = some 1 := by kernel_rfl
@[push_cast] theorem ag154 : aggT Tryd.prog 154 = some false := by kernel_rfl
@[push_cast] theorem ze154 : zeroT Tryd.prog 154 = some (.int .u8 0) := by kernel_rfl
@[push_cast] theorem by154 : bytesT Tryd.prog 154 = 1 := by kernel_rfl
@[push_cast] theorem sz155 : sizeT Tryd.prog 155 = some 1 := by kernel_rfl
@[push_cast] theorem ag155 : aggT Tryd.prog 155 = some false := by kernel_rfl
@[push_cast] theorem ze155 : zeroT Tryd.prog 155 = some (.nilf) := by kernel_rfl
@[push_cast] theorem by155 : bytesT Tryd.prog 155 = 8 := by kernel_rfl
@[push_cast] theorem sz156 : sizeT Tryd.prog 156 = some 1 := by kernel_rfl
@[push_cast] theorem ag156 : aggT Tryd.prog 156 = some false := by kernel_rfl
@[push_cast] theorem ze156 : zeroT Tryd.prog 156 = some (.nilp) := by kernel_rfl
@[push_cast] theorem by156 : bytesT Tryd.prog 156 = 8 := by kernel_rfl
@[push_cast] theorem sz157 : sizeT Tryd.prog 157 = some 1 := by kernel_rfl
@[push_cast] theorem ag157 : aggT Tryd.prog 157 = some false := by kernel_rfl
@[push_cast] theorem ze157 : zeroT Tryd.prog 157 = some (.int .i32 0) := by kernel_rfl
@[push_cast] theorem by157 : bytesT Tryd.prog 157 = 4 := by kernel_rfl
@[push_cast] theorem sz158 : sizeT Tryd.prog 158 = some 1 := by kernel_rfl
@[push_cast] theorem ag158 : aggT Tryd.prog 158 = some false := by kernel_rfl
@[push_cast] theorem ze158 : zeroT Tryd.prog 158 = some (.int .i32 0) := by kernel_rfl
@[push_cast] theorem by158 : bytesT Tryd.prog 158 = 4 := by kernel_rfl
@[push_cast] theorem sz159 : sizeT Tryd.prog 159 = some 11 := by kernel_rfl
@[push_cast] theorem ag159 : aggT Tryd.prog 159 = some true := by kernel_rfl
@[push_cast] theorem ze159 : zeroT Tryd.prog 159 = some (.agg [.int .u64 0, .int .u64 0, .int .u32 0, .int .u8 0, .int .u8 0, .int .u8 0, .int .u8 0, .nilf, .nilp, .int .i32 0, .int .i32 0]) := by kernel_rfl
@[push_cast] theorem by159 : bytesT Tryd.prog 159 = 48 := by kernel_rfl
@[push_cast] theorem fn159x0 : fieldN Tryd.prog 159 0 = some (12, 0) := by kernel_rfl
@[push_cast] theorem fn159x1 : fieldN Tryd.prog 159 1 = some (12, 1) := by kernel_rfl
@[push_cast] theorem fn159x2 : fieldN Tryd.prog 159 2 = some (139, 2) := by kernel_rfl
@[push_cast] theorem fn159x3 : fieldN Tryd.prog 159 3 = some (153, 3) := by kernel_rfl
@[push_cast] theorem fn159x4 : fieldN Tryd.prog 159 4 = some (5, 4) := by kernel_rfl
@[push_cast] theorem fn159x5 : fieldN Tryd.prog 159 5 = some (5, 5) := by kernel_rfl
@[push_cast] theorem fn159x6 : fieldN Tryd.prog 159 6 = some (154, 6) := by kernel_rfl
@[push_cast] theorem fn159x7 : fieldN Tryd.prog 159 7 = some (155, 7) := by kernel_rfl
@[push_cast] theorem fn159x8 : fieldN Tryd.prog 159 8 = some (156, 8) := by kernel_rfl
@[push_cast] theorem fn159x9 : fieldN Tryd.prog 159 9 = some (157, 9) := by kernel_rfl
@[push_cast] theorem fn159x10 : fieldN Tryd.prog 159 10 = some (158, 10) := by kernel_rfl
@[push_cast] theorem pl159 : placesT Tryd.prog 159 = some [(0, 1), (1, 1), (2, 1), (3, 1), (4, 1), (5, 1), (6, 1), (7, 1), (8, 1), (9, 1), (10, 1)] := by kernel_rfl
@[push_cast] theorem pe159 : plainEqT Tryd.prog 159 = true := by kernel_rfl
@[push_cast] theorem sh159 : Program.stoodInHeld Tryd.prog 159 = true := by kernel_rfl
@[push_cast] theorem sz160 : sizeT Tryd.prog 160 = some 11 := by kernel_rfl
@[push_cast] theorem ag160 : aggT Tryd.prog 160 = some true := by kernel_rfl
@[push_cast] theorem ze160 : zeroT Tryd.prog 160 = some (.agg [.int .u64 0, .int .u64 0, .int .u32 0, .int .u8 0, .int .u8 0, .int .u8 0, .int .u8 0, .nilf, .nilp, .int .i32 0, .int .i32 0]) := by kernel_rfl
@[push_cast] theorem by160 : bytesT Tryd.prog 160 = 48 := by kernel_rfl
@[push_cast] theorem fn160x0 : fieldN Tryd.prog 160 0 = some (12, 0) := by kernel_rfl
@[push_cast] theorem fn160x1 : fieldN Tryd.prog 160 1 = some (12, 1) := by kernel_rfl
@[push_cast] theorem fn160x2 : fieldN Tryd.prog 160 2 = some (139, 2) := by kernel_rfl
@[push_cast] theorem fn160x3 : fieldN Tryd.prog 160 3 = some (153, 3) := by kernel_rfl
@[push_cast] theorem fn160x4 : fieldN Tryd.prog 160 4 = some (5, 4) := by kernel_rfl
@[push_cast] theorem fn160x5 : fieldN Tryd.prog 160 5 = some (5, 5) := by kernel_rfl
@[push_cast] theorem fn160x6 : fieldN Tryd.prog 160 6 = some (154, 6) := by kernel_rfl
@[push_cast] theorem fn160x7 : fieldN Tryd.prog 160 7 = some (155, 7) := by kernel_rfl
@[push_cast] theorem fn160x8 : fieldN Tryd.prog 160 8 = some (156, 8) := by kernel_rfl
@[push_cast] theorem fn160x9 : fieldN Tryd.prog 160 9 = some (157, 9) := by kernel_rfl
@[push_cast] theorem fn160x10 : fieldN Tryd.prog 160 10 = some (158, 10) := by kernel_rfl
@[push_cast] theorem pl160 : placesT Tryd.prog 160 = some [(0, 1), (1, 1), (2, 1), (3, 1), (4, 1), (5, 1), (6, 1), (7, 1), (8, 1), (9, 1), (10, 1)] := by kernel_rfl
@[push_cast] theorem pe160 : plainEqT Tryd.prog 160 = true := by kernel_rfl
@[push_cast] theorem sh160 : Program.stoodInHeld Tryd.prog 160 = true := by kernel_rfl
@[push_cast] theorem sz161 : sizeT Tryd.prog 161 = some 1 := by kernel_rfl
@[push_cast] theorem ag161 : aggT Tryd.prog 161 = some false := by kernel_rfl
@[push_cast] theorem ze161 : zeroT Tryd.prog 161 = some (.nilp) := by kernel_rfl
@[push_cast] theorem by161 : bytesT Tryd.prog 161 = 8 := by kernel_rfl
attribute [push_cast] Tryd.underlying0 Tryd.underlying1 Tryd.underlying2 Tryd.underlying3 Tryd.underlying4 Tryd.underlying5 Tryd.underlying6 Tryd.underlying7 Tryd.underlying8 Tryd.underlying9 Tryd.underlying10 Tryd.underlying11 Tryd.underlying12 Tryd.underlying13 Tryd.underlying14 Tryd.underlying15 Tryd.underlying16 Tryd.underlying17 Tryd.underlying18 Tryd.underlying19
attribute [push_cast] Tryd.underlying20 Tryd.underlying21 Tryd.underlying22 Tryd.underlying23 Tryd.underlying24 Tryd.underlying25 Tryd.underlying26 Tryd.underlying27 Tryd.underlying28 Tryd.underlying29 Tryd.underlying30 Tryd.underlying31 Tryd.underlying32 Tryd.underlying33 Tryd.underlying34 Tryd.underlying35 Tryd.underlying36 Tryd.underlying37 Tryd.underlying38 Tryd.underlying39
attribute [push_cast] Tryd.underlying40 Tryd.underlying41 Tryd.underlying42 Tryd.underlying43 Tryd.underlying44 Tryd.underlying45 Tryd.underlying46 Tryd.underlying47 Tryd.underlying48 Tryd.underlying49 Tryd.underlying50 Tryd.underlying51 Tryd.underlying52 Tryd.underlying53 Tryd.underlying54 Tryd.underlying55 Tryd.underlying56 Tryd.underlying57 Tryd.underlying58 Tryd.underlying59
attribute [push_cast] Tryd.underlying60 Tryd.underlying61 Tryd.underlying62 Tryd.underlying63 Tryd.underlying64 Tryd.underlying65 Tryd.underlying66 Tryd.underlying67 Tryd.underlying68 Tryd.underlying69 Tryd.underlying70 Tryd.underlying71 Tryd.underlying72 Tryd.underlying73 Tryd.underlying74 Tryd.underlying75 Tryd.underlying76 Tryd.underlying77 Tryd.underlying78 Tryd.underlying79
attribute [push_cast] Tryd.underlying80 Tryd.underlying81 Tryd.underlying82 Tryd.underlying83 Tryd.underlying84 Tryd.underlying85 Tryd.underlying86 Tryd.underlying87 Tryd.underlying88 Tryd.underlying89 Tryd.underlying90 Tryd.underlying91 Tryd.underlying92 Tryd.underlying93 Tryd.underlying94 Tryd.underlying95 Tryd.underlying96 Tryd.underlying97 Tryd.underlying98 Tryd.underlying99
attribute [push_cast] Tryd.underlying100 Tryd.underlying101 Tryd.underlying102 Tryd.underlying103 Tryd.underlying104 Tryd.underlying105 Tryd.underlying106 Tryd.underlying107 Tryd.underlying108 Tryd.underlying109 Tryd.underlying110 Tryd.underlying111 Tryd.underlying112 Tryd.underlying113 Tryd.underlying114 Tryd.underlying115 Tryd.underlying116 Tryd.underlying117 Tryd.underlying118 Tryd.underlying119
attribute [push_cast] Tryd.underlying120 Tryd.underlying121 Tryd.underlying122 Tryd.underlying123 Tryd.underlying124 Tryd.underlying125 Tryd.underlying126 Tryd.underlying127 Tryd.underlying128 Tryd.underlying129 Tryd.underlying130 Tryd.underlying131 Tryd.underlying132 Tryd.underlying133 Tryd.underlying134 Tryd.underlying135 Tryd.underlying136 Tryd.underlying137 Tryd.underlying138 Tryd.underlying139
attribute [push_cast] Tryd.underlying140 Tryd.underlying141 Tryd.underlying142 Tryd.underlying143 Tryd.underlying144 Tryd.underlying145 Tryd.underlying146 Tryd.underlying147 Tryd.underlying148 Tryd.underlying149 Tryd.underlying150 Tryd.underlying151 Tryd.underlying152 Tryd.underlying153 Tryd.underlying154 Tryd.underlying155 Tryd.underlying156 Tryd.underlying157 Tryd.underlying158 Tryd.underlying159
attribute [push_cast] Tryd.underlying160 Tryd.underlying161
end Go.Proofs.YtlamgjbngblefaaDoor.Dm
