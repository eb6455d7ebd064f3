/-
  What the machine of XDm asks of this seat's types: sizes, zero values, places of fields. By program (wip/tools/types.py).
-/
import Derived.Test.YteffefjkcappbaaDoorEnv
namespace Go.Proofs.YteffefjkcappbaaDoor.Dm
open Go
@[push_cast] theorem E_P : E.P = Tryd.prog := rfl
@[push_cast] theorem E_G (g : Nat) : E.G g = none := rfl
@[push_cast] theorem sz0 : sizeT Tryd.prog 0 = some 1 := by kernel_rfl
@[push_cast] theorem ag0 : aggT Tryd.prog 0 = some false := by kernel_rfl
@[push_cast] theorem by0 : bytesT Tryd.prog 0 = 0 := by kernel_rfl
@[push_cast] theorem sz1 : sizeT Tryd.prog 1 = some 1 := by kernel_rfl
@[push_cast] theorem ag1 : aggT Tryd.prog 1 = some false := by kernel_rfl
@[push_cast] theorem ze1 : zeroT Tryd.prog 1 = some (.nilf) := by kernel_rfl
@[push_cast] theorem by1 : bytesT Tryd.prog 1 = 8 := by kernel_rfl
@[push_cast] theorem sz2 : sizeT Tryd.prog 2 = some 1 := by kernel_rfl
@[push_cast] theorem ag2 : aggT Tryd.prog 2 = some false := by kernel_rfl
@[push_cast] theorem ze2 : zeroT Tryd.prog 2 = some (.int .i64 0) := by kernel_rfl
@[push_cast] theorem by2 : bytesT Tryd.prog 2 = 8 := by kernel_rfl
@[push_cast] theorem sz3 : sizeT Tryd.prog 3 = some 1 := by kernel_rfl
@[push_cast] theorem ag3 : aggT Tryd.prog 3 = some false := by kernel_rfl
@[push_cast] theorem ze3 : zeroT Tryd.prog 3 = some (.int .i64 0) := by kernel_rfl
@[push_cast] theorem by3 : bytesT Tryd.prog 3 = 8 := by kernel_rfl
@[push_cast] theorem sz4 : sizeT Tryd.prog 4 = some 1 := by kernel_rfl
@[push_cast] theorem ag4 : aggT Tryd.prog 4 = some false := by kernel_rfl
@[push_cast] theorem ze4 : zeroT Tryd.prog 4 = some (.bool false) := by kernel_rfl
@[push_cast] theorem by4 : bytesT Tryd.prog 4 = 1 := by kernel_rfl
@[push_cast] theorem sz5 : sizeT Tryd.prog 5 = some 1 := by kernel_rfl
@[push_cast] theorem ag5 : aggT Tryd.prog 5 = some false := by kernel_rfl
@[push_cast] theorem ze5 : zeroT Tryd.prog 5 = some (.int .u8 0) := by kernel_rfl
@[push_cast] theorem by5 : bytesT Tryd.prog 5 = 1 := by kernel_rfl
@[push_cast] theorem sz6 : sizeT Tryd.prog 6 = some 1 := by kernel_rfl
@[push_cast] theorem ag6 : aggT Tryd.prog 6 = some false := by kernel_rfl
@[push_cast] theorem ze6 : zeroT Tryd.prog 6 = some (.int .u8 0) := by kernel_rfl
@[push_cast] theorem by6 : bytesT Tryd.prog 6 = 1 := by kernel_rfl
@[push_cast] theorem sz7 : sizeT Tryd.prog 7 = some 4 := by kernel_rfl
@[push_cast] theorem ag7 : aggT Tryd.prog 7 = some true := by kernel_rfl
@[push_cast] theorem ze7 : zeroT Tryd.prog 7 = some (.agg [.int .i64 0, .int .i64 0, .bool false, .int .u8 0]) := by kernel_rfl
@[push_cast] theorem by7 : bytesT Tryd.prog 7 = 24 := by kernel_rfl
@[push_cast] theorem fn7x0 : fieldN Tryd.prog 7 0 = some (2, 0) := by kernel_rfl
@[push_cast] theorem fn7x1 : fieldN Tryd.prog 7 1 = some (3, 1) := by kernel_rfl
@[push_cast] theorem fn7x2 : fieldN Tryd.prog 7 2 = some (4, 2) := by kernel_rfl
@[push_cast] theorem fn7x3 : fieldN Tryd.prog 7 3 = some (6, 3) := by kernel_rfl
@[push_cast] theorem pl7 : placesT Tryd.prog 7 = some [(0, 1), (1, 1), (2, 1), (3, 1)] := by kernel_rfl
@[push_cast] theorem pe7 : plainEqT Tryd.prog 7 = true := by kernel_rfl
@[push_cast] theorem sh7 : Program.stoodInHeld Tryd.prog 7 = false := by kernel_rfl
@[push_cast] theorem sz8 : sizeT Tryd.prog 8 = some 4 := by kernel_rfl
@[push_cast] theorem ag8 : aggT Tryd.prog 8 = some true := by kernel_rfl
@[push_cast] theorem ze8 : zeroT Tryd.prog 8 = some (.agg [.int .i64 0, .int .i64 0, .bool false, .int .u8 0]) := by kernel_rfl
@[push_cast] theorem by8 : bytesT Tryd.prog 8 = 24 := by kernel_rfl
@[push_cast] theorem fn8x0 : fieldN Tryd.prog 8 0 = some (2, 0) := by kernel_rfl
@[push_cast] theorem fn8x1 : fieldN Tryd.prog 8 1 = some (3, 1) := by kernel_rfl
@[push_cast] theorem fn8x2 : fieldN Tryd.prog 8 2 = some (4, 2) := by kernel_rfl
@[push_cast] theorem fn8x3 : fieldN Tryd.prog 8 3 = some (6, 3) := by kernel_rfl
@[push_cast] theorem pl8 : placesT Tryd.prog 8 = some [(0, 1), (1, 1), (2, 1), (3, 1)] := by kernel_rfl
@[push_cast] theorem pe8 : plainEqT Tryd.prog 8 = true := by kernel_rfl
@[push_cast] theorem sh8 : Program.stoodInHeld Tryd.prog 8 = false := by kernel_rfl
@[push_cast] theorem sz9 : sizeT Tryd.prog 9 = some 1 := by kernel_rfl
@[push_cast] theorem ag9 : aggT Tryd.prog 9 = some false := by kernel_rfl
@[push_cast] theorem ze9 : zeroT Tryd.prog 9 = some (.str ⟨#[]⟩) := by kernel_rfl
@[push_cast] theorem by9 : bytesT Tryd.prog 9 = 16 := by kernel_rfl
@[push_cast] theorem sz10 : sizeT Tryd.prog 10 = some 1 := by kernel_rfl
@[push_cast] theorem ag10 : aggT Tryd.prog 10 = some false := by kernel_rfl
@[push_cast] theorem ze10 : zeroT Tryd.prog 10 = some (.str ⟨#[]⟩) := by kernel_rfl
@[push_cast] theorem by10 : bytesT Tryd.prog 10 = 16 := by kernel_rfl
@[push_cast] theorem sz11 : sizeT Tryd.prog 11 = some 1 := by kernel_rfl
@[push_cast] theorem ag11 : aggT Tryd.prog 11 = some false := by kernel_rfl
@[push_cast] theorem ze11 : zeroT Tryd.prog 11 = some (.str ⟨#[]⟩) := by kernel_rfl
@[push_cast] theorem by11 : bytesT Tryd.prog 11 = 16 := by kernel_rfl
@[push_cast] theorem sz12 : sizeT Tryd.prog 12 = some 1 := by kernel_rfl
@[push_cast] theorem ag12 : aggT Tryd.prog 12 = some false := by kernel_rfl
@[push_cast] theorem ze12 : zeroT Tryd.prog 12 = some (.int .u64 0) := by kernel_rfl
@[push_cast] theorem by12 : bytesT Tryd.prog 12 = 8 := by kernel_rfl
@[push_cast] theorem sz13 : sizeT Tryd.prog 13 = some 2 := by kernel_rfl
@[push_cast] theorem ag13 : aggT Tryd.prog 13 = some true := by kernel_rfl
@[push_cast] theorem ze13 : zeroT Tryd.prog 13 = some (.agg [.str ⟨#[]⟩, .int .u64 0]) := by kernel_rfl
@[push_cast] theorem by13 : bytesT Tryd.prog 13 = 24 := by kernel_rfl
@[push_cast] theorem fn13x0 : fieldN Tryd.prog 13 0 = some (9, 0) := by kernel_rfl
@[push_cast] theorem fn13x1 : fieldN Tryd.prog 13 1 = some (12, 1) := by kernel_rfl
@[push_cast] theorem pl13 : placesT Tryd.prog 13 = some [(0, 1), (1, 1)] := by kernel_rfl
@[push_cast] theorem pe13 : plainEqT Tryd.prog 13 = true := by kernel_rfl
@[push_cast] theorem sh13 : Program.stoodInHeld Tryd.prog 13 = true := by kernel_rfl
@[push_cast] theorem sz14 : sizeT Tryd.prog 14 = some 2 := by kernel_rfl
@[push_cast] theorem ag14 : aggT Tryd.prog 14 = some true := by kernel_rfl
@[push_cast] theorem ze14 : zeroT Tryd.prog 14 = some (.agg [.str ⟨#[]⟩, .int .u64 0]) := by kernel_rfl
@[push_cast] theorem by14 : bytesT Tryd.prog 14 = 24 := by kernel_rfl
@[push_cast] theorem fn14x0 : fieldN Tryd.prog 14 0 = some (9, 0) := by kernel_rfl
@[push_cast] theorem fn14x1 : fieldN Tryd.prog 14 1 = some (12, 1) := by kernel_rfl
@[push_cast] theorem pl14 : placesT Tryd.prog 14 = some [(0, 1), (1, 1)] := by kernel_rfl
@[push_cast] theorem pe14 : plainEqT Tryd.prog 14 = true := by kernel_rfl
@[push_cast] theorem sh14 : Program.stoodInHeld Tryd.prog 14 = true := by kernel_rfl
@[push_cast] theorem sz15 : sizeT Tryd.prog 15 = some 1 := by kernel_rfl
@[push_cast] theorem ag15 : aggT Tryd.prog 15 = some false := by kernel_rfl
@[push_cast] theorem ze15 : zeroT Tryd.prog 15 = some (.nilp) := by kernel_rfl
@[push_cast] theorem by15 : bytesT Tryd.prog 15 = 8 := by kernel_rfl
@[push_cast] theorem sz16 : sizeT Tryd.prog 16 = some 1 := by kernel_rfl
@[push_cast] theorem ag16 : aggT Tryd.prog 16 = some false := by kernel_rfl
@[push_cast] theorem ze16 : zeroT Tryd.prog 16 = some (.nilp) := by kernel_rfl
@[push_cast] theorem by16 : bytesT Tryd.prog 16 = 8 := by kernel_rfl
@[push_cast] theorem sz17 : sizeT Tryd.prog 17 = some 1 := by kernel_rfl
@[push_cast] theorem ag17 : aggT Tryd.prog 17 = some false := by kernel_rfl
@[push_cast] theorem ze17 : zeroT Tryd.prog 17 = some (.nilp) := by kernel_rfl
@[push_cast] theorem by17 : bytesT Tryd.prog 17 = 8 := by kernel_rfl
@[push_cast] theorem sz18 : sizeT Tryd.prog 18 = some 1 := by kernel_rfl
@[push_cast] theorem ag18 : aggT Tryd.prog 18 = some true := by kernel_rfl
@[push_cast] theorem ze18 : zeroT Tryd.prog 18 = some (.agg [.nilp]) := by kernel_rfl
@[push_cast] theorem by18 : bytesT Tryd.prog 18 = 8 := by kernel_rfl
@[push_cast] theorem fn18x0 : fieldN Tryd.prog 18 0 = some (17, 0) := by kernel_rfl
@[push_cast] theorem pl18 : placesT Tryd.prog 18 = some [(0, 1)] := by kernel_rfl
@[push_cast] theorem pe18 : plainEqT Tryd.prog 18 = true := by kernel_rfl
@[push_cast] theorem sh18 : Program.stoodInHeld Tryd.prog 18 = true := by kernel_rfl
@[push_cast] theorem sz19 : sizeT Tryd.prog 19 = some 1 := by kernel_rfl
@[push_cast] theorem ag19 : aggT Tryd.prog 19 = some true := by kernel_rfl
@[push_cast] theorem ze19 : zeroT Tryd.prog 19 = some (.agg [.nilp]) := by kernel_rfl
@[push_cast] theorem by19 : bytesT Tryd.prog 19 = 8 := by kernel_rfl
@[push_cast] theorem fn19x0 : fieldN Tryd.prog 19 0 = some (17, 0) := by kernel_rfl
@[push_cast] theorem pl19 : placesT Tryd.prog 19 = some [(0, 1)] := by kernel_rfl
@[push_cast] theorem pe19 : plainEqT Tryd.prog 19 = true := by kernel_rfl
@[push_cast] theorem sh19 : Program.stoodInHeld Tryd.prog 19 = true := by kernel_rfl
@[push_cast] theorem sz20 : sizeT Tryd.prog 20 = some 1 := by kernel_rfl
@[push_cast] theorem ag20 : aggT Tryd.prog 20 = some false := by kernel_rfl
@[push_cast] theorem ze20 : zeroT Tryd.prog 20 = some (.nili) := by kernel_rfl
@[push_cast] theorem by20 : bytesT Tryd.prog 20 = 16 := by kernel_rfl
@[push_cast] theorem sz21 : sizeT Tryd.prog 21 = some 1 := by kernel_rfl
@[push_cast] theorem ag21 : aggT Tryd.prog 21 = some false := by kernel_rfl
@[push_cast] theorem ze21 : zeroT Tryd.prog 21 = some (.int .i32 0) := by kernel_rfl
@[push_cast] theorem by21 : bytesT Tryd.prog 21 = 4 := by kernel_rfl
@[push_cast] theorem sz22 : sizeT Tryd.prog 22 = some 1 := by kernel_rfl
@[push_cast] theorem ag22 : aggT Tryd.prog 22 = some false := by kernel_rfl
@[push_cast] theorem ze22 : zeroT Tryd.prog 22 = some (.nils) := by kernel_rfl
@[push_cast] theorem by22 : bytesT Tryd.prog 22 = 24 := by kernel_rfl
@[push_cast] theorem el22 : elemT Tryd.prog 22 = some 82 := by kernel_rfl
@[push_cast] theorem sz23 : sizeT Tryd.prog 23 = some 1 := by kernel_rfl
@[push_cast] theorem ag23 : aggT Tryd.prog 23 = some false := by kernel_rfl
@[push_cast] theorem ze23 : zeroT Tryd.prog 23 = some (.nils) := by kernel_rfl
@[push_cast] theorem by23 : bytesT Tryd.prog 23 = 24 := by kernel_rfl
@[push_cast] theorem el23 : elemT Tryd.prog 23 = some 133 := by kernel_rfl
@[push_cast] theorem sz24 : sizeT Tryd.prog 24 = some 1 := by kernel_rfl
@[push_cast] theorem ag24 : aggT Tryd.prog 24 = some false := by kernel_rfl
@[push_cast] theorem ze24 : zeroT Tryd.prog 24 = some (.nils) := by kernel_rfl
@[push_cast] theorem by24 : bytesT Tryd.prog 24 = 24 := by kernel_rfl
@[push_cast] theorem el24 : elemT Tryd.prog 24 = some 5 := by kernel_rfl
@[push_cast] theorem sz25 : sizeT Tryd.prog 25 = some 1 := by kernel_rfl
@[push_cast] theorem ag25 : aggT Tryd.prog 25 = some false := by kernel_rfl
@[push_cast] theorem ze25 : zeroT Tryd.prog 25 = some (.nils) := by kernel_rfl
@[push_cast] theorem by25 : bytesT Tryd.prog 25 = 24 := by kernel_rfl
@[push_cast] theorem el25 : elemT Tryd.prog 25 = some 116 := by kernel_rfl
@[push_cast] theorem sz26 : sizeT Tryd.prog 26 = some 1 := by kernel_rfl
@[push_cast] theorem ag26 : aggT Tryd.prog 26 = some false := by kernel_rfl
@[push_cast] theorem ze26 : zeroT Tryd.prog 26 = some (.nilf) := by kernel_rfl
@[push_cast] theorem by26 : bytesT Tryd.prog 26 = 8 := by kernel_rfl
@[push_cast] theorem sz27 : sizeT Tryd.prog 27 = some 1 := by kernel_rfl
@[push_cast] theorem ag27 : aggT Tryd.prog 27 = some false := by kernel_rfl
@[push_cast] theorem ze27 : zeroT Tryd.prog 27 = some (.nilf) := by kernel_rfl
@[push_cast] theorem by27 : bytesT Tryd.prog 27 = 8 := by kernel_rfl
@[push_cast] theorem sz28 : sizeT Tryd.prog 28 = some 1 := by kernel_rfl
@[push_cast] theorem ag28 : aggT Tryd.prog 28 = some false := by kernel_rfl
@[push_cast] theorem ze28 : zeroT Tryd.prog 28 = some (.nilf) := by kernel_rfl
@[push_cast] theorem by28 : bytesT Tryd.prog 28 = 8 := by kernel_rfl
@[push_cast] theorem sz29 : sizeT Tryd.prog 29 = some 1 := by kernel_rfl
@[push_cast] theorem ag29 : aggT Tryd.prog 29 = some false := by kernel_rfl
@[push_cast] theorem ze29 : zeroT Tryd.prog 29 = some (.nilp) := by kernel_rfl
@[push_cast] theorem by29 : bytesT Tryd.prog 29 = 8 := by kernel_rfl
@[push_cast] theorem sz30 : sizeT Tryd.prog 30 = some 1 := by kernel_rfl
@[push_cast] theorem ag30 : aggT Tryd.prog 30 = some false := by kernel_rfl
@[push_cast] theorem by30 : bytesT Tryd.prog 30 = 0 := by kernel_rfl
@[push_cast] theorem sz31 : sizeT Tryd.prog 31 = some 1 := by kernel_rfl
@[push_cast] theorem ag31 : aggT Tryd.prog 31 = some false := by kernel_rfl
@[push_cast] theorem ze31 : zeroT Tryd.prog 31 = some (.nilf) := by kernel_rfl
@[push_cast] theorem by31 : bytesT Tryd.prog 31 = 8 := by kernel_rfl
@[push_cast] theorem sz32 : sizeT Tryd.prog 32 = some 1 := by kernel_rfl
@[push_cast] theorem ag32 : aggT Tryd.prog 32 = some false := by kernel_rfl
@[push_cast] theorem ze32 : zeroT Tryd.prog 32 = some (.nilf) := by kernel_rfl
@[push_cast] theorem by32 : bytesT Tryd.prog 32 = 8 := by kernel_rfl
@[push_cast] theorem sz33 : sizeT Tryd.prog 33 = some 1 := by kernel_rfl
@[push_cast] theorem ag33 : aggT Tryd.prog 33 = some false := by kernel_rfl
@[push_cast] theorem ze33 : zeroT Tryd.prog 33 = some (.nils) := by kernel_rfl
@[push_cast] theorem by33 : bytesT Tryd.prog 33 = 24 := by kernel_rfl
@[push_cast] theorem el33 : elemT Tryd.prog 33 = some 84 := by kernel_rfl
@[push_cast] theorem sz34 : sizeT Tryd.prog 34 = some 1 := by kernel_rfl
@[push_cast] theorem ag34 : aggT Tryd.prog 34 = some false := by kernel_rfl
@[push_cast] theorem ze34 : zeroT Tryd.prog 34 = some (.nilf) := by kernel_rfl
@[push_cast] theorem by34 : bytesT Tryd.prog 34 = 8 := by kernel_rfl
@[push_cast] theorem sz35 : sizeT Tryd.prog 35 = some 1 := by kernel_rfl
@[push_cast] theorem ag35 : aggT Tryd.prog 35 = some false := by kernel_rfl
@[push_cast] theorem ze35 : zeroT Tryd.prog 35 = some (.nilf) := by kernel_rfl
@[push_cast] theorem by35 : bytesT Tryd.prog 35 = 8 := by kernel_rfl
@[push_cast] theorem sz36 : sizeT Tryd.prog 36 = some 1 := by kernel_rfl
@[push_cast] theorem ag36 : aggT Tryd.prog 36 = some false := by kernel_rfl
@[push_cast] theorem ze36 : zeroT Tryd.prog 36 = some (.nilf) := by kernel_rfl
@[push_cast] theorem by36 : bytesT Tryd.prog 36 = 8 := by kernel_rfl
@[push_cast] theorem sz37 : sizeT Tryd.prog 37 = some 1 := by kernel_rfl
@[push_cast] theorem ag37 : aggT Tryd.prog 37 = some false := by kernel_rfl
@[push_cast] theorem ze37 : zeroT Tryd.prog 37 = some (.nils) := by kernel_rfl
@[push_cast] theorem by37 : bytesT Tryd.prog 37 = 24 := by kernel_rfl
@[push_cast] theorem el37 : elemT Tryd.prog 37 = some 45 := by kernel_rfl
@[push_cast] theorem sz38 : sizeT Tryd.prog 38 = some 1 := by kernel_rfl
@[push_cast] theorem ag38 : aggT Tryd.prog 38 = some false := by kernel_rfl
@[push_cast] theorem ze38 : zeroT Tryd.prog 38 = some (.nils) := by kernel_rfl
@[push_cast] theorem by38 : bytesT Tryd.prog 38 = 24 := by kernel_rfl
@[push_cast] theorem el38 : elemT Tryd.prog 38 = some 149 := by kernel_rfl
@[push_cast] theorem sz39 : sizeT Tryd.prog 39 = some 1 := by kernel_rfl
@[push_cast] theorem ag39 : aggT Tryd.prog 39 = some false := by kernel_rfl
@[push_cast] theorem ze39 : zeroT Tryd.prog 39 = some (.nils) := by kernel_rfl
@[push_cast] theorem by39 : bytesT Tryd.prog 39 = 24 := by kernel_rfl
@[push_cast] theorem el39 : elemT Tryd.prog 39 = some 159 := by kernel_rfl
@[push_cast] theorem sz40 : sizeT Tryd.prog 40 = some 3 := by kernel_rfl
@[push_cast] theorem ag40 : aggT Tryd.prog 40 = some true := by kernel_rfl
@[push_cast] theorem ze40 : zeroT Tryd.prog 40 = some (.agg [.str ⟨#[]⟩, .str ⟨#[]⟩, .str ⟨#[]⟩]) := by kernel_rfl
@[push_cast] theorem by40 : bytesT Tryd.prog 40 = 48 := by kernel_rfl
@[push_cast] theorem fn40x0 : fieldN Tryd.prog 40 0 = some (9, 0) := by kernel_rfl
@[push_cast] theorem fn40x1 : fieldN Tryd.prog 40 1 = some (9, 1) := by kernel_rfl
@[push_cast] theorem fn40x2 : fieldN Tryd.prog 40 2 = some (9, 2) := by kernel_rfl
@[push_cast] theorem pl40 : placesT Tryd.prog 40 = some [(0, 1), (1, 1), (2, 1)] := by kernel_rfl
@[push_cast] theorem pe40 : plainEqT Tryd.prog 40 = true := by kernel_rfl
@[push_cast] theorem sh40 : Program.stoodInHeld Tryd.prog 40 = false := by kernel_rfl
@[push_cast] theorem sz41 : sizeT Tryd.prog 41 = some 3 := by kernel_rfl
@[push_cast] theorem ag41 : aggT Tryd.prog 41 = some true := by kernel_rfl
@[push_cast] theorem ze41 : zeroT Tryd.prog 41 = some (.agg [.str ⟨#[]⟩, .str ⟨#[]⟩, .str ⟨#[]⟩]) := by kernel_rfl
@[push_cast] theorem by41 : bytesT Tryd.prog 41 = 48 := by kernel_rfl
@[push_cast] theorem fn41x0 : fieldN Tryd.prog 41 0 = some (9, 0) := by kernel_rfl
@[push_cast] theorem fn41x1 : fieldN Tryd.prog 41 1 = some (9, 1) := by kernel_rfl
@[push_cast] theorem fn41x2 : fieldN Tryd.prog 41 2 = some (9, 2) := by kernel_rfl
@[push_cast] theorem pl41 : placesT Tryd.prog 41 = some [(0, 1), (1, 1), (2, 1)] := by kernel_rfl
@[push_cast] theorem pe41 : plainEqT Tryd.prog 41 = true := by kernel_rfl
@[push_cast] theorem sh41 : Program.stoodInHeld Tryd.prog 41 = false := by kernel_rfl
@[push_cast] theorem sz42 : sizeT Tryd.prog 42 = some 1 := by kernel_rfl
@[push_cast] theorem ag42 : aggT Tryd.prog 42 = some false := by kernel_rfl
@[push_cast] theorem ze42 : zeroT Tryd.prog 42 = some (.nils) := by kernel_rfl
@[push_cast] theorem by42 : bytesT Tryd.prog 42 = 24 := by kernel_rfl
@[push_cast] theorem el42 : elemT Tryd.prog 42 = some 156 := by kernel_rfl
@[push_cast] theorem sz43 : sizeT Tryd.prog 43 = some 1 := by kernel_rfl
@[push_cast] theorem ag43 : aggT Tryd.prog 43 = some false := by kernel_rfl
@[push_cast] theorem ze43 : zeroT Tryd.prog 43 = some (.nils) := by kernel_rfl
@[push_cast] theorem by43 : bytesT Tryd.prog 43 = 24 := by kernel_rfl
@[push_cast] theorem el43 : elemT Tryd.prog 43 = some 233 := by kernel_rfl
@[push_cast] theorem sz44 : sizeT Tryd.prog 44 = some 10 := by kernel_rfl
@[push_cast] theorem ag44 : aggT Tryd.prog 44 = some true := by kernel_rfl
@[push_cast] theorem ze44 : zeroT Tryd.prog 44 = some (.agg [.int .i64 0, .str ⟨#[]⟩, .str ⟨#[]⟩, .str ⟨#[]⟩, .str ⟨#[]⟩, .nils, .int .i64 0, .nils, .int .i64 0, .int .i64 0]) := by kernel_rfl
@[push_cast] theorem by44 : bytesT Tryd.prog 44 = 144 := by kernel_rfl
@[push_cast] theorem fn44x0 : fieldN Tryd.prog 44 0 = some (3, 0) := by kernel_rfl
@[push_cast] theorem fn44x1 : fieldN Tryd.prog 44 1 = some (9, 1) := by kernel_rfl
@[push_cast] theorem fn44x2 : fieldN Tryd.prog 44 2 = some (41, 2) := by kernel_rfl
@[push_cast] theorem fn44x3 : fieldN Tryd.prog 44 3 = some (42, 5) := by kernel_rfl
@[push_cast] theorem fn44x4 : fieldN Tryd.prog 44 4 = some (3, 6) := by kernel_rfl
@[push_cast] theorem fn44x5 : fieldN Tryd.prog 44 5 = some (43, 7) := by kernel_rfl
@[push_cast] theorem fn44x6 : fieldN Tryd.prog 44 6 = some (3, 8) := by kernel_rfl
@[push_cast] theorem fn44x7 : fieldN Tryd.prog 44 7 = some (3, 9) := by kernel_rfl
@[push_cast] theorem pl44 : placesT Tryd.prog 44 = some [(0, 1), (1, 1), (2, 3), (5, 1), (6, 1), (7, 1), (8, 1), (9, 1)] := by kernel_rfl
@[push_cast] theorem pe44 : plainEqT Tryd.prog 44 = true := by kernel_rfl
@[push_cast] theorem sh44 : Program.stoodInHeld Tryd.prog 44 = false := by kernel_rfl
@[push_cast] theorem sz45 : sizeT Tryd.prog 45 = some 10 := by kernel_rfl
@[push_cast] theorem ag45 : aggT Tryd.prog 45 = some true := by kernel_rfl
@[push_cast] theorem ze45 : zeroT Tryd.prog 45 = some (.agg [.int .i64 0, .str ⟨#[]⟩, .str ⟨#[]⟩, .str ⟨#[]⟩, .str ⟨#[]⟩, .nils, .int .i64 0, .nils, .int .i64 0, .int .i64 0]) := by kernel_rfl
@[push_cast] theorem by45 : bytesT Tryd.prog 45 = 144 := by kernel_rfl
@[push_cast] theorem fn45x0 : fieldN Tryd.prog 45 0 = some (3, 0) := by kernel_rfl
@[push_cast] theorem fn45x1 : fieldN Tryd.prog 45 1 = some (9, 1) := by kernel_rfl
@[push_cast] theorem fn45x2 : fieldN Tryd.prog 45 2 = some (41, 2) := by kernel_rfl
@[push_cast] theorem fn45x3 : fieldN Tryd.prog 45 3 = some (42, 5) := by kernel_rfl
@[push_cast] theorem fn45x4 : fieldN Tryd.prog 45 4 = some (3, 6) := by kernel_rfl
@[push_cast] theorem fn45x5 : fieldN Tryd.prog 45 5 = some (43, 7) := by kernel_rfl
@[push_cast] theorem fn45x6 : fieldN Tryd.prog 45 6 = some (3, 8) := by kernel_rfl
@[push_cast] theorem fn45x7 : fieldN Tryd.prog 45 7 = some (3, 9) := by kernel_rfl
@[push_cast] theorem pl45 : placesT Tryd.prog 45 = some [(0, 1), (1, 1), (2, 3), (5, 1), (6, 1), (7, 1), (8, 1), (9, 1)] := by kernel_rfl
@[push_cast] theorem pe45 : plainEqT Tryd.prog 45 = true := by kernel_rfl
@[push_cast] theorem sh45 : Program.stoodInHeld Tryd.prog 45 = false := by kernel_rfl
@[push_cast] theorem sz46 : sizeT Tryd.prog 46 = some 1 := by kernel_rfl
@[push_cast] theorem ag46 : aggT Tryd.prog 46 = some false := by kernel_rfl
@[push_cast] theorem ze46 : zeroT Tryd.prog 46 = some (.nilf) := by kernel_rfl
@[push_cast] theorem by46 : bytesT Tryd.prog 46 = 8 := by kernel_rfl
@[push_cast] theorem sz47 : sizeT Tryd.prog 47 = some 1 := by kernel_rfl
@[push_cast] theorem ag47 : aggT Tryd.prog 47 = some false := by kernel_rfl
@[push_cast] theorem ze47 : zeroT Tryd.prog 47 = some (.nils) := by kernel_rfl
@[push_cast] theorem by47 : bytesT Tryd.prog 47 = 24 := by kernel_rfl
@[push_cast] theorem el47 : elemT Tryd.prog 47 = some 142 := by kernel_rfl
@[push_cast] theorem sz48 : sizeT Tryd.prog 48 = some 1 := by kernel_rfl
@[push_cast] theorem ag48 : aggT Tryd.prog 48 = some false := by kernel_rfl
@[push_cast] theorem ze48 : zeroT Tryd.prog 48 = some (.nilf) := by kernel_rfl
@[push_cast] theorem by48 : bytesT Tryd.prog 48 = 8 := by kernel_rfl
@[push_cast] theorem sz49 : sizeT Tryd.prog 49 = some 1 := by kernel_rfl
@[push_cast] theorem ag49 : aggT Tryd.prog 49 = some false := by kernel_rfl
@[push_cast] theorem ze49 : zeroT Tryd.prog 49 = some (.nilf) := by kernel_rfl
@[push_cast] theorem by49 : bytesT Tryd.prog 49 = 8 := by kernel_rfl
@[push_cast] theorem sz50 : sizeT Tryd.prog 50 = some 5 := by kernel_rfl
@[push_cast] theorem ag50 : aggT Tryd.prog 50 = some true := by kernel_rfl
@[push_cast] theorem ze50 : zeroT Tryd.prog 50 = some (.agg [.int .i64 0, .nils, .str ⟨#[]⟩, .int .i64 0, .int .i64 0]) := by kernel_rfl
@[push_cast] theorem by50 : bytesT Tryd.prog 50 = 64 := by kernel_rfl
@[push_cast] theorem fn50x0 : fieldN Tryd.prog 50 0 = some (3, 0) := by kernel_rfl
@[push_cast] theorem fn50x1 : fieldN Tryd.prog 50 1 = some (33, 1) := by kernel_rfl
@[push_cast] theorem fn50x2 : fieldN Tryd.prog 50 2 = some (9, 2) := by kernel_rfl
@[push_cast] theorem fn50x3 : fieldN Tryd.prog 50 3 = some (3, 3) := by kernel_rfl
@[push_cast] theorem fn50x4 : fieldN Tryd.prog 50 4 = some (3, 4) := by kernel_rfl
@[push_cast] theorem pl50 : placesT Tryd.prog 50 = some [(0, 1), (1, 1), (2, 1), (3, 1), (4, 1)] := by kernel_rfl
@[push_cast] theorem pe50 : plainEqT Tryd.prog 50 = true := by kernel_rfl
@[push_cast] theorem sh50 : Program.stoodInHeld Tryd.prog 50 = false := by kernel_rfl
@[push_cast] theorem sz51 : sizeT Tryd.prog 51 = some 5 := by kernel_rfl
@[push_cast] theorem ag51 : aggT Tryd.prog 51 = some true := by kernel_rfl
@[push_cast] theorem ze51 : zeroT Tryd.prog 51 = some (.agg [.int .i64 0, .nils, .str ⟨#[]⟩, .int .i64 0, .int .i64 0]) := by kernel_rfl
@[push_cast] theorem by51 : bytesT Tryd.prog 51 = 64 := by kernel_rfl
@[push_cast] theorem fn51x0 : fieldN Tryd.prog 51 0 = some (3, 0) := by kernel_rfl
@[push_cast] theorem fn51x1 : fieldN Tryd.prog 51 1 = some (33, 1) := by kernel_rfl
@[push_cast] theorem fn51x2 : fieldN Tryd.prog 51 2 = some (9, 2) := by kernel_rfl
@[push_cast] theorem fn51x3 : fieldN Tryd.prog 51 3 = some (3, 3) := by kernel_rfl
@[push_cast] theorem fn51x4 : fieldN Tryd.prog 51 4 = some (3, 4) := by kernel_rfl
@[push_cast] theorem pl51 : placesT Tryd.prog 51 = some [(0, 1), (1, 1), (2, 1), (3, 1), (4, 1)] := by kernel_rfl
@[push_cast] theorem pe51 : plainEqT Tryd.prog 51 = true := by kernel_rfl
@[push_cast] theorem sh51 : Program.stoodInHeld Tryd.prog 51 = false := by kernel_rfl
@[push_cast] theorem sz52 : sizeT Tryd.prog 52 = some 1 := by kernel_rfl
@[push_cast] theorem ag52 : aggT Tryd.prog 52 = some false := by kernel_rfl
@[push_cast] theorem by52 : bytesT Tryd.prog 52 = 0 := by kernel_rfl
@[push_cast] theorem sz53 : sizeT Tryd.prog 53 = some 1 := by kernel_rfl
@[push_cast] theorem ag53 : aggT Tryd.prog 53 = some false := by kernel_rfl
@[push_cast] theorem ze53 : zeroT Tryd.prog 53 = some (.nilf) := by kernel_rfl
@[push_cast] theorem by53 : bytesT Tryd.prog 53 = 8 := by kernel_rfl
@[push_cast] theorem sz54 : sizeT Tryd.prog 54 = some 1 := by kernel_rfl
@[push_cast] theorem ag54 : aggT Tryd.prog 54 = some false := by kernel_rfl
@[push_cast] theorem ze54 : zeroT Tryd.prog 54 = some (.nilp) := by kernel_rfl
@[push_cast] theorem by54 : bytesT Tryd.prog 54 = 8 := by kernel_rfl
@[push_cast] theorem sz55 : sizeT Tryd.prog 55 = some 1 := by kernel_rfl
@[push_cast] theorem ag55 : aggT Tryd.prog 55 = some false := by kernel_rfl
@[push_cast] theorem ze55 : zeroT Tryd.prog 55 = some (.nils) := by kernel_rfl
@[push_cast] theorem by55 : bytesT Tryd.prog 55 = 24 := by kernel_rfl
@[push_cast] theorem el55 : elemT Tryd.prog 55 = some 63 := by kernel_rfl
@[push_cast] theorem sz56 : sizeT Tryd.prog 56 = some 1 := by kernel_rfl
@[push_cast] theorem ag56 : aggT Tryd.prog 56 = some false := by kernel_rfl
@[push_cast] theorem ze56 : zeroT Tryd.prog 56 = some (.nilf) := by kernel_rfl
@[push_cast] theorem by56 : bytesT Tryd.prog 56 = 8 := by kernel_rfl
@[push_cast] theorem sz57 : sizeT Tryd.prog 57 = some 1 := by kernel_rfl
@[push_cast] theorem ag57 : aggT Tryd.prog 57 = some false := by kernel_rfl
@[push_cast] theorem ze57 : zeroT Tryd.prog 57 = some (.nilf) := by kernel_rfl
@[push_cast] theorem by57 : bytesT Tryd.prog 57 = 8 := by kernel_rfl
@[push_cast] theorem sz58 : sizeT Tryd.prog 58 = some 3 := by kernel_rfl
@[push_cast] theorem ag58 : aggT Tryd.prog 58 = some true := by kernel_rfl
@[push_cast] theorem ze58 : zeroT Tryd.prog 58 = some (.agg [.nils, .nilf, .nilf]) := by kernel_rfl
@[push_cast] theorem by58 : bytesT Tryd.prog 58 = 40 := by kernel_rfl
@[push_cast] theorem fn58x0 : fieldN Tryd.prog 58 0 = some (55, 0) := by kernel_rfl
@[push_cast] theorem fn58x1 : fieldN Tryd.prog 58 1 = some (56, 1) := by kernel_rfl
@[push_cast] theorem fn58x2 : fieldN Tryd.prog 58 2 = some (57, 2) := by kernel_rfl
@[push_cast] theorem pl58 : placesT Tryd.prog 58 = some [(0, 1), (1, 1), (2, 1)] := by kernel_rfl
@[push_cast] theorem pe58 : plainEqT Tryd.prog 58 = true := by kernel_rfl
@[push_cast] theorem sh58 : Program.stoodInHeld Tryd.prog 58 = false := by kernel_rfl
@[push_cast] theorem sz59 : sizeT Tryd.prog 59 = some 3 := by kernel_rfl
@[push_cast] theorem ag59 : aggT Tryd.prog 59 = some true := by kernel_rfl
@[push_cast] theorem ze59 : zeroT Tryd.prog 59 = some (.agg [.nils, .nilf, .nilf]) := by kernel_rfl
@[push_cast] theorem by59 : bytesT Tryd.prog 59 = 40 := by kernel_rfl
@[push_cast] theorem fn59x0 : fieldN Tryd.prog 59 0 = some (55, 0) := by kernel_rfl
@[push_cast] theorem fn59x1 : fieldN Tryd.prog 59 1 = some (56, 1) := by kernel_rfl
@[push_cast] theorem fn59x2 : fieldN Tryd.prog 59 2 = some (57, 2) := by kernel_rfl
@[push_cast] theorem pl59 : placesT Tryd.prog 59 = some [(0, 1), (1, 1), (2, 1)] := by kernel_rfl
@[push_cast] theorem pe59 : plainEqT Tryd.prog 59 = true := by kernel_rfl
@[push_cast] theorem sh59 : Program.stoodInHeld Tryd.prog 59 = false := by kernel_rfl
@[push_cast] theorem sz60 : sizeT Tryd.prog 60 = some 4 := by kernel_rfl
@[push_cast] theorem ag60 : aggT Tryd.prog 60 = some true := by kernel_rfl
@[push_cast] theorem ze60 : zeroT Tryd.prog 60 = some (.agg [.nils, .nilf, .nilf, .bool false]) := by kernel_rfl
@[push_cast] theorem by60 : bytesT Tryd.prog 60 = 48 := by kernel_rfl
@[push_cast] theorem fn60x0 : fieldN Tryd.prog 60 0 = some (59, 0) := by kernel_rfl
@[push_cast] theorem fn60x1 : fieldN Tryd.prog 60 1 = some (4, 3) := by kernel_rfl
@[push_cast] theorem pl60 : placesT Tryd.prog 60 = some [(0, 3), (3, 1)] := by kernel_rfl
@[push_cast] theorem pe60 : plainEqT Tryd.prog 60 = true := by kernel_rfl
@[push_cast] theorem sh60 : Program.stoodInHeld Tryd.prog 60 = false := by kernel_rfl
@[push_cast] theorem sz61 : sizeT Tryd.prog 61 = some 4 := by kernel_rfl
@[push_cast] theorem ag61 : aggT Tryd.prog 61 = some true := by kernel_rfl
@[push_cast] theorem ze61 : zeroT Tryd.prog 61 = some (.agg [.nils, .nilf, .nilf, .bool false]) := by kernel_rfl
@[push_cast] theorem by61 : bytesT Tryd.prog 61 = 48 := by kernel_rfl
@[push_cast] theorem fn61x0 : fieldN Tryd.prog 61 0 = some (59, 0) := by kernel_rfl
@[push_cast] theorem fn61x1 : fieldN Tryd.prog 61 1 = some (4, 3) := by kernel_rfl
@[push_cast] theorem pl61 : placesT Tryd.prog 61 = some [(0, 3), (3, 1)] := by kernel_rfl
@[push_cast] theorem pe61 : plainEqT Tryd.prog 61 = true := by kernel_rfl
@[push_cast] theorem sh61 : Program.stoodInHeld Tryd.prog 61 = false := by kernel_rfl
@[push_cast] theorem sz62 : sizeT Tryd.prog 62 = some 1 := by kernel_rfl
@[push_cast] theorem ag62 : aggT Tryd.prog 62 = some false := by kernel_rfl
@[push_cast] theorem ze62 : zeroT Tryd.prog 62 = some (.nils) := by kernel_rfl
@[push_cast] theorem by62 : bytesT Tryd.prog 62 = 24 := by kernel_rfl
@[push_cast] theorem el62 : elemT Tryd.prog 62 = some 54 := by kernel_rfl
@[push_cast] theorem sz63 : sizeT Tryd.prog 63 = some 5 := by kernel_rfl
@[push_cast] theorem ag63 : aggT Tryd.prog 63 = some true := by kernel_rfl
@[push_cast] theorem ze63 : zeroT Tryd.prog 63 = some (.agg [.int .i64 0, .nils, .str ⟨#[]⟩, .int .i64 0, .int .i64 0]) := by kernel_rfl
@[push_cast] theorem by63 : bytesT Tryd.prog 63 = 64 := by kernel_rfl
@[push_cast] theorem fn63x0 : fieldN Tryd.prog 63 0 = some (3, 0) := by kernel_rfl
@[push_cast] theorem fn63x1 : fieldN Tryd.prog 63 1 = some (33, 1) := by kernel_rfl
@[push_cast] theorem fn63x2 : fieldN Tryd.prog 63 2 = some (9, 2) := by kernel_rfl
@[push_cast] theorem fn63x3 : fieldN Tryd.prog 63 3 = some (3, 3) := by kernel_rfl
@[push_cast] theorem fn63x4 : fieldN Tryd.prog 63 4 = some (3, 4) := by kernel_rfl
@[push_cast] theorem pl63 : placesT Tryd.prog 63 = some [(0, 1), (1, 1), (2, 1), (3, 1), (4, 1)] := by kernel_rfl
@[push_cast] theorem pe63 : plainEqT Tryd.prog 63 = true := by kernel_rfl
@[push_cast] theorem sh63 : Program.stoodInHeld Tryd.prog 63 = false := by kernel_rfl
@[push_cast] theorem sz64 : sizeT Tryd.prog 64 = some 1 := by kernel_rfl
@[push_cast] theorem ag64 : aggT Tryd.prog 64 = some false := by kernel_rfl
@[push_cast] theorem ze64 : zeroT Tryd.prog 64 = some (.int .i64 0) := by kernel_rfl
@[push_cast] theorem by64 : bytesT Tryd.prog 64 = 8 := by kernel_rfl
@[push_cast] theorem sz65 : sizeT Tryd.prog 65 = some 1 := by kernel_rfl
@[push_cast] theorem ag65 : aggT Tryd.prog 65 = some false := by kernel_rfl
@[push_cast] theorem by65 : bytesT Tryd.prog 65 = 0 := by kernel_rfl
@[push_cast] theorem sz66 : sizeT Tryd.prog 66 = some 1 := by kernel_rfl
@[push_cast] theorem ag66 : aggT Tryd.prog 66 = some false := by kernel_rfl
@[push_cast] theorem ze66 : zeroT Tryd.prog 66 = some (.nilf) := by kernel_rfl
@[push_cast] theorem by66 : bytesT Tryd.prog 66 = 8 := by kernel_rfl
@[push_cast] theorem sz67 : sizeT Tryd.prog 67 = some 1 := by kernel_rfl
@[push_cast] theorem ag67 : aggT Tryd.prog 67 = some false := by kernel_rfl
@[push_cast] theorem by67 : bytesT Tryd.prog 67 = 0 := by kernel_rfl
@[push_cast] theorem sz68 : sizeT Tryd.prog 68 = some 1 := by kernel_rfl
@[push_cast] theorem ag68 : aggT Tryd.prog 68 = some false := by kernel_rfl
@[push_cast] theorem ze68 : zeroT Tryd.prog 68 = some (.nilf) := by kernel_rfl
@[push_cast] theorem by68 : bytesT Tryd.prog 68 = 8 := by kernel_rfl
@[push_cast] theorem sz69 : sizeT Tryd.prog 69 = some 1 := by kernel_rfl
@[push_cast] theorem ag69 : aggT Tryd.prog 69 = some false := by kernel_rfl
@[push_cast] theorem ze69 : zeroT Tryd.prog 69 = some (.nilf) := by kernel_rfl
@[push_cast] theorem by69 : bytesT Tryd.prog 69 = 8 := by kernel_rfl
@[push_cast] theorem sz70 : sizeT Tryd.prog 70 = some 1 := by kernel_rfl
@[push_cast] theorem ag70 : aggT Tryd.prog 70 = some false := by kernel_rfl
@[push_cast] theorem ze70 : zeroT Tryd.prog 70 = some (.nilf) := by kernel_rfl
@[push_cast] theorem by70 : bytesT Tryd.prog 70 = 8 := by kernel_rfl
@[push_cast] theorem sz71 : sizeT Tryd.prog 71 = some 1 := by kernel_rfl
@[push_cast] theorem ag71 : aggT Tryd.prog 71 = some false := by kernel_rfl
@[push_cast] theorem ze71 : zeroT Tryd.prog 71 = some (.nilf) := by kernel_rfl
@[push_cast] theorem by71 : bytesT Tryd.prog 71 = 8 := by kernel_rfl
@[push_cast] theorem sz72 : sizeT Tryd.prog 72 = some 1 := by kernel_rfl
@[push_cast] theorem ag72 : aggT Tryd.prog 72 = some false := by kernel_rfl
@[push_cast] theorem ze72 : zeroT Tryd.prog 72 = some (.nilf) := by kernel_rfl
@[push_cast] theorem by72 : bytesT Tryd.prog 72 = 8 := by kernel_rfl
@[push_cast] theorem sz73 : sizeT Tryd.prog 73 = some 1 := by kernel_rfl
@[push_cast] theorem ag73 : aggT Tryd.prog 73 = some false := by kernel_rfl
@[push_cast] theorem ze73 : zeroT Tryd.prog 73 = some (.nilf) := by kernel_rfl
@[push_cast] theorem by73 : bytesT Tryd.prog 73 = 8 := by kernel_rfl
@[push_cast] theorem sz74 : sizeT Tryd.prog 74 = some 1 := by kernel_rfl
@[push_cast] theorem ag74 : aggT Tryd.prog 74 = some false := by kernel_rfl
@[push_cast] theorem ze74 : zeroT Tryd.prog 74 = some (.int .u64 0) := by kernel_rfl
@[push_cast] theorem by74 : bytesT Tryd.prog 74 = 8 := by kernel_rfl
@[push_cast] theorem sz75 : sizeT Tryd.prog 75 = some 2 := by kernel_rfl
@[push_cast] theorem ag75 : aggT Tryd.prog 75 = some true := by kernel_rfl
@[push_cast] theorem ze75 : zeroT Tryd.prog 75 = some (.agg [.str ⟨#[]⟩, .int .i64 0]) := by kernel_rfl
@[push_cast] theorem by75 : bytesT Tryd.prog 75 = 24 := by kernel_rfl
@[push_cast] theorem fn75x0 : fieldN Tryd.prog 75 0 = some (9, 0) := by kernel_rfl
@[push_cast] theorem fn75x1 : fieldN Tryd.prog 75 1 = some (3, 1) := by kernel_rfl
@[push_cast] theorem pl75 : placesT Tryd.prog 75 = some [(0, 1), (1, 1)] := by kernel_rfl
@[push_cast] theorem pe75 : plainEqT Tryd.prog 75 = true := by kernel_rfl
@[push_cast] theorem sh75 : Program.stoodInHeld Tryd.prog 75 = false := by kernel_rfl
@[push_cast] theorem sz76 : sizeT Tryd.prog 76 = some 2 := by kernel_rfl
@[push_cast] theorem ag76 : aggT Tryd.prog 76 = some true := by kernel_rfl
@[push_cast] theorem ze76 : zeroT Tryd.prog 76 = some (.agg [.str ⟨#[]⟩, .int .i64 0]) := by kernel_rfl
@[push_cast] theorem by76 : bytesT Tryd.prog 76 = 24 := by kernel_rfl
@[push_cast] theorem fn76x0 : fieldN Tryd.prog 76 0 = some (9, 0) := by kernel_rfl
@[push_cast] theorem fn76x1 : fieldN Tryd.prog 76 1 = some (3, 1) := by kernel_rfl
@[push_cast] theorem pl76 : placesT Tryd.prog 76 = some [(0, 1), (1, 1)] := by kernel_rfl
@[push_cast] theorem pe76 : plainEqT Tryd.prog 76 = true := by kernel_rfl
@[push_cast] theorem sh76 : Program.stoodInHeld Tryd.prog 76 = false := by kernel_rfl
@[push_cast] theorem sz77 : sizeT Tryd.prog 77 = some 1 := by kernel_rfl
@[push_cast] theorem ag77 : aggT Tryd.prog 77 = some false := by kernel_rfl
@[push_cast] theorem ze77 : zeroT Tryd.prog 77 = some (.nils) := by kernel_rfl
@[push_cast] theorem by77 : bytesT Tryd.prog 77 = 24 := by kernel_rfl
@[push_cast] theorem el77 : elemT Tryd.prog 77 = some 76 := by kernel_rfl
@[push_cast] theorem sz78 : sizeT Tryd.prog 78 = some 4 := by kernel_rfl
@[push_cast] theorem ag78 : aggT Tryd.prog 78 = some true := by kernel_rfl
@[push_cast] theorem ze78 : zeroT Tryd.prog 78 = some (.agg [.str ⟨#[]⟩, .int .i64 0, .int .i64 0, .nils]) := by kernel_rfl
@[push_cast] theorem by78 : bytesT Tryd.prog 78 = 56 := by kernel_rfl
@[push_cast] theorem fn78x0 : fieldN Tryd.prog 78 0 = some (9, 0) := by kernel_rfl
@[push_cast] theorem fn78x1 : fieldN Tryd.prog 78 1 = some (3, 1) := by kernel_rfl
@[push_cast] theorem fn78x2 : fieldN Tryd.prog 78 2 = some (3, 2) := by kernel_rfl
@[push_cast] theorem fn78x3 : fieldN Tryd.prog 78 3 = some (77, 3) := by kernel_rfl
@[push_cast] theorem pl78 : placesT Tryd.prog 78 = some [(0, 1), (1, 1), (2, 1), (3, 1)] := by kernel_rfl
@[push_cast] theorem pe78 : plainEqT Tryd.prog 78 = true := by kernel_rfl
@[push_cast] theorem sh78 : Program.stoodInHeld Tryd.prog 78 = false := by kernel_rfl
@[push_cast] theorem sz79 : sizeT Tryd.prog 79 = some 4 := by kernel_rfl
@[push_cast] theorem ag79 : aggT Tryd.prog 79 = some true := by kernel_rfl
@[push_cast] theorem ze79 : zeroT Tryd.prog 79 = some (.agg [.str ⟨#[]⟩, .int .i64 0, .int .i64 0, .nils]) := by kernel_rfl
@[push_cast] theorem by79 : bytesT Tryd.prog 79 = 56 := by kernel_rfl
@[push_cast] theorem fn79x0 : fieldN Tryd.prog 79 0 = some (9, 0) := by kernel_rfl
@[push_cast] theorem fn79x1 : fieldN Tryd.prog 79 1 = some (3, 1) := by kernel_rfl
@[push_cast] theorem fn79x2 : fieldN Tryd.prog 79 2 = some (3, 2) := by kernel_rfl
@[push_cast] theorem fn79x3 : fieldN Tryd.prog 79 3 = some (77, 3) := by kernel_rfl
@[push_cast] theorem pl79 : placesT Tryd.prog 79 = some [(0, 1), (1, 1), (2, 1), (3, 1)] := by kernel_rfl
@[push_cast] theorem pe79 : plainEqT Tryd.prog 79 = true := by kernel_rfl
@[push_cast] theorem sh79 : Program.stoodInHeld Tryd.prog 79 = false := by kernel_rfl
@[push_cast] theorem sz80 : sizeT Tryd.prog 80 = some 1 := by kernel_rfl
@[push_cast] theorem ag80 : aggT Tryd.prog 80 = some false := by kernel_rfl
@[push_cast] theorem ze80 : zeroT Tryd.prog 80 = some (.nils) := by kernel_rfl
@[push_cast] theorem by80 : bytesT Tryd.prog 80 = 24 := by kernel_rfl
@[push_cast] theorem el80 : elemT Tryd.prog 80 = some 79 := by kernel_rfl
@[push_cast] theorem sz81 : sizeT Tryd.prog 81 = some 2 := by kernel_rfl
@[push_cast] theorem ag81 : aggT Tryd.prog 81 = some true := by kernel_rfl
@[push_cast] theorem ze81 : zeroT Tryd.prog 81 = some (.agg [.str ⟨#[]⟩, .nils]) := by kernel_rfl
@[push_cast] theorem by81 : bytesT Tryd.prog 81 = 40 := by kernel_rfl
@[push_cast] theorem fn81x0 : fieldN Tryd.prog 81 0 = some (9, 0) := by kernel_rfl
@[push_cast] theorem fn81x1 : fieldN Tryd.prog 81 1 = some (80, 1) := by kernel_rfl
@[push_cast] theorem pl81 : placesT Tryd.prog 81 = some [(0, 1), (1, 1)] := by kernel_rfl
@[push_cast] theorem pe81 : plainEqT Tryd.prog 81 = true := by kernel_rfl
@[push_cast] theorem sh81 : Program.stoodInHeld Tryd.prog 81 = false := by kernel_rfl
@[push_cast] theorem sz82 : sizeT Tryd.prog 82 = some 2 := by kernel_rfl
@[push_cast] theorem ag82 : aggT Tryd.prog 82 = some true := by kernel_rfl
@[push_cast] theorem ze82 : zeroT Tryd.prog 82 = some (.agg [.str ⟨#[]⟩, .nils]) := by kernel_rfl
@[push_cast] theorem by82 : bytesT Tryd.prog 82 = 40 := by kernel_rfl
@[push_cast] theorem fn82x0 : fieldN Tryd.prog 82 0 = some (9, 0) := by kernel_rfl
@[push_cast] theorem fn82x1 : fieldN Tryd.prog 82 1 = some (80, 1) := by kernel_rfl
@[push_cast] theorem pl82 : placesT Tryd.prog 82 = some [(0, 1), (1, 1)] := by kernel_rfl
@[push_cast] theorem pe82 : plainEqT Tryd.prog 82 = true := by kernel_rfl
@[push_cast] theorem sh82 : Program.stoodInHeld Tryd.prog 82 = false := by kernel_rfl
@[push_cast] theorem sz83 : sizeT Tryd.prog 83 = some 4 := by kernel_rfl
@[push_cast] theorem ag83 : aggT Tryd.prog 83 = some true := by kernel_rfl
@[push_cast] theorem ze83 : zeroT Tryd.prog 83 = some (.agg [.str ⟨#[]⟩, .int .i64 0, .int .i64 0, .str ⟨#[]⟩]) := by kernel_rfl
@[push_cast] theorem by83 : bytesT Tryd.prog 83 = 48 := by kernel_rfl
@[push_cast] theorem fn83x0 : fieldN Tryd.prog 83 0 = some (9, 0) := by kernel_rfl
@[push_cast] theorem fn83x1 : fieldN Tryd.prog 83 1 = some (3, 1) := by kernel_rfl
@[push_cast] theorem fn83x2 : fieldN Tryd.prog 83 2 = some (3, 2) := by kernel_rfl
@[push_cast] theorem fn83x3 : fieldN Tryd.prog 83 3 = some (9, 3) := by kernel_rfl
@[push_cast] theorem pl83 : placesT Tryd.prog 83 = some [(0, 1), (1, 1), (2, 1), (3, 1)] := by kernel_rfl
@[push_cast] theorem pe83 : plainEqT Tryd.prog 83 = true := by kernel_rfl
@[push_cast] theorem sh83 : Program.stoodInHeld Tryd.prog 83 = false := by kernel_rfl
@[push_cast] theorem sz84 : sizeT Tryd.prog 84 = some 4 := by kernel_rfl
@[push_cast] theorem ag84 : aggT Tryd.prog 84 = some true := by kernel_rfl
@[push_cast] theorem ze84 : zeroT Tryd.prog 84 = some (.agg [.str ⟨#[]⟩, .int .i64 0, .int .i64 0, .str ⟨#[]⟩]) := by kernel_rfl
@[push_cast] theorem by84 : bytesT Tryd.prog 84 = 48 := by kernel_rfl
@[push_cast] theorem fn84x0 : fieldN Tryd.prog 84 0 = some (9, 0) := by kernel_rfl
@[push_cast] theorem fn84x1 : fieldN Tryd.prog 84 1 = some (3, 1) := by kernel_rfl
@[push_cast] theorem fn84x2 : fieldN Tryd.prog 84 2 = some (3, 2) := by kernel_rfl
@[push_cast] theorem fn84x3 : fieldN Tryd.prog 84 3 = some (9, 3) := by kernel_rfl
@[push_cast] theorem pl84 : placesT Tryd.prog 84 = some [(0, 1), (1, 1), (2, 1), (3, 1)] := by kernel_rfl
@[push_cast] theorem pe84 : plainEqT Tryd.prog 84 = true := by kernel_rfl
@[push_cast] theorem sh84 : Program.stoodInHeld Tryd.prog 84 = false := by kernel_rfl
@[push_cast] theorem sz85 : sizeT Tryd.prog 85 = some 1 := by kernel_rfl
@[push_cast] theorem ag85 : aggT Tryd.prog 85 = some false := by kernel_rfl
@[push_cast] theorem ze85 : zeroT Tryd.prog 85 = some (.nilf) := by kernel_rfl
@[push_cast] theorem by85 : bytesT Tryd.prog 85 = 8 := by kernel_rfl
@[push_cast] theorem sz86 : sizeT Tryd.prog 86 = some 1 := by kernel_rfl
@[push_cast] theorem ag86 : aggT Tryd.prog 86 = some false := by kernel_rfl
@[push_cast] theorem ze86 : zeroT Tryd.prog 86 = some (.nilf) := by kernel_rfl
@[push_cast] theorem by86 : bytesT Tryd.prog 86 = 8 := by kernel_rfl
@[push_cast] theorem sz87 : sizeT Tryd.prog 87 = some 1 := by kernel_rfl
@[push_cast] theorem ag87 : aggT Tryd.prog 87 = some false := by kernel_rfl
@[push_cast] theorem ze87 : zeroT Tryd.prog 87 = some (.nilf) := by kernel_rfl
@[push_cast] theorem by87 : bytesT Tryd.prog 87 = 8 := by kernel_rfl
@[push_cast] theorem sz88 : sizeT Tryd.prog 88 = some 1 := by kernel_rfl
@[push_cast] theorem ag88 : aggT Tryd.prog 88 = some false := by kernel_rfl
@[push_cast] theorem ze88 : zeroT Tryd.prog 88 = some (.nilf) := by kernel_rfl
@[push_cast] theorem by88 : bytesT Tryd.prog 88 = 8 := by kernel_rfl
@[push_cast] theorem sz89 : sizeT Tryd.prog 89 = some 1 := by kernel_rfl
@[push_cast] theorem ag89 : aggT Tryd.prog 89 = some false := by kernel_rfl
@[push_cast] theorem ze89 : zeroT Tryd.prog 89 = some (.nils) := by kernel_rfl
@[push_cast] theorem by89 : bytesT Tryd.prog 89 = 24 := by kernel_rfl
@[push_cast] theorem el89 : elemT Tryd.prog 89 = some 191 := by kernel_rfl
@[push_cast] theorem sz90 : sizeT Tryd.prog 90 = some 7 := by kernel_rfl
@[push_cast] theorem ag90 : aggT Tryd.prog 90 = some true := by kernel_rfl
@[push_cast] theorem ze90 : zeroT Tryd.prog 90 = some (.agg [.str ⟨#[]⟩, .int .i64 0, .int .i64 0, .str ⟨#[]⟩, .str ⟨#[]⟩, .int .i64 0, .int .i64 0]) := by kernel_rfl
@[push_cast] theorem by90 : bytesT Tryd.prog 90 = 80 := by kernel_rfl
@[push_cast] theorem fn90x0 : fieldN Tryd.prog 90 0 = some (9, 0) := by kernel_rfl
@[push_cast] theorem fn90x1 : fieldN Tryd.prog 90 1 = some (3, 1) := by kernel_rfl
@[push_cast] theorem fn90x2 : fieldN Tryd.prog 90 2 = some (3, 2) := by kernel_rfl
@[push_cast] theorem fn90x3 : fieldN Tryd.prog 90 3 = some (9, 3) := by kernel_rfl
@[push_cast] theorem fn90x4 : fieldN Tryd.prog 90 4 = some (9, 4) := by kernel_rfl
@[push_cast] theorem fn90x5 : fieldN Tryd.prog 90 5 = some (3, 5) := by kernel_rfl
@[push_cast] theorem fn90x6 : fieldN Tryd.prog 90 6 = some (3, 6) := by kernel_rfl
@[push_cast] theorem pl90 : placesT Tryd.prog 90 = some [(0, 1), (1, 1), (2, 1), (3, 1), (4, 1), (5, 1), (6, 1)] := by kernel_rfl
@[push_cast] theorem pe90 : plainEqT Tryd.prog 90 = true := by kernel_rfl
@[push_cast] theorem sh90 : Program.stoodInHeld Tryd.prog 90 = false := by kernel_rfl
@[push_cast] theorem sz91 : sizeT Tryd.prog 91 = some 7 := by kernel_rfl
@[push_cast] theorem ag91 : aggT Tryd.prog 91 = some true := by kernel_rfl
@[push_cast] theorem ze91 : zeroT Tryd.prog 91 = some (.agg [.str ⟨#[]⟩, .int .i64 0, .int .i64 0, .str ⟨#[]⟩, .str ⟨#[]⟩, .int .i64 0, .int .i64 0]) := by kernel_rfl
@[push_cast] theorem by91 : bytesT Tryd.prog 91 = 80 := by kernel_rfl
@[push_cast] theorem fn91x0 : fieldN Tryd.prog 91 0 = some (9, 0) := by kernel_rfl
@[push_cast] theorem fn91x1 : fieldN Tryd.prog 91 1 = some (3, 1) := by kernel_rfl
@[push_cast] theorem fn91x2 : fieldN Tryd.prog 91 2 = some (3, 2) := by kernel_rfl
@[push_cast] theorem fn91x3 : fieldN Tryd.prog 91 3 = some (9, 3) := by kernel_rfl
@[push_cast] theorem fn91x4 : fieldN Tryd.prog 91 4 = some (9, 4) := by kernel_rfl
@[push_cast] theorem fn91x5 : fieldN Tryd.prog 91 5 = some (3, 5) := by kernel_rfl
@[push_cast] theorem fn91x6 : fieldN Tryd.prog 91 6 = some (3, 6) := by kernel_rfl
@[push_cast] theorem pl91 : placesT Tryd.prog 91 = some [(0, 1), (1, 1), (2, 1), (3, 1), (4, 1), (5, 1), (6, 1)] := by kernel_rfl
@[push_cast] theorem pe91 : plainEqT Tryd.prog 91 = true := by kernel_rfl
@[push_cast] theorem sh91 : Program.stoodInHeld Tryd.prog 91 = false := by kernel_rfl
@[push_cast] theorem sz92 : sizeT Tryd.prog 92 = some 1 := by kernel_rfl
@[push_cast] theorem ag92 : aggT Tryd.prog 92 = some false := by kernel_rfl
@[push_cast] theorem ze92 : zeroT Tryd.prog 92 = some (.nilf) := by kernel_rfl
@[push_cast] theorem by92 : bytesT Tryd.prog 92 = 8 := by kernel_rfl
@[push_cast] theorem sz93 : sizeT Tryd.prog 93 = some 1 := by kernel_rfl
@[push_cast] theorem ag93 : aggT Tryd.prog 93 = some false := by kernel_rfl
@[push_cast] theorem ze93 : zeroT Tryd.prog 93 = some (.nils) := by kernel_rfl
@[push_cast] theorem by93 : bytesT Tryd.prog 93 = 24 := by kernel_rfl
@[push_cast] theorem el93 : elemT Tryd.prog 93 = some 91 := by kernel_rfl
@[push_cast] theorem sz94 : sizeT Tryd.prog 94 = some 1 := by kernel_rfl
@[push_cast] theorem ag94 : aggT Tryd.prog 94 = some false := by kernel_rfl
@[push_cast] theorem ze94 : zeroT Tryd.prog 94 = some (.nilf) := by kernel_rfl
@[push_cast] theorem by94 : bytesT Tryd.prog 94 = 8 := by kernel_rfl
@[push_cast] theorem sz95 : sizeT Tryd.prog 95 = some 1 := by kernel_rfl
@[push_cast] theorem ag95 : aggT Tryd.prog 95 = some false := by kernel_rfl
@[push_cast] theorem ze95 : zeroT Tryd.prog 95 = some (.nilf) := by kernel_rfl
@[push_cast] theorem by95 : bytesT Tryd.prog 95 = 8 := by kernel_rfl
@[push_cast] theorem sz96 : sizeT Tryd.prog 96 = some 1 := by kernel_rfl
@[push_cast] theorem ag96 : aggT Tryd.prog 96 = some false := by kernel_rfl
@[push_cast] theorem ze96 : zeroT Tryd.prog 96 = some (.nilf) := by kernel_rfl
@[push_cast] theorem by96 : bytesT Tryd.prog 96 = 8 := by kernel_rfl
@[push_cast] theorem sz97 : sizeT Tryd.prog 97 = some 1 := by kernel_rfl
@[push_cast] theorem ag97 : aggT Tryd.prog 97 = some false := by kernel_rfl
@[push_cast] theorem ze97 : zeroT Tryd.prog 97 = some (.nils) := by kernel_rfl
@[push_cast] theorem by97 : bytesT Tryd.prog 97 = 24 := by kernel_rfl
@[push_cast] theorem el97 : elemT Tryd.prog 97 = some 115 := by kernel_rfl
@[push_cast] theorem sz98 : sizeT Tryd.prog 98 = some 1 := by kernel_rfl
@[push_cast] theorem ag98 : aggT Tryd.prog 98 = some false := by kernel_rfl
@[push_cast] theorem ze98 : zeroT Tryd.prog 98 = some (.nils) := by kernel_rfl
@[push_cast] theorem by98 : bytesT Tryd.prog 98 = 24 := by kernel_rfl
@[push_cast] theorem el98 : elemT Tryd.prog 98 = some 262 := by kernel_rfl
@[push_cast] theorem sz99 : sizeT Tryd.prog 99 = some 2 := by kernel_rfl
@[push_cast] theorem ag99 : aggT Tryd.prog 99 = some true := by kernel_rfl
@[push_cast] theorem ze99 : zeroT Tryd.prog 99 = some (.agg [.nils, .nils]) := by kernel_rfl
@[push_cast] theorem by99 : bytesT Tryd.prog 99 = 48 := by kernel_rfl
@[push_cast] theorem fn99x0 : fieldN Tryd.prog 99 0 = some (97, 0) := by kernel_rfl
@[push_cast] theorem fn99x1 : fieldN Tryd.prog 99 1 = some (98, 1) := by kernel_rfl
@[push_cast] theorem pl99 : placesT Tryd.prog 99 = some [(0, 1), (1, 1)] := by kernel_rfl
@[push_cast] theorem pe99 : plainEqT Tryd.prog 99 = true := by kernel_rfl
@[push_cast] theorem sh99 : Program.stoodInHeld Tryd.prog 99 = false := by kernel_rfl
@[push_cast] theorem sz100 : sizeT Tryd.prog 100 = some 2 := by kernel_rfl
@[push_cast] theorem ag100 : aggT Tryd.prog 100 = some true := by kernel_rfl
@[push_cast] theorem ze100 : zeroT Tryd.prog 100 = some (.agg [.nils, .nils]) := by kernel_rfl
@[push_cast] theorem by100 : bytesT Tryd.prog 100 = 48 := by kernel_rfl
@[push_cast] theorem fn100x0 : fieldN Tryd.prog 100 0 = some (97, 0) := by kernel_rfl
@[push_cast] theorem fn100x1 : fieldN Tryd.prog 100 1 = some (98, 1) := by kernel_rfl
@[push_cast] theorem pl100 : placesT Tryd.prog 100 = some [(0, 1), (1, 1)] := by kernel_rfl
@[push_cast] theorem pe100 : plainEqT Tryd.prog 100 = true := by kernel_rfl
@[push_cast] theorem sh100 : Program.stoodInHeld Tryd.prog 100 = false := by kernel_rfl
@[push_cast] theorem sz101 : sizeT Tryd.prog 101 = some 1 := by kernel_rfl
@[push_cast] theorem ag101 : aggT Tryd.prog 101 = some false := by kernel_rfl
@[push_cast] theorem ze101 : zeroT Tryd.prog 101 = some (.nilf) := by kernel_rfl
@[push_cast] theorem by101 : bytesT Tryd.prog 101 = 8 := by kernel_rfl
@[push_cast] theorem sz102 : sizeT Tryd.prog 102 = some 1 := by kernel_rfl
@[push_cast] theorem ag102 : aggT Tryd.prog 102 = some false := by kernel_rfl
@[push_cast] theorem ze102 : zeroT Tryd.prog 102 = some (.nilf) := by kernel_rfl
@[push_cast] theorem by102 : bytesT Tryd.prog 102 = 8 := by kernel_rfl
@[push_cast] theorem sz103 : sizeT Tryd.prog 103 = some 1 := by kernel_rfl
@[push_cast] theorem ag103 : aggT Tryd.prog 103 = some false := by kernel_rfl
@[push_cast] theorem ze103 : zeroT Tryd.prog 103 = some (.nilf) := by kernel_rfl
@[push_cast] theorem by103 : bytesT Tryd.prog 103 = 8 := by kernel_rfl
@[push_cast] theorem sz104 : sizeT Tryd.prog 104 = some 2 := by kernel_rfl
@[push_cast] theorem ag104 : aggT Tryd.prog 104 = some true := by kernel_rfl
@[push_cast] theorem ze104 : zeroT Tryd.prog 104 = some (.agg [.nils, .nils]) := by kernel_rfl
@[push_cast] theorem by104 : bytesT Tryd.prog 104 = 48 := by kernel_rfl
@[push_cast] theorem fn104x0 : fieldN Tryd.prog 104 0 = some (89, 0) := by kernel_rfl
@[push_cast] theorem fn104x1 : fieldN Tryd.prog 104 1 = some (93, 1) := by kernel_rfl
@[push_cast] theorem pl104 : placesT Tryd.prog 104 = some [(0, 1), (1, 1)] := by kernel_rfl
@[push_cast] theorem pe104 : plainEqT Tryd.prog 104 = true := by kernel_rfl
@[push_cast] theorem sh104 : Program.stoodInHeld Tryd.prog 104 = false := by kernel_rfl
@[push_cast] theorem sz105 : sizeT Tryd.prog 105 = some 2 := by kernel_rfl
@[push_cast] theorem ag105 : aggT Tryd.prog 105 = some true := by kernel_rfl
@[push_cast] theorem ze105 : zeroT Tryd.prog 105 = some (.agg [.nils, .nils]) := by kernel_rfl
@[push_cast] theorem by105 : bytesT Tryd.prog 105 = 48 := by kernel_rfl
@[push_cast] theorem fn105x0 : fieldN Tryd.prog 105 0 = some (89, 0) := by kernel_rfl
@[push_cast] theorem fn105x1 : fieldN Tryd.prog 105 1 = some (93, 1) := by kernel_rfl
@[push_cast] theorem pl105 : placesT Tryd.prog 105 = some [(0, 1), (1, 1)] := by kernel_rfl
@[push_cast] theorem pe105 : plainEqT Tryd.prog 105 = true := by kernel_rfl
@[push_cast] theorem sh105 : Program.stoodInHeld Tryd.prog 105 = false := by kernel_rfl
@[push_cast] theorem sz106 : sizeT Tryd.prog 106 = some 1 := by kernel_rfl
@[push_cast] theorem ag106 : aggT Tryd.prog 106 = some false := by kernel_rfl
@[push_cast] theorem by106 : bytesT Tryd.prog 106 = 0 := by kernel_rfl
@[push_cast] theorem sz107 : sizeT Tryd.prog 107 = some 1 := by kernel_rfl
@[push_cast] theorem ag107 : aggT Tryd.prog 107 = some false := by kernel_rfl
@[push_cast] theorem ze107 : zeroT Tryd.prog 107 = some (.nilf) := by kernel_rfl
@[push_cast] theorem by107 : bytesT Tryd.prog 107 = 8 := by kernel_rfl
@[push_cast] theorem sz108 : sizeT Tryd.prog 108 = some 1 := by kernel_rfl
@[push_cast] theorem ag108 : aggT Tryd.prog 108 = some false := by kernel_rfl
@[push_cast] theorem ze108 : zeroT Tryd.prog 108 = some (.nilf) := by kernel_rfl
@[push_cast] theorem by108 : bytesT Tryd.prog 108 = 8 := by kernel_rfl
@[push_cast] theorem sz109 : sizeT Tryd.prog 109 = some 1 := by kernel_rfl
@[push_cast] theorem ag109 : aggT Tryd.prog 109 = some false := by kernel_rfl
@[push_cast] theorem ze109 : zeroT Tryd.prog 109 = some (.nilf) := by kernel_rfl
@[push_cast] theorem by109 : bytesT Tryd.prog 109 = 8 := by kernel_rfl
@[push_cast] theorem sz110 : sizeT Tryd.prog 110 = some 1 := by kernel_rfl
@[push_cast] theorem ag110 : aggT Tryd.prog 110 = some false := by kernel_rfl
@[push_cast] theorem ze110 : zeroT Tryd.prog 110 = some (.nilf) := by kernel_rfl
@[push_cast] theorem by110 : bytesT Tryd.prog 110 = 8 := by kernel_rfl
@[push_cast] theorem sz111 : sizeT Tryd.prog 111 = some 1 := by kernel_rfl
@[push_cast] theorem ag111 : aggT Tryd.prog 111 = some false := by kernel_rfl
@[push_cast] theorem ze111 : zeroT Tryd.prog 111 = some (.nils) := by kernel_rfl
@[push_cast] theorem by111 : bytesT Tryd.prog 111 = 24 := by kernel_rfl
@[push_cast] theorem el111 : elemT Tryd.prog 111 = some 290 := by kernel_rfl
@[push_cast] theorem sz112 : sizeT Tryd.prog 112 = some 2 := by kernel_rfl
@[push_cast] theorem ag112 : aggT Tryd.prog 112 = some true := by kernel_rfl
@[push_cast] theorem ze112 : zeroT Tryd.prog 112 = some (.agg [.int .i64 0, .nils]) := by kernel_rfl
@[push_cast] theorem by112 : bytesT Tryd.prog 112 = 32 := by kernel_rfl
@[push_cast] theorem fn112x0 : fieldN Tryd.prog 112 0 = some (3, 0) := by kernel_rfl
@[push_cast] theorem fn112x1 : fieldN Tryd.prog 112 1 = some (111, 1) := by kernel_rfl
@[push_cast] theorem pl112 : placesT Tryd.prog 112 = some [(0, 1), (1, 1)] := by kernel_rfl
@[push_cast] theorem pe112 : plainEqT Tryd.prog 112 = true := by kernel_rfl
@[push_cast] theorem sh112 : Program.stoodInHeld Tryd.prog 112 = false := by kernel_rfl
@[push_cast] theorem sz113 : sizeT Tryd.prog 113 = some 2 := by kernel_rfl
@[push_cast] theorem ag113 : aggT Tryd.prog 113 = some true := by kernel_rfl
@[push_cast] theorem ze113 : zeroT Tryd.prog 113 = some (.agg [.int .i64 0, .nils]) := by kernel_rfl
@[push_cast] theorem by113 : bytesT Tryd.prog 113 = 32 := by kernel_rfl
@[push_cast] theorem fn113x0 : fieldN Tryd.prog 113 0 = some (3, 0) := by kernel_rfl
@[push_cast] theorem fn113x1 : fieldN Tryd.prog 113 1 = some (111, 1) := by kernel_rfl
@[push_cast] theorem pl113 : placesT Tryd.prog 113 = some [(0, 1), (1, 1)] := by kernel_rfl
@[push_cast] theorem pe113 : plainEqT Tryd.prog 113 = true := by kernel_rfl
@[push_cast] theorem sh113 : Program.stoodInHeld Tryd.prog 113 = false := by kernel_rfl
@[push_cast] theorem sz114 : sizeT Tryd.prog 114 = some 5 := by kernel_rfl
@[push_cast] theorem ag114 : aggT Tryd.prog 114 = some true := by kernel_rfl
@[push_cast] theorem ze114 : zeroT Tryd.prog 114 = some (.agg [.str ⟨#[]⟩, .str ⟨#[]⟩, .str ⟨#[]⟩, .int .i64 0, .nils]) := by kernel_rfl
@[push_cast] theorem by114 : bytesT Tryd.prog 114 = 80 := by kernel_rfl
@[push_cast] theorem fn114x0 : fieldN Tryd.prog 114 0 = some (9, 0) := by kernel_rfl
@[push_cast] theorem fn114x1 : fieldN Tryd.prog 114 1 = some (9, 1) := by kernel_rfl
@[push_cast] theorem fn114x2 : fieldN Tryd.prog 114 2 = some (9, 2) := by kernel_rfl
@[push_cast] theorem fn114x3 : fieldN Tryd.prog 114 3 = some (113, 3) := by kernel_rfl
@[push_cast] theorem pl114 : placesT Tryd.prog 114 = some [(0, 1), (1, 1), (2, 1), (3, 2)] := by kernel_rfl
@[push_cast] theorem pe114 : plainEqT Tryd.prog 114 = true := by kernel_rfl
@[push_cast] theorem sh114 : Program.stoodInHeld Tryd.prog 114 = false := by kernel_rfl
@[push_cast] theorem sz115 : sizeT Tryd.prog 115 = some 5 := by kernel_rfl
@[push_cast] theorem ag115 : aggT Tryd.prog 115 = some true := by kernel_rfl
@[push_cast] theorem ze115 : zeroT Tryd.prog 115 = some (.agg [.str ⟨#[]⟩, .str ⟨#[]⟩, .str ⟨#[]⟩, .int .i64 0, .nils]) := by kernel_rfl
@[push_cast] theorem by115 : bytesT Tryd.prog 115 = 80 := by kernel_rfl
@[push_cast] theorem fn115x0 : fieldN Tryd.prog 115 0 = some (9, 0) := by kernel_rfl
@[push_cast] theorem fn115x1 : fieldN Tryd.prog 115 1 = some (9, 1) := by kernel_rfl
@[push_cast] theorem fn115x2 : fieldN Tryd.prog 115 2 = some (9, 2) := by kernel_rfl
@[push_cast] theorem fn115x3 : fieldN Tryd.prog 115 3 = some (113, 3) := by kernel_rfl
@[push_cast] theorem pl115 : placesT Tryd.prog 115 = some [(0, 1), (1, 1), (2, 1), (3, 2)] := by kernel_rfl
@[push_cast] theorem pe115 : plainEqT Tryd.prog 115 = true := by kernel_rfl
@[push_cast] theorem sh115 : Program.stoodInHeld Tryd.prog 115 = false := by kernel_rfl
@[push_cast] theorem sz116 : sizeT Tryd.prog 116 = some 1 := by kernel_rfl
@[push_cast] theorem ag116 : aggT Tryd.prog 116 = some false := by kernel_rfl
@[push_cast] theorem ze116 : zeroT Tryd.prog 116 = some (.nils) := by kernel_rfl
@[push_cast] theorem by116 : bytesT Tryd.prog 116 = 24 := by kernel_rfl
@[push_cast] theorem el116 : elemT Tryd.prog 116 = some 3 := by kernel_rfl
@[push_cast] theorem sz117 : sizeT Tryd.prog 117 = some 1 := by kernel_rfl
@[push_cast] theorem ag117 : aggT Tryd.prog 117 = some false := by kernel_rfl
@[push_cast] theorem by117 : bytesT Tryd.prog 117 = 0 := by kernel_rfl
@[push_cast] theorem sz118 : sizeT Tryd.prog 118 = some 1 := by kernel_rfl
@[push_cast] theorem ag118 : aggT Tryd.prog 118 = some false := by kernel_rfl
@[push_cast] theorem ze118 : zeroT Tryd.prog 118 = some (.nilf) := by kernel_rfl
@[push_cast] theorem by118 : bytesT Tryd.prog 118 = 8 := by kernel_rfl
@[push_cast] theorem sz119 : sizeT Tryd.prog 119 = some 1 := by kernel_rfl
@[push_cast] theorem ag119 : aggT Tryd.prog 119 = some false := by kernel_rfl
@[push_cast] theorem ze119 : zeroT Tryd.prog 119 = some (.nilf) := by kernel_rfl
@[push_cast] theorem by119 : bytesT Tryd.prog 119 = 8 := by kernel_rfl
@[push_cast] theorem sz120 : sizeT Tryd.prog 120 = some 1 := by kernel_rfl
@[push_cast] theorem ag120 : aggT Tryd.prog 120 = some false := by kernel_rfl
@[push_cast] theorem ze120 : zeroT Tryd.prog 120 = some (.nilf) := by kernel_rfl
@[push_cast] theorem by120 : bytesT Tryd.prog 120 = 8 := by kernel_rfl
@[push_cast] theorem sz121 : sizeT Tryd.prog 121 = some 1 := by kernel_rfl
@[push_cast] theorem ag121 : aggT Tryd.prog 121 = some false := by kernel_rfl
@[push_cast] theorem ze121 : zeroT Tryd.prog 121 = some (.nilf) := by kernel_rfl
@[push_cast] theorem by121 : bytesT Tryd.prog 121 = 8 := by kernel_rfl
@[push_cast] theorem sz122 : sizeT Tryd.prog 122 = some 1 := by kernel_rfl
@[push_cast] theorem ag122 : aggT Tryd.prog 122 = some false := by kernel_rfl
@[push_cast] theorem ze122 : zeroT Tryd.prog 122 = some (.nilf) := by kernel_rfl
@[push_cast] theorem by122 : bytesT Tryd.prog 122 = 8 := by kernel_rfl
@[push_cast] theorem sz123 : sizeT Tryd.prog 123 = some 1 := by kernel_rfl
@[push_cast] theorem ag123 : aggT Tryd.prog 123 = some false := by kernel_rfl
@[push_cast] theorem ze123 : zeroT Tryd.prog 123 = some (.nilf) := by kernel_rfl
@[push_cast] theorem by123 : bytesT Tryd.prog 123 = 8 := by kernel_rfl
@[push_cast] theorem sz124 : sizeT Tryd.prog 124 = some 1 := by kernel_rfl
@[push_cast] theorem ag124 : aggT Tryd.prog 124 = some false := by kernel_rfl
@[push_cast] theorem ze124 : zeroT Tryd.prog 124 = some (.nils) := by kernel_rfl
@[push_cast] theorem by124 : bytesT Tryd.prog 124 = 24 := by kernel_rfl
@[push_cast] theorem el124 : elemT Tryd.prog 124 = some 128 := by kernel_rfl
@[push_cast] theorem sz125 : sizeT Tryd.prog 125 = some 1 := by kernel_rfl
@[push_cast] theorem ag125 : aggT Tryd.prog 125 = some false := by kernel_rfl
@[push_cast] theorem ze125 : zeroT Tryd.prog 125 = some (.nilf) := by kernel_rfl
@[push_cast] theorem by125 : bytesT Tryd.prog 125 = 8 := by kernel_rfl
@[push_cast] theorem sz126 : sizeT Tryd.prog 126 = some 1 := by kernel_rfl
@[push_cast] theorem ag126 : aggT Tryd.prog 126 = some false := by kernel_rfl
@[push_cast] theorem ze126 : zeroT Tryd.prog 126 = some (.nilf) := by kernel_rfl
@[push_cast] theorem by126 : bytesT Tryd.prog 126 = 8 := by kernel_rfl
@[push_cast] theorem sz127 : sizeT Tryd.prog 127 = some 2 := by kernel_rfl
@[push_cast] theorem ag127 : aggT Tryd.prog 127 = some true := by kernel_rfl
@[push_cast] theorem ze127 : zeroT Tryd.prog 127 = some (.agg [.str ⟨#[]⟩, .int .i64 0]) := by kernel_rfl
@[push_cast] theorem by127 : bytesT Tryd.prog 127 = 24 := by kernel_rfl
@[push_cast] theorem fn127x0 : fieldN Tryd.prog 127 0 = some (9, 0) := by kernel_rfl
@[push_cast] theorem fn127x1 : fieldN Tryd.prog 127 1 = some (3, 1) := by kernel_rfl
@[push_cast] theorem pl127 : placesT Tryd.prog 127 = some [(0, 1), (1, 1)] := by kernel_rfl
@[push_cast] theorem pe127 : plainEqT Tryd.prog 127 = true := by kernel_rfl
@[push_cast] theorem sh127 : Program.stoodInHeld Tryd.prog 127 = false := by kernel_rfl
@[push_cast] theorem sz128 : sizeT Tryd.prog 128 = some 2 := by kernel_rfl
@[push_cast] theorem ag128 : aggT Tryd.prog 128 = some true := by kernel_rfl
@[push_cast] theorem ze128 : zeroT Tryd.prog 128 = some (.agg [.str ⟨#[]⟩, .int .i64 0]) := by kernel_rfl
@[push_cast] theorem by128 : bytesT Tryd.prog 128 = 24 := by kernel_rfl
@[push_cast] theorem fn128x0 : fieldN Tryd.prog 128 0 = some (9, 0) := by kernel_rfl
@[push_cast] theorem fn128x1 : fieldN Tryd.prog 128 1 = some (3, 1) := by kernel_rfl
@[push_cast] theorem pl128 : placesT Tryd.prog 128 = some [(0, 1), (1, 1)] := by kernel_rfl
@[push_cast] theorem pe128 : plainEqT Tryd.prog 128 = true := by kernel_rfl
@[push_cast] theorem sh128 : Program.stoodInHeld Tryd.prog 128 = false := by kernel_rfl
@[push_cast] theorem sz129 : sizeT Tryd.prog 129 = some 1 := by kernel_rfl
@[push_cast] theorem ag129 : aggT Tryd.prog 129 = some false := by kernel_rfl
@[push_cast] theorem ze129 : zeroT Tryd.prog 129 = some (.nilf) := by kernel_rfl
@[push_cast] theorem by129 : bytesT Tryd.prog 129 = 8 := by kernel_rfl
@[push_cast] theorem sz130 : sizeT Tryd.prog 130 = some 1 := by kernel_rfl
@[push_cast] theorem ag130 : aggT Tryd.prog 130 = some false := by kernel_rfl
@[push_cast] theorem ze130 : zeroT Tryd.prog 130 = some (.nilf) := by kernel_rfl
@[push_cast] theorem by130 : bytesT Tryd.prog 130 = 8 := by kernel_rfl
@[push_cast] theorem sz131 : sizeT Tryd.prog 131 = some 1 := by kernel_rfl
@[push_cast] theorem ag131 : aggT Tryd.prog 131 = some false := by kernel_rfl
@[push_cast] theorem ze131 : zeroT Tryd.prog 131 = some (.int .i8 0) := by kernel_rfl
@[push_cast] theorem by131 : bytesT Tryd.prog 131 = 1 := by kernel_rfl
@[push_cast] theorem sz132 : sizeT Tryd.prog 132 = some 6 := by kernel_rfl
@[push_cast] theorem ag132 : aggT Tryd.prog 132 = some true := by kernel_rfl
@[push_cast] theorem ze132 : zeroT Tryd.prog 132 = some (.agg [.int .u8 0, .int .u8 0, .int .u8 0, .int .u8 0, .int .u8 0, .int .i8 0]) := by kernel_rfl
@[push_cast] theorem by132 : bytesT Tryd.prog 132 = 6 := by kernel_rfl
@[push_cast] theorem fn132x0 : fieldN Tryd.prog 132 0 = some (5, 0) := by kernel_rfl
@[push_cast] theorem fn132x1 : fieldN Tryd.prog 132 1 = some (5, 1) := by kernel_rfl
@[push_cast] theorem fn132x2 : fieldN Tryd.prog 132 2 = some (5, 2) := by kernel_rfl
@[push_cast] theorem fn132x3 : fieldN Tryd.prog 132 3 = some (5, 3) := by kernel_rfl
@[push_cast] theorem fn132x4 : fieldN Tryd.prog 132 4 = some (5, 4) := by kernel_rfl
@[push_cast] theorem fn132x5 : fieldN Tryd.prog 132 5 = some (131, 5) := by kernel_rfl
@[push_cast] theorem pl132 : placesT Tryd.prog 132 = some [(0, 1), (1, 1), (2, 1), (3, 1), (4, 1), (5, 1)] := by kernel_rfl
@[push_cast] theorem pe132 : plainEqT Tryd.prog 132 = true := by kernel_rfl
@[push_cast] theorem sh132 : Program.stoodInHeld Tryd.prog 132 = false := by kernel_rfl
@[push_cast] theorem sz133 : sizeT Tryd.prog 133 = some 6 := by kernel_rfl
@[push_cast] theorem ag133 : aggT Tryd.prog 133 = some true := by kernel_rfl
@[push_cast] theorem ze133 : zeroT Tryd.prog 133 = some (.agg [.int .u8 0, .int .u8 0, .int .u8 0, .int .u8 0, .int .u8 0, .int .i8 0]) := by kernel_rfl
@[push_cast] theorem by133 : bytesT Tryd.prog 133 = 6 := by kernel_rfl
@[push_cast] theorem fn133x0 : fieldN Tryd.prog 133 0 = some (5, 0) := by kernel_rfl
@[push_cast] theorem fn133x1 : fieldN Tryd.prog 133 1 = some (5, 1) := by kernel_rfl
@[push_cast] theorem fn133x2 : fieldN Tryd.prog 133 2 = some (5, 2) := by kernel_rfl
@[push_cast] theorem fn133x3 : fieldN Tryd.prog 133 3 = some (5, 3) := by kernel_rfl
@[push_cast] theorem fn133x4 : fieldN Tryd.prog 133 4 = some (5, 4) := by kernel_rfl
@[push_cast] theorem fn133x5 : fieldN Tryd.prog 133 5 = some (131, 5) := by kernel_rfl
@[push_cast] theorem pl133 : placesT Tryd.prog 133 = some [(0, 1), (1, 1), (2, 1), (3, 1), (4, 1), (5, 1)] := by kernel_rfl
@[push_cast] theorem pe133 : plainEqT Tryd.prog 133 = true := by kernel_rfl
@[push_cast] theorem sh133 : Program.stoodInHeld Tryd.prog 133 = false := by kernel_rfl
@[push_cast] theorem sz134 : sizeT Tryd.prog 134 = some 1 := by kernel_rfl
@[push_cast] theorem ag134 : aggT Tryd.prog 134 = some false := by kernel_rfl
@[push_cast] theorem ze134 : zeroT Tryd.prog 134 = some (.nilf) := by kernel_rfl
@[push_cast] theorem by134 : bytesT Tryd.prog 134 = 8 := by kernel_rfl
@[push_cast] theorem sz135 : sizeT Tryd.prog 135 = some 1 := by kernel_rfl
@[push_cast] theorem ag135 : aggT Tryd.prog 135 = some false := by kernel_rfl
@[push_cast] theorem ze135 : zeroT Tryd.prog 135 = some (.nilf) := by kernel_rfl
@[push_cast] theorem by135 : bytesT Tryd.prog 135 = 8 := by kernel_rfl
@[push_cast] theorem sz136 : sizeT Tryd.prog 136 = some 1 := by kernel_rfl
@[push_cast] theorem ag136 : aggT Tryd.prog 136 = some false := by kernel_rfl
@[push_cast] theorem ze136 : zeroT Tryd.prog 136 = some (.nils) := by kernel_rfl
@[push_cast] theorem by136 : bytesT Tryd.prog 136 = 24 := by kernel_rfl
@[push_cast] theorem el136 : elemT Tryd.prog 136 = some 9 := by kernel_rfl
@[push_cast] theorem sz137 : sizeT Tryd.prog 137 = some 1 := by kernel_rfl
@[push_cast] theorem ag137 : aggT Tryd.prog 137 = some false := by kernel_rfl
@[push_cast] theorem ze137 : zeroT Tryd.prog 137 = some (.nilf) := by kernel_rfl
@[push_cast] theorem by137 : bytesT Tryd.prog 137 = 8 := by kernel_rfl
@[push_cast] theorem sz138 : sizeT Tryd.prog 138 = some 2 := by kernel_rfl
@[push_cast] theorem ag138 : aggT Tryd.prog 138 = some true := by kernel_rfl
@[push_cast] theorem ze138 : zeroT Tryd.prog 138 = some (.agg [.str ⟨#[]⟩, .int .i64 0]) := by kernel_rfl
@[push_cast] theorem by138 : bytesT Tryd.prog 138 = 24 := by kernel_rfl
@[push_cast] theorem fn138x0 : fieldN Tryd.prog 138 0 = some (9, 0) := by kernel_rfl
@[push_cast] theorem fn138x1 : fieldN Tryd.prog 138 1 = some (3, 1) := by kernel_rfl
@[push_cast] theorem pl138 : placesT Tryd.prog 138 = some [(0, 1), (1, 1)] := by kernel_rfl
@[push_cast] theorem pe138 : plainEqT Tryd.prog 138 = true := by kernel_rfl
@[push_cast] theorem sh138 : Program.stoodInHeld Tryd.prog 138 = false := by kernel_rfl
@[push_cast] theorem sz139 : sizeT Tryd.prog 139 = some 2 := by kernel_rfl
@[push_cast] theorem ag139 : aggT Tryd.prog 139 = some true := by kernel_rfl
@[push_cast] theorem ze139 : zeroT Tryd.prog 139 = some (.agg [.str ⟨#[]⟩, .int .i64 0]) := by kernel_rfl
@[push_cast] theorem by139 : bytesT Tryd.prog 139 = 24 := by kernel_rfl
@[push_cast] theorem fn139x0 : fieldN Tryd.prog 139 0 = some (9, 0) := by kernel_rfl
@[push_cast] theorem fn139x1 : fieldN Tryd.prog 139 1 = some (3, 1) := by kernel_rfl
@[push_cast] theorem pl139 : placesT Tryd.prog 139 = some [(0, 1), (1, 1)] := by kernel_rfl
@[push_cast] theorem pe139 : plainEqT Tryd.prog 139 = true := by kernel_rfl
@[push_cast] theorem sh139 : Program.stoodInHeld Tryd.prog 139 = false := by kernel_rfl
@[push_cast] theorem sz140 : sizeT Tryd.prog 140 = some 1 := by kernel_rfl
@[push_cast] theorem ag140 : aggT Tryd.prog 140 = some false := by kernel_rfl
@[push_cast] theorem ze140 : zeroT Tryd.prog 140 = some (.nils) := by kernel_rfl
@[push_cast] theorem by140 : bytesT Tryd.prog 140 = 24 := by kernel_rfl
@[push_cast] theorem el140 : elemT Tryd.prog 140 = some 139 := by kernel_rfl
@[push_cast] theorem sz141 : sizeT Tryd.prog 141 = some 2 := by kernel_rfl
@[push_cast] theorem ag141 : aggT Tryd.prog 141 = some true := by kernel_rfl
@[push_cast] theorem ze141 : zeroT Tryd.prog 141 = some (.agg [.int .i64 0, .str ⟨#[]⟩]) := by kernel_rfl
@[push_cast] theorem by141 : bytesT Tryd.prog 141 = 24 := by kernel_rfl
@[push_cast] theorem fn141x0 : fieldN Tryd.prog 141 0 = some (64, 0) := by kernel_rfl
@[push_cast] theorem fn141x1 : fieldN Tryd.prog 141 1 = some (9, 1) := by kernel_rfl
@[push_cast] theorem pl141 : placesT Tryd.prog 141 = some [(0, 1), (1, 1)] := by kernel_rfl
@[push_cast] theorem pe141 : plainEqT Tryd.prog 141 = true := by kernel_rfl
@[push_cast] theorem sh141 : Program.stoodInHeld Tryd.prog 141 = false := by kernel_rfl
@[push_cast] theorem sz142 : sizeT Tryd.prog 142 = some 2 := by kernel_rfl
@[push_cast] theorem ag142 : aggT Tryd.prog 142 = some true := by kernel_rfl
@[push_cast] theorem ze142 : zeroT Tryd.prog 142 = some (.agg [.int .i64 0, .str ⟨#[]⟩]) := by kernel_rfl
@[push_cast] theorem by142 : bytesT Tryd.prog 142 = 24 := by kernel_rfl
@[push_cast] theorem fn142x0 : fieldN Tryd.prog 142 0 = some (64, 0) := by kernel_rfl
@[push_cast] theorem fn142x1 : fieldN Tryd.prog 142 1 = some (9, 1) := by kernel_rfl
@[push_cast] theorem pl142 : placesT Tryd.prog 142 = some [(0, 1), (1, 1)] := by kernel_rfl
@[push_cast] theorem pe142 : plainEqT Tryd.prog 142 = true := by kernel_rfl
@[push_cast] theorem sh142 : Program.stoodInHeld Tryd.prog 142 = false := by kernel_rfl
@[push_cast] theorem sz143 : sizeT Tryd.prog 143 = some 1 := by kernel_rfl
@[push_cast] theorem ag143 : aggT Tryd.prog 143 = some false := by kernel_rfl
@[push_cast] theorem ze143 : zeroT Tryd.prog 143 = some (.nilf) := by kernel_rfl
@[push_cast] theorem by143 : bytesT Tryd.prog 143 = 8 := by kernel_rfl
@[push_cast] theorem sz144 : sizeT Tryd.prog 144 = some 1 := by kernel_rfl
@[push_cast] theorem ag144 : aggT Tryd.prog 144 = some false := by kernel_rfl
@[push_cast] theorem ze144 : zeroT Tryd.prog 144 = some (.nilf) := by kernel_rfl
@[push_cast] theorem by144 : bytesT Tryd.prog 144 = 8 := by kernel_rfl
@[push_cast] theorem sz145 : sizeT Tryd.prog 145 = some 1 := by kernel_rfl
@[push_cast] theorem ag145 : aggT Tryd.prog 145 = some false := by kernel_rfl
@[push_cast] theorem ze145 : zeroT Tryd.prog 145 = some (.nils) := by kernel_rfl
@[push_cast] theorem by145 : bytesT Tryd.prog 145 = 24 := by kernel_rfl
@[push_cast] theorem el145 : elemT Tryd.prog 145 = some 41 := by kernel_rfl
@[push_cast] theorem sz146 : sizeT Tryd.prog 146 = some 1 := by kernel_rfl
@[push_cast] theorem ag146 : aggT Tryd.prog 146 = some false := by kernel_rfl
@[push_cast] theorem ze146 : zeroT Tryd.prog 146 = some (.nils) := by kernel_rfl
@[push_cast] theorem by146 : bytesT Tryd.prog 146 = 24 := by kernel_rfl
@[push_cast] theorem el146 : elemT Tryd.prog 146 = some 358 := by kernel_rfl
@[push_cast] theorem sz147 : sizeT Tryd.prog 147 = some 1 := by kernel_rfl
@[push_cast] theorem ag147 : aggT Tryd.prog 147 = some false := by kernel_rfl
@[push_cast] theorem ze147 : zeroT Tryd.prog 147 = some (.nils) := by kernel_rfl
@[push_cast] theorem by147 : bytesT Tryd.prog 147 = 24 := by kernel_rfl
@[push_cast] theorem el147 : elemT Tryd.prog 147 = some 360 := by kernel_rfl
@[push_cast] theorem sz148 : sizeT Tryd.prog 148 = some 6 := by kernel_rfl
@[push_cast] theorem ag148 : aggT Tryd.prog 148 = some true := by kernel_rfl
@[push_cast] theorem ze148 : zeroT Tryd.prog 148 = some (.agg [.str ⟨#[]⟩, .nils, .int .i64 0, .nils, .nils, .int .i64 0]) := by kernel_rfl
@[push_cast] theorem by148 : bytesT Tryd.prog 148 = 104 := by kernel_rfl
@[push_cast] theorem fn148x0 : fieldN Tryd.prog 148 0 = some (9, 0) := by kernel_rfl
@[push_cast] theorem fn148x1 : fieldN Tryd.prog 148 1 = some (145, 1) := by kernel_rfl
@[push_cast] theorem fn148x2 : fieldN Tryd.prog 148 2 = some (3, 2) := by kernel_rfl
@[push_cast] theorem fn148x3 : fieldN Tryd.prog 148 3 = some (146, 3) := by kernel_rfl
@[push_cast] theorem fn148x4 : fieldN Tryd.prog 148 4 = some (147, 4) := by kernel_rfl
@[push_cast] theorem fn148x5 : fieldN Tryd.prog 148 5 = some (3, 5) := by kernel_rfl
@[push_cast] theorem pl148 : placesT Tryd.prog 148 = some [(0, 1), (1, 1), (2, 1), (3, 1), (4, 1), (5, 1)] := by kernel_rfl
@[push_cast] theorem pe148 : plainEqT Tryd.prog 148 = true := by kernel_rfl
@[push_cast] theorem sh148 : Program.stoodInHeld Tryd.prog 148 = false := by kernel_rfl
@[push_cast] theorem sz149 : sizeT Tryd.prog 149 = some 6 := by kernel_rfl
@[push_cast] theorem ag149 : aggT Tryd.prog 149 = some true := by kernel_rfl
@[push_cast] theorem ze149 : zeroT Tryd.prog 149 = some (.agg [.str ⟨#[]⟩, .nils, .int .i64 0, .nils, .nils, .int .i64 0]) := by kernel_rfl
@[push_cast] theorem by149 : bytesT Tryd.prog 149 = 104 := by kernel_rfl
@[push_cast] theorem fn149x0 : fieldN Tryd.prog 149 0 = some (9, 0) := by kernel_rfl
@[push_cast] theorem fn149x1 : fieldN Tryd.prog 149 1 = some (145, 1) := by kernel_rfl
@[push_cast] theorem fn149x2 : fieldN Tryd.prog 149 2 = some (3, 2) := by kernel_rfl
@[push_cast] theorem fn149x3 : fieldN Tryd.prog 149 3 = some (146, 3) := by kernel_rfl
@[push_cast] theorem fn149x4 : fieldN Tryd.prog 149 4 = some (147, 4) := by kernel_rfl
@[push_cast] theorem fn149x5 : fieldN Tryd.prog 149 5 = some (3, 5) := by kernel_rfl
@[push_cast] theorem pl149 : placesT Tryd.prog 149 = some [(0, 1), (1, 1), (2, 1), (3, 1), (4, 1), (5, 1)] := by kernel_rfl
@[push_cast] theorem pe149 : plainEqT Tryd.prog 149 = true := by kernel_rfl
@[push_cast] theorem sh149 : Program.stoodInHeld Tryd.prog 149 = false := by kernel_rfl
@[push_cast] theorem sz150 : sizeT Tryd.prog 150 = some 1 := by kernel_rfl
@[push_cast] theorem ag150 : aggT Tryd.prog 150 = some false := by kernel_rfl
@[push_cast] theorem ze150 : zeroT Tryd.prog 150 = some (.nilf) := by kernel_rfl
@[push_cast] theorem by150 : bytesT Tryd.prog 150 = 8 := by kernel_rfl
@[push_cast] theorem sz151 : sizeT Tryd.prog 151 = some 1 := by kernel_rfl
@[push_cast] theorem ag151 : aggT Tryd.prog 151 = some false := by kernel_rfl
@[push_cast] theorem ze151 : zeroT Tryd.prog 151 = some (.nilf) := by kernel_rfl
@[push_cast] theorem by151 : bytesT Tryd.prog 151 = 8 := by kernel_rfl
@[push_cast] theorem sz152 : sizeT Tryd.prog 152 = some 1 := by kernel_rfl
@[push_cast] theorem ag152 : aggT Tryd.prog 152 = some false := by kernel_rfl
@[push_cast] theorem ze152 : zeroT Tryd.prog 152 = some (.nilf) := by kernel_rfl
@[push_cast] theorem by152 : bytesT Tryd.prog 152 = 8 := by kernel_rfl
@[push_cast] theorem sz153 : sizeT Tryd.prog 153 = some 8 := by kernel_rfl
@[push_cast] theorem ag153 : aggT Tryd.prog 153 = some true := by kernel_rfl
@[push_cast] theorem ze153 : zeroT Tryd.prog 153 = some (.agg [.str ⟨#[]⟩, .int .i64 0, .int .i64 0, .str ⟨#[]⟩, .str ⟨#[]⟩, .int .i64 0, .int .i64 0, .str ⟨#[]⟩]) := by kernel_rfl
@[push_cast] theorem by153 : bytesT Tryd.prog 153 = 96 := by kernel_rfl
@[push_cast] theorem fn153x0 : fieldN Tryd.prog 153 0 = some (91, 0) := by kernel_rfl
@[push_cast] theorem fn153x1 : fieldN Tryd.prog 153 1 = some (9, 7) := by kernel_rfl
@[push_cast] theorem pl153 : placesT Tryd.prog 153 = some [(0, 7), (7, 1)] := by kernel_rfl
@[push_cast] theorem pe153 : plainEqT Tryd.prog 153 = true := by kernel_rfl
@[push_cast] theorem sh153 : Program.stoodInHeld Tryd.prog 153 = false := by kernel_rfl
@[push_cast] theorem sz154 : sizeT Tryd.prog 154 = some 8 := by kernel_rfl
@[push_cast] theorem ag154 : aggT Tryd.prog 154 = some true := by kernel_rfl
@[push_cast] theorem ze154 : zeroT Tryd.prog 154 = some (.agg [.str ⟨#[]⟩, .int .i64 0, .int .i64 0, .str ⟨#[]⟩, .str ⟨#[]⟩, .int .i64 0, .int .i64 0, .str ⟨#[]⟩]) := by kernel_rfl
@[push_cast] theorem by154 : bytesT Tryd.prog 154 = 96 := by kernel_rfl
@[push_cast] theorem fn154x0 : fieldN Tryd.prog 154 0 = some (91, 0) := by kernel_rfl
@[push_cast] theorem fn154x1 : fieldN Tryd.prog 154 1 = some (9, 7) := by kernel_rfl
@[push_cast] theorem pl154 : placesT Tryd.prog 154 = some [(0, 7), (7, 1)] := by kernel_rfl
@[push_cast] theorem pe154 : plainEqT Tryd.prog 154 = true := by kernel_rfl
@[push_cast] theorem sh154 : Program.stoodInHeld Tryd.prog 154 = false := by kernel_rfl
@[push_cast] theorem sz155 : sizeT Tryd.prog 155 = some 11 := by kernel_rfl
@[push_cast] theorem ag155 : aggT Tryd.prog 155 = some true := by kernel_rfl
@[push_cast] theorem ze155 : zeroT Tryd.prog 155 = some (.agg [.str ⟨#[]⟩, .int .i64 0, .int .i64 0, .str ⟨#[]⟩, .str ⟨#[]⟩, .int .i64 0, .int .i64 0, .str ⟨#[]⟩, .str ⟨#[]⟩, .int .i64 0, .int .i64 0]) := by kernel_rfl
@[push_cast] theorem by155 : bytesT Tryd.prog 155 = 128 := by kernel_rfl
@[push_cast] theorem fn155x0 : fieldN Tryd.prog 155 0 = some (154, 0) := by kernel_rfl
@[push_cast] theorem fn155x1 : fieldN Tryd.prog 155 1 = some (9, 8) := by kernel_rfl
@[push_cast] theorem fn155x2 : fieldN Tryd.prog 155 2 = some (3, 9) := by kernel_rfl
@[push_cast] theorem fn155x3 : fieldN Tryd.prog 155 3 = some (3, 10) := by kernel_rfl
@[push_cast] theorem pl155 : placesT Tryd.prog 155 = some [(0, 8), (8, 1), (9, 1), (10, 1)] := by kernel_rfl
@[push_cast] theorem pe155 : plainEqT Tryd.prog 155 = true := by kernel_rfl
@[push_cast] theorem sh155 : Program.stoodInHeld Tryd.prog 155 = false := by kernel_rfl
@[push_cast] theorem sz156 : sizeT Tryd.prog 156 = some 11 := by kernel_rfl
@[push_cast] theorem ag156 : aggT Tryd.prog 156 = some true := by kernel_rfl
@[push_cast] theorem ze156 : zeroT Tryd.prog 156 = some (.agg [.str ⟨#[]⟩, .int .i64 0, .int .i64 0, .str ⟨#[]⟩, .str ⟨#[]⟩, .int .i64 0, .int .i64 0, .str ⟨#[]⟩, .str ⟨#[]⟩, .int .i64 0, .int .i64 0]) := by kernel_rfl
@[push_cast] theorem by156 : bytesT Tryd.prog 156 = 128 := by kernel_rfl
@[push_cast] theorem fn156x0 : fieldN Tryd.prog 156 0 = some (154, 0) := by kernel_rfl
@[push_cast] theorem fn156x1 : fieldN Tryd.prog 156 1 = some (9, 8) := by kernel_rfl
@[push_cast] theorem fn156x2 : fieldN Tryd.prog 156 2 = some (3, 9) := by kernel_rfl
@[push_cast] theorem fn156x3 : fieldN Tryd.prog 156 3 = some (3, 10) := by kernel_rfl
@[push_cast] theorem pl156 : placesT Tryd.prog 156 = some [(0, 8), (8, 1), (9, 1), (10, 1)] := by kernel_rfl
@[push_cast] theorem pe156 : plainEqT Tryd.prog 156 = true := by kernel_rfl
@[push_cast] theorem sh156 : Program.stoodInHeld Tryd.prog 156 = false := by kernel_rfl
@[push_cast] theorem sz157 : sizeT Tryd.prog 157 = some 1 := by kernel_rfl
@[push_cast] theorem ag157 : aggT Tryd.prog 157 = some false := by kernel_rfl
@[push_cast] theorem ze157 : zeroT Tryd.prog 157 = some (.nilf) := by kernel_rfl
@[push_cast] theorem by157 : bytesT Tryd.prog 157 = 8 := by kernel_rfl
@[push_cast] theorem sz158 : sizeT Tryd.prog 158 = some 4 := by kernel_rfl
@[push_cast] theorem ag158 : aggT Tryd.prog 158 = some true := by kernel_rfl
@[push_cast] theorem ze158 : zeroT Tryd.prog 158 = some (.agg [.int .i64 0, .int .i64 0, .int .i64 0, .int .i64 0]) := by kernel_rfl
@[push_cast] theorem by158 : bytesT Tryd.prog 158 = 32 := by kernel_rfl
@[push_cast] theorem fn158x0 : fieldN Tryd.prog 158 0 = some (3, 0) := by kernel_rfl
@[push_cast] theorem fn158x1 : fieldN Tryd.prog 158 1 = some (3, 1) := by kernel_rfl
@[push_cast] theorem fn158x2 : fieldN Tryd.prog 158 2 = some (3, 2) := by kernel_rfl
@[push_cast] theorem fn158x3 : fieldN Tryd.prog 158 3 = some (3, 3) := by kernel_rfl
@[push_cast] theorem pl158 : placesT Tryd.prog 158 = some [(0, 1), (1, 1), (2, 1), (3, 1)] := by kernel_rfl
@[push_cast] theorem pe158 : plainEqT Tryd.prog 158 = true := by kernel_rfl
@[push_cast] theorem sh158 : Program.stoodInHeld Tryd.prog 158 = false := by kernel_rfl
@[push_cast] theorem sz159 : sizeT Tryd.prog 159 = some 4 := by kernel_rfl
@[push_cast] theorem ag159 : aggT Tryd.prog 159 = some true := by kernel_rfl
@[push_cast] theorem ze159 : zeroT Tryd.prog 159 = some (.agg [.int .i64 0, .int .i64 0, .int .i64 0, .int .i64 0]) := by kernel_rfl
@[push_cast] theorem by159 : bytesT Tryd.prog 159 = 32 := by kernel_rfl
@[push_cast] theorem fn159x0 : fieldN Tryd.prog 159 0 = some (3, 0) := by kernel_rfl
@[push_cast] theorem fn159x1 : fieldN Tryd.prog 159 1 = some (3, 1) := by kernel_rfl
@[push_cast] theorem fn159x2 : fieldN Tryd.prog 159 2 = some (3, 2) := by kernel_rfl
@[push_cast] theorem fn159x3 : fieldN Tryd.prog 159 3 = some (3, 3) := by kernel_rfl
@[push_cast] theorem pl159 : placesT Tryd.prog 159 = some [(0, 1), (1, 1), (2, 1), (3, 1)] := by kernel_rfl
@[push_cast] theorem pe159 : plainEqT Tryd.prog 159 = true := by kernel_rfl
@[push_cast] theorem sh159 : Program.stoodInHeld Tryd.prog 159 = false := by kernel_rfl
@[push_cast] theorem sz160 : sizeT Tryd.prog 160 = some 1 := by kernel_rfl
@[push_cast] theorem ag160 : aggT Tryd.prog 160 = some false := by kernel_rfl
@[push_cast] theorem ze160 : zeroT Tryd.prog 160 = some (.nilf) := by kernel_rfl
@[push_cast] theorem by160 : bytesT Tryd.prog 160 = 8 := by kernel_rfl
@[push_cast] theorem sz161 : sizeT Tryd.prog 161 = some 1 := by kernel_rfl
@[push_cast] theorem ag161 : aggT Tryd.prog 161 = some false := by kernel_rfl
@[push_cast] theorem ze161 : zeroT Tryd.prog 161 = some (.nilf) := by kernel_rfl
@[push_cast] theorem by161 : bytesT Tryd.prog 161 = 8 := by kernel_rfl
@[push_cast] theorem sz162 : sizeT Tryd.prog 162 = some 1 := by kernel_rfl
@[push_cast] theorem ag162 : aggT Tryd.prog 162 = some false := by kernel_rfl
@[push_cast] theorem ze162 : zeroT Tryd.prog 162 = some (.nilf) := by kernel_rfl
@[push_cast] theorem by162 : bytesT Tryd.prog 162 = 8 := by kernel_rfl
@[push_cast] theorem sz163 : sizeT Tryd.prog 163 = some 1 := by kernel_rfl
@[push_cast] theorem ag163 : aggT Tryd.prog 163 = some false := by kernel_rfl
@[push_cast] theorem ze163 : zeroT Tryd.prog 163 = some (.nilm) := by kernel_rfl
@[push_cast] theorem by163 : bytesT Tryd.prog 163 = 8 := by kernel_rfl
@[push_cast] theorem sz164 : sizeT Tryd.prog 164 = some 2 := by kernel_rfl
@[push_cast] theorem ag164 : aggT Tryd.prog 164 = some true := by kernel_rfl
@[push_cast] theorem ze164 : zeroT Tryd.prog 164 = some (.agg [.nils, .nilm]) := by kernel_rfl
@[push_cast] theorem by164 : bytesT Tryd.prog 164 = 32 := by kernel_rfl
@[push_cast] theorem fn164x0 : fieldN Tryd.prog 164 0 = some (22, 0) := by kernel_rfl
@[push_cast] theorem fn164x1 : fieldN Tryd.prog 164 1 = some (163, 1) := by kernel_rfl
@[push_cast] theorem pl164 : placesT Tryd.prog 164 = some [(0, 1), (1, 1)] := by kernel_rfl
@[push_cast] theorem pe164 : plainEqT Tryd.prog 164 = true := by kernel_rfl
@[push_cast] theorem sh164 : Program.stoodInHeld Tryd.prog 164 = false := by kernel_rfl
@[push_cast] theorem sz165 : sizeT Tryd.prog 165 = some 2 := by kernel_rfl
@[push_cast] theorem ag165 : aggT Tryd.prog 165 = some true := by kernel_rfl
@[push_cast] theorem ze165 : zeroT Tryd.prog 165 = some (.agg [.nils, .nilm]) := by kernel_rfl
@[push_cast] theorem by165 : bytesT Tryd.prog 165 = 32 := by kernel_rfl
@[push_cast] theorem fn165x0 : fieldN Tryd.prog 165 0 = some (22, 0) := by kernel_rfl
@[push_cast] theorem fn165x1 : fieldN Tryd.prog 165 1 = some (163, 1) := by kernel_rfl
@[push_cast] theorem pl165 : placesT Tryd.prog 165 = some [(0, 1), (1, 1)] := by kernel_rfl
@[push_cast] theorem pe165 : plainEqT Tryd.prog 165 = true := by kernel_rfl
@[push_cast] theorem sh165 : Program.stoodInHeld Tryd.prog 165 = false := by kernel_rfl
@[push_cast] theorem sz166 : sizeT Tryd.prog 166 = some 1 := by kernel_rfl
@[push_cast] theorem ag166 : aggT Tryd.prog 166 = some false := by kernel_rfl
@[push_cast] theorem ze166 : zeroT Tryd.prog 166 = some (.nilf) := by kernel_rfl
@[push_cast] theorem by166 : bytesT Tryd.prog 166 = 8 := by kernel_rfl
@[push_cast] theorem sz167 : sizeT Tryd.prog 167 = some 1 := by kernel_rfl
@[push_cast] theorem ag167 : aggT Tryd.prog 167 = some false := by kernel_rfl
@[push_cast] theorem ze167 : zeroT Tryd.prog 167 = some (.nilf) := by kernel_rfl
@[push_cast] theorem by167 : bytesT Tryd.prog 167 = 8 := by kernel_rfl
@[push_cast] theorem sz168 : sizeT Tryd.prog 168 = some 1 := by kernel_rfl
@[push_cast] theorem ag168 : aggT Tryd.prog 168 = some false := by kernel_rfl
@[push_cast] theorem ze168 : zeroT Tryd.prog 168 = some (.nilf) := by kernel_rfl
@[push_cast] theorem by168 : bytesT Tryd.prog 168 = 8 := by kernel_rfl
@[push_cast] theorem sz169 : sizeT Tryd.prog 169 = some 1 := by kernel_rfl
@[push_cast] theorem ag169 : aggT Tryd.prog 169 = some false := by kernel_rfl
@[push_cast] theorem ze169 : zeroT Tryd.prog 169 = some (.nilf) := by kernel_rfl
@[push_cast] theorem by169 : bytesT Tryd.prog 169 = 8 := by kernel_rfl
@[push_cast] theorem sz170 : sizeT Tryd.prog 170 = some 1 := by kernel_rfl
@[push_cast] theorem ag170 : aggT Tryd.prog 170 = some false := by kernel_rfl
@[push_cast] theorem ze170 : zeroT Tryd.prog 170 = some (.nilf) := by kernel_rfl
@[push_cast] theorem by170 : bytesT Tryd.prog 170 = 8 := by kernel_rfl
@[push_cast] theorem sz171 : sizeT Tryd.prog 171 = some 1 := by kernel_rfl
@[push_cast] theorem ag171 : aggT Tryd.prog 171 = some false := by kernel_rfl
@[push_cast] theorem ze171 : zeroT Tryd.prog 171 = some (.nilf) := by kernel_rfl
@[push_cast] theorem by171 : bytesT Tryd.prog 171 = 8 := by kernel_rfl
@[push_cast] theorem sz172 : sizeT Tryd.prog 172 = some 1 := by kernel_rfl
@[push_cast] theorem ag172 : aggT Tryd.prog 172 = some false := by kernel_rfl
@[push_cast] theorem ze172 : zeroT Tryd.prog 172 = some (.nilf) := by kernel_rfl
@[push_cast] theorem by172 : bytesT Tryd.prog 172 = 8 := by kernel_rfl
@[push_cast] theorem sz173 : sizeT Tryd.prog 173 = some 1 := by kernel_rfl
@[push_cast] theorem ag173 : aggT Tryd.prog 173 = some false := by kernel_rfl
@[push_cast] theorem ze173 : zeroT Tryd.prog 173 = some (.nilf) := by kernel_rfl
@[push_cast] theorem by173 : bytesT Tryd.prog 173 = 8 := by kernel_rfl
@[push_cast] theorem sz174 : sizeT Tryd.prog 174 = some 1 := by kernel_rfl
@[push_cast] theorem ag174 : aggT Tryd.prog 174 = some false := by kernel_rfl
@[push_cast] theorem ze174 : zeroT Tryd.prog 174 = some (.nilf) := by kernel_rfl
@[push_cast] theorem by174 : bytesT Tryd.prog 174 = 8 := by kernel_rfl
@[push_cast] theorem sz175 : sizeT Tryd.prog 175 = some 1 := by kernel_rfl
@[push_cast] theorem ag175 : aggT Tryd.prog 175 = some false := by kernel_rfl
@[push_cast] theorem ze175 : zeroT Tryd.prog 175 = some (.nilp) := by kernel_rfl
@[push_cast] theorem by175 : bytesT Tryd.prog 175 = 8 := by kernel_rfl
@[push_cast] theorem sz176 : sizeT Tryd.prog 176 = some 1 := by kernel_rfl
@[push_cast] theorem ag176 : aggT Tryd.prog 176 = some false := by kernel_rfl
@[push_cast] theorem by176 : bytesT Tryd.prog 176 = 0 := by kernel_rfl
@[push_cast] theorem sz177 : sizeT Tryd.prog 177 = some 1 := by kernel_rfl
@[push_cast] theorem ag177 : aggT Tryd.prog 177 = some false := by kernel_rfl
@[push_cast] theorem ze177 : zeroT Tryd.prog 177 = some (.nilf) := by kernel_rfl
@[push_cast] theorem by177 : bytesT Tryd.prog 177 = 8 := by kernel_rfl
@[push_cast] theorem sz178 : sizeT Tryd.prog 178 = some 1 := by kernel_rfl
@[push_cast] theorem ag178 : aggT Tryd.prog 178 = some false := by kernel_rfl
@[push_cast] theorem ze178 : zeroT Tryd.prog 178 = some (.nilf) := by kernel_rfl
@[push_cast] theorem by178 : bytesT Tryd.prog 178 = 8 := by kernel_rfl
@[push_cast] theorem sz179 : sizeT Tryd.prog 179 = some 4 := by kernel_rfl
@[push_cast] theorem ag179 : aggT Tryd.prog 179 = some true := by kernel_rfl
@[push_cast] theorem ze179 : zeroT Tryd.prog 179 = some (.agg [.str ⟨#[]⟩, .nils, .nils, .bool false]) := by kernel_rfl
@[push_cast] theorem by179 : bytesT Tryd.prog 179 = 72 := by kernel_rfl
@[push_cast] theorem fn179x0 : fieldN Tryd.prog 179 0 = some (82, 0) := by kernel_rfl
@[push_cast] theorem fn179x1 : fieldN Tryd.prog 179 1 = some (25, 2) := by kernel_rfl
@[push_cast] theorem fn179x2 : fieldN Tryd.prog 179 2 = some (4, 3) := by kernel_rfl
@[push_cast] theorem pl179 : placesT Tryd.prog 179 = some [(0, 2), (2, 1), (3, 1)] := by kernel_rfl
@[push_cast] theorem pe179 : plainEqT Tryd.prog 179 = true := by kernel_rfl
@[push_cast] theorem sh179 : Program.stoodInHeld Tryd.prog 179 = false := by kernel_rfl
@[push_cast] theorem sz180 : sizeT Tryd.prog 180 = some 4 := by kernel_rfl
@[push_cast] theorem ag180 : aggT Tryd.prog 180 = some true := by kernel_rfl
@[push_cast] theorem ze180 : zeroT Tryd.prog 180 = some (.agg [.str ⟨#[]⟩, .nils, .nils, .bool false]) := by kernel_rfl
@[push_cast] theorem by180 : bytesT Tryd.prog 180 = 72 := by kernel_rfl
@[push_cast] theorem fn180x0 : fieldN Tryd.prog 180 0 = some (82, 0) := by kernel_rfl
@[push_cast] theorem fn180x1 : fieldN Tryd.prog 180 1 = some (25, 2) := by kernel_rfl
@[push_cast] theorem fn180x2 : fieldN Tryd.prog 180 2 = some (4, 3) := by kernel_rfl
@[push_cast] theorem pl180 : placesT Tryd.prog 180 = some [(0, 2), (2, 1), (3, 1)] := by kernel_rfl
@[push_cast] theorem pe180 : plainEqT Tryd.prog 180 = true := by kernel_rfl
@[push_cast] theorem sh180 : Program.stoodInHeld Tryd.prog 180 = false := by kernel_rfl
@[push_cast] theorem sz181 : sizeT Tryd.prog 181 = some 1 := by kernel_rfl
@[push_cast] theorem ag181 : aggT Tryd.prog 181 = some false := by kernel_rfl
@[push_cast] theorem ze181 : zeroT Tryd.prog 181 = some (.nils) := by kernel_rfl
@[push_cast] theorem by181 : bytesT Tryd.prog 181 = 24 := by kernel_rfl
@[push_cast] theorem el181 : elemT Tryd.prog 181 = some 175 := by kernel_rfl
@[push_cast] theorem sz182 : sizeT Tryd.prog 182 = some 1 := by kernel_rfl
@[push_cast] theorem ag182 : aggT Tryd.prog 182 = some false := by kernel_rfl
@[push_cast] theorem by182 : bytesT Tryd.prog 182 = 0 := by kernel_rfl
@[push_cast] theorem sz183 : sizeT Tryd.prog 183 = some 1 := by kernel_rfl
@[push_cast] theorem ag183 : aggT Tryd.prog 183 = some false := by kernel_rfl
@[push_cast] theorem ze183 : zeroT Tryd.prog 183 = some (.nilf) := by kernel_rfl
@[push_cast] theorem by183 : bytesT Tryd.prog 183 = 8 := by kernel_rfl
@[push_cast] theorem sz184 : sizeT Tryd.prog 184 = some 1 := by kernel_rfl
@[push_cast] theorem ag184 : aggT Tryd.prog 184 = some false := by kernel_rfl
@[push_cast] theorem ze184 : zeroT Tryd.prog 184 = some (.nilf) := by kernel_rfl
@[push_cast] theorem by184 : bytesT Tryd.prog 184 = 8 := by kernel_rfl
@[push_cast] theorem sz185 : sizeT Tryd.prog 185 = some 1 := by kernel_rfl
@[push_cast] theorem ag185 : aggT Tryd.prog 185 = some false := by kernel_rfl
@[push_cast] theorem ze185 : zeroT Tryd.prog 185 = some (.nilf) := by kernel_rfl
@[push_cast] theorem by185 : bytesT Tryd.prog 185 = 8 := by kernel_rfl
@[push_cast] theorem sz186 : sizeT Tryd.prog 186 = some 1 := by kernel_rfl
@[push_cast] theorem ag186 : aggT Tryd.prog 186 = some false := by kernel_rfl
@[push_cast] theorem ze186 : zeroT Tryd.prog 186 = some (.nilf) := by kernel_rfl
@[push_cast] theorem by186 : bytesT Tryd.prog 186 = 8 := by kernel_rfl
@[push_cast] theorem sz187 : sizeT Tryd.prog 187 = some 1 := by kernel_rfl
@[push_cast] theorem ag187 : aggT Tryd.prog 187 = some false := by kernel_rfl
@[push_cast] theorem by187 : bytesT Tryd.prog 187 = 0 := by kernel_rfl
@[push_cast] theorem sz188 : sizeT Tryd.prog 188 = some 1 := by kernel_rfl
@[push_cast] theorem ag188 : aggT Tryd.prog 188 = some false := by kernel_rfl
@[push_cast] theorem ze188 : zeroT Tryd.prog 188 = some (.nilf) := by kernel_rfl
@[push_cast] theorem by188 : bytesT Tryd.prog 188 = 8 := by kernel_rfl
@[push_cast] theorem sz189 : sizeT Tryd.prog 189 = some 1 := by kernel_rfl
@[push_cast] theorem ag189 : aggT Tryd.prog 189 = some false := by kernel_rfl
@[push_cast] theorem ze189 : zeroT Tryd.prog 189 = some (.nilf) := by kernel_rfl
@[push_cast] theorem by189 : bytesT Tryd.prog 189 = 8 := by kernel_rfl
@[push_cast] theorem sz190 : sizeT Tryd.prog 190 = some 4 := by kernel_rfl
@[push_cast] theorem ag190 : aggT Tryd.prog 190 = some true := by kernel_rfl
@[push_cast] theorem ze190 : zeroT Tryd.prog 190 = some (.agg [.str ⟨#[]⟩, .str ⟨#[]⟩, .str ⟨#[]⟩, .int .i64 0]) := by kernel_rfl
@[push_cast] theorem by190 : bytesT Tryd.prog 190 = 56 := by kernel_rfl
@[push_cast] theorem fn190x0 : fieldN Tryd.prog 190 0 = some (9, 0) := by kernel_rfl
@[push_cast] theorem fn190x1 : fieldN Tryd.prog 190 1 = some (9, 1) := by kernel_rfl
@[push_cast] theorem fn190x2 : fieldN Tryd.prog 190 2 = some (9, 2) := by kernel_rfl
@[push_cast] theorem fn190x3 : fieldN Tryd.prog 190 3 = some (3, 3) := by kernel_rfl
@[push_cast] theorem pl190 : placesT Tryd.prog 190 = some [(0, 1), (1, 1), (2, 1), (3, 1)] := by kernel_rfl
@[push_cast] theorem pe190 : plainEqT Tryd.prog 190 = true := by kernel_rfl
@[push_cast] theorem sh190 : Program.stoodInHeld Tryd.prog 190 = false := by kernel_rfl
@[push_cast] theorem sz191 : sizeT Tryd.prog 191 = some 4 := by kernel_rfl
@[push_cast] theorem ag191 : aggT Tryd.prog 191 = some true := by kernel_rfl
@[push_cast] theorem ze191 : zeroT Tryd.prog 191 = some (.agg [.str ⟨#[]⟩, .str ⟨#[]⟩, .str ⟨#[]⟩, .int .i64 0]) := by kernel_rfl
@[push_cast] theorem by191 : bytesT Tryd.prog 191 = 56 := by kernel_rfl
@[push_cast] theorem fn191x0 : fieldN Tryd.prog 191 0 = some (9, 0) := by kernel_rfl
@[push_cast] theorem fn191x1 : fieldN Tryd.prog 191 1 = some (9, 1) := by kernel_rfl
@[push_cast] theorem fn191x2 : fieldN Tryd.prog 191 2 = some (9, 2) := by kernel_rfl
@[push_cast] theorem fn191x3 : fieldN Tryd.prog 191 3 = some (3, 3) := by kernel_rfl
@[push_cast] theorem pl191 : placesT Tryd.prog 191 = some [(0, 1), (1, 1), (2, 1), (3, 1)] := by kernel_rfl
@[push_cast] theorem pe191 : plainEqT Tryd.prog 191 = true := by kernel_rfl
@[push_cast] theorem sh191 : Program.stoodInHeld Tryd.prog 191 = false := by kernel_rfl
@[push_cast] theorem sz192 : sizeT Tryd.prog 192 = some 1 := by kernel_rfl
@[push_cast] theorem ag192 : aggT Tryd.prog 192 = some false := by kernel_rfl
@[push_cast] theorem ze192 : zeroT Tryd.prog 192 = some (.nilf) := by kernel_rfl
@[push_cast] theorem by192 : bytesT Tryd.prog 192 = 8 := by kernel_rfl
@[push_cast] theorem sz193 : sizeT Tryd.prog 193 = some 1 := by kernel_rfl
@[push_cast] theorem ag193 : aggT Tryd.prog 193 = some false := by kernel_rfl
@[push_cast] theorem ze193 : zeroT Tryd.prog 193 = some (.nilf) := by kernel_rfl
@[push_cast] theorem by193 : bytesT Tryd.prog 193 = 8 := by kernel_rfl
@[push_cast] theorem sz194 : sizeT Tryd.prog 194 = some 1 := by kernel_rfl
@[push_cast] theorem ag194 : aggT Tryd.prog 194 = some false := by kernel_rfl
@[push_cast] theorem ze194 : zeroT Tryd.prog 194 = some (.nilf) := by kernel_rfl
@[push_cast] theorem by194 : bytesT Tryd.prog 194 = 8 := by kernel_rfl
@[push_cast] theorem sz195 : sizeT Tryd.prog 195 = some 1 := by kernel_rfl
@[push_cast] theorem ag195 : aggT Tryd.prog 195 = some false := by kernel_rfl
@[push_cast] theorem ze195 : zeroT Tryd.prog 195 = some (.nilf) := by kernel_rfl
@[push_cast] theorem by195 : bytesT Tryd.prog 195 = 8 := by kernel_rfl
@[push_cast] theorem sz196 : sizeT Tryd.prog 196 = some 1 := by kernel_rfl
@[push_cast] theorem ag196 : aggT Tryd.prog 196 = some false := by kernel_rfl
@[push_cast] theorem ze196 : zeroT Tryd.prog 196 = some (.nilf) := by kernel_rfl
@[push_cast] theorem by196 : bytesT Tryd.prog 196 = 8 := by kernel_rfl
@[push_cast] theorem sz197 : sizeT Tryd.prog 197 = some 1 := by kernel_rfl
@[push_cast] theorem ag197 : aggT Tryd.prog 197 = some false := by kernel_rfl
@[push_cast] theorem ze197 : zeroT Tryd.prog 197 = some (.nils) := by kernel_rfl
@[push_cast] theorem by197 : bytesT Tryd.prog 197 = 24 := by kernel_rfl
@[push_cast] theorem el197 : elemT Tryd.prog 197 = some 64 := by kernel_rfl
@[push_cast] theorem sz198 : sizeT Tryd.prog 198 = some 1 := by kernel_rfl
@[push_cast] theorem ag198 : aggT Tryd.prog 198 = some false := by kernel_rfl
@[push_cast] theorem ze198 : zeroT Tryd.prog 198 = some (.nilf) := by kernel_rfl
@[push_cast] theorem by198 : bytesT Tryd.prog 198 = 8 := by kernel_rfl
@[push_cast] theorem sz199 : sizeT Tryd.prog 199 = some 1 := by kernel_rfl
@[push_cast] theorem ag199 : aggT Tryd.prog 199 = some false := by kernel_rfl
@[push_cast] theorem ze199 : zeroT Tryd.prog 199 = some (.nilf) := by kernel_rfl
@[push_cast] theorem by199 : bytesT Tryd.prog 199 = 8 := by kernel_rfl
@[push_cast] theorem sz200 : sizeT Tryd.prog 200 = some 1 := by kernel_rfl
@[push_cast] theorem ag200 : aggT Tryd.prog 200 = some false := by kernel_rfl
@[push_cast] theorem ze200 : zeroT Tryd.prog 200 = some (.nilp) := by kernel_rfl
@[push_cast] theorem by200 : bytesT Tryd.prog 200 = 8 := by kernel_rfl
@[push_cast] theorem sz201 : sizeT Tryd.prog 201 = some 7 := by kernel_rfl
@[push_cast] theorem ag201 : aggT Tryd.prog 201 = some true := by kernel_rfl
@[push_cast] theorem ze201 : zeroT Tryd.prog 201 = some (.agg [.nils, .nils, .str ⟨#[]⟩, .int .i64 0, .nils, .nils, .nils]) := by kernel_rfl
@[push_cast] theorem by201 : bytesT Tryd.prog 201 = 144 := by kernel_rfl
@[push_cast] theorem fn201x0 : fieldN Tryd.prog 201 0 = some (89, 0) := by kernel_rfl
@[push_cast] theorem fn201x1 : fieldN Tryd.prog 201 1 = some (93, 1) := by kernel_rfl
@[push_cast] theorem fn201x2 : fieldN Tryd.prog 201 2 = some (9, 2) := by kernel_rfl
@[push_cast] theorem fn201x3 : fieldN Tryd.prog 201 3 = some (3, 3) := by kernel_rfl
@[push_cast] theorem fn201x4 : fieldN Tryd.prog 201 4 = some (25, 4) := by kernel_rfl
@[push_cast] theorem fn201x5 : fieldN Tryd.prog 201 5 = some (136, 5) := by kernel_rfl
@[push_cast] theorem fn201x6 : fieldN Tryd.prog 201 6 = some (116, 6) := by kernel_rfl
@[push_cast] theorem pl201 : placesT Tryd.prog 201 = some [(0, 1), (1, 1), (2, 1), (3, 1), (4, 1), (5, 1), (6, 1)] := by kernel_rfl
@[push_cast] theorem pe201 : plainEqT Tryd.prog 201 = true := by kernel_rfl
@[push_cast] theorem sh201 : Program.stoodInHeld Tryd.prog 201 = false := by kernel_rfl
@[push_cast] theorem sz202 : sizeT Tryd.prog 202 = some 7 := by kernel_rfl
@[push_cast] theorem ag202 : aggT Tryd.prog 202 = some true := by kernel_rfl
@[push_cast] theorem ze202 : zeroT Tryd.prog 202 = some (.agg [.nils, .nils, .str ⟨#[]⟩, .int .i64 0, .nils, .nils, .nils]) := by kernel_rfl
@[push_cast] theorem by202 : bytesT Tryd.prog 202 = 144 := by kernel_rfl
@[push_cast] theorem fn202x0 : fieldN Tryd.prog 202 0 = some (89, 0) := by kernel_rfl
@[push_cast] theorem fn202x1 : fieldN Tryd.prog 202 1 = some (93, 1) := by kernel_rfl
@[push_cast] theorem fn202x2 : fieldN Tryd.prog 202 2 = some (9, 2) := by kernel_rfl
@[push_cast] theorem fn202x3 : fieldN Tryd.prog 202 3 = some (3, 3) := by kernel_rfl
@[push_cast] theorem fn202x4 : fieldN Tryd.prog 202 4 = some (25, 4) := by kernel_rfl
@[push_cast] theorem fn202x5 : fieldN Tryd.prog 202 5 = some (136, 5) := by kernel_rfl
@[push_cast] theorem fn202x6 : fieldN Tryd.prog 202 6 = some (116, 6) := by kernel_rfl
@[push_cast] theorem pl202 : placesT Tryd.prog 202 = some [(0, 1), (1, 1), (2, 1), (3, 1), (4, 1), (5, 1), (6, 1)] := by kernel_rfl
@[push_cast] theorem pe202 : plainEqT Tryd.prog 202 = true := by kernel_rfl
@[push_cast] theorem sh202 : Program.stoodInHeld Tryd.prog 202 = false := by kernel_rfl
@[push_cast] theorem sz203 : sizeT Tryd.prog 203 = some 1 := by kernel_rfl
@[push_cast] theorem ag203 : aggT Tryd.prog 203 = some false := by kernel_rfl
@[push_cast] theorem ze203 : zeroT Tryd.prog 203 = some (.nilf) := by kernel_rfl
@[push_cast] theorem by203 : bytesT Tryd.prog 203 = 8 := by kernel_rfl
@[push_cast] theorem sz204 : sizeT Tryd.prog 204 = some 1 := by kernel_rfl
@[push_cast] theorem ag204 : aggT Tryd.prog 204 = some false := by kernel_rfl
@[push_cast] theorem ze204 : zeroT Tryd.prog 204 = some (.nilf) := by kernel_rfl
@[push_cast] theorem by204 : bytesT Tryd.prog 204 = 8 := by kernel_rfl
@[push_cast] theorem sz205 : sizeT Tryd.prog 205 = some 1 := by kernel_rfl
@[push_cast] theorem ag205 : aggT Tryd.prog 205 = some false := by kernel_rfl
@[push_cast] theorem ze205 : zeroT Tryd.prog 205 = some (.nilf) := by kernel_rfl
@[push_cast] theorem by205 : bytesT Tryd.prog 205 = 8 := by kernel_rfl
@[push_cast] theorem sz206 : sizeT Tryd.prog 206 = some 1 := by kernel_rfl
@[push_cast] theorem ag206 : aggT Tryd.prog 206 = some false := by kernel_rfl
@[push_cast] theorem ze206 : zeroT Tryd.prog 206 = some (.nilf) := by kernel_rfl
@[push_cast] theorem by206 : bytesT Tryd.prog 206 = 8 := by kernel_rfl
@[push_cast] theorem sz207 : sizeT Tryd.prog 207 = some 1 := by kernel_rfl
@[push_cast] theorem ag207 : aggT Tryd.prog 207 = some false := by kernel_rfl
@[push_cast] theorem ze207 : zeroT Tryd.prog 207 = some (.nilf) := by kernel_rfl
@[push_cast] theorem by207 : bytesT Tryd.prog 207 = 8 := by kernel_rfl
@[push_cast] theorem sz208 : sizeT Tryd.prog 208 = some 1 := by kernel_rfl
@[push_cast] theorem ag208 : aggT Tryd.prog 208 = some false := by kernel_rfl
@[push_cast] theorem ze208 : zeroT Tryd.prog 208 = some (.nilf) := by kernel_rfl
@[push_cast] theorem by208 : bytesT Tryd.prog 208 = 8 := by kernel_rfl
@[push_cast] theorem sz209 : sizeT Tryd.prog 209 = some 1 := by kernel_rfl
@[push_cast] theorem ag209 : aggT Tryd.prog 209 = some false := by kernel_rfl
@[push_cast] theorem ze209 : zeroT Tryd.prog 209 = some (.nilf) := by kernel_rfl
@[push_cast] theorem by209 : bytesT Tryd.prog 209 = 8 := by kernel_rfl
@[push_cast] theorem sz210 : sizeT Tryd.prog 210 = some 1 := by kernel_rfl
@[push_cast] theorem ag210 : aggT Tryd.prog 210 = some false := by kernel_rfl
@[push_cast] theorem ze210 : zeroT Tryd.prog 210 = some (.nilf) := by kernel_rfl
@[push_cast] theorem by210 : bytesT Tryd.prog 210 = 8 := by kernel_rfl
@[push_cast] theorem sz211 : sizeT Tryd.prog 211 = some 1 := by kernel_rfl
@[push_cast] theorem ag211 : aggT Tryd.prog 211 = some false := by kernel_rfl
@[push_cast] theorem ze211 : zeroT Tryd.prog 211 = some (.nilf) := by kernel_rfl
@[push_cast] theorem by211 : bytesT Tryd.prog 211 = 8 := by kernel_rfl
@[push_cast] theorem sz212 : sizeT Tryd.prog 212 = some 1 := by kernel_rfl
@[push_cast] theorem ag212 : aggT Tryd.prog 212 = some false := by kernel_rfl
@[push_cast] theorem ze212 : zeroT Tryd.prog 212 = some (.nilf) := by kernel_rfl
@[push_cast] theorem by212 : bytesT Tryd.prog 212 = 8 := by kernel_rfl
@[push_cast] theorem sz213 : sizeT Tryd.prog 213 = some 1 := by kernel_rfl
@[push_cast] theorem ag213 : aggT Tryd.prog 213 = some false := by kernel_rfl
@[push_cast] theorem ze213 : zeroT Tryd.prog 213 = some (.nilf) := by kernel_rfl
@[push_cast] theorem by213 : bytesT Tryd.prog 213 = 8 := by kernel_rfl
@[push_cast] theorem sz214 : sizeT Tryd.prog 214 = some 1 := by kernel_rfl
@[push_cast] theorem ag214 : aggT Tryd.prog 214 = some false := by kernel_rfl
@[push_cast] theorem ze214 : zeroT Tryd.prog 214 = some (.nilf) := by kernel_rfl
@[push_cast] theorem by214 : bytesT Tryd.prog 214 = 8 := by kernel_rfl
@[push_cast] theorem sz215 : sizeT Tryd.prog 215 = some 1 := by kernel_rfl
@[push_cast] theorem ag215 : aggT Tryd.prog 215 = some false := by kernel_rfl
@[push_cast] theorem ze215 : zeroT Tryd.prog 215 = some (.nilf) := by kernel_rfl
@[push_cast] theorem by215 : bytesT Tryd.prog 215 = 8 := by kernel_rfl
@[push_cast] theorem sz216 : sizeT Tryd.prog 216 = some 1 := by kernel_rfl
@[push_cast] theorem ag216 : aggT Tryd.prog 216 = some false := by kernel_rfl
@[push_cast] theorem ze216 : zeroT Tryd.prog 216 = some (.nilm) := by kernel_rfl
@[push_cast] theorem by216 : bytesT Tryd.prog 216 = 8 := by kernel_rfl
@[push_cast] theorem sz217 : sizeT Tryd.prog 217 = some 1 := by kernel_rfl
@[push_cast] theorem ag217 : aggT Tryd.prog 217 = some false := by kernel_rfl
@[push_cast] theorem by217 : bytesT Tryd.prog 217 = 0 := by kernel_rfl
@[push_cast] theorem sz218 : sizeT Tryd.prog 218 = some 1 := by kernel_rfl
@[push_cast] theorem ag218 : aggT Tryd.prog 218 = some false := by kernel_rfl
@[push_cast] theorem ze218 : zeroT Tryd.prog 218 = some (.nilf) := by kernel_rfl
@[push_cast] theorem by218 : bytesT Tryd.prog 218 = 8 := by kernel_rfl
@[push_cast] theorem sz219 : sizeT Tryd.prog 219 = some 1 := by kernel_rfl
@[push_cast] theorem ag219 : aggT Tryd.prog 219 = some false := by kernel_rfl
@[push_cast] theorem ze219 : zeroT Tryd.prog 219 = some (.nilf) := by kernel_rfl
@[push_cast] theorem by219 : bytesT Tryd.prog 219 = 8 := by kernel_rfl
@[push_cast] theorem sz220 : sizeT Tryd.prog 220 = some 1 := by kernel_rfl
@[push_cast] theorem ag220 : aggT Tryd.prog 220 = some false := by kernel_rfl
@[push_cast] theorem ze220 : zeroT Tryd.prog 220 = some (.nilf) := by kernel_rfl
@[push_cast] theorem by220 : bytesT Tryd.prog 220 = 8 := by kernel_rfl
@[push_cast] theorem sz221 : sizeT Tryd.prog 221 = some 1 := by kernel_rfl
@[push_cast] theorem ag221 : aggT Tryd.prog 221 = some false := by kernel_rfl
@[push_cast] theorem by221 : bytesT Tryd.prog 221 = 0 := by kernel_rfl
@[push_cast] theorem sz222 : sizeT Tryd.prog 222 = some 1 := by kernel_rfl
@[push_cast] theorem ag222 : aggT Tryd.prog 222 = some false := by kernel_rfl
@[push_cast] theorem ze222 : zeroT Tryd.prog 222 = some (.nilf) := by kernel_rfl
@[push_cast] theorem by222 : bytesT Tryd.prog 222 = 8 := by kernel_rfl
@[push_cast] theorem sz223 : sizeT Tryd.prog 223 = some 1 := by kernel_rfl
@[push_cast] theorem ag223 : aggT Tryd.prog 223 = some false := by kernel_rfl
@[push_cast] theorem ze223 : zeroT Tryd.prog 223 = some (.nilf) := by kernel_rfl
@[push_cast] theorem by223 : bytesT Tryd.prog 223 = 8 := by kernel_rfl
@[push_cast] theorem sz224 : sizeT Tryd.prog 224 = some 1 := by kernel_rfl
@[push_cast] theorem ag224 : aggT Tryd.prog 224 = some false := by kernel_rfl
@[push_cast] theorem ze224 : zeroT Tryd.prog 224 = some (.nilf) := by kernel_rfl
@[push_cast] theorem by224 : bytesT Tryd.prog 224 = 8 := by kernel_rfl
@[push_cast] theorem sz225 : sizeT Tryd.prog 225 = some 1 := by kernel_rfl
@[push_cast] theorem ag225 : aggT Tryd.prog 225 = some false := by kernel_rfl
@[push_cast] theorem ze225 : zeroT Tryd.prog 225 = some (.nilp) := by kernel_rfl
@[push_cast] theorem by225 : bytesT Tryd.prog 225 = 8 := by kernel_rfl
@[push_cast] theorem sz226 : sizeT Tryd.prog 226 = some 1 := by kernel_rfl
@[push_cast] theorem ag226 : aggT Tryd.prog 226 = some true := by kernel_rfl
@[push_cast] theorem ze226 : zeroT Tryd.prog 226 = some (.agg [.nils]) := by kernel_rfl
@[push_cast] theorem by226 : bytesT Tryd.prog 226 = 24 := by kernel_rfl
@[push_cast] theorem fn226x0 : fieldN Tryd.prog 226 0 = some (47, 0) := by kernel_rfl
@[push_cast] theorem pl226 : placesT Tryd.prog 226 = some [(0, 1)] := by kernel_rfl
@[push_cast] theorem pe226 : plainEqT Tryd.prog 226 = true := by kernel_rfl
@[push_cast] theorem sh226 : Program.stoodInHeld Tryd.prog 226 = false := by kernel_rfl
@[push_cast] theorem sz227 : sizeT Tryd.prog 227 = some 1 := by kernel_rfl
@[push_cast] theorem ag227 : aggT Tryd.prog 227 = some true := by kernel_rfl
@[push_cast] theorem ze227 : zeroT Tryd.prog 227 = some (.agg [.nils]) := by kernel_rfl
@[push_cast] theorem by227 : bytesT Tryd.prog 227 = 24 := by kernel_rfl
@[push_cast] theorem fn227x0 : fieldN Tryd.prog 227 0 = some (47, 0) := by kernel_rfl
@[push_cast] theorem pl227 : placesT Tryd.prog 227 = some [(0, 1)] := by kernel_rfl
@[push_cast] theorem pe227 : plainEqT Tryd.prog 227 = true := by kernel_rfl
@[push_cast] theorem sh227 : Program.stoodInHeld Tryd.prog 227 = false := by kernel_rfl
@[push_cast] theorem sz228 : sizeT Tryd.prog 228 = some 1 := by kernel_rfl
@[push_cast] theorem ag228 : aggT Tryd.prog 228 = some false := by kernel_rfl
@[push_cast] theorem ze228 : zeroT Tryd.prog 228 = some (.nilf) := by kernel_rfl
@[push_cast] theorem by228 : bytesT Tryd.prog 228 = 8 := by kernel_rfl
@[push_cast] theorem sz229 : sizeT Tryd.prog 229 = some 1 := by kernel_rfl
@[push_cast] theorem ag229 : aggT Tryd.prog 229 = some false := by kernel_rfl
@[push_cast] theorem ze229 : zeroT Tryd.prog 229 = some (.nilf) := by kernel_rfl
@[push_cast] theorem by229 : bytesT Tryd.prog 229 = 8 := by kernel_rfl
@[push_cast] theorem sz230 : sizeT Tryd.prog 230 = some 1 := by kernel_rfl
@[push_cast] theorem ag230 : aggT Tryd.prog 230 = some false := by kernel_rfl
@[push_cast] theorem ze230 : zeroT Tryd.prog 230 = some (.nilf) := by kernel_rfl
@[push_cast] theorem by230 : bytesT Tryd.prog 230 = 8 := by kernel_rfl
@[push_cast] theorem sz231 : sizeT Tryd.prog 231 = some 1 := by kernel_rfl
@[push_cast] theorem ag231 : aggT Tryd.prog 231 = some false := by kernel_rfl
@[push_cast] theorem ze231 : zeroT Tryd.prog 231 = some (.nilf) := by kernel_rfl
@[push_cast] theorem by231 : bytesT Tryd.prog 231 = 8 := by kernel_rfl
@[push_cast] theorem sz232 : sizeT Tryd.prog 232 = some 2 := by kernel_rfl
@[push_cast] theorem ag232 : aggT Tryd.prog 232 = some true := by kernel_rfl
@[push_cast] theorem ze232 : zeroT Tryd.prog 232 = some (.agg [.str ⟨#[]⟩, .int .i64 0]) := by kernel_rfl
@[push_cast] theorem by232 : bytesT Tryd.prog 232 = 24 := by kernel_rfl
@[push_cast] theorem fn232x0 : fieldN Tryd.prog 232 0 = some (9, 0) := by kernel_rfl
@[push_cast] theorem fn232x1 : fieldN Tryd.prog 232 1 = some (3, 1) := by kernel_rfl
@[push_cast] theorem pl232 : placesT Tryd.prog 232 = some [(0, 1), (1, 1)] := by kernel_rfl
@[push_cast] theorem pe232 : plainEqT Tryd.prog 232 = true := by kernel_rfl
@[push_cast] theorem sh232 : Program.stoodInHeld Tryd.prog 232 = false := by kernel_rfl
@[push_cast] theorem sz233 : sizeT Tryd.prog 233 = some 2 := by kernel_rfl
@[push_cast] theorem ag233 : aggT Tryd.prog 233 = some true := by kernel_rfl
@[push_cast] theorem ze233 : zeroT Tryd.prog 233 = some (.agg [.str ⟨#[]⟩, .int .i64 0]) := by kernel_rfl
@[push_cast] theorem by233 : bytesT Tryd.prog 233 = 24 := by kernel_rfl
@[push_cast] theorem fn233x0 : fieldN Tryd.prog 233 0 = some (9, 0) := by kernel_rfl
@[push_cast] theorem fn233x1 : fieldN Tryd.prog 233 1 = some (3, 1) := by kernel_rfl
@[push_cast] theorem pl233 : placesT Tryd.prog 233 = some [(0, 1), (1, 1)] := by kernel_rfl
@[push_cast] theorem pe233 : plainEqT Tryd.prog 233 = true := by kernel_rfl
@[push_cast] theorem sh233 : Program.stoodInHeld Tryd.prog 233 = false := by kernel_rfl
@[push_cast] theorem sz234 : sizeT Tryd.prog 234 = some 1 := by kernel_rfl
@[push_cast] theorem ag234 : aggT Tryd.prog 234 = some false := by kernel_rfl
@[push_cast] theorem ze234 : zeroT Tryd.prog 234 = some (.nilf) := by kernel_rfl
@[push_cast] theorem by234 : bytesT Tryd.prog 234 = 8 := by kernel_rfl
@[push_cast] theorem sz235 : sizeT Tryd.prog 235 = some 1 := by kernel_rfl
@[push_cast] theorem ag235 : aggT Tryd.prog 235 = some false := by kernel_rfl
@[push_cast] theorem ze235 : zeroT Tryd.prog 235 = some (.nilf) := by kernel_rfl
@[push_cast] theorem by235 : bytesT Tryd.prog 235 = 8 := by kernel_rfl
@[push_cast] theorem sz236 : sizeT Tryd.prog 236 = some 1 := by kernel_rfl
@[push_cast] theorem ag236 : aggT Tryd.prog 236 = some false := by kernel_rfl
@[push_cast] theorem ze236 : zeroT Tryd.prog 236 = some (.nilf) := by kernel_rfl
@[push_cast] theorem by236 : bytesT Tryd.prog 236 = 8 := by kernel_rfl
@[push_cast] theorem sz237 : sizeT Tryd.prog 237 = some 1 := by kernel_rfl
@[push_cast] theorem ag237 : aggT Tryd.prog 237 = some false := by kernel_rfl
@[push_cast] theorem ze237 : zeroT Tryd.prog 237 = some (.int .u64 0) := by kernel_rfl
@[push_cast] theorem by237 : bytesT Tryd.prog 237 = 8 := by kernel_rfl
@[push_cast] theorem sz238 : sizeT Tryd.prog 238 = some 1 := by kernel_rfl
@[push_cast] theorem ag238 : aggT Tryd.prog 238 = some false := by kernel_rfl
@[push_cast] theorem ze238 : zeroT Tryd.prog 238 = some (.nilf) := by kernel_rfl
@[push_cast] theorem by238 : bytesT Tryd.prog 238 = 8 := by kernel_rfl
@[push_cast] theorem sz239 : sizeT Tryd.prog 239 = some 2 := by kernel_rfl
@[push_cast] theorem ag239 : aggT Tryd.prog 239 = some true := by kernel_rfl
@[push_cast] theorem ze239 : zeroT Tryd.prog 239 = some (.agg [.nils, .str ⟨#[]⟩]) := by kernel_rfl
@[push_cast] theorem by239 : bytesT Tryd.prog 239 = 40 := by kernel_rfl
@[push_cast] theorem fn239x0 : fieldN Tryd.prog 239 0 = some (47, 0) := by kernel_rfl
@[push_cast] theorem fn239x1 : fieldN Tryd.prog 239 1 = some (9, 1) := by kernel_rfl
@[push_cast] theorem pl239 : placesT Tryd.prog 239 = some [(0, 1), (1, 1)] := by kernel_rfl
@[push_cast] theorem pe239 : plainEqT Tryd.prog 239 = true := by kernel_rfl
@[push_cast] theorem sh239 : Program.stoodInHeld Tryd.prog 239 = false := by kernel_rfl
@[push_cast] theorem sz240 : sizeT Tryd.prog 240 = some 2 := by kernel_rfl
@[push_cast] theorem ag240 : aggT Tryd.prog 240 = some true := by kernel_rfl
@[push_cast] theorem ze240 : zeroT Tryd.prog 240 = some (.agg [.nils, .str ⟨#[]⟩]) := by kernel_rfl
@[push_cast] theorem by240 : bytesT Tryd.prog 240 = 40 := by kernel_rfl
@[push_cast] theorem fn240x0 : fieldN Tryd.prog 240 0 = some (47, 0) := by kernel_rfl
@[push_cast] theorem fn240x1 : fieldN Tryd.prog 240 1 = some (9, 1) := by kernel_rfl
@[push_cast] theorem pl240 : placesT Tryd.prog 240 = some [(0, 1), (1, 1)] := by kernel_rfl
@[push_cast] theorem pe240 : plainEqT Tryd.prog 240 = true := by kernel_rfl
@[push_cast] theorem sh240 : Program.stoodInHeld Tryd.prog 240 = false := by kernel_rfl
@[push_cast] theorem sz241 : sizeT Tryd.prog 241 = some 1 := by kernel_rfl
@[push_cast] theorem ag241 : aggT Tryd.prog 241 = some false := by kernel_rfl
@[push_cast] theorem ze241 : zeroT Tryd.prog 241 = some (.nilm) := by kernel_rfl
@[push_cast] theorem by241 : bytesT Tryd.prog 241 = 8 := by kernel_rfl
@[push_cast] theorem sz242 : sizeT Tryd.prog 242 = some 1 := by kernel_rfl
@[push_cast] theorem ag242 : aggT Tryd.prog 242 = some false := by kernel_rfl
@[push_cast] theorem ze242 : zeroT Tryd.prog 242 = some (.nilf) := by kernel_rfl
@[push_cast] theorem by242 : bytesT Tryd.prog 242 = 8 := by kernel_rfl
@[push_cast] theorem sz243 : sizeT Tryd.prog 243 = some 1 := by kernel_rfl
@[push_cast] theorem ag243 : aggT Tryd.prog 243 = some false := by kernel_rfl
@[push_cast] theorem ze243 : zeroT Tryd.prog 243 = some (.nilf) := by kernel_rfl
@[push_cast] theorem by243 : bytesT Tryd.prog 243 = 8 := by kernel_rfl
@[push_cast] theorem sz244 : sizeT Tryd.prog 244 = some 1 := by kernel_rfl
@[push_cast] theorem ag244 : aggT Tryd.prog 244 = some false := by kernel_rfl
@[push_cast] theorem ze244 : zeroT Tryd.prog 244 = some (.nilp) := by kernel_rfl
@[push_cast] theorem by244 : bytesT Tryd.prog 244 = 8 := by kernel_rfl
@[push_cast] theorem sz245 : sizeT Tryd.prog 245 = some 1 := by kernel_rfl
@[push_cast] theorem ag245 : aggT Tryd.prog 245 = some false := by kernel_rfl
@[push_cast] theorem ze245 : zeroT Tryd.prog 245 = some (.nilf) := by kernel_rfl
@[push_cast] theorem by245 : bytesT Tryd.prog 245 = 8 := by kernel_rfl
@[push_cast] theorem sz246 : sizeT Tryd.prog 246 = some 1 := by kernel_rfl
@[push_cast] theorem ag246 : aggT Tryd.prog 246 = some false := by kernel_rfl
@[push_cast] theorem ze246 : zeroT Tryd.prog 246 = some (.nilf) := by kernel_rfl
@[push_cast] theorem by246 : bytesT Tryd.prog 246 = 8 := by kernel_rfl
@[push_cast] theorem sz247 : sizeT Tryd.prog 247 = some 1 := by kernel_rfl
@[push_cast] theorem ag247 : aggT Tryd.prog 247 = some false := by kernel_rfl
@[push_cast] theorem ze247 : zeroT Tryd.prog 247 = some (.nilf) := by kernel_rfl
@[push_cast] theorem by247 : bytesT Tryd.prog 247 = 8 := by kernel_rfl
@[push_cast] theorem sz248 : sizeT Tryd.prog 248 = some 1 := by kernel_rfl
@[push_cast] theorem ag248 : aggT Tryd.prog 248 = some false := by kernel_rfl
@[push_cast] theorem ze248 : zeroT Tryd.prog 248 = some (.nilf) := by kernel_rfl
@[push_cast] theorem by248 : bytesT Tryd.prog 248 = 8 := by kernel_rfl
@[push_cast] theorem sz249 : sizeT Tryd.prog 249 = some 1 := by kernel_rfl
@[push_cast] theorem ag249 : aggT Tryd.prog 249 = some false := by kernel_rfl
@[push_cast] theorem ze249 : zeroT Tryd.prog 249 = some (.nilf) := by kernel_rfl
@[push_cast] theorem by249 : bytesT Tryd.prog 249 = 8 := by kernel_rfl
@[push_cast] theorem sz250 : sizeT Tryd.prog 250 = some 1 := by kernel_rfl
@[push_cast] theorem ag250 : aggT Tryd.prog 250 = some false := by kernel_rfl
@[push_cast] theorem ze250 : zeroT Tryd.prog 250 = some (.nilf) := by kernel_rfl
@[push_cast] theorem by250 : bytesT Tryd.prog 250 = 8 := by kernel_rfl
@[push_cast] theorem sz251 : sizeT Tryd.prog 251 = some 1 := by kernel_rfl
@[push_cast] theorem ag251 : aggT Tryd.prog 251 = some false := by kernel_rfl
@[push_cast] theorem ze251 : zeroT Tryd.prog 251 = some (.nilf) := by kernel_rfl
@[push_cast] theorem by251 : bytesT Tryd.prog 251 = 8 := by kernel_rfl
@[push_cast] theorem sz252 : sizeT Tryd.prog 252 = some 1 := by kernel_rfl
@[push_cast] theorem ag252 : aggT Tryd.prog 252 = some false := by kernel_rfl
@[push_cast] theorem ze252 : zeroT Tryd.prog 252 = some (.nilf) := by kernel_rfl
@[push_cast] theorem by252 : bytesT Tryd.prog 252 = 8 := by kernel_rfl
@[push_cast] theorem sz253 : sizeT Tryd.prog 253 = some 1 := by kernel_rfl
@[push_cast] theorem ag253 : aggT Tryd.prog 253 = some false := by kernel_rfl
@[push_cast] theorem ze253 : zeroT Tryd.prog 253 = some (.nilf) := by kernel_rfl
@[push_cast] theorem by253 : bytesT Tryd.prog 253 = 8 := by kernel_rfl
@[push_cast] theorem sz254 : sizeT Tryd.prog 254 = some 1 := by kernel_rfl
@[push_cast] theorem ag254 : aggT Tryd.prog 254 = some false := by kernel_rfl
@[push_cast] theorem ze254 : zeroT Tryd.prog 254 = some (.nilf) := by kernel_rfl
@[push_cast] theorem by254 : bytesT Tryd.prog 254 = 8 := by kernel_rfl
@[push_cast] theorem sz255 : sizeT Tryd.prog 255 = some 1 := by kernel_rfl
@[push_cast] theorem ag255 : aggT Tryd.prog 255 = some false := by kernel_rfl
@[push_cast] theorem ze255 : zeroT Tryd.prog 255 = some (.nilf) := by kernel_rfl
@[push_cast] theorem by255 : bytesT Tryd.prog 255 = 8 := by kernel_rfl
@[push_cast] theorem sz256 : sizeT Tryd.prog 256 = some 1 := by kernel_rfl
@[push_cast] theorem ag256 : aggT Tryd.prog 256 = some false := by kernel_rfl
@[push_cast] theorem ze256 : zeroT Tryd.prog 256 = some (.nilf) := by kernel_rfl
@[push_cast] theorem by256 : bytesT Tryd.prog 256 = 8 := by kernel_rfl
@[push_cast] theorem sz257 : sizeT Tryd.prog 257 = some 1 := by kernel_rfl
@[push_cast] theorem ag257 : aggT Tryd.prog 257 = some false := by kernel_rfl
@[push_cast] theorem ze257 : zeroT Tryd.prog 257 = some (.nilf) := by kernel_rfl
@[push_cast] theorem by257 : bytesT Tryd.prog 257 = 8 := by kernel_rfl
@[push_cast] theorem sz258 : sizeT Tryd.prog 258 = some 2 := by kernel_rfl
@[push_cast] theorem ag258 : aggT Tryd.prog 258 = some true := by kernel_rfl
@[push_cast] theorem ze258 : zeroT Tryd.prog 258 = some (.agg [.str ⟨#[]⟩, .str ⟨#[]⟩]) := by kernel_rfl
@[push_cast] theorem by258 : bytesT Tryd.prog 258 = 32 := by kernel_rfl
@[push_cast] theorem pl258 : placesT Tryd.prog 258 = some [(0, 1), (1, 1)] := by kernel_rfl
@[push_cast] theorem sz259 : sizeT Tryd.prog 259 = some 6 := by kernel_rfl
@[push_cast] theorem ag259 : aggT Tryd.prog 259 = some true := by kernel_rfl
@[push_cast] theorem ze259 : zeroT Tryd.prog 259 = some (.agg [.str ⟨#[]⟩, .str ⟨#[]⟩, .str ⟨#[]⟩, .str ⟨#[]⟩, .str ⟨#[]⟩, .str ⟨#[]⟩]) := by kernel_rfl
@[push_cast] theorem by259 : bytesT Tryd.prog 259 = 96 := by kernel_rfl
@[push_cast] theorem pl259 : placesT Tryd.prog 259 = some [(0, 2), (2, 2), (4, 2)] := by kernel_rfl
@[push_cast] theorem sz260 : sizeT Tryd.prog 260 = some 1 := by kernel_rfl
@[push_cast] theorem ag260 : aggT Tryd.prog 260 = some false := by kernel_rfl
@[push_cast] theorem ze260 : zeroT Tryd.prog 260 = some (.nilf) := by kernel_rfl
@[push_cast] theorem by260 : bytesT Tryd.prog 260 = 8 := by kernel_rfl
@[push_cast] theorem sz261 : sizeT Tryd.prog 261 = some 3 := by kernel_rfl
@[push_cast] theorem ag261 : aggT Tryd.prog 261 = some true := by kernel_rfl
@[push_cast] theorem ze261 : zeroT Tryd.prog 261 = some (.agg [.str ⟨#[]⟩, .str ⟨#[]⟩, .int .i64 0]) := by kernel_rfl
@[push_cast] theorem by261 : bytesT Tryd.prog 261 = 40 := by kernel_rfl
@[push_cast] theorem fn261x0 : fieldN Tryd.prog 261 0 = some (9, 0) := by kernel_rfl
@[push_cast] theorem fn261x1 : fieldN Tryd.prog 261 1 = some (9, 1) := by kernel_rfl
@[push_cast] theorem fn261x2 : fieldN Tryd.prog 261 2 = some (3, 2) := by kernel_rfl
@[push_cast] theorem pl261 : placesT Tryd.prog 261 = some [(0, 1), (1, 1), (2, 1)] := by kernel_rfl
@[push_cast] theorem pe261 : plainEqT Tryd.prog 261 = true := by kernel_rfl
@[push_cast] theorem sh261 : Program.stoodInHeld Tryd.prog 261 = false := by kernel_rfl
@[push_cast] theorem sz262 : sizeT Tryd.prog 262 = some 3 := by kernel_rfl
@[push_cast] theorem ag262 : aggT Tryd.prog 262 = some true := by kernel_rfl
@[push_cast] theorem ze262 : zeroT Tryd.prog 262 = some (.agg [.str ⟨#[]⟩, .str ⟨#[]⟩, .int .i64 0]) := by kernel_rfl
@[push_cast] theorem by262 : bytesT Tryd.prog 262 = 40 := by kernel_rfl
@[push_cast] theorem fn262x0 : fieldN Tryd.prog 262 0 = some (9, 0) := by kernel_rfl
@[push_cast] theorem fn262x1 : fieldN Tryd.prog 262 1 = some (9, 1) := by kernel_rfl
@[push_cast] theorem fn262x2 : fieldN Tryd.prog 262 2 = some (3, 2) := by kernel_rfl
@[push_cast] theorem pl262 : placesT Tryd.prog 262 = some [(0, 1), (1, 1), (2, 1)] := by kernel_rfl
@[push_cast] theorem pe262 : plainEqT Tryd.prog 262 = true := by kernel_rfl
@[push_cast] theorem sh262 : Program.stoodInHeld Tryd.prog 262 = false := by kernel_rfl
@[push_cast] theorem sz263 : sizeT Tryd.prog 263 = some 1 := by kernel_rfl
@[push_cast] theorem ag263 : aggT Tryd.prog 263 = some false := by kernel_rfl
@[push_cast] theorem ze263 : zeroT Tryd.prog 263 = some (.nilf) := by kernel_rfl
@[push_cast] theorem by263 : bytesT Tryd.prog 263 = 8 := by kernel_rfl
@[push_cast] theorem sz264 : sizeT Tryd.prog 264 = some 1 := by kernel_rfl
@[push_cast] theorem ag264 : aggT Tryd.prog 264 = some false := by kernel_rfl
@[push_cast] theorem ze264 : zeroT Tryd.prog 264 = some (.nilf) := by kernel_rfl
@[push_cast] theorem by264 : bytesT Tryd.prog 264 = 8 := by kernel_rfl
@[push_cast] theorem sz265 : sizeT Tryd.prog 265 = some 1 := by kernel_rfl
@[push_cast] theorem ag265 : aggT Tryd.prog 265 = some false := by kernel_rfl
@[push_cast] theorem ze265 : zeroT Tryd.prog 265 = some (.nilf) := by kernel_rfl
@[push_cast] theorem by265 : bytesT Tryd.prog 265 = 8 := by kernel_rfl
@[push_cast] theorem sz266 : sizeT Tryd.prog 266 = some 1 := by kernel_rfl
@[push_cast] theorem ag266 : aggT Tryd.prog 266 = some false := by kernel_rfl
@[push_cast] theorem ze266 : zeroT Tryd.prog 266 = some (.nilf) := by kernel_rfl
@[push_cast] theorem by266 : bytesT Tryd.prog 266 = 8 := by kernel_rfl
@[push_cast] theorem sz267 : sizeT Tryd.prog 267 = some 1 := by kernel_rfl
@[push_cast] theorem ag267 : aggT Tryd.prog 267 = some false := by kernel_rfl
@[push_cast] theorem ze267 : zeroT Tryd.prog 267 = some (.nilf) := by kernel_rfl
@[push_cast] theorem by267 : bytesT Tryd.prog 267 = 8 := by kernel_rfl
@[push_cast] theorem sz268 : sizeT Tryd.prog 268 = some 1 := by kernel_rfl
@[push_cast] theorem ag268 : aggT Tryd.prog 268 = some false := by kernel_rfl
@[push_cast] theorem ze268 : zeroT Tryd.prog 268 = some (.nilf) := by kernel_rfl
@[push_cast] theorem by268 : bytesT Tryd.prog 268 = 8 := by kernel_rfl
@[push_cast] theorem sz269 : sizeT Tryd.prog 269 = some 1 := by kernel_rfl
@[push_cast] theorem ag269 : aggT Tryd.prog 269 = some false := by kernel_rfl
@[push_cast] theorem ze269 : zeroT Tryd.prog 269 = some (.nilf) := by kernel_rfl
@[push_cast] theorem by269 : bytesT Tryd.prog 269 = 8 := by kernel_rfl
@[push_cast] theorem sz270 : sizeT Tryd.prog 270 = some 1 := by kernel_rfl
@[push_cast] theorem ag270 : aggT Tryd.prog 270 = some false := by kernel_rfl
@[push_cast] theorem ze270 : zeroT Tryd.prog 270 = some (.nilf) := by kernel_rfl
@[push_cast] theorem by270 : bytesT Tryd.prog 270 = 8 := by kernel_rfl
@[push_cast] theorem sz271 : sizeT Tryd.prog 271 = some 1 := by kernel_rfl
@[push_cast] theorem ag271 : aggT Tryd.prog 271 = some false := by kernel_rfl
@[push_cast] theorem ze271 : zeroT Tryd.prog 271 = some (.nilf) := by kernel_rfl
@[push_cast] theorem by271 : bytesT Tryd.prog 271 = 8 := by kernel_rfl
@[push_cast] theorem sz272 : sizeT Tryd.prog 272 = some 1 := by kernel_rfl
@[push_cast] theorem ag272 : aggT Tryd.prog 272 = some false := by kernel_rfl
@[push_cast] theorem ze272 : zeroT Tryd.prog 272 = some (.nilf) := by kernel_rfl
@[push_cast] theorem by272 : bytesT Tryd.prog 272 = 8 := by kernel_rfl
@[push_cast] theorem sz273 : sizeT Tryd.prog 273 = some 1 := by kernel_rfl
@[push_cast] theorem ag273 : aggT Tryd.prog 273 = some false := by kernel_rfl
@[push_cast] theorem ze273 : zeroT Tryd.prog 273 = some (.nilf) := by kernel_rfl
@[push_cast] theorem by273 : bytesT Tryd.prog 273 = 8 := by kernel_rfl
@[push_cast] theorem sz274 : sizeT Tryd.prog 274 = some 1 := by kernel_rfl
@[push_cast] theorem ag274 : aggT Tryd.prog 274 = some false := by kernel_rfl
@[push_cast] theorem ze274 : zeroT Tryd.prog 274 = some (.nilf) := by kernel_rfl
@[push_cast] theorem by274 : bytesT Tryd.prog 274 = 8 := by kernel_rfl
@[push_cast] theorem sz275 : sizeT Tryd.prog 275 = some 1 := by kernel_rfl
@[push_cast] theorem ag275 : aggT Tryd.prog 275 = some false := by kernel_rfl
@[push_cast] theorem ze275 : zeroT Tryd.prog 275 = some (.nilf) := by kernel_rfl
@[push_cast] theorem by275 : bytesT Tryd.prog 275 = 8 := by kernel_rfl
@[push_cast] theorem sz276 : sizeT Tryd.prog 276 = some 1 := by kernel_rfl
@[push_cast] theorem ag276 : aggT Tryd.prog 276 = some false := by kernel_rfl
@[push_cast] theorem by276 : bytesT Tryd.prog 276 = 0 := by kernel_rfl
@[push_cast] theorem sz277 : sizeT Tryd.prog 277 = some 1 := by kernel_rfl
@[push_cast] theorem ag277 : aggT Tryd.prog 277 = some false := by kernel_rfl
@[push_cast] theorem ze277 : zeroT Tryd.prog 277 = some (.nilf) := by kernel_rfl
@[push_cast] theorem by277 : bytesT Tryd.prog 277 = 8 := by kernel_rfl
@[push_cast] theorem sz278 : sizeT Tryd.prog 278 = some 1 := by kernel_rfl
@[push_cast] theorem ag278 : aggT Tryd.prog 278 = some false := by kernel_rfl
@[push_cast] theorem ze278 : zeroT Tryd.prog 278 = some (.nilf) := by kernel_rfl
@[push_cast] theorem by278 : bytesT Tryd.prog 278 = 8 := by kernel_rfl
@[push_cast] theorem sz279 : sizeT Tryd.prog 279 = some 1 := by kernel_rfl
@[push_cast] theorem ag279 : aggT Tryd.prog 279 = some false := by kernel_rfl
@[push_cast] theorem ze279 : zeroT Tryd.prog 279 = some (.nilf) := by kernel_rfl
@[push_cast] theorem by279 : bytesT Tryd.prog 279 = 8 := by kernel_rfl
@[push_cast] theorem sz280 : sizeT Tryd.prog 280 = some 1 := by kernel_rfl
@[push_cast] theorem ag280 : aggT Tryd.prog 280 = some false := by kernel_rfl
@[push_cast] theorem ze280 : zeroT Tryd.prog 280 = some (.nilf) := by kernel_rfl
@[push_cast] theorem by280 : bytesT Tryd.prog 280 = 8 := by kernel_rfl
@[push_cast] theorem sz281 : sizeT Tryd.prog 281 = some 1 := by kernel_rfl
@[push_cast] theorem ag281 : aggT Tryd.prog 281 = some false := by kernel_rfl
@[push_cast] theorem ze281 : zeroT Tryd.prog 281 = some (.nilf) := by kernel_rfl
@[push_cast] theorem by281 : bytesT Tryd.prog 281 = 8 := by kernel_rfl
@[push_cast] theorem sz282 : sizeT Tryd.prog 282 = some 1 := by kernel_rfl
@[push_cast] theorem ag282 : aggT Tryd.prog 282 = some false := by kernel_rfl
@[push_cast] theorem ze282 : zeroT Tryd.prog 282 = some (.nilp) := by kernel_rfl
@[push_cast] theorem by282 : bytesT Tryd.prog 282 = 8 := by kernel_rfl
@[push_cast] theorem sz283 : sizeT Tryd.prog 283 = some 1 := by kernel_rfl
@[push_cast] theorem ag283 : aggT Tryd.prog 283 = some false := by kernel_rfl
@[push_cast] theorem ze283 : zeroT Tryd.prog 283 = some (.nilf) := by kernel_rfl
@[push_cast] theorem by283 : bytesT Tryd.prog 283 = 8 := by kernel_rfl
@[push_cast] theorem sz284 : sizeT Tryd.prog 284 = some 1 := by kernel_rfl
@[push_cast] theorem ag284 : aggT Tryd.prog 284 = some false := by kernel_rfl
@[push_cast] theorem ze284 : zeroT Tryd.prog 284 = some (.nilf) := by kernel_rfl
@[push_cast] theorem by284 : bytesT Tryd.prog 284 = 8 := by kernel_rfl
@[push_cast] theorem sz285 : sizeT Tryd.prog 285 = some 1 := by kernel_rfl
@[push_cast] theorem ag285 : aggT Tryd.prog 285 = some false := by kernel_rfl
@[push_cast] theorem ze285 : zeroT Tryd.prog 285 = some (.nilf) := by kernel_rfl
@[push_cast] theorem by285 : bytesT Tryd.prog 285 = 8 := by kernel_rfl
@[push_cast] theorem sz286 : sizeT Tryd.prog 286 = some 1 := by kernel_rfl
@[push_cast] theorem ag286 : aggT Tryd.prog 286 = some false := by kernel_rfl
@[push_cast] theorem ze286 : zeroT Tryd.prog 286 = some (.nilf) := by kernel_rfl
@[push_cast] theorem by286 : bytesT Tryd.prog 286 = 8 := by kernel_rfl
@[push_cast] theorem sz287 : sizeT Tryd.prog 287 = some 1 := by kernel_rfl
@[push_cast] theorem ag287 : aggT Tryd.prog 287 = some false := by kernel_rfl
@[push_cast] theorem ze287 : zeroT Tryd.prog 287 = some (.nilf) := by kernel_rfl
@[push_cast] theorem by287 : bytesT Tryd.prog 287 = 8 := by kernel_rfl
@[push_cast] theorem sz288 : sizeT Tryd.prog 288 = some 1 := by kernel_rfl
@[push_cast] theorem ag288 : aggT Tryd.prog 288 = some false := by kernel_rfl
@[push_cast] theorem ze288 : zeroT Tryd.prog 288 = some (.nilf) := by kernel_rfl
@[push_cast] theorem by288 : bytesT Tryd.prog 288 = 8 := by kernel_rfl
@[push_cast] theorem sz289 : sizeT Tryd.prog 289 = some 2 := by kernel_rfl
@[push_cast] theorem ag289 : aggT Tryd.prog 289 = some true := by kernel_rfl
@[push_cast] theorem ze289 : zeroT Tryd.prog 289 = some (.agg [.int .i64 0, .int .i64 0]) := by kernel_rfl
@[push_cast] theorem by289 : bytesT Tryd.prog 289 = 16 := by kernel_rfl
@[push_cast] theorem fn289x0 : fieldN Tryd.prog 289 0 = some (3, 0) := by kernel_rfl
@[push_cast] theorem fn289x1 : fieldN Tryd.prog 289 1 = some (3, 1) := by kernel_rfl
@[push_cast] theorem pl289 : placesT Tryd.prog 289 = some [(0, 1), (1, 1)] := by kernel_rfl
@[push_cast] theorem pe289 : plainEqT Tryd.prog 289 = true := by kernel_rfl
@[push_cast] theorem sh289 : Program.stoodInHeld Tryd.prog 289 = false := by kernel_rfl
@[push_cast] theorem sz290 : sizeT Tryd.prog 290 = some 2 := by kernel_rfl
@[push_cast] theorem ag290 : aggT Tryd.prog 290 = some true := by kernel_rfl
@[push_cast] theorem ze290 : zeroT Tryd.prog 290 = some (.agg [.int .i64 0, .int .i64 0]) := by kernel_rfl
@[push_cast] theorem by290 : bytesT Tryd.prog 290 = 16 := by kernel_rfl
@[push_cast] theorem fn290x0 : fieldN Tryd.prog 290 0 = some (3, 0) := by kernel_rfl
@[push_cast] theorem fn290x1 : fieldN Tryd.prog 290 1 = some (3, 1) := by kernel_rfl
@[push_cast] theorem pl290 : placesT Tryd.prog 290 = some [(0, 1), (1, 1)] := by kernel_rfl
@[push_cast] theorem pe290 : plainEqT Tryd.prog 290 = true := by kernel_rfl
@[push_cast] theorem sh290 : Program.stoodInHeld Tryd.prog 290 = false := by kernel_rfl
@[push_cast] theorem sz291 : sizeT Tryd.prog 291 = some 1 := by kernel_rfl
@[push_cast] theorem ag291 : aggT Tryd.prog 291 = some false := by kernel_rfl
@[push_cast] theorem ze291 : zeroT Tryd.prog 291 = some (.nilf) := by kernel_rfl
@[push_cast] theorem by291 : bytesT Tryd.prog 291 = 8 := by kernel_rfl
@[push_cast] theorem sz292 : sizeT Tryd.prog 292 = some 1 := by kernel_rfl
@[push_cast] theorem ag292 : aggT Tryd.prog 292 = some false := by kernel_rfl
@[push_cast] theorem ze292 : zeroT Tryd.prog 292 = some (.nilf) := by kernel_rfl
@[push_cast] theorem by292 : bytesT Tryd.prog 292 = 8 := by kernel_rfl
@[push_cast] theorem sz293 : sizeT Tryd.prog 293 = some 1 := by kernel_rfl
@[push_cast] theorem ag293 : aggT Tryd.prog 293 = some false := by kernel_rfl
@[push_cast] theorem ze293 : zeroT Tryd.prog 293 = some (.int .i64 0) := by kernel_rfl
@[push_cast] theorem by293 : bytesT Tryd.prog 293 = 8 := by kernel_rfl
@[push_cast] theorem sz294 : sizeT Tryd.prog 294 = some 1 := by kernel_rfl
@[push_cast] theorem ag294 : aggT Tryd.prog 294 = some false := by kernel_rfl
@[push_cast] theorem by294 : bytesT Tryd.prog 294 = 0 := by kernel_rfl
@[push_cast] theorem sz295 : sizeT Tryd.prog 295 = some 1 := by kernel_rfl
@[push_cast] theorem ag295 : aggT Tryd.prog 295 = some false := by kernel_rfl
@[push_cast] theorem ze295 : zeroT Tryd.prog 295 = some (.nilf) := by kernel_rfl
@[push_cast] theorem by295 : bytesT Tryd.prog 295 = 8 := by kernel_rfl
@[push_cast] theorem sz296 : sizeT Tryd.prog 296 = some 1 := by kernel_rfl
@[push_cast] theorem ag296 : aggT Tryd.prog 296 = some false := by kernel_rfl
@[push_cast] theorem ze296 : zeroT Tryd.prog 296 = some (.nilf) := by kernel_rfl
@[push_cast] theorem by296 : bytesT Tryd.prog 296 = 8 := by kernel_rfl
@[push_cast] theorem sz297 : sizeT Tryd.prog 297 = some 1 := by kernel_rfl
@[push_cast] theorem ag297 : aggT Tryd.prog 297 = some false := by kernel_rfl
@[push_cast] theorem ze297 : zeroT Tryd.prog 297 = some (.nilf) := by kernel_rfl
@[push_cast] theorem by297 : bytesT Tryd.prog 297 = 8 := by kernel_rfl
@[push_cast] theorem sz298 : sizeT Tryd.prog 298 = some 1 := by kernel_rfl
@[push_cast] theorem ag298 : aggT Tryd.prog 298 = some false := by kernel_rfl
@[push_cast] theorem ze298 : zeroT Tryd.prog 298 = some (.nilf) := by kernel_rfl
@[push_cast] theorem by298 : bytesT Tryd.prog 298 = 8 := by kernel_rfl
@[push_cast] theorem sz299 : sizeT Tryd.prog 299 = some 1 := by kernel_rfl
@[push_cast] theorem ag299 : aggT Tryd.prog 299 = some false := by kernel_rfl
@[push_cast] theorem ze299 : zeroT Tryd.prog 299 = some (.nilf) := by kernel_rfl
@[push_cast] theorem by299 : bytesT Tryd.prog 299 = 8 := by kernel_rfl
@[push_cast] theorem sz300 : sizeT Tryd.prog 300 = some 1 := by kernel_rfl
@[push_cast] theorem ag300 : aggT Tryd.prog 300 = some false := by kernel_rfl
@[push_cast] theorem ze300 : zeroT Tryd.prog 300 = some (.int .u32 0) := by kernel_rfl
@[push_cast] theorem by300 : bytesT Tryd.prog 300 = 4 := by kernel_rfl
@[push_cast] theorem sz301 : sizeT Tryd.prog 301 = some 1 := by kernel_rfl
@[push_cast] theorem ag301 : aggT Tryd.prog 301 = some false := by kernel_rfl
@[push_cast] theorem ze301 : zeroT Tryd.prog 301 = some (.nilf) := by kernel_rfl
@[push_cast] theorem by301 : bytesT Tryd.prog 301 = 8 := by kernel_rfl
@[push_cast] theorem sz302 : sizeT Tryd.prog 302 = some 1 := by kernel_rfl
@[push_cast] theorem ag302 : aggT Tryd.prog 302 = some false := by kernel_rfl
@[push_cast] theorem ze302 : zeroT Tryd.prog 302 = some (.nilf) := by kernel_rfl
@[push_cast] theorem by302 : bytesT Tryd.prog 302 = 8 := by kernel_rfl
@[push_cast] theorem sz303 : sizeT Tryd.prog 303 = some 5 := by kernel_rfl
@[push_cast] theorem ag303 : aggT Tryd.prog 303 = some true := by kernel_rfl
@[push_cast] theorem ze303 : zeroT Tryd.prog 303 = some (.agg [.int .i64 0, .int .i64 0, .int .i64 0, .int .i64 0, .int .i64 0]) := by kernel_rfl
@[push_cast] theorem by303 : bytesT Tryd.prog 303 = 40 := by kernel_rfl
@[push_cast] theorem pl303 : placesT Tryd.prog 303 = some [(0, 1), (1, 1), (2, 1), (3, 1), (4, 1)] := by kernel_rfl
@[push_cast] theorem sz304 : sizeT Tryd.prog 304 = some 1 := by kernel_rfl
@[push_cast] theorem ag304 : aggT Tryd.prog 304 = some false := by kernel_rfl
@[push_cast] theorem ze304 : zeroT Tryd.prog 304 = some (.nilf) := by kernel_rfl
@[push_cast] theorem by304 : bytesT Tryd.prog 304 = 8 := by kernel_rfl
@[push_cast] theorem sz305 : sizeT Tryd.prog 305 = some 1 := by kernel_rfl
@[push_cast] theorem ag305 : aggT Tryd.prog 305 = some false := by kernel_rfl
@[push_cast] theorem ze305 : zeroT Tryd.prog 305 = some (.nilf) := by kernel_rfl
@[push_cast] theorem by305 : bytesT Tryd.prog 305 = 8 := by kernel_rfl
@[push_cast] theorem sz306 : sizeT Tryd.prog 306 = some 1 := by kernel_rfl
@[push_cast] theorem ag306 : aggT Tryd.prog 306 = some false := by kernel_rfl
@[push_cast] theorem ze306 : zeroT Tryd.prog 306 = some (.nilf) := by kernel_rfl
@[push_cast] theorem by306 : bytesT Tryd.prog 306 = 8 := by kernel_rfl
@[push_cast] theorem sz307 : sizeT Tryd.prog 307 = some 1 := by kernel_rfl
@[push_cast] theorem ag307 : aggT Tryd.prog 307 = some false := by kernel_rfl
@[push_cast] theorem ze307 : zeroT Tryd.prog 307 = some (.nilf) := by kernel_rfl
@[push_cast] theorem by307 : bytesT Tryd.prog 307 = 8 := by kernel_rfl
@[push_cast] theorem sz308 : sizeT Tryd.prog 308 = some 1 := by kernel_rfl
@[push_cast] theorem ag308 : aggT Tryd.prog 308 = some false := by kernel_rfl
@[push_cast] theorem by308 : bytesT Tryd.prog 308 = 0 := by kernel_rfl
@[push_cast] theorem sz309 : sizeT Tryd.prog 309 = some 1 := by kernel_rfl
@[push_cast] theorem ag309 : aggT Tryd.prog 309 = some false := by kernel_rfl
@[push_cast] theorem ze309 : zeroT Tryd.prog 309 = some (.nilf) := by kernel_rfl
@[push_cast] theorem by309 : bytesT Tryd.prog 309 = 8 := by kernel_rfl
@[push_cast] theorem sz310 : sizeT Tryd.prog 310 = some 1 := by kernel_rfl
@[push_cast] theorem ag310 : aggT Tryd.prog 310 = some false := by kernel_rfl
@[push_cast] theorem ze310 : zeroT Tryd.prog 310 = some (.nilf) := by kernel_rfl
@[push_cast] theorem by310 : bytesT Tryd.prog 310 = 8 := by kernel_rfl
@[push_cast] theorem sz311 : sizeT Tryd.prog 311 = some 1 := by kernel_rfl
@[push_cast] theorem ag311 : aggT Tryd.prog 311 = some false := by kernel_rfl
@[push_cast] theorem ze311 : zeroT Tryd.prog 311 = some (.nilf) := by kernel_rfl
@[push_cast] theorem by311 : bytesT Tryd.prog 311 = 8 := by kernel_rfl
@[push_cast] theorem sz312 : sizeT Tryd.prog 312 = some 24 := by kernel_rfl
@[push_cast] theorem ag312 : aggT Tryd.prog 312 = some true := by kernel_rfl
@[push_cast] theorem ze312 : zeroT Tryd.prog 312 = some (.agg [.int .u8 0, .int .u8 0, .int .u8 0, .int .u8 0, .int .u8 0, .int .u8 0, .int .u8 0, .int .u8 0, .int .u8 0, .int .u8 0, .int .u8 0, .int .u8 0, .int .u8 0, .int .u8 0, .int .u8 0, .int .u8 0, .int .u8 0, .int .u8 0, .int .u8 0, .int .u8 0, .int .u8 0, .int .u8 0, .int .u8 0, .int .u8 0]) := by kernel_rfl
@[push_cast] theorem by312 : bytesT Tryd.prog 312 = 24 := by kernel_rfl
@[push_cast] theorem sz313 : sizeT Tryd.prog 313 = some 1 := by kernel_rfl
@[push_cast] theorem ag313 : aggT Tryd.prog 313 = some false := by kernel_rfl
@[push_cast] theorem ze313 : zeroT Tryd.prog 313 = some (.nilf) := by kernel_rfl
@[push_cast] theorem by313 : bytesT Tryd.prog 313 = 8 := by kernel_rfl
@[push_cast] theorem sz314 : sizeT Tryd.prog 314 = some 1 := by kernel_rfl
@[push_cast] theorem ag314 : aggT Tryd.prog 314 = some false := by kernel_rfl
@[push_cast] theorem by314 : bytesT Tryd.prog 314 = 0 := by kernel_rfl
@[push_cast] theorem sz315 : sizeT Tryd.prog 315 = some 1 := by kernel_rfl
@[push_cast] theorem ag315 : aggT Tryd.prog 315 = some false := by kernel_rfl
@[push_cast] theorem ze315 : zeroT Tryd.prog 315 = some (.nilf) := by kernel_rfl
@[push_cast] theorem by315 : bytesT Tryd.prog 315 = 8 := by kernel_rfl
@[push_cast] theorem sz316 : sizeT Tryd.prog 316 = some 1 := by kernel_rfl
@[push_cast] theorem ag316 : aggT Tryd.prog 316 = some false := by kernel_rfl
@[push_cast] theorem ze316 : zeroT Tryd.prog 316 = some (.int .u64 0) := by kernel_rfl
@[push_cast] theorem by316 : bytesT Tryd.prog 316 = 8 := by kernel_rfl
@[push_cast] theorem sz317 : sizeT Tryd.prog 317 = some 1 := by kernel_rfl
@[push_cast] theorem ag317 : aggT Tryd.prog 317 = some false := by kernel_rfl
@[push_cast] theorem ze317 : zeroT Tryd.prog 317 = some (.nilf) := by kernel_rfl
@[push_cast] theorem by317 : bytesT Tryd.prog 317 = 8 := by kernel_rfl
@[push_cast] theorem sz318 : sizeT Tryd.prog 318 = some 1 := by kernel_rfl
@[push_cast] theorem ag318 : aggT Tryd.prog 318 = some false := by kernel_rfl
@[push_cast] theorem ze318 : zeroT Tryd.prog 318 = some (.nilf) := by kernel_rfl
@[push_cast] theorem by318 : bytesT Tryd.prog 318 = 8 := by kernel_rfl
@[push_cast] theorem sz319 : sizeT Tryd.prog 319 = some 1 := by kernel_rfl
@[push_cast] theorem ag319 : aggT Tryd.prog 319 = some false := by kernel_rfl
@[push_cast] theorem ze319 : zeroT Tryd.prog 319 = some (.nilf) := by kernel_rfl
@[push_cast] theorem by319 : bytesT Tryd.prog 319 = 8 := by kernel_rfl
@[push_cast] theorem sz320 : sizeT Tryd.prog 320 = some 1 := by kernel_rfl
@[push_cast] theorem ag320 : aggT Tryd.prog 320 = some false := by kernel_rfl
@[push_cast] theorem ze320 : zeroT Tryd.prog 320 = some (.nilp) := by kernel_rfl
@[push_cast] theorem by320 : bytesT Tryd.prog 320 = 8 := by kernel_rfl
@[push_cast] theorem sz321 : sizeT Tryd.prog 321 = some 1 := by kernel_rfl
@[push_cast] theorem ag321 : aggT Tryd.prog 321 = some false := by kernel_rfl
@[push_cast] theorem ze321 : zeroT Tryd.prog 321 = some (.nilf) := by kernel_rfl
@[push_cast] theorem by321 : bytesT Tryd.prog 321 = 8 := by kernel_rfl
@[push_cast] theorem sz322 : sizeT Tryd.prog 322 = some 1 := by kernel_rfl
@[push_cast] theorem ag322 : aggT Tryd.prog 322 = some false := by kernel_rfl
@[push_cast] theorem ze322 : zeroT Tryd.prog 322 = some (.nilf) := by kernel_rfl
@[push_cast] theorem by322 : bytesT Tryd.prog 322 = 8 := by kernel_rfl
@[push_cast] theorem sz323 : sizeT Tryd.prog 323 = some 1 := by kernel_rfl
@[push_cast] theorem ag323 : aggT Tryd.prog 323 = some false := by kernel_rfl
@[push_cast] theorem ze323 : zeroT Tryd.prog 323 = some (.nilf) := by kernel_rfl
@[push_cast] theorem by323 : bytesT Tryd.prog 323 = 8 := by kernel_rfl
@[push_cast] theorem sz324 : sizeT Tryd.prog 324 = some 1 := by kernel_rfl
@[push_cast] theorem ag324 : aggT Tryd.prog 324 = some false := by kernel_rfl
@[push_cast] theorem ze324 : zeroT Tryd.prog 324 = some (.nilf) := by kernel_rfl
@[push_cast] theorem by324 : bytesT Tryd.prog 324 = 8 := by kernel_rfl
@[push_cast] theorem sz325 : sizeT Tryd.prog 325 = some 1 := by kernel_rfl
@[push_cast] theorem ag325 : aggT Tryd.prog 325 = some false := by kernel_rfl
@[push_cast] theorem ze325 : zeroT Tryd.prog 325 = some (.nilf) := by kernel_rfl
@[push_cast] theorem by325 : bytesT Tryd.prog 325 = 8 := by kernel_rfl
@[push_cast] theorem sz326 : sizeT Tryd.prog 326 = some 1 := by kernel_rfl
@[push_cast] theorem ag326 : aggT Tryd.prog 326 = some false := by kernel_rfl
@[push_cast] theorem ze326 : zeroT Tryd.prog 326 = some (.nilf) := by kernel_rfl
@[push_cast] theorem by326 : bytesT Tryd.prog 326 = 8 := by kernel_rfl
@[push_cast] theorem sz327 : sizeT Tryd.prog 327 = some 20 := by kernel_rfl
@[push_cast] theorem ag327 : aggT Tryd.prog 327 = some true := by kernel_rfl
@[push_cast] theorem ze327 : zeroT Tryd.prog 327 = some (.agg [.int .u64 0, .int .u64 0, .int .u64 0, .int .u64 0, .int .u64 0, .int .u64 0, .int .u64 0, .int .u64 0, .int .u64 0, .int .u64 0, .int .u64 0, .int .u64 0, .int .u64 0, .int .u64 0, .int .u64 0, .int .u64 0, .int .u64 0, .int .u64 0, .int .u64 0, .int .u64 0]) := by kernel_rfl
@[push_cast] theorem by327 : bytesT Tryd.prog 327 = 160 := by kernel_rfl
@[push_cast] theorem sz328 : sizeT Tryd.prog 328 = some 65 := by kernel_rfl
@[push_cast] theorem ag328 : aggT Tryd.prog 328 = some true := by kernel_rfl
@[push_cast] theorem ze328 : zeroT Tryd.prog 328 = some (.agg [.int .u8 0, .int .u8 0, .int .u8 0, .int .u8 0, .int .u8 0, .int .u8 0, .int .u8 0, .int .u8 0, .int .u8 0, .int .u8 0, .int .u8 0, .int .u8 0, .int .u8 0, .int .u8 0, .int .u8 0, .int .u8 0, .int .u8 0, .int .u8 0, .int .u8 0, .int .u8 0, .int .u8 0, .int .u8 0, .int .u8 0, .int .u8 0, .int .u8 0, .int .u8 0, .int .u8 0, .int .u8 0, .int .u8 0, .int .u8 0, .int .u8 0, .int .u8 0, .int .u8 0, .int .u8 0, .int .u8 0, .int .u8 0, .int .u8 0, .int .u8 0, .int .u8 0, .int .u8 0, .int .u8 0, .int .u8 0, .int .u8 0, .int .u8 0, .int .u8 0, .int .u8 0, .int .u8 0, .int .u8 0, .int .u8 0, .int .u8 0, .int .u8 0, .int .u8 0, .int .u8 0, .int .u8 0, .int .u8 0, .int .u8 0, .int .u8 0, .int .u8 0, .int .u8 0, .int .u8 0, .int .u8 0, .int .u8 0, .int .u8 0, .int .u8 0, .int .u8 0]) := by kernel_rfl
@[push_cast] theorem by328 : bytesT Tryd.prog 328 = 65 := by kernel_rfl
@[push_cast] theorem sz329 : sizeT Tryd.prog 329 = some 1 := by kernel_rfl
@[push_cast] theorem ag329 : aggT Tryd.prog 329 = some false := by kernel_rfl
@[push_cast] theorem ze329 : zeroT Tryd.prog 329 = some (.nilp) := by kernel_rfl
@[push_cast] theorem by329 : bytesT Tryd.prog 329 = 8 := by kernel_rfl
@[push_cast] theorem sz330 : sizeT Tryd.prog 330 = some 1 := by kernel_rfl
@[push_cast] theorem ag330 : aggT Tryd.prog 330 = some false := by kernel_rfl
@[push_cast] theorem by330 : bytesT Tryd.prog 330 = 0 := by kernel_rfl
@[push_cast] theorem sz331 : sizeT Tryd.prog 331 = some 1 := by kernel_rfl
@[push_cast] theorem ag331 : aggT Tryd.prog 331 = some false := by kernel_rfl
@[push_cast] theorem ze331 : zeroT Tryd.prog 331 = some (.nilf) := by kernel_rfl
@[push_cast] theorem by331 : bytesT Tryd.prog 331 = 8 := by kernel_rfl
@[push_cast] theorem sz332 : sizeT Tryd.prog 332 = some 1 := by kernel_rfl
@[push_cast] theorem ag332 : aggT Tryd.prog 332 = some false := by kernel_rfl
@[push_cast] theorem by332 : bytesT Tryd.prog 332 = 0 := by kernel_rfl
@[push_cast] theorem sz333 : sizeT Tryd.prog 333 = some 1 := by kernel_rfl
@[push_cast] theorem ag333 : aggT Tryd.prog 333 = some false := by kernel_rfl
@[push_cast] theorem ze333 : zeroT Tryd.prog 333 = some (.nilf) := by kernel_rfl
@[push_cast] theorem by333 : bytesT Tryd.prog 333 = 8 := by kernel_rfl
@[push_cast] theorem sz334 : sizeT Tryd.prog 334 = some 32 := by kernel_rfl
@[push_cast] theorem ag334 : aggT Tryd.prog 334 = some true := by kernel_rfl
@[push_cast] theorem ze334 : zeroT Tryd.prog 334 = some (.agg [.int .u8 0, .int .u8 0, .int .u8 0, .int .u8 0, .int .u8 0, .int .u8 0, .int .u8 0, .int .u8 0, .int .u8 0, .int .u8 0, .int .u8 0, .int .u8 0, .int .u8 0, .int .u8 0, .int .u8 0, .int .u8 0, .int .u8 0, .int .u8 0, .int .u8 0, .int .u8 0, .int .u8 0, .int .u8 0, .int .u8 0, .int .u8 0, .int .u8 0, .int .u8 0, .int .u8 0, .int .u8 0, .int .u8 0, .int .u8 0, .int .u8 0, .int .u8 0]) := by kernel_rfl
@[push_cast] theorem by334 : bytesT Tryd.prog 334 = 32 := by kernel_rfl
@[push_cast] theorem sz335 : sizeT Tryd.prog 335 = some 64 := by kernel_rfl
@[push_cast] theorem ag335 : aggT Tryd.prog 335 = some true := by kernel_rfl
@[push_cast] theorem ze335 : zeroT Tryd.prog 335 = some (.agg [.int .u8 0, .int .u8 0, .int .u8 0, .int .u8 0, .int .u8 0, .int .u8 0, .int .u8 0, .int .u8 0, .int .u8 0, .int .u8 0, .int .u8 0, .int .u8 0, .int .u8 0, .int .u8 0, .int .u8 0, .int .u8 0, .int .u8 0, .int .u8 0, .int .u8 0, .int .u8 0, .int .u8 0, .int .u8 0, .int .u8 0, .int .u8 0, .int .u8 0, .int .u8 0, .int .u8 0, .int .u8 0, .int .u8 0, .int .u8 0, .int .u8 0, .int .u8 0, .int .u8 0, .int .u8 0, .int .u8 0, .int .u8 0, .int .u8 0, .int .u8 0, .int .u8 0, .int .u8 0, .int .u8 0, .int .u8 0, .int .u8 0, .int .u8 0, .int .u8 0, .int .u8 0, .int .u8 0, .int .u8 0, .int .u8 0, .int .u8 0, .int .u8 0, .int .u8 0, .int .u8 0, .int .u8 0, .int .u8 0, .int .u8 0, .int .u8 0, .int .u8 0, .int .u8 0, .int .u8 0, .int .u8 0, .int .u8 0, .int .u8 0, .int .u8 0]) := by kernel_rfl
@[push_cast] theorem by335 : bytesT Tryd.prog 335 = 64 := by kernel_rfl
@[push_cast] theorem sz336 : sizeT Tryd.prog 336 = some 256 := by kernel_rfl
@[push_cast] theorem ag336 : aggT Tryd.prog 336 = some true := by kernel_rfl
@[push_cast] theorem by336 : bytesT Tryd.prog 336 = 256 := by kernel_rfl
@[push_cast] theorem sz337 : sizeT Tryd.prog 337 = some 2 := by kernel_rfl
@[push_cast] theorem ag337 : aggT Tryd.prog 337 = some true := by kernel_rfl
@[push_cast] theorem ze337 : zeroT Tryd.prog 337 = some (.agg [.int .u8 0, .int .u8 0]) := by kernel_rfl
@[push_cast] theorem by337 : bytesT Tryd.prog 337 = 2 := by kernel_rfl
@[push_cast] theorem fn337x0 : fieldN Tryd.prog 337 0 = some (5, 0) := by kernel_rfl
@[push_cast] theorem fn337x1 : fieldN Tryd.prog 337 1 = some (5, 1) := by kernel_rfl
@[push_cast] theorem pl337 : placesT Tryd.prog 337 = some [(0, 1), (1, 1)] := by kernel_rfl
@[push_cast] theorem pe337 : plainEqT Tryd.prog 337 = true := by kernel_rfl
@[push_cast] theorem sh337 : Program.stoodInHeld Tryd.prog 337 = false := by kernel_rfl
@[push_cast] theorem sz338 : sizeT Tryd.prog 338 = some 2 := by kernel_rfl
@[push_cast] theorem ag338 : aggT Tryd.prog 338 = some true := by kernel_rfl
@[push_cast] theorem ze338 : zeroT Tryd.prog 338 = some (.agg [.int .u8 0, .int .u8 0]) := by kernel_rfl
@[push_cast] theorem by338 : bytesT Tryd.prog 338 = 2 := by kernel_rfl
@[push_cast] theorem fn338x0 : fieldN Tryd.prog 338 0 = some (5, 0) := by kernel_rfl
@[push_cast] theorem fn338x1 : fieldN Tryd.prog 338 1 = some (5, 1) := by kernel_rfl
@[push_cast] theorem pl338 : placesT Tryd.prog 338 = some [(0, 1), (1, 1)] := by kernel_rfl
@[push_cast] theorem pe338 : plainEqT Tryd.prog 338 = true := by kernel_rfl
@[push_cast] theorem sh338 : Program.stoodInHeld Tryd.prog 338 = false := by kernel_rfl
@[push_cast] theorem sz339 : sizeT Tryd.prog 339 = some 32 := by kernel_rfl
@[push_cast] theorem ag339 : aggT Tryd.prog 339 = some true := by kernel_rfl
@[push_cast] theorem ze339 : zeroT Tryd.prog 339 = some (.agg [.int .u8 0, .int .u8 0, .int .u8 0, .int .u8 0, .int .u8 0, .int .u8 0, .int .u8 0, .int .u8 0, .int .u8 0, .int .u8 0, .int .u8 0, .int .u8 0, .int .u8 0, .int .u8 0, .int .u8 0, .int .u8 0, .int .u8 0, .int .u8 0, .int .u8 0, .int .u8 0, .int .u8 0, .int .u8 0, .int .u8 0, .int .u8 0, .int .u8 0, .int .u8 0, .int .u8 0, .int .u8 0, .int .u8 0, .int .u8 0, .int .u8 0, .int .u8 0]) := by kernel_rfl
@[push_cast] theorem by339 : bytesT Tryd.prog 339 = 32 := by kernel_rfl
@[push_cast] theorem pl339 : placesT Tryd.prog 339 = some [(0, 2), (2, 2), (4, 2), (6, 2), (8, 2), (10, 2), (12, 2), (14, 2), (16, 2), (18, 2), (20, 2), (22, 2), (24, 2), (26, 2), (28, 2), (30, 2)] := by kernel_rfl
@[push_cast] theorem sz340 : sizeT Tryd.prog 340 = some 1 := by kernel_rfl
@[push_cast] theorem ag340 : aggT Tryd.prog 340 = some false := by kernel_rfl
@[push_cast] theorem by340 : bytesT Tryd.prog 340 = 0 := by kernel_rfl
@[push_cast] theorem sz341 : sizeT Tryd.prog 341 = some 1 := by kernel_rfl
@[push_cast] theorem ag341 : aggT Tryd.prog 341 = some false := by kernel_rfl
@[push_cast] theorem ze341 : zeroT Tryd.prog 341 = some (.nilf) := by kernel_rfl
@[push_cast] theorem by341 : bytesT Tryd.prog 341 = 8 := by kernel_rfl
@[push_cast] theorem sz342 : sizeT Tryd.prog 342 = some 1 := by kernel_rfl
@[push_cast] theorem ag342 : aggT Tryd.prog 342 = some false := by kernel_rfl
@[push_cast] theorem ze342 : zeroT Tryd.prog 342 = some (.nilf) := by kernel_rfl
@[push_cast] theorem by342 : bytesT Tryd.prog 342 = 8 := by kernel_rfl
@[push_cast] theorem sz343 : sizeT Tryd.prog 343 = some 4 := by kernel_rfl
@[push_cast] theorem ag343 : aggT Tryd.prog 343 = some true := by kernel_rfl
@[push_cast] theorem ze343 : zeroT Tryd.prog 343 = some (.agg [.nilp, .nilp, .nilp, .str ⟨#[]⟩]) := by kernel_rfl
@[push_cast] theorem by343 : bytesT Tryd.prog 343 = 40 := by kernel_rfl
@[push_cast] theorem fn343x0 : fieldN Tryd.prog 343 0 = some (17, 0) := by kernel_rfl
@[push_cast] theorem fn343x1 : fieldN Tryd.prog 343 1 = some (17, 1) := by kernel_rfl
@[push_cast] theorem fn343x2 : fieldN Tryd.prog 343 2 = some (17, 2) := by kernel_rfl
@[push_cast] theorem fn343x3 : fieldN Tryd.prog 343 3 = some (9, 3) := by kernel_rfl
@[push_cast] theorem pl343 : placesT Tryd.prog 343 = some [(0, 1), (1, 1), (2, 1), (3, 1)] := by kernel_rfl
@[push_cast] theorem pe343 : plainEqT Tryd.prog 343 = true := by kernel_rfl
@[push_cast] theorem sh343 : Program.stoodInHeld Tryd.prog 343 = true := by kernel_rfl
@[push_cast] theorem sz344 : sizeT Tryd.prog 344 = some 4 := by kernel_rfl
@[push_cast] theorem ag344 : aggT Tryd.prog 344 = some true := by kernel_rfl
@[push_cast] theorem ze344 : zeroT Tryd.prog 344 = some (.agg [.nilp, .nilp, .nilp, .str ⟨#[]⟩]) := by kernel_rfl
@[push_cast] theorem by344 : bytesT Tryd.prog 344 = 40 := by kernel_rfl
@[push_cast] theorem fn344x0 : fieldN Tryd.prog 344 0 = some (17, 0) := by kernel_rfl
@[push_cast] theorem fn344x1 : fieldN Tryd.prog 344 1 = some (17, 1) := by kernel_rfl
@[push_cast] theorem fn344x2 : fieldN Tryd.prog 344 2 = some (17, 2) := by kernel_rfl
@[push_cast] theorem fn344x3 : fieldN Tryd.prog 344 3 = some (9, 3) := by kernel_rfl
@[push_cast] theorem pl344 : placesT Tryd.prog 344 = some [(0, 1), (1, 1), (2, 1), (3, 1)] := by kernel_rfl
@[push_cast] theorem pe344 : plainEqT Tryd.prog 344 = true := by kernel_rfl
@[push_cast] theorem sh344 : Program.stoodInHeld Tryd.prog 344 = true := by kernel_rfl
@[push_cast] theorem sz345 : sizeT Tryd.prog 345 = some 0 := by kernel_rfl
@[push_cast] theorem ag345 : aggT Tryd.prog 345 = some true := by kernel_rfl
@[push_cast] theorem ze345 : zeroT Tryd.prog 345 = some (.agg []) := by kernel_rfl
@[push_cast] theorem by345 : bytesT Tryd.prog 345 = 0 := by kernel_rfl
@[push_cast] theorem pl345 : placesT Tryd.prog 345 = some [] := by kernel_rfl
@[push_cast] theorem sz346 : sizeT Tryd.prog 346 = some 0 := by kernel_rfl
@[push_cast] theorem ag346 : aggT Tryd.prog 346 = some true := by kernel_rfl
@[push_cast] theorem ze346 : zeroT Tryd.prog 346 = some (.agg []) := by kernel_rfl
@[push_cast] theorem by346 : bytesT Tryd.prog 346 = 0 := by kernel_rfl
@[push_cast] theorem fn346x0 : fieldN Tryd.prog 346 0 = some (345, 0) := by kernel_rfl
@[push_cast] theorem pl346 : placesT Tryd.prog 346 = some [(0, 0)] := by kernel_rfl
@[push_cast] theorem pe346 : plainEqT Tryd.prog 346 = true := by kernel_rfl
@[push_cast] theorem sh346 : Program.stoodInHeld Tryd.prog 346 = true := by kernel_rfl
@[push_cast] theorem sz347 : sizeT Tryd.prog 347 = some 0 := by kernel_rfl
@[push_cast] theorem ag347 : aggT Tryd.prog 347 = some true := by kernel_rfl
@[push_cast] theorem ze347 : zeroT Tryd.prog 347 = some (.agg []) := by kernel_rfl
@[push_cast] theorem by347 : bytesT Tryd.prog 347 = 0 := by kernel_rfl
@[push_cast] theorem fn347x0 : fieldN Tryd.prog 347 0 = some (345, 0) := by kernel_rfl
@[push_cast] theorem pl347 : placesT Tryd.prog 347 = some [(0, 0)] := by kernel_rfl
@[push_cast] theorem pe347 : plainEqT Tryd.prog 347 = true := by kernel_rfl
@[push_cast] theorem sh347 : Program.stoodInHeld Tryd.prog 347 = true := by kernel_rfl
@[push_cast] theorem sz348 : sizeT Tryd.prog 348 = some 1 := by kernel_rfl
@[push_cast] theorem ag348 : aggT Tryd.prog 348 = some false := by kernel_rfl
@[push_cast] theorem ze348 : zeroT Tryd.prog 348 = some (.nilf) := by kernel_rfl
@[push_cast] theorem by348 : bytesT Tryd.prog 348 = 8 := by kernel_rfl
@[push_cast] theorem sz349 : sizeT Tryd.prog 349 = some 1 := by kernel_rfl
@[push_cast] theorem ag349 : aggT Tryd.prog 349 = some false := by kernel_rfl
@[push_cast] theorem ze349 : zeroT Tryd.prog 349 = some (.int .u8 0) := by kernel_rfl
@[push_cast] theorem by349 : bytesT Tryd.prog 349 = 1 := by kernel_rfl
@[push_cast] theorem sz350 : sizeT Tryd.prog 350 = some 1 := by kernel_rfl
@[push_cast] theorem ag350 : aggT Tryd.prog 350 = some false := by kernel_rfl
@[push_cast] theorem ze350 : zeroT Tryd.prog 350 = some (.int .u8 0) := by kernel_rfl
@[push_cast] theorem by350 : bytesT Tryd.prog 350 = 1 := by kernel_rfl
@[push_cast] theorem sz351 : sizeT Tryd.prog 351 = some 1 := by kernel_rfl
@[push_cast] theorem ag351 : aggT Tryd.prog 351 = some false := by kernel_rfl
@[push_cast] theorem ze351 : zeroT Tryd.prog 351 = some (.nilf) := by kernel_rfl
@[push_cast] theorem by351 : bytesT Tryd.prog 351 = 8 := by kernel_rfl
@[push_cast] theorem sz352 : sizeT Tryd.prog 352 = some 1 := by kernel_rfl
@[push_cast] theorem ag352 : aggT Tryd.prog 352 = some false := by kernel_rfl
@[push_cast] theorem ze352 : zeroT Tryd.prog 352 = some (.nilp) := by kernel_rfl
@[push_cast] theorem by352 : bytesT Tryd.prog 352 = 8 := by kernel_rfl
@[push_cast] theorem sz353 : sizeT Tryd.prog 353 = some 1 := by kernel_rfl
@[push_cast] theorem ag353 : aggT Tryd.prog 353 = some false := by kernel_rfl
@[push_cast] theorem ze353 : zeroT Tryd.prog 353 = some (.int .i32 0) := by kernel_rfl
@[push_cast] theorem by353 : bytesT Tryd.prog 353 = 4 := by kernel_rfl
@[push_cast] theorem sz354 : sizeT Tryd.prog 354 = some 1 := by kernel_rfl
@[push_cast] theorem ag354 : aggT Tryd.prog 354 = some false := by kernel_rfl
@[push_cast] theorem ze354 : zeroT Tryd.prog 354 = some (.int .i32 0) := by kernel_rfl
@[push_cast] theorem by354 : bytesT Tryd.prog 354 = 4 := by kernel_rfl
@[push_cast] theorem sz355 : sizeT Tryd.prog 355 = some 11 := by kernel_rfl
@[push_cast] theorem ag355 : aggT Tryd.prog 355 = some true := by kernel_rfl
@[push_cast] theorem ze355 : zeroT Tryd.prog 355 = some (.agg [.int .u64 0, .int .u64 0, .int .u32 0, .int .u8 0, .int .u8 0, .int .u8 0, .int .u8 0, .nilf, .nilp, .int .i32 0, .int .i32 0]) := by kernel_rfl
@[push_cast] theorem by355 : bytesT Tryd.prog 355 = 48 := by kernel_rfl
@[push_cast] theorem fn355x0 : fieldN Tryd.prog 355 0 = some (12, 0) := by kernel_rfl
@[push_cast] theorem fn355x1 : fieldN Tryd.prog 355 1 = some (12, 1) := by kernel_rfl
@[push_cast] theorem fn355x2 : fieldN Tryd.prog 355 2 = some (300, 2) := by kernel_rfl
@[push_cast] theorem fn355x3 : fieldN Tryd.prog 355 3 = some (349, 3) := by kernel_rfl
@[push_cast] theorem fn355x4 : fieldN Tryd.prog 355 4 = some (5, 4) := by kernel_rfl
@[push_cast] theorem fn355x5 : fieldN Tryd.prog 355 5 = some (5, 5) := by kernel_rfl
@[push_cast] theorem fn355x6 : fieldN Tryd.prog 355 6 = some (350, 6) := by kernel_rfl
@[push_cast] theorem fn355x7 : fieldN Tryd.prog 355 7 = some (351, 7) := by kernel_rfl
@[push_cast] theorem fn355x8 : fieldN Tryd.prog 355 8 = some (352, 8) := by kernel_rfl
@[push_cast] theorem fn355x9 : fieldN Tryd.prog 355 9 = some (353, 9) := by kernel_rfl
@[push_cast] theorem fn355x10 : fieldN Tryd.prog 355 10 = some (354, 10) := by kernel_rfl
@[push_cast] theorem pl355 : placesT Tryd.prog 355 = some [(0, 1), (1, 1), (2, 1), (3, 1), (4, 1), (5, 1), (6, 1), (7, 1), (8, 1), (9, 1), (10, 1)] := by kernel_rfl
@[push_cast] theorem pe355 : plainEqT Tryd.prog 355 = true := by kernel_rfl
@[push_cast] theorem sh355 : Program.stoodInHeld Tryd.prog 355 = true := by kernel_rfl
@[push_cast] theorem sz356 : sizeT Tryd.prog 356 = some 11 := by kernel_rfl
@[push_cast] theorem ag356 : aggT Tryd.prog 356 = some true := by kernel_rfl
@[push_cast] theorem ze356 : zeroT Tryd.prog 356 = some (.agg [.int .u64 0, .int .u64 0, .int .u32 0, .int .u8 0, .int .u8 0, .int .u8 0, .int .u8 0, .nilf, .nilp, .int .i32 0, .int .i32 0]) := by kernel_rfl
@[push_cast] theorem by356 : bytesT Tryd.prog 356 = 48 := by kernel_rfl
@[push_cast] theorem fn356x0 : fieldN Tryd.prog 356 0 = some (12, 0) := by kernel_rfl
@[push_cast] theorem fn356x1 : fieldN Tryd.prog 356 1 = some (12, 1) := by kernel_rfl
@[push_cast] theorem fn356x2 : fieldN Tryd.prog 356 2 = some (300, 2) := by kernel_rfl
@[push_cast] theorem fn356x3 : fieldN Tryd.prog 356 3 = some (349, 3) := by kernel_rfl
@[push_cast] theorem fn356x4 : fieldN Tryd.prog 356 4 = some (5, 4) := by kernel_rfl
@[push_cast] theorem fn356x5 : fieldN Tryd.prog 356 5 = some (5, 5) := by kernel_rfl
@[push_cast] theorem fn356x6 : fieldN Tryd.prog 356 6 = some (350, 6) := by kernel_rfl
@[push_cast] theorem fn356x7 : fieldN Tryd.prog 356 7 = some (351, 7) := by kernel_rfl
@[push_cast] theorem fn356x8 : fieldN Tryd.prog 356 8 = some (352, 8) := by kernel_rfl
@[push_cast] theorem fn356x9 : fieldN Tryd.prog 356 9 = some (353, 9) := by kernel_rfl
@[push_cast] theorem fn356x10 : fieldN Tryd.prog 356 10 = some (354, 10) := by kernel_rfl
@[push_cast] theorem pl356 : placesT Tryd.prog 356 = some [(0, 1), (1, 1), (2, 1), (3, 1), (4, 1), (5, 1), (6, 1), (7, 1), (8, 1), (9, 1), (10, 1)] := by kernel_rfl
@[push_cast] theorem pe356 : plainEqT Tryd.prog 356 = true := by kernel_rfl
@[push_cast] theorem sh356 : Program.stoodInHeld Tryd.prog 356 = true := by kernel_rfl
@[push_cast] theorem sz357 : sizeT Tryd.prog 357 = some 10 := by kernel_rfl
@[push_cast] theorem ag357 : aggT Tryd.prog 357 = some true := by kernel_rfl
@[push_cast] theorem ze357 : zeroT Tryd.prog 357 = some (.agg [.str ⟨#[]⟩, .int .i64 0, .int .i64 0, .str ⟨#[]⟩, .str ⟨#[]⟩, .int .i64 0, .int .i64 0, .str ⟨#[]⟩, .int .i64 0, .int .i64 0]) := by kernel_rfl
@[push_cast] theorem by357 : bytesT Tryd.prog 357 = 112 := by kernel_rfl
@[push_cast] theorem fn357x0 : fieldN Tryd.prog 357 0 = some (154, 0) := by kernel_rfl
@[push_cast] theorem fn357x1 : fieldN Tryd.prog 357 1 = some (3, 8) := by kernel_rfl
@[push_cast] theorem fn357x2 : fieldN Tryd.prog 357 2 = some (3, 9) := by kernel_rfl
@[push_cast] theorem pl357 : placesT Tryd.prog 357 = some [(0, 8), (8, 1), (9, 1)] := by kernel_rfl
@[push_cast] theorem pe357 : plainEqT Tryd.prog 357 = true := by kernel_rfl
@[push_cast] theorem sh357 : Program.stoodInHeld Tryd.prog 357 = false := by kernel_rfl
@[push_cast] theorem sz358 : sizeT Tryd.prog 358 = some 10 := by kernel_rfl
@[push_cast] theorem ag358 : aggT Tryd.prog 358 = some true := by kernel_rfl
@[push_cast] theorem ze358 : zeroT Tryd.prog 358 = some (.agg [.str ⟨#[]⟩, .int .i64 0, .int .i64 0, .str ⟨#[]⟩, .str ⟨#[]⟩, .int .i64 0, .int .i64 0, .str ⟨#[]⟩, .int .i64 0, .int .i64 0]) := by kernel_rfl
@[push_cast] theorem by358 : bytesT Tryd.prog 358 = 112 := by kernel_rfl
@[push_cast] theorem fn358x0 : fieldN Tryd.prog 358 0 = some (154, 0) := by kernel_rfl
@[push_cast] theorem fn358x1 : fieldN Tryd.prog 358 1 = some (3, 8) := by kernel_rfl
@[push_cast] theorem fn358x2 : fieldN Tryd.prog 358 2 = some (3, 9) := by kernel_rfl
@[push_cast] theorem pl358 : placesT Tryd.prog 358 = some [(0, 8), (8, 1), (9, 1)] := by kernel_rfl
@[push_cast] theorem pe358 : plainEqT Tryd.prog 358 = true := by kernel_rfl
@[push_cast] theorem sh358 : Program.stoodInHeld Tryd.prog 358 = false := by kernel_rfl
@[push_cast] theorem sz359 : sizeT Tryd.prog 359 = some 3 := by kernel_rfl
@[push_cast] theorem ag359 : aggT Tryd.prog 359 = some true := by kernel_rfl
@[push_cast] theorem ze359 : zeroT Tryd.prog 359 = some (.agg [.str ⟨#[]⟩, .int .i64 0, .int .i64 0]) := by kernel_rfl
@[push_cast] theorem by359 : bytesT Tryd.prog 359 = 32 := by kernel_rfl
@[push_cast] theorem fn359x0 : fieldN Tryd.prog 359 0 = some (9, 0) := by kernel_rfl
@[push_cast] theorem fn359x1 : fieldN Tryd.prog 359 1 = some (3, 1) := by kernel_rfl
@[push_cast] theorem fn359x2 : fieldN Tryd.prog 359 2 = some (3, 2) := by kernel_rfl
@[push_cast] theorem pl359 : placesT Tryd.prog 359 = some [(0, 1), (1, 1), (2, 1)] := by kernel_rfl
@[push_cast] theorem pe359 : plainEqT Tryd.prog 359 = true := by kernel_rfl
@[push_cast] theorem sh359 : Program.stoodInHeld Tryd.prog 359 = false := by kernel_rfl
@[push_cast] theorem sz360 : sizeT Tryd.prog 360 = some 3 := by kernel_rfl
@[push_cast] theorem ag360 : aggT Tryd.prog 360 = some true := by kernel_rfl
@[push_cast] theorem ze360 : zeroT Tryd.prog 360 = some (.agg [.str ⟨#[]⟩, .int .i64 0, .int .i64 0]) := by kernel_rfl
@[push_cast] theorem by360 : bytesT Tryd.prog 360 = 32 := by kernel_rfl
@[push_cast] theorem fn360x0 : fieldN Tryd.prog 360 0 = some (9, 0) := by kernel_rfl
@[push_cast] theorem fn360x1 : fieldN Tryd.prog 360 1 = some (3, 1) := by kernel_rfl
@[push_cast] theorem fn360x2 : fieldN Tryd.prog 360 2 = some (3, 2) := by kernel_rfl
@[push_cast] theorem pl360 : placesT Tryd.prog 360 = some [(0, 1), (1, 1), (2, 1)] := by kernel_rfl
@[push_cast] theorem pe360 : plainEqT Tryd.prog 360 = true := by kernel_rfl
@[push_cast] theorem sh360 : Program.stoodInHeld Tryd.prog 360 = false := by kernel_rfl
@[push_cast] theorem sz361 : sizeT Tryd.prog 361 = some 1 := by kernel_rfl
@[push_cast] theorem ag361 : aggT Tryd.prog 361 = some false := by kernel_rfl
@[push_cast] theorem ze361 : zeroT Tryd.prog 361 = some (.nilp) := by kernel_rfl
@[push_cast] theorem by361 : bytesT Tryd.prog 361 = 8 := by kernel_rfl
attribute [push_cast] Tryd.underlying0 Tryd.underlying1 Tryd.underlying2 Tryd.underlying3 Tryd.underlying4 Tryd.underlying5 Tryd.underlying6 Tryd.underlying7 Tryd.underlying8 Tryd.underlying9 Tryd.underlying10 Tryd.underlying11 Tryd.underlying12 Tryd.underlying13 Tryd.underlying14 Tryd.underlying15 Tryd.underlying16 Tryd.underlying17 Tryd.underlying18 Tryd.underlying19
attribute [push_cast] Tryd.underlying20 Tryd.underlying21 Tryd.underlying22 Tryd.underlying23 Tryd.underlying24 Tryd.underlying25 Tryd.underlying26 Tryd.underlying27 Tryd.underlying28 Tryd.underlying29 Tryd.underlying30 Tryd.underlying31 Tryd.underlying32 Tryd.underlying33 Tryd.underlying34 Tryd.underlying35 Tryd.underlying36 Tryd.underlying37 Tryd.underlying38 Tryd.underlying39
attribute [push_cast] Tryd.underlying40 Tryd.underlying41 Tryd.underlying42 Tryd.underlying43 Tryd.underlying44 Tryd.underlying45 Tryd.underlying46 Tryd.underlying47 Tryd.underlying48 Tryd.underlying49 Tryd.underlying50 Tryd.underlying51 Tryd.underlying52 Tryd.underlying53 Tryd.underlying54 Tryd.underlying55 Tryd.underlying56 Tryd.underlying57 Tryd.underlying58 Tryd.underlying59
attribute [push_cast] Tryd.underlying60 Tryd.underlying61 Tryd.underlying62 Tryd.underlying63 Tryd.underlying64 Tryd.underlying65 Tryd.underlying66 Tryd.underlying67 Tryd.underlying68 Tryd.underlying69 Tryd.underlying70 Tryd.underlying71 Tryd.underlying72 Tryd.underlying73 Tryd.underlying74 Tryd.underlying75 Tryd.underlying76 Tryd.underlying77 Tryd.underlying78 Tryd.underlying79
attribute [push_cast] Tryd.underlying80 Tryd.underlying81 Tryd.underlying82 Tryd.underlying83 Tryd.underlying84 Tryd.underlying85 Tryd.underlying86 Tryd.underlying87 Tryd.underlying88 Tryd.underlying89 Tryd.underlying90 Tryd.underlying91 Tryd.underlying92 Tryd.underlying93 Tryd.underlying94 Tryd.underlying95 Tryd.underlying96 Tryd.underlying97 Tryd.underlying98 Tryd.underlying99
attribute [push_cast] Tryd.underlying100 Tryd.underlying101 Tryd.underlying102 Tryd.underlying103 Tryd.underlying104 Tryd.underlying105 Tryd.underlying106 Tryd.underlying107 Tryd.underlying108 Tryd.underlying109 Tryd.underlying110 Tryd.underlying111 Tryd.underlying112 Tryd.underlying113 Tryd.underlying114 Tryd.underlying115 Tryd.underlying116 Tryd.underlying117 Tryd.underlying118 Tryd.underlying119
attribute [push_cast] Tryd.underlying120 Tryd.underlying121 Tryd.underlying122 Tryd.underlying123 Tryd.underlying124 Tryd.underlying125 Tryd.underlying126 Tryd.underlying127 Tryd.underlying128 Tryd.underlying129 Tryd.underlying130 Tryd.underlying131 Tryd.underlying132 Tryd.underlying133 Tryd.underlying134 Tryd.underlying135 Tryd.underlying136 Tryd.underlying137 Tryd.underlying138 Tryd.underlying139
attribute [push_cast] Tryd.underlying140 Tryd.underlying141 Tryd.underlying142 Tryd.underlying143 Tryd.underlying144 Tryd.underlying145 Tryd.underlying146 Tryd.underlying147 Tryd.underlying148 Tryd.underlying149 Tryd.underlying150 Tryd.underlying151 Tryd.underlying152 Tryd.underlying153 Tryd.underlying154 Tryd.underlying155 Tryd.underlying156 Tryd.underlying157 Tryd.underlying158 Tryd.underlying159
attribute [push_cast] Tryd.underlying160 Tryd.underlying161 Tryd.underlying162 Tryd.underlying163 Tryd.underlying164 Tryd.underlying165 Tryd.underlying166 Tryd.underlying167 Tryd.underlying168 Tryd.underlying169 Tryd.underlying170 Tryd.underlying171 Tryd.underlying172 Tryd.underlying173 Tryd.underlying174 Tryd.underlying175 Tryd.underlying176 Tryd.underlying177 Tryd.underlying178 Tryd.underlying179
attribute [push_cast] Tryd.underlying180 Tryd.underlying181 Tryd.underlying182 Tryd.underlying183 Tryd.underlying184 Tryd.underlying185 Tryd.underlying186 Tryd.underlying187 Tryd.underlying188 Tryd.underlying189 Tryd.underlying190 Tryd.underlying191 Tryd.underlying192 Tryd.underlying193 Tryd.underlying194 Tryd.underlying195 Tryd.underlying196 Tryd.underlying197 Tryd.underlying198 Tryd.underlying199
attribute [push_cast] Tryd.underlying200 Tryd.underlying201 Tryd.underlying202 Tryd.underlying203 Tryd.underlying204 Tryd.underlying205 Tryd.underlying206 Tryd.underlying207 Tryd.underlying208 Tryd.underlying209 Tryd.underlying210 Tryd.underlying211 Tryd.underlying212 Tryd.underlying213 Tryd.underlying214 Tryd.underlying215 Tryd.underlying216 Tryd.underlying217 Tryd.underlying218 Tryd.underlying219
attribute [push_cast] Tryd.underlying220 Tryd.underlying221 Tryd.underlying222 Tryd.underlying223 Tryd.underlying224 Tryd.underlying225 Tryd.underlying226 Tryd.underlying227 Tryd.underlying228 Tryd.underlying229 Tryd.underlying230 Tryd.underlying231 Tryd.underlying232 Tryd.underlying233 Tryd.underlying234 Tryd.underlying235 Tryd.underlying236 Tryd.underlying237 Tryd.underlying238 Tryd.underlying239
attribute [push_cast] Tryd.underlying240 Tryd.underlying241 Tryd.underlying242 Tryd.underlying243 Tryd.underlying244 Tryd.underlying245 Tryd.underlying246 Tryd.underlying247 Tryd.underlying248 Tryd.underlying249 Tryd.underlying250 Tryd.underlying251 Tryd.underlying252 Tryd.underlying253 Tryd.underlying254 Tryd.underlying255 Tryd.underlying256 Tryd.underlying257 Tryd.underlying258 Tryd.underlying259
attribute [push_cast] Tryd.underlying260 Tryd.underlying261 Tryd.underlying262 Tryd.underlying263 Tryd.underlying264 Tryd.underlying265 Tryd.underlying266 Tryd.underlying267 Tryd.underlying268 Tryd.underlying269 Tryd.underlying270 Tryd.underlying271 Tryd.underlying272 Tryd.underlying273 Tryd.underlying274 Tryd.underlying275 Tryd.underlying276 Tryd.underlying277 Tryd.underlying278 Tryd.underlying279
attribute [push_cast] Tryd.underlying280 Tryd.underlying281 Tryd.underlying282 Tryd.underlying283 Tryd.underlying284 Tryd.underlying285 Tryd.underlying286 Tryd.underlying287 Tryd.underlying288 Tryd.underlying289 Tryd.underlying290 Tryd.underlying291 Tryd.underlying292 Tryd.underlying293 Tryd.underlying294 Tryd.underlying295 Tryd.underlying296 Tryd.underlying297 Tryd.underlying298 Tryd.underlying299
attribute [push_cast] Tryd.underlying300 Tryd.underlying301 Tryd.underlying302 Tryd.underlying303 Tryd.underlying304 Tryd.underlying305 Tryd.underlying306 Tryd.underlying307 Tryd.underlying308 Tryd.underlying309 Tryd.underlying310 Tryd.underlying311 Tryd.underlying312 Tryd.underlying313 Tryd.underlying314 Tryd.underlying315 Tryd.underlying316 Tryd.underlying317 Tryd.underlying318 Tryd.underlying319
attribute [push_cast] Tryd.underlying320 Tryd.underlying321 Tryd.underlying322 Tryd.underlying323 Tryd.underlying324 Tryd.underlying325 Tryd.underlying326 Tryd.underlying327 Tryd.underlying328 Tryd.underlying329 Tryd.underlying330 Tryd.underlying331 Tryd.underlying332 Tryd.underlying333 Tryd.underlying334 Tryd.underlying335 Tryd.underlying336 Tryd.underlying337 Tryd.underlying338 Tryd.underlying339
attribute [push_cast] Tryd.underlying340 Tryd.underlying341 Tryd.underlying342 Tryd.underlying343 Tryd.underlying344 Tryd.underlying345 Tryd.underlying346 Tryd.underlying347 Tryd.underlying348 Tryd.underlying349 Tryd.underlying350 Tryd.underlying351 Tryd.underlying352 Tryd.underlying353 Tryd.underlying354 Tryd.underlying355 Tryd.underlying356 Tryd.underlying357 Tryd.underlying358 Tryd.underlying359
attribute [push_cast] Tryd.underlying360 Tryd.underlying361
end Go.Proofs.YteffefjkcappbaaDoor.Dm
