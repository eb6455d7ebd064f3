/-
  What the machine of XDm asks of this seat's types: sizes, zero values, places of fields. By program (wip/tools/types.py).
-/
import Derived.Test.YticflebneoebkaaDoorEnv
namespace Go.Proofs.YticflebneoebkaaDoor.Dm
open Go
@[push_cast] theorem E_P : E.P = Tryd.prog := rfl
@[push_cast] theorem E_G (g : Nat) : E.G g = none := rfl
@[push_cast] theorem sz0 : sizeT Tryd.prog 0 = some 1 := by kernel_rfl
@[push_cast] theorem ag0 : aggT Tryd.prog 0 = some false := by kernel_rfl
@[push_cast] theorem by0 : bytesT Tryd.prog 0 = 0 := by kernel_rfl
@[push_cast] theorem sz1 : sizeT Tryd.prog 1 = some 1 := by kernel_rfl
@[push_cast] theorem ag1 : aggT Tryd.prog 1 = some false := by kernel_rfl
@[push_cast] theorem ze1 : zeroT Tryd.prog 1 = some (.nilf) := by kernel_rfl
@[push_cast] theorem by1 : bytesT Tryd.prog 1 = 8 := by kernel_rfl
@[push_cast] theorem sz2 : sizeT Tryd.prog 2 = some 1 := by kernel_rfl
@[push_cast] theorem ag2 : aggT Tryd.prog 2 = some false := by kernel_rfl
@[push_cast] theorem ze2 : zeroT Tryd.prog 2 = some (.int .i64 0) := by kernel_rfl
@[push_cast] theorem by2 : bytesT Tryd.prog 2 = 8 := by kernel_rfl
@[push_cast] theorem sz3 : sizeT Tryd.prog 3 = some 1 := by kernel_rfl
@[push_cast] theorem ag3 : aggT Tryd.prog 3 = some false := by kernel_rfl
@[push_cast] theorem ze3 : zeroT Tryd.prog 3 = some (.int .i64 0) := by kernel_rfl
@[push_cast] theorem by3 : bytesT Tryd.prog 3 = 8 := by kernel_rfl
@[push_cast] theorem sz4 : sizeT Tryd.prog 4 = some 1 := by kernel_rfl
@[push_cast] theorem ag4 : aggT Tryd.prog 4 = some false := by kernel_rfl
@[push_cast] theorem ze4 : zeroT Tryd.prog 4 = some (.bool false) := by kernel_rfl
@[push_cast] theorem by4 : bytesT Tryd.prog 4 = 1 := by kernel_rfl
@[push_cast] theorem sz5 : sizeT Tryd.prog 5 = some 1 := by kernel_rfl
@[push_cast] theorem ag5 : aggT Tryd.prog 5 = some false := by kernel_rfl
@[push_cast] theorem ze5 : zeroT Tryd.prog 5 = some (.int .u8 0) := by kernel_rfl
@[push_cast] theorem by5 : bytesT Tryd.prog 5 = 1 := by kernel_rfl
@[push_cast] theorem sz6 : sizeT Tryd.prog 6 = some 1 := by kernel_rfl
@[push_cast] theorem ag6 : aggT Tryd.prog 6 = some false := by kernel_rfl
@[push_cast] theorem ze6 : zeroT Tryd.prog 6 = some (.int .u8 0) := by kernel_rfl
@[push_cast] theorem by6 : bytesT Tryd.prog 6 = 1 := by kernel_rfl
@[push_cast] theorem sz7 : sizeT Tryd.prog 7 = some 4 := by kernel_rfl
@[push_cast] theorem ag7 : aggT Tryd.prog 7 = some true := by kernel_rfl
@[push_cast] theorem ze7 : zeroT Tryd.prog 7 = some (.agg [.int .i64 0, .int .i64 0, .bool false, .int .u8 0]) := by kernel_rfl
@[push_cast] theorem by7 : bytesT Tryd.prog 7 = 24 := by kernel_rfl
@[push_cast] theorem fn7x0 : fieldN Tryd.prog 7 0 = some (2, 0) := by kernel_rfl
@[push_cast] theorem fn7x1 : fieldN Tryd.prog 7 1 = some (3, 1) := by kernel_rfl
@[push_cast] theorem fn7x2 : fieldN Tryd.prog 7 2 = some (4, 2) := by kernel_rfl
@[push_cast] theorem fn7x3 : fieldN Tryd.prog 7 3 = some (6, 3) := by kernel_rfl
@[push_cast] theorem pl7 : placesT Tryd.prog 7 = some [(0, 1), (1, 1), (2, 1), (3, 1)] := by kernel_rfl
@[push_cast] theorem pe7 : plainEqT Tryd.prog 7 = true := by kernel_rfl
@[push_cast] theorem sh7 : Program.stoodInHeld Tryd.prog 7 = false := by kernel_rfl
@[push_cast] theorem sz8 : sizeT Tryd.prog 8 = some 4 := by kernel_rfl
@[push_cast] theorem ag8 : aggT Tryd.prog 8 = some true := by kernel_rfl
@[push_cast] theorem ze8 : zeroT Tryd.prog 8 = some (.agg [.int .i64 0, .int .i64 0, .bool false, .int .u8 0]) := by kernel_rfl
@[push_cast] theorem by8 : bytesT Tryd.prog 8 = 24 := by kernel_rfl
@[push_cast] theorem fn8x0 : fieldN Tryd.prog 8 0 = some (2, 0) := by kernel_rfl
@[push_cast] theorem fn8x1 : fieldN Tryd.prog 8 1 = some (3, 1) := by kernel_rfl
@[push_cast] theorem fn8x2 : fieldN Tryd.prog 8 2 = some (4, 2) := by kernel_rfl
@[push_cast] theorem fn8x3 : fieldN Tryd.prog 8 3 = some (6, 3) := by kernel_rfl
@[push_cast] theorem pl8 : placesT Tryd.prog 8 = some [(0, 1), (1, 1), (2, 1), (3, 1)] := by kernel_rfl
@[push_cast] theorem pe8 : plainEqT Tryd.prog 8 = true := by kernel_rfl
@[push_cast] theorem sh8 : Program.stoodInHeld Tryd.prog 8 = false := by kernel_rfl
@[push_cast] theorem sz9 : sizeT Tryd.prog 9 = some 1 := by kernel_rfl
@[push_cast] theorem ag9 : aggT Tryd.prog 9 = some false := by kernel_rfl
@[push_cast] theorem ze9 : zeroT Tryd.prog 9 = some (.str ⟨#[]⟩) := by kernel_rfl
@[push_cast] theorem by9 : bytesT Tryd.prog 9 = 16 := by kernel_rfl
@[push_cast] theorem sz10 : sizeT Tryd.prog 10 = some 1 := by kernel_rfl
@[push_cast] theorem ag10 : aggT Tryd.prog 10 = some false := by kernel_rfl
@[push_cast] theorem ze10 : zeroT Tryd.prog 10 = some (.str ⟨#[]⟩) := by kernel_rfl
@[push_cast] theorem by10 : bytesT Tryd.prog 10 = 16 := by kernel_rfl
@[push_cast] theorem sz11 : sizeT Tryd.prog 11 = some 1 := by kernel_rfl
@[push_cast] theorem ag11 : aggT Tryd.prog 11 = some false := by kernel_rfl
@[push_cast] theorem ze11 : zeroT Tryd.prog 11 = some (.str ⟨#[]⟩) := by kernel_rfl
@[push_cast] theorem by11 : bytesT Tryd.prog 11 = 16 := by kernel_rfl
@[push_cast] theorem sz12 : sizeT Tryd.prog 12 = some 1 := by kernel_rfl
@[push_cast] theorem ag12 : aggT Tryd.prog 12 = some false := by kernel_rfl
@[push_cast] theorem ze12 : zeroT Tryd.prog 12 = some (.int .u64 0) := by kernel_rfl
@[push_cast] theorem by12 : bytesT Tryd.prog 12 = 8 := by kernel_rfl
@[push_cast] theorem sz13 : sizeT Tryd.prog 13 = some 2 := by kernel_rfl
@[push_cast] theorem ag13 : aggT Tryd.prog 13 = some true := by kernel_rfl
@[push_cast] theorem ze13 : zeroT Tryd.prog 13 = some (.agg [.str ⟨#[]⟩, .int .u64 0]) := by kernel_rfl
@[push_cast] theorem by13 : bytesT Tryd.prog 13 = 24 := by kernel_rfl
@[push_cast] theorem fn13x0 : fieldN Tryd.prog 13 0 = some (9, 0) := by kernel_rfl
@[push_cast] theorem fn13x1 : fieldN Tryd.prog 13 1 = some (12, 1) := by kernel_rfl
@[push_cast] theorem pl13 : placesT Tryd.prog 13 = some [(0, 1), (1, 1)] := by kernel_rfl
@[push_cast] theorem pe13 : plainEqT Tryd.prog 13 = true := by kernel_rfl
@[push_cast] theorem sh13 : Program.stoodInHeld Tryd.prog 13 = true := by kernel_rfl
@[push_cast] theorem sz14 : sizeT Tryd.prog 14 = some 2 := by kernel_rfl
@[push_cast] theorem ag14 : aggT Tryd.prog 14 = some true := by kernel_rfl
@[push_cast] theorem ze14 : zeroT Tryd.prog 14 = some (.agg [.str ⟨#[]⟩, .int .u64 0]) := by kernel_rfl
@[push_cast] theorem by14 : bytesT Tryd.prog 14 = 24 := by kernel_rfl
@[push_cast] theorem fn14x0 : fieldN Tryd.prog 14 0 = some (9, 0) := by kernel_rfl
@[push_cast] theorem fn14x1 : fieldN Tryd.prog 14 1 = some (12, 1) := by kernel_rfl
@[push_cast] theorem pl14 : placesT Tryd.prog 14 = some [(0, 1), (1, 1)] := by kernel_rfl
@[push_cast] theorem pe14 : plainEqT Tryd.prog 14 = true := by kernel_rfl
@[push_cast] theorem sh14 : Program.stoodInHeld Tryd.prog 14 = true := by kernel_rfl
@[push_cast] theorem sz15 : sizeT Tryd.prog 15 = some 1 := by kernel_rfl
@[push_cast] theorem ag15 : aggT Tryd.prog 15 = some false := by kernel_rfl
@[push_cast] theorem ze15 : zeroT Tryd.prog 15 = some (.nilp) := by kernel_rfl
@[push_cast] theorem by15 : bytesT Tryd.prog 15 = 8 := by kernel_rfl
@[push_cast] theorem sz16 : sizeT Tryd.prog 16 = some 1 := by kernel_rfl
@[push_cast] theorem ag16 : aggT Tryd.prog 16 = some false := by kernel_rfl
@[push_cast] theorem ze16 : zeroT Tryd.prog 16 = some (.nilp) := by kernel_rfl
@[push_cast] theorem by16 : bytesT Tryd.prog 16 = 8 := by kernel_rfl
@[push_cast] theorem sz17 : sizeT Tryd.prog 17 = some 1 := by kernel_rfl
@[push_cast] theorem ag17 : aggT Tryd.prog 17 = some false := by kernel_rfl
@[push_cast] theorem ze17 : zeroT Tryd.prog 17 = some (.nilp) := by kernel_rfl
@[push_cast] theorem by17 : bytesT Tryd.prog 17 = 8 := by kernel_rfl
@[push_cast] theorem sz18 : sizeT Tryd.prog 18 = some 1 := by kernel_rfl
@[push_cast] theorem ag18 : aggT Tryd.prog 18 = some true := by kernel_rfl
@[push_cast] theorem ze18 : zeroT Tryd.prog 18 = some (.agg [.nilp]) := by kernel_rfl
@[push_cast] theorem by18 : bytesT Tryd.prog 18 = 8 := by kernel_rfl
@[push_cast] theorem fn18x0 : fieldN Tryd.prog 18 0 = some (17, 0) := by kernel_rfl
@[push_cast] theorem pl18 : placesT Tryd.prog 18 = some [(0, 1)] := by kernel_rfl
@[push_cast] theorem pe18 : plainEqT Tryd.prog 18 = true := by kernel_rfl
@[push_cast] theorem sh18 : Program.stoodInHeld Tryd.prog 18 = true := by kernel_rfl
@[push_cast] theorem sz19 : sizeT Tryd.prog 19 = some 1 := by kernel_rfl
@[push_cast] theorem ag19 : aggT Tryd.prog 19 = some true := by kernel_rfl
@[push_cast] theorem ze19 : zeroT Tryd.prog 19 = some (.agg [.nilp]) := by kernel_rfl
@[push_cast] theorem by19 : bytesT Tryd.prog 19 = 8 := by kernel_rfl
@[push_cast] theorem fn19x0 : fieldN Tryd.prog 19 0 = some (17, 0) := by kernel_rfl
@[push_cast] theorem pl19 : placesT Tryd.prog 19 = some [(0, 1)] := by kernel_rfl
@[push_cast] theorem pe19 : plainEqT Tryd.prog 19 = true := by kernel_rfl
@[push_cast] theorem sh19 : Program.stoodInHeld Tryd.prog 19 = true := by kernel_rfl
@[push_cast] theorem sz20 : sizeT Tryd.prog 20 = some 1 := by kernel_rfl
@[push_cast] theorem ag20 : aggT Tryd.prog 20 = some false := by kernel_rfl
@[push_cast] theorem ze20 : zeroT Tryd.prog 20 = some (.nili) := by kernel_rfl
@[push_cast] theorem by20 : bytesT Tryd.prog 20 = 16 := by kernel_rfl
@[push_cast] theorem sz21 : sizeT Tryd.prog 21 = some 1 := by kernel_rfl
@[push_cast] theorem ag21 : aggT Tryd.prog 21 = some false := by kernel_rfl
@[push_cast] theorem ze21 : zeroT Tryd.prog 21 = some (.int .i32 0) := by kernel_rfl
@[push_cast] theorem by21 : bytesT Tryd.prog 21 = 4 := by kernel_rfl
@[push_cast] theorem sz22 : sizeT Tryd.prog 22 = some 1 := by kernel_rfl
@[push_cast] theorem ag22 : aggT Tryd.prog 22 = some false := by kernel_rfl
@[push_cast] theorem ze22 : zeroT Tryd.prog 22 = some (.nilf) := by kernel_rfl
@[push_cast] theorem by22 : bytesT Tryd.prog 22 = 8 := by kernel_rfl
@[push_cast] theorem sz23 : sizeT Tryd.prog 23 = some 1 := by kernel_rfl
@[push_cast] theorem ag23 : aggT Tryd.prog 23 = some false := by kernel_rfl
@[push_cast] theorem ze23 : zeroT Tryd.prog 23 = some (.nilf) := by kernel_rfl
@[push_cast] theorem by23 : bytesT Tryd.prog 23 = 8 := by kernel_rfl
@[push_cast] theorem sz24 : sizeT Tryd.prog 24 = some 1 := by kernel_rfl
@[push_cast] theorem ag24 : aggT Tryd.prog 24 = some false := by kernel_rfl
@[push_cast] theorem ze24 : zeroT Tryd.prog 24 = some (.nilf) := by kernel_rfl
@[push_cast] theorem by24 : bytesT Tryd.prog 24 = 8 := by kernel_rfl
@[push_cast] theorem sz25 : sizeT Tryd.prog 25 = some 1 := by kernel_rfl
@[push_cast] theorem ag25 : aggT Tryd.prog 25 = some false := by kernel_rfl
@[push_cast] theorem ze25 : zeroT Tryd.prog 25 = some (.nils) := by kernel_rfl
@[push_cast] theorem by25 : bytesT Tryd.prog 25 = 24 := by kernel_rfl
@[push_cast] theorem el25 : elemT Tryd.prog 25 = some 72 := by kernel_rfl
@[push_cast] theorem sz26 : sizeT Tryd.prog 26 = some 1 := by kernel_rfl
@[push_cast] theorem ag26 : aggT Tryd.prog 26 = some false := by kernel_rfl
@[push_cast] theorem ze26 : zeroT Tryd.prog 26 = some (.nils) := by kernel_rfl
@[push_cast] theorem by26 : bytesT Tryd.prog 26 = 24 := by kernel_rfl
@[push_cast] theorem el26 : elemT Tryd.prog 26 = some 92 := by kernel_rfl
@[push_cast] theorem sz27 : sizeT Tryd.prog 27 = some 1 := by kernel_rfl
@[push_cast] theorem ag27 : aggT Tryd.prog 27 = some false := by kernel_rfl
@[push_cast] theorem ze27 : zeroT Tryd.prog 27 = some (.nils) := by kernel_rfl
@[push_cast] theorem by27 : bytesT Tryd.prog 27 = 24 := by kernel_rfl
@[push_cast] theorem el27 : elemT Tryd.prog 27 = some 5 := by kernel_rfl
@[push_cast] theorem sz28 : sizeT Tryd.prog 28 = some 1 := by kernel_rfl
@[push_cast] theorem ag28 : aggT Tryd.prog 28 = some false := by kernel_rfl
@[push_cast] theorem ze28 : zeroT Tryd.prog 28 = some (.nils) := by kernel_rfl
@[push_cast] theorem by28 : bytesT Tryd.prog 28 = 24 := by kernel_rfl
@[push_cast] theorem el28 : elemT Tryd.prog 28 = some 85 := by kernel_rfl
@[push_cast] theorem sz29 : sizeT Tryd.prog 29 = some 1 := by kernel_rfl
@[push_cast] theorem ag29 : aggT Tryd.prog 29 = some false := by kernel_rfl
@[push_cast] theorem ze29 : zeroT Tryd.prog 29 = some (.nilf) := by kernel_rfl
@[push_cast] theorem by29 : bytesT Tryd.prog 29 = 8 := by kernel_rfl
@[push_cast] theorem sz30 : sizeT Tryd.prog 30 = some 1 := by kernel_rfl
@[push_cast] theorem ag30 : aggT Tryd.prog 30 = some false := by kernel_rfl
@[push_cast] theorem ze30 : zeroT Tryd.prog 30 = some (.nilf) := by kernel_rfl
@[push_cast] theorem by30 : bytesT Tryd.prog 30 = 8 := by kernel_rfl
@[push_cast] theorem sz31 : sizeT Tryd.prog 31 = some 1 := by kernel_rfl
@[push_cast] theorem ag31 : aggT Tryd.prog 31 = some false := by kernel_rfl
@[push_cast] theorem ze31 : zeroT Tryd.prog 31 = some (.nilp) := by kernel_rfl
@[push_cast] theorem by31 : bytesT Tryd.prog 31 = 8 := by kernel_rfl
@[push_cast] theorem sz32 : sizeT Tryd.prog 32 = some 1 := by kernel_rfl
@[push_cast] theorem ag32 : aggT Tryd.prog 32 = some false := by kernel_rfl
@[push_cast] theorem by32 : bytesT Tryd.prog 32 = 0 := by kernel_rfl
@[push_cast] theorem sz33 : sizeT Tryd.prog 33 = some 1 := by kernel_rfl
@[push_cast] theorem ag33 : aggT Tryd.prog 33 = some false := by kernel_rfl
@[push_cast] theorem ze33 : zeroT Tryd.prog 33 = some (.nilf) := by kernel_rfl
@[push_cast] theorem by33 : bytesT Tryd.prog 33 = 8 := by kernel_rfl
@[push_cast] theorem sz34 : sizeT Tryd.prog 34 = some 1 := by kernel_rfl
@[push_cast] theorem ag34 : aggT Tryd.prog 34 = some false := by kernel_rfl
@[push_cast] theorem ze34 : zeroT Tryd.prog 34 = some (.nilf) := by kernel_rfl
@[push_cast] theorem by34 : bytesT Tryd.prog 34 = 8 := by kernel_rfl
@[push_cast] theorem sz35 : sizeT Tryd.prog 35 = some 1 := by kernel_rfl
@[push_cast] theorem ag35 : aggT Tryd.prog 35 = some false := by kernel_rfl
@[push_cast] theorem ze35 : zeroT Tryd.prog 35 = some (.nils) := by kernel_rfl
@[push_cast] theorem by35 : bytesT Tryd.prog 35 = 24 := by kernel_rfl
@[push_cast] theorem el35 : elemT Tryd.prog 35 = some 74 := by kernel_rfl
@[push_cast] theorem sz36 : sizeT Tryd.prog 36 = some 1 := by kernel_rfl
@[push_cast] theorem ag36 : aggT Tryd.prog 36 = some false := by kernel_rfl
@[push_cast] theorem ze36 : zeroT Tryd.prog 36 = some (.nilf) := by kernel_rfl
@[push_cast] theorem by36 : bytesT Tryd.prog 36 = 8 := by kernel_rfl
@[push_cast] theorem sz37 : sizeT Tryd.prog 37 = some 1 := by kernel_rfl
@[push_cast] theorem ag37 : aggT Tryd.prog 37 = some false := by kernel_rfl
@[push_cast] theorem ze37 : zeroT Tryd.prog 37 = some (.nilf) := by kernel_rfl
@[push_cast] theorem by37 : bytesT Tryd.prog 37 = 8 := by kernel_rfl
@[push_cast] theorem sz38 : sizeT Tryd.prog 38 = some 1 := by kernel_rfl
@[push_cast] theorem ag38 : aggT Tryd.prog 38 = some false := by kernel_rfl
@[push_cast] theorem ze38 : zeroT Tryd.prog 38 = some (.nilf) := by kernel_rfl
@[push_cast] theorem by38 : bytesT Tryd.prog 38 = 8 := by kernel_rfl
@[push_cast] theorem sz39 : sizeT Tryd.prog 39 = some 5 := by kernel_rfl
@[push_cast] theorem ag39 : aggT Tryd.prog 39 = some true := by kernel_rfl
@[push_cast] theorem ze39 : zeroT Tryd.prog 39 = some (.agg [.int .i64 0, .nils, .str ⟨#[]⟩, .int .i64 0, .int .i64 0]) := by kernel_rfl
@[push_cast] theorem by39 : bytesT Tryd.prog 39 = 64 := by kernel_rfl
@[push_cast] theorem fn39x0 : fieldN Tryd.prog 39 0 = some (3, 0) := by kernel_rfl
@[push_cast] theorem fn39x1 : fieldN Tryd.prog 39 1 = some (35, 1) := by kernel_rfl
@[push_cast] theorem fn39x2 : fieldN Tryd.prog 39 2 = some (9, 2) := by kernel_rfl
@[push_cast] theorem fn39x3 : fieldN Tryd.prog 39 3 = some (3, 3) := by kernel_rfl
@[push_cast] theorem fn39x4 : fieldN Tryd.prog 39 4 = some (3, 4) := by kernel_rfl
@[push_cast] theorem pl39 : placesT Tryd.prog 39 = some [(0, 1), (1, 1), (2, 1), (3, 1), (4, 1)] := by kernel_rfl
@[push_cast] theorem pe39 : plainEqT Tryd.prog 39 = true := by kernel_rfl
@[push_cast] theorem sh39 : Program.stoodInHeld Tryd.prog 39 = false := by kernel_rfl
@[push_cast] theorem sz40 : sizeT Tryd.prog 40 = some 5 := by kernel_rfl
@[push_cast] theorem ag40 : aggT Tryd.prog 40 = some true := by kernel_rfl
@[push_cast] theorem ze40 : zeroT Tryd.prog 40 = some (.agg [.int .i64 0, .nils, .str ⟨#[]⟩, .int .i64 0, .int .i64 0]) := by kernel_rfl
@[push_cast] theorem by40 : bytesT Tryd.prog 40 = 64 := by kernel_rfl
@[push_cast] theorem fn40x0 : fieldN Tryd.prog 40 0 = some (3, 0) := by kernel_rfl
@[push_cast] theorem fn40x1 : fieldN Tryd.prog 40 1 = some (35, 1) := by kernel_rfl
@[push_cast] theorem fn40x2 : fieldN Tryd.prog 40 2 = some (9, 2) := by kernel_rfl
@[push_cast] theorem fn40x3 : fieldN Tryd.prog 40 3 = some (3, 3) := by kernel_rfl
@[push_cast] theorem fn40x4 : fieldN Tryd.prog 40 4 = some (3, 4) := by kernel_rfl
@[push_cast] theorem pl40 : placesT Tryd.prog 40 = some [(0, 1), (1, 1), (2, 1), (3, 1), (4, 1)] := by kernel_rfl
@[push_cast] theorem pe40 : plainEqT Tryd.prog 40 = true := by kernel_rfl
@[push_cast] theorem sh40 : Program.stoodInHeld Tryd.prog 40 = false := by kernel_rfl
@[push_cast] theorem sz41 : sizeT Tryd.prog 41 = some 1 := by kernel_rfl
@[push_cast] theorem ag41 : aggT Tryd.prog 41 = some false := by kernel_rfl
@[push_cast] theorem ze41 : zeroT Tryd.prog 41 = some (.nils) := by kernel_rfl
@[push_cast] theorem by41 : bytesT Tryd.prog 41 = 24 := by kernel_rfl
@[push_cast] theorem el41 : elemT Tryd.prog 41 = some 128 := by kernel_rfl
@[push_cast] theorem sz42 : sizeT Tryd.prog 42 = some 1 := by kernel_rfl
@[push_cast] theorem ag42 : aggT Tryd.prog 42 = some false := by kernel_rfl
@[push_cast] theorem by42 : bytesT Tryd.prog 42 = 0 := by kernel_rfl
@[push_cast] theorem sz43 : sizeT Tryd.prog 43 = some 1 := by kernel_rfl
@[push_cast] theorem ag43 : aggT Tryd.prog 43 = some false := by kernel_rfl
@[push_cast] theorem ze43 : zeroT Tryd.prog 43 = some (.nilf) := by kernel_rfl
@[push_cast] theorem by43 : bytesT Tryd.prog 43 = 8 := by kernel_rfl
@[push_cast] theorem sz44 : sizeT Tryd.prog 44 = some 1 := by kernel_rfl
@[push_cast] theorem ag44 : aggT Tryd.prog 44 = some false := by kernel_rfl
@[push_cast] theorem ze44 : zeroT Tryd.prog 44 = some (.nilp) := by kernel_rfl
@[push_cast] theorem by44 : bytesT Tryd.prog 44 = 8 := by kernel_rfl
@[push_cast] theorem sz45 : sizeT Tryd.prog 45 = some 1 := by kernel_rfl
@[push_cast] theorem ag45 : aggT Tryd.prog 45 = some false := by kernel_rfl
@[push_cast] theorem ze45 : zeroT Tryd.prog 45 = some (.nils) := by kernel_rfl
@[push_cast] theorem by45 : bytesT Tryd.prog 45 = 24 := by kernel_rfl
@[push_cast] theorem el45 : elemT Tryd.prog 45 = some 53 := by kernel_rfl
@[push_cast] theorem sz46 : sizeT Tryd.prog 46 = some 1 := by kernel_rfl
@[push_cast] theorem ag46 : aggT Tryd.prog 46 = some false := by kernel_rfl
@[push_cast] theorem ze46 : zeroT Tryd.prog 46 = some (.nilf) := by kernel_rfl
@[push_cast] theorem by46 : bytesT Tryd.prog 46 = 8 := by kernel_rfl
@[push_cast] theorem sz47 : sizeT Tryd.prog 47 = some 1 := by kernel_rfl
@[push_cast] theorem ag47 : aggT Tryd.prog 47 = some false := by kernel_rfl
@[push_cast] theorem ze47 : zeroT Tryd.prog 47 = some (.nilf) := by kernel_rfl
@[push_cast] theorem by47 : bytesT Tryd.prog 47 = 8 := by kernel_rfl
@[push_cast] theorem sz48 : sizeT Tryd.prog 48 = some 3 := by kernel_rfl
@[push_cast] theorem ag48 : aggT Tryd.prog 48 = some true := by kernel_rfl
@[push_cast] theorem ze48 : zeroT Tryd.prog 48 = some (.agg [.nils, .nilf, .nilf]) := by kernel_rfl
@[push_cast] theorem by48 : bytesT Tryd.prog 48 = 40 := by kernel_rfl
@[push_cast] theorem fn48x0 : fieldN Tryd.prog 48 0 = some (45, 0) := by kernel_rfl
@[push_cast] theorem fn48x1 : fieldN Tryd.prog 48 1 = some (46, 1) := by kernel_rfl
@[push_cast] theorem fn48x2 : fieldN Tryd.prog 48 2 = some (47, 2) := by kernel_rfl
@[push_cast] theorem pl48 : placesT Tryd.prog 48 = some [(0, 1), (1, 1), (2, 1)] := by kernel_rfl
@[push_cast] theorem pe48 : plainEqT Tryd.prog 48 = true := by kernel_rfl
@[push_cast] theorem sh48 : Program.stoodInHeld Tryd.prog 48 = false := by kernel_rfl
@[push_cast] theorem sz49 : sizeT Tryd.prog 49 = some 3 := by kernel_rfl
@[push_cast] theorem ag49 : aggT Tryd.prog 49 = some true := by kernel_rfl
@[push_cast] theorem ze49 : zeroT Tryd.prog 49 = some (.agg [.nils, .nilf, .nilf]) := by kernel_rfl
@[push_cast] theorem by49 : bytesT Tryd.prog 49 = 40 := by kernel_rfl
@[push_cast] theorem fn49x0 : fieldN Tryd.prog 49 0 = some (45, 0) := by kernel_rfl
@[push_cast] theorem fn49x1 : fieldN Tryd.prog 49 1 = some (46, 1) := by kernel_rfl
@[push_cast] theorem fn49x2 : fieldN Tryd.prog 49 2 = some (47, 2) := by kernel_rfl
@[push_cast] theorem pl49 : placesT Tryd.prog 49 = some [(0, 1), (1, 1), (2, 1)] := by kernel_rfl
@[push_cast] theorem pe49 : plainEqT Tryd.prog 49 = true := by kernel_rfl
@[push_cast] theorem sh49 : Program.stoodInHeld Tryd.prog 49 = false := by kernel_rfl
@[push_cast] theorem sz50 : sizeT Tryd.prog 50 = some 4 := by kernel_rfl
@[push_cast] theorem ag50 : aggT Tryd.prog 50 = some true := by kernel_rfl
@[push_cast] theorem ze50 : zeroT Tryd.prog 50 = some (.agg [.nils, .nilf, .nilf, .bool false]) := by kernel_rfl
@[push_cast] theorem by50 : bytesT Tryd.prog 50 = 48 := by kernel_rfl
@[push_cast] theorem fn50x0 : fieldN Tryd.prog 50 0 = some (49, 0) := by kernel_rfl
@[push_cast] theorem fn50x1 : fieldN Tryd.prog 50 1 = some (4, 3) := by kernel_rfl
@[push_cast] theorem pl50 : placesT Tryd.prog 50 = some [(0, 3), (3, 1)] := by kernel_rfl
@[push_cast] theorem pe50 : plainEqT Tryd.prog 50 = true := by kernel_rfl
@[push_cast] theorem sh50 : Program.stoodInHeld Tryd.prog 50 = false := by kernel_rfl
@[push_cast] theorem sz51 : sizeT Tryd.prog 51 = some 4 := by kernel_rfl
@[push_cast] theorem ag51 : aggT Tryd.prog 51 = some true := by kernel_rfl
@[push_cast] theorem ze51 : zeroT Tryd.prog 51 = some (.agg [.nils, .nilf, .nilf, .bool false]) := by kernel_rfl
@[push_cast] theorem by51 : bytesT Tryd.prog 51 = 48 := by kernel_rfl
@[push_cast] theorem fn51x0 : fieldN Tryd.prog 51 0 = some (49, 0) := by kernel_rfl
@[push_cast] theorem fn51x1 : fieldN Tryd.prog 51 1 = some (4, 3) := by kernel_rfl
@[push_cast] theorem pl51 : placesT Tryd.prog 51 = some [(0, 3), (3, 1)] := by kernel_rfl
@[push_cast] theorem pe51 : plainEqT Tryd.prog 51 = true := by kernel_rfl
@[push_cast] theorem sh51 : Program.stoodInHeld Tryd.prog 51 = false := by kernel_rfl
@[push_cast] theorem sz52 : sizeT Tryd.prog 52 = some 1 := by kernel_rfl
@[push_cast] theorem ag52 : aggT Tryd.prog 52 = some false := by kernel_rfl
@[push_cast] theorem ze52 : zeroT Tryd.prog 52 = some (.nils) := by kernel_rfl
@[push_cast] theorem by52 : bytesT Tryd.prog 52 = 24 := by kernel_rfl
@[push_cast] theorem el52 : elemT Tryd.prog 52 = some 44 := by kernel_rfl
@[push_cast] theorem sz53 : sizeT Tryd.prog 53 = some 5 := by kernel_rfl
@[push_cast] theorem ag53 : aggT Tryd.prog 53 = some true := by kernel_rfl
@[push_cast] theorem ze53 : zeroT Tryd.prog 53 = some (.agg [.int .i64 0, .nils, .str ⟨#[]⟩, .int .i64 0, .int .i64 0]) := by kernel_rfl
@[push_cast] theorem by53 : bytesT Tryd.prog 53 = 64 := by kernel_rfl
@[push_cast] theorem fn53x0 : fieldN Tryd.prog 53 0 = some (3, 0) := by kernel_rfl
@[push_cast] theorem fn53x1 : fieldN Tryd.prog 53 1 = some (35, 1) := by kernel_rfl
@[push_cast] theorem fn53x2 : fieldN Tryd.prog 53 2 = some (9, 2) := by kernel_rfl
@[push_cast] theorem fn53x3 : fieldN Tryd.prog 53 3 = some (3, 3) := by kernel_rfl
@[push_cast] theorem fn53x4 : fieldN Tryd.prog 53 4 = some (3, 4) := by kernel_rfl
@[push_cast] theorem pl53 : placesT Tryd.prog 53 = some [(0, 1), (1, 1), (2, 1), (3, 1), (4, 1)] := by kernel_rfl
@[push_cast] theorem pe53 : plainEqT Tryd.prog 53 = true := by kernel_rfl
@[push_cast] theorem sh53 : Program.stoodInHeld Tryd.prog 53 = false := by kernel_rfl
@[push_cast] theorem sz54 : sizeT Tryd.prog 54 = some 1 := by kernel_rfl
@[push_cast] theorem ag54 : aggT Tryd.prog 54 = some false := by kernel_rfl
@[push_cast] theorem ze54 : zeroT Tryd.prog 54 = some (.int .i64 0) := by kernel_rfl
@[push_cast] theorem by54 : bytesT Tryd.prog 54 = 8 := by kernel_rfl
@[push_cast] theorem sz55 : sizeT Tryd.prog 55 = some 1 := by kernel_rfl
@[push_cast] theorem ag55 : aggT Tryd.prog 55 = some false := by kernel_rfl
@[push_cast] theorem by55 : bytesT Tryd.prog 55 = 0 := by kernel_rfl
@[push_cast] theorem sz56 : sizeT Tryd.prog 56 = some 1 := by kernel_rfl
@[push_cast] theorem ag56 : aggT Tryd.prog 56 = some false := by kernel_rfl
@[push_cast] theorem ze56 : zeroT Tryd.prog 56 = some (.nilf) := by kernel_rfl
@[push_cast] theorem by56 : bytesT Tryd.prog 56 = 8 := by kernel_rfl
@[push_cast] theorem sz57 : sizeT Tryd.prog 57 = some 1 := by kernel_rfl
@[push_cast] theorem ag57 : aggT Tryd.prog 57 = some false := by kernel_rfl
@[push_cast] theorem by57 : bytesT Tryd.prog 57 = 0 := by kernel_rfl
@[push_cast] theorem sz58 : sizeT Tryd.prog 58 = some 1 := by kernel_rfl
@[push_cast] theorem ag58 : aggT Tryd.prog 58 = some false := by kernel_rfl
@[push_cast] theorem ze58 : zeroT Tryd.prog 58 = some (.nilf) := by kernel_rfl
@[push_cast] theorem by58 : bytesT Tryd.prog 58 = 8 := by kernel_rfl
@[push_cast] theorem sz59 : sizeT Tryd.prog 59 = some 1 := by kernel_rfl
@[push_cast] theorem ag59 : aggT Tryd.prog 59 = some false := by kernel_rfl
@[push_cast] theorem ze59 : zeroT Tryd.prog 59 = some (.nilf) := by kernel_rfl
@[push_cast] theorem by59 : bytesT Tryd.prog 59 = 8 := by kernel_rfl
@[push_cast] theorem sz60 : sizeT Tryd.prog 60 = some 1 := by kernel_rfl
@[push_cast] theorem ag60 : aggT Tryd.prog 60 = some false := by kernel_rfl
@[push_cast] theorem ze60 : zeroT Tryd.prog 60 = some (.nilf) := by kernel_rfl
@[push_cast] theorem by60 : bytesT Tryd.prog 60 = 8 := by kernel_rfl
@[push_cast] theorem sz61 : sizeT Tryd.prog 61 = some 1 := by kernel_rfl
@[push_cast] theorem ag61 : aggT Tryd.prog 61 = some false := by kernel_rfl
@[push_cast] theorem ze61 : zeroT Tryd.prog 61 = some (.nilf) := by kernel_rfl
@[push_cast] theorem by61 : bytesT Tryd.prog 61 = 8 := by kernel_rfl
@[push_cast] theorem sz62 : sizeT Tryd.prog 62 = some 1 := by kernel_rfl
@[push_cast] theorem ag62 : aggT Tryd.prog 62 = some false := by kernel_rfl
@[push_cast] theorem ze62 : zeroT Tryd.prog 62 = some (.nilf) := by kernel_rfl
@[push_cast] theorem by62 : bytesT Tryd.prog 62 = 8 := by kernel_rfl
@[push_cast] theorem sz63 : sizeT Tryd.prog 63 = some 1 := by kernel_rfl
@[push_cast] theorem ag63 : aggT Tryd.prog 63 = some false := by kernel_rfl
@[push_cast] theorem ze63 : zeroT Tryd.prog 63 = some (.nilf) := by kernel_rfl
@[push_cast] theorem by63 : bytesT Tryd.prog 63 = 8 := by kernel_rfl
@[push_cast] theorem sz64 : sizeT Tryd.prog 64 = some 1 := by kernel_rfl
@[push_cast] theorem ag64 : aggT Tryd.prog 64 = some false := by kernel_rfl
@[push_cast] theorem ze64 : zeroT Tryd.prog 64 = some (.int .u64 0) := by kernel_rfl
@[push_cast] theorem by64 : bytesT Tryd.prog 64 = 8 := by kernel_rfl
@[push_cast] theorem sz65 : sizeT Tryd.prog 65 = some 2 := by kernel_rfl
@[push_cast] theorem ag65 : aggT Tryd.prog 65 = some true := by kernel_rfl
@[push_cast] theorem ze65 : zeroT Tryd.prog 65 = some (.agg [.str ⟨#[]⟩, .int .i64 0]) := by kernel_rfl
@[push_cast] theorem by65 : bytesT Tryd.prog 65 = 24 := by kernel_rfl
@[push_cast] theorem fn65x0 : fieldN Tryd.prog 65 0 = some (9, 0) := by kernel_rfl
@[push_cast] theorem fn65x1 : fieldN Tryd.prog 65 1 = some (3, 1) := by kernel_rfl
@[push_cast] theorem pl65 : placesT Tryd.prog 65 = some [(0, 1), (1, 1)] := by kernel_rfl
@[push_cast] theorem pe65 : plainEqT Tryd.prog 65 = true := by kernel_rfl
@[push_cast] theorem sh65 : Program.stoodInHeld Tryd.prog 65 = false := by kernel_rfl
@[push_cast] theorem sz66 : sizeT Tryd.prog 66 = some 2 := by kernel_rfl
@[push_cast] theorem ag66 : aggT Tryd.prog 66 = some true := by kernel_rfl
@[push_cast] theorem ze66 : zeroT Tryd.prog 66 = some (.agg [.str ⟨#[]⟩, .int .i64 0]) := by kernel_rfl
@[push_cast] theorem by66 : bytesT Tryd.prog 66 = 24 := by kernel_rfl
@[push_cast] theorem fn66x0 : fieldN Tryd.prog 66 0 = some (9, 0) := by kernel_rfl
@[push_cast] theorem fn66x1 : fieldN Tryd.prog 66 1 = some (3, 1) := by kernel_rfl
@[push_cast] theorem pl66 : placesT Tryd.prog 66 = some [(0, 1), (1, 1)] := by kernel_rfl
@[push_cast] theorem pe66 : plainEqT Tryd.prog 66 = true := by kernel_rfl
@[push_cast] theorem sh66 : Program.stoodInHeld Tryd.prog 66 = false := by kernel_rfl
@[push_cast] theorem sz67 : sizeT Tryd.prog 67 = some 1 := by kernel_rfl
@[push_cast] theorem ag67 : aggT Tryd.prog 67 = some false := by kernel_rfl
@[push_cast] theorem ze67 : zeroT Tryd.prog 67 = some (.nils) := by kernel_rfl
@[push_cast] theorem by67 : bytesT Tryd.prog 67 = 24 := by kernel_rfl
@[push_cast] theorem el67 : elemT Tryd.prog 67 = some 66 := by kernel_rfl
@[push_cast] theorem sz68 : sizeT Tryd.prog 68 = some 4 := by kernel_rfl
@[push_cast] theorem ag68 : aggT Tryd.prog 68 = some true := by kernel_rfl
@[push_cast] theorem ze68 : zeroT Tryd.prog 68 = some (.agg [.str ⟨#[]⟩, .int .i64 0, .int .i64 0, .nils]) := by kernel_rfl
@[push_cast] theorem by68 : bytesT Tryd.prog 68 = 56 := by kernel_rfl
@[push_cast] theorem fn68x0 : fieldN Tryd.prog 68 0 = some (9, 0) := by kernel_rfl
@[push_cast] theorem fn68x1 : fieldN Tryd.prog 68 1 = some (3, 1) := by kernel_rfl
@[push_cast] theorem fn68x2 : fieldN Tryd.prog 68 2 = some (3, 2) := by kernel_rfl
@[push_cast] theorem fn68x3 : fieldN Tryd.prog 68 3 = some (67, 3) := by kernel_rfl
@[push_cast] theorem pl68 : placesT Tryd.prog 68 = some [(0, 1), (1, 1), (2, 1), (3, 1)] := by kernel_rfl
@[push_cast] theorem pe68 : plainEqT Tryd.prog 68 = true := by kernel_rfl
@[push_cast] theorem sh68 : Program.stoodInHeld Tryd.prog 68 = false := by kernel_rfl
@[push_cast] theorem sz69 : sizeT Tryd.prog 69 = some 4 := by kernel_rfl
@[push_cast] theorem ag69 : aggT Tryd.prog 69 = some true := by kernel_rfl
@[push_cast] theorem ze69 : zeroT Tryd.prog 69 = some (.agg [.str ⟨#[]⟩, .int .i64 0, .int .i64 0, .nils]) := by kernel_rfl
@[push_cast] theorem by69 : bytesT Tryd.prog 69 = 56 := by kernel_rfl
@[push_cast] theorem fn69x0 : fieldN Tryd.prog 69 0 = some (9, 0) := by kernel_rfl
@[push_cast] theorem fn69x1 : fieldN Tryd.prog 69 1 = some (3, 1) := by kernel_rfl
@[push_cast] theorem fn69x2 : fieldN Tryd.prog 69 2 = some (3, 2) := by kernel_rfl
@[push_cast] theorem fn69x3 : fieldN Tryd.prog 69 3 = some (67, 3) := by kernel_rfl
@[push_cast] theorem pl69 : placesT Tryd.prog 69 = some [(0, 1), (1, 1), (2, 1), (3, 1)] := by kernel_rfl
@[push_cast] theorem pe69 : plainEqT Tryd.prog 69 = true := by kernel_rfl
@[push_cast] theorem sh69 : Program.stoodInHeld Tryd.prog 69 = false := by kernel_rfl
@[push_cast] theorem sz70 : sizeT Tryd.prog 70 = some 1 := by kernel_rfl
@[push_cast] theorem ag70 : aggT Tryd.prog 70 = some false := by kernel_rfl
@[push_cast] theorem ze70 : zeroT Tryd.prog 70 = some (.nils) := by kernel_rfl
@[push_cast] theorem by70 : bytesT Tryd.prog 70 = 24 := by kernel_rfl
@[push_cast] theorem el70 : elemT Tryd.prog 70 = some 69 := by kernel_rfl
@[push_cast] theorem sz71 : sizeT Tryd.prog 71 = some 2 := by kernel_rfl
@[push_cast] theorem ag71 : aggT Tryd.prog 71 = some true := by kernel_rfl
@[push_cast] theorem ze71 : zeroT Tryd.prog 71 = some (.agg [.str ⟨#[]⟩, .nils]) := by kernel_rfl
@[push_cast] theorem by71 : bytesT Tryd.prog 71 = 40 := by kernel_rfl
@[push_cast] theorem fn71x0 : fieldN Tryd.prog 71 0 = some (9, 0) := by kernel_rfl
@[push_cast] theorem fn71x1 : fieldN Tryd.prog 71 1 = some (70, 1) := by kernel_rfl
@[push_cast] theorem pl71 : placesT Tryd.prog 71 = some [(0, 1), (1, 1)] := by kernel_rfl
@[push_cast] theorem pe71 : plainEqT Tryd.prog 71 = true := by kernel_rfl
@[push_cast] theorem sh71 : Program.stoodInHeld Tryd.prog 71 = false := by kernel_rfl
@[push_cast] theorem sz72 : sizeT Tryd.prog 72 = some 2 := by kernel_rfl
@[push_cast] theorem ag72 : aggT Tryd.prog 72 = some true := by kernel_rfl
@[push_cast] theorem ze72 : zeroT Tryd.prog 72 = some (.agg [.str ⟨#[]⟩, .nils]) := by kernel_rfl
@[push_cast] theorem by72 : bytesT Tryd.prog 72 = 40 := by kernel_rfl
@[push_cast] theorem fn72x0 : fieldN Tryd.prog 72 0 = some (9, 0) := by kernel_rfl
@[push_cast] theorem fn72x1 : fieldN Tryd.prog 72 1 = some (70, 1) := by kernel_rfl
@[push_cast] theorem pl72 : placesT Tryd.prog 72 = some [(0, 1), (1, 1)] := by kernel_rfl
@[push_cast] theorem pe72 : plainEqT Tryd.prog 72 = true := by kernel_rfl
@[push_cast] theorem sh72 : Program.stoodInHeld Tryd.prog 72 = false := by kernel_rfl
@[push_cast] theorem sz73 : sizeT Tryd.prog 73 = some 4 := by kernel_rfl
@[push_cast] theorem ag73 : aggT Tryd.prog 73 = some true := by kernel_rfl
@[push_cast] theorem ze73 : zeroT Tryd.prog 73 = some (.agg [.str ⟨#[]⟩, .int .i64 0, .int .i64 0, .str ⟨#[]⟩]) := by kernel_rfl
@[push_cast] theorem by73 : bytesT Tryd.prog 73 = 48 := by kernel_rfl
@[push_cast] theorem fn73x0 : fieldN Tryd.prog 73 0 = some (9, 0) := by kernel_rfl
@[push_cast] theorem fn73x1 : fieldN Tryd.prog 73 1 = some (3, 1) := by kernel_rfl
@[push_cast] theorem fn73x2 : fieldN Tryd.prog 73 2 = some (3, 2) := by kernel_rfl
@[push_cast] theorem fn73x3 : fieldN Tryd.prog 73 3 = some (9, 3) := by kernel_rfl
@[push_cast] theorem pl73 : placesT Tryd.prog 73 = some [(0, 1), (1, 1), (2, 1), (3, 1)] := by kernel_rfl
@[push_cast] theorem pe73 : plainEqT Tryd.prog 73 = true := by kernel_rfl
@[push_cast] theorem sh73 : Program.stoodInHeld Tryd.prog 73 = false := by kernel_rfl
@[push_cast] theorem sz74 : sizeT Tryd.prog 74 = some 4 := by kernel_rfl
@[push_cast] theorem ag74 : aggT Tryd.prog 74 = some true := by kernel_rfl
@[push_cast] theorem ze74 : zeroT Tryd.prog 74 = some (.agg [.str ⟨#[]⟩, .int .i64 0, .int .i64 0, .str ⟨#[]⟩]) := by kernel_rfl
@[push_cast] theorem by74 : bytesT Tryd.prog 74 = 48 := by kernel_rfl
@[push_cast] theorem fn74x0 : fieldN Tryd.prog 74 0 = some (9, 0) := by kernel_rfl
@[push_cast] theorem fn74x1 : fieldN Tryd.prog 74 1 = some (3, 1) := by kernel_rfl
@[push_cast] theorem fn74x2 : fieldN Tryd.prog 74 2 = some (3, 2) := by kernel_rfl
@[push_cast] theorem fn74x3 : fieldN Tryd.prog 74 3 = some (9, 3) := by kernel_rfl
@[push_cast] theorem pl74 : placesT Tryd.prog 74 = some [(0, 1), (1, 1), (2, 1), (3, 1)] := by kernel_rfl
@[push_cast] theorem pe74 : plainEqT Tryd.prog 74 = true := by kernel_rfl
@[push_cast] theorem sh74 : Program.stoodInHeld Tryd.prog 74 = false := by kernel_rfl
@[push_cast] theorem sz75 : sizeT Tryd.prog 75 = some 1 := by kernel_rfl
@[push_cast] theorem ag75 : aggT Tryd.prog 75 = some false := by kernel_rfl
@[push_cast] theorem ze75 : zeroT Tryd.prog 75 = some (.nilf) := by kernel_rfl
@[push_cast] theorem by75 : bytesT Tryd.prog 75 = 8 := by kernel_rfl
@[push_cast] theorem sz76 : sizeT Tryd.prog 76 = some 1 := by kernel_rfl
@[push_cast] theorem ag76 : aggT Tryd.prog 76 = some false := by kernel_rfl
@[push_cast] theorem ze76 : zeroT Tryd.prog 76 = some (.nilf) := by kernel_rfl
@[push_cast] theorem by76 : bytesT Tryd.prog 76 = 8 := by kernel_rfl
@[push_cast] theorem sz77 : sizeT Tryd.prog 77 = some 1 := by kernel_rfl
@[push_cast] theorem ag77 : aggT Tryd.prog 77 = some false := by kernel_rfl
@[push_cast] theorem ze77 : zeroT Tryd.prog 77 = some (.nilf) := by kernel_rfl
@[push_cast] theorem by77 : bytesT Tryd.prog 77 = 8 := by kernel_rfl
@[push_cast] theorem sz78 : sizeT Tryd.prog 78 = some 1 := by kernel_rfl
@[push_cast] theorem ag78 : aggT Tryd.prog 78 = some false := by kernel_rfl
@[push_cast] theorem ze78 : zeroT Tryd.prog 78 = some (.nilf) := by kernel_rfl
@[push_cast] theorem by78 : bytesT Tryd.prog 78 = 8 := by kernel_rfl
@[push_cast] theorem sz79 : sizeT Tryd.prog 79 = some 1 := by kernel_rfl
@[push_cast] theorem ag79 : aggT Tryd.prog 79 = some false := by kernel_rfl
@[push_cast] theorem ze79 : zeroT Tryd.prog 79 = some (.nilf) := by kernel_rfl
@[push_cast] theorem by79 : bytesT Tryd.prog 79 = 8 := by kernel_rfl
@[push_cast] theorem sz80 : sizeT Tryd.prog 80 = some 1 := by kernel_rfl
@[push_cast] theorem ag80 : aggT Tryd.prog 80 = some false := by kernel_rfl
@[push_cast] theorem ze80 : zeroT Tryd.prog 80 = some (.nils) := by kernel_rfl
@[push_cast] theorem by80 : bytesT Tryd.prog 80 = 24 := by kernel_rfl
@[push_cast] theorem el80 : elemT Tryd.prog 80 = some 84 := by kernel_rfl
@[push_cast] theorem sz81 : sizeT Tryd.prog 81 = some 1 := by kernel_rfl
@[push_cast] theorem ag81 : aggT Tryd.prog 81 = some false := by kernel_rfl
@[push_cast] theorem ze81 : zeroT Tryd.prog 81 = some (.nilf) := by kernel_rfl
@[push_cast] theorem by81 : bytesT Tryd.prog 81 = 8 := by kernel_rfl
@[push_cast] theorem sz82 : sizeT Tryd.prog 82 = some 1 := by kernel_rfl
@[push_cast] theorem ag82 : aggT Tryd.prog 82 = some false := by kernel_rfl
@[push_cast] theorem ze82 : zeroT Tryd.prog 82 = some (.nilf) := by kernel_rfl
@[push_cast] theorem by82 : bytesT Tryd.prog 82 = 8 := by kernel_rfl
@[push_cast] theorem sz83 : sizeT Tryd.prog 83 = some 2 := by kernel_rfl
@[push_cast] theorem ag83 : aggT Tryd.prog 83 = some true := by kernel_rfl
@[push_cast] theorem ze83 : zeroT Tryd.prog 83 = some (.agg [.str ⟨#[]⟩, .int .i64 0]) := by kernel_rfl
@[push_cast] theorem by83 : bytesT Tryd.prog 83 = 24 := by kernel_rfl
@[push_cast] theorem fn83x0 : fieldN Tryd.prog 83 0 = some (9, 0) := by kernel_rfl
@[push_cast] theorem fn83x1 : fieldN Tryd.prog 83 1 = some (3, 1) := by kernel_rfl
@[push_cast] theorem pl83 : placesT Tryd.prog 83 = some [(0, 1), (1, 1)] := by kernel_rfl
@[push_cast] theorem pe83 : plainEqT Tryd.prog 83 = true := by kernel_rfl
@[push_cast] theorem sh83 : Program.stoodInHeld Tryd.prog 83 = false := by kernel_rfl
@[push_cast] theorem sz84 : sizeT Tryd.prog 84 = some 2 := by kernel_rfl
@[push_cast] theorem ag84 : aggT Tryd.prog 84 = some true := by kernel_rfl
@[push_cast] theorem ze84 : zeroT Tryd.prog 84 = some (.agg [.str ⟨#[]⟩, .int .i64 0]) := by kernel_rfl
@[push_cast] theorem by84 : bytesT Tryd.prog 84 = 24 := by kernel_rfl
@[push_cast] theorem fn84x0 : fieldN Tryd.prog 84 0 = some (9, 0) := by kernel_rfl
@[push_cast] theorem fn84x1 : fieldN Tryd.prog 84 1 = some (3, 1) := by kernel_rfl
@[push_cast] theorem pl84 : placesT Tryd.prog 84 = some [(0, 1), (1, 1)] := by kernel_rfl
@[push_cast] theorem pe84 : plainEqT Tryd.prog 84 = true := by kernel_rfl
@[push_cast] theorem sh84 : Program.stoodInHeld Tryd.prog 84 = false := by kernel_rfl
@[push_cast] theorem sz85 : sizeT Tryd.prog 85 = some 1 := by kernel_rfl
@[push_cast] theorem ag85 : aggT Tryd.prog 85 = some false := by kernel_rfl
@[push_cast] theorem ze85 : zeroT Tryd.prog 85 = some (.nils) := by kernel_rfl
@[push_cast] theorem by85 : bytesT Tryd.prog 85 = 24 := by kernel_rfl
@[push_cast] theorem el85 : elemT Tryd.prog 85 = some 3 := by kernel_rfl
@[push_cast] theorem sz86 : sizeT Tryd.prog 86 = some 1 := by kernel_rfl
@[push_cast] theorem ag86 : aggT Tryd.prog 86 = some false := by kernel_rfl
@[push_cast] theorem ze86 : zeroT Tryd.prog 86 = some (.nilf) := by kernel_rfl
@[push_cast] theorem by86 : bytesT Tryd.prog 86 = 8 := by kernel_rfl
@[push_cast] theorem sz87 : sizeT Tryd.prog 87 = some 1 := by kernel_rfl
@[push_cast] theorem ag87 : aggT Tryd.prog 87 = some false := by kernel_rfl
@[push_cast] theorem ze87 : zeroT Tryd.prog 87 = some (.nilf) := by kernel_rfl
@[push_cast] theorem by87 : bytesT Tryd.prog 87 = 8 := by kernel_rfl
@[push_cast] theorem sz88 : sizeT Tryd.prog 88 = some 1 := by kernel_rfl
@[push_cast] theorem ag88 : aggT Tryd.prog 88 = some false := by kernel_rfl
@[push_cast] theorem ze88 : zeroT Tryd.prog 88 = some (.nilf) := by kernel_rfl
@[push_cast] theorem by88 : bytesT Tryd.prog 88 = 8 := by kernel_rfl
@[push_cast] theorem sz89 : sizeT Tryd.prog 89 = some 1 := by kernel_rfl
@[push_cast] theorem ag89 : aggT Tryd.prog 89 = some false := by kernel_rfl
@[push_cast] theorem ze89 : zeroT Tryd.prog 89 = some (.nilf) := by kernel_rfl
@[push_cast] theorem by89 : bytesT Tryd.prog 89 = 8 := by kernel_rfl
@[push_cast] theorem sz90 : sizeT Tryd.prog 90 = some 1 := by kernel_rfl
@[push_cast] theorem ag90 : aggT Tryd.prog 90 = some false := by kernel_rfl
@[push_cast] theorem ze90 : zeroT Tryd.prog 90 = some (.int .i8 0) := by kernel_rfl
@[push_cast] theorem by90 : bytesT Tryd.prog 90 = 1 := by kernel_rfl
@[push_cast] theorem sz91 : sizeT Tryd.prog 91 = some 6 := by kernel_rfl
@[push_cast] theorem ag91 : aggT Tryd.prog 91 = some true := by kernel_rfl
@[push_cast] theorem ze91 : zeroT Tryd.prog 91 = some (.agg [.int .u8 0, .int .u8 0, .int .u8 0, .int .u8 0, .int .u8 0, .int .i8 0]) := by kernel_rfl
@[push_cast] theorem by91 : bytesT Tryd.prog 91 = 6 := by kernel_rfl
@[push_cast] theorem fn91x0 : fieldN Tryd.prog 91 0 = some (5, 0) := by kernel_rfl
@[push_cast] theorem fn91x1 : fieldN Tryd.prog 91 1 = some (5, 1) := by kernel_rfl
@[push_cast] theorem fn91x2 : fieldN Tryd.prog 91 2 = some (5, 2) := by kernel_rfl
@[push_cast] theorem fn91x3 : fieldN Tryd.prog 91 3 = some (5, 3) := by kernel_rfl
@[push_cast] theorem fn91x4 : fieldN Tryd.prog 91 4 = some (5, 4) := by kernel_rfl
@[push_cast] theorem fn91x5 : fieldN Tryd.prog 91 5 = some (90, 5) := by kernel_rfl
@[push_cast] theorem pl91 : placesT Tryd.prog 91 = some [(0, 1), (1, 1), (2, 1), (3, 1), (4, 1), (5, 1)] := by kernel_rfl
@[push_cast] theorem pe91 : plainEqT Tryd.prog 91 = true := by kernel_rfl
@[push_cast] theorem sh91 : Program.stoodInHeld Tryd.prog 91 = false := by kernel_rfl
@[push_cast] theorem sz92 : sizeT Tryd.prog 92 = some 6 := by kernel_rfl
@[push_cast] theorem ag92 : aggT Tryd.prog 92 = some true := by kernel_rfl
@[push_cast] theorem ze92 : zeroT Tryd.prog 92 = some (.agg [.int .u8 0, .int .u8 0, .int .u8 0, .int .u8 0, .int .u8 0, .int .i8 0]) := by kernel_rfl
@[push_cast] theorem by92 : bytesT Tryd.prog 92 = 6 := by kernel_rfl
@[push_cast] theorem fn92x0 : fieldN Tryd.prog 92 0 = some (5, 0) := by kernel_rfl
@[push_cast] theorem fn92x1 : fieldN Tryd.prog 92 1 = some (5, 1) := by kernel_rfl
@[push_cast] theorem fn92x2 : fieldN Tryd.prog 92 2 = some (5, 2) := by kernel_rfl
@[push_cast] theorem fn92x3 : fieldN Tryd.prog 92 3 = some (5, 3) := by kernel_rfl
@[push_cast] theorem fn92x4 : fieldN Tryd.prog 92 4 = some (5, 4) := by kernel_rfl
@[push_cast] theorem fn92x5 : fieldN Tryd.prog 92 5 = some (90, 5) := by kernel_rfl
@[push_cast] theorem pl92 : placesT Tryd.prog 92 = some [(0, 1), (1, 1), (2, 1), (3, 1), (4, 1), (5, 1)] := by kernel_rfl
@[push_cast] theorem pe92 : plainEqT Tryd.prog 92 = true := by kernel_rfl
@[push_cast] theorem sh92 : Program.stoodInHeld Tryd.prog 92 = false := by kernel_rfl
@[push_cast] theorem sz93 : sizeT Tryd.prog 93 = some 1 := by kernel_rfl
@[push_cast] theorem ag93 : aggT Tryd.prog 93 = some false := by kernel_rfl
@[push_cast] theorem ze93 : zeroT Tryd.prog 93 = some (.nilf) := by kernel_rfl
@[push_cast] theorem by93 : bytesT Tryd.prog 93 = 8 := by kernel_rfl
@[push_cast] theorem sz94 : sizeT Tryd.prog 94 = some 1 := by kernel_rfl
@[push_cast] theorem ag94 : aggT Tryd.prog 94 = some false := by kernel_rfl
@[push_cast] theorem ze94 : zeroT Tryd.prog 94 = some (.nilf) := by kernel_rfl
@[push_cast] theorem by94 : bytesT Tryd.prog 94 = 8 := by kernel_rfl
@[push_cast] theorem sz95 : sizeT Tryd.prog 95 = some 1 := by kernel_rfl
@[push_cast] theorem ag95 : aggT Tryd.prog 95 = some false := by kernel_rfl
@[push_cast] theorem ze95 : zeroT Tryd.prog 95 = some (.nils) := by kernel_rfl
@[push_cast] theorem by95 : bytesT Tryd.prog 95 = 24 := by kernel_rfl
@[push_cast] theorem el95 : elemT Tryd.prog 95 = some 9 := by kernel_rfl
@[push_cast] theorem sz96 : sizeT Tryd.prog 96 = some 1 := by kernel_rfl
@[push_cast] theorem ag96 : aggT Tryd.prog 96 = some false := by kernel_rfl
@[push_cast] theorem ze96 : zeroT Tryd.prog 96 = some (.nilm) := by kernel_rfl
@[push_cast] theorem by96 : bytesT Tryd.prog 96 = 8 := by kernel_rfl
@[push_cast] theorem sz97 : sizeT Tryd.prog 97 = some 2 := by kernel_rfl
@[push_cast] theorem ag97 : aggT Tryd.prog 97 = some true := by kernel_rfl
@[push_cast] theorem ze97 : zeroT Tryd.prog 97 = some (.agg [.nils, .nilm]) := by kernel_rfl
@[push_cast] theorem by97 : bytesT Tryd.prog 97 = 32 := by kernel_rfl
@[push_cast] theorem fn97x0 : fieldN Tryd.prog 97 0 = some (25, 0) := by kernel_rfl
@[push_cast] theorem fn97x1 : fieldN Tryd.prog 97 1 = some (96, 1) := by kernel_rfl
@[push_cast] theorem pl97 : placesT Tryd.prog 97 = some [(0, 1), (1, 1)] := by kernel_rfl
@[push_cast] theorem pe97 : plainEqT Tryd.prog 97 = true := by kernel_rfl
@[push_cast] theorem sh97 : Program.stoodInHeld Tryd.prog 97 = false := by kernel_rfl
@[push_cast] theorem sz98 : sizeT Tryd.prog 98 = some 2 := by kernel_rfl
@[push_cast] theorem ag98 : aggT Tryd.prog 98 = some true := by kernel_rfl
@[push_cast] theorem ze98 : zeroT Tryd.prog 98 = some (.agg [.nils, .nilm]) := by kernel_rfl
@[push_cast] theorem by98 : bytesT Tryd.prog 98 = 32 := by kernel_rfl
@[push_cast] theorem fn98x0 : fieldN Tryd.prog 98 0 = some (25, 0) := by kernel_rfl
@[push_cast] theorem fn98x1 : fieldN Tryd.prog 98 1 = some (96, 1) := by kernel_rfl
@[push_cast] theorem pl98 : placesT Tryd.prog 98 = some [(0, 1), (1, 1)] := by kernel_rfl
@[push_cast] theorem pe98 : plainEqT Tryd.prog 98 = true := by kernel_rfl
@[push_cast] theorem sh98 : Program.stoodInHeld Tryd.prog 98 = false := by kernel_rfl
@[push_cast] theorem sz99 : sizeT Tryd.prog 99 = some 1 := by kernel_rfl
@[push_cast] theorem ag99 : aggT Tryd.prog 99 = some false := by kernel_rfl
@[push_cast] theorem ze99 : zeroT Tryd.prog 99 = some (.nilf) := by kernel_rfl
@[push_cast] theorem by99 : bytesT Tryd.prog 99 = 8 := by kernel_rfl
@[push_cast] theorem sz100 : sizeT Tryd.prog 100 = some 1 := by kernel_rfl
@[push_cast] theorem ag100 : aggT Tryd.prog 100 = some false := by kernel_rfl
@[push_cast] theorem ze100 : zeroT Tryd.prog 100 = some (.nilf) := by kernel_rfl
@[push_cast] theorem by100 : bytesT Tryd.prog 100 = 8 := by kernel_rfl
@[push_cast] theorem sz101 : sizeT Tryd.prog 101 = some 1 := by kernel_rfl
@[push_cast] theorem ag101 : aggT Tryd.prog 101 = some false := by kernel_rfl
@[push_cast] theorem ze101 : zeroT Tryd.prog 101 = some (.nilf) := by kernel_rfl
@[push_cast] theorem by101 : bytesT Tryd.prog 101 = 8 := by kernel_rfl
@[push_cast] theorem sz102 : sizeT Tryd.prog 102 = some 1 := by kernel_rfl
@[push_cast] theorem ag102 : aggT Tryd.prog 102 = some false := by kernel_rfl
@[push_cast] theorem ze102 : zeroT Tryd.prog 102 = some (.nilf) := by kernel_rfl
@[push_cast] theorem by102 : bytesT Tryd.prog 102 = 8 := by kernel_rfl
@[push_cast] theorem sz103 : sizeT Tryd.prog 103 = some 1 := by kernel_rfl
@[push_cast] theorem ag103 : aggT Tryd.prog 103 = some false := by kernel_rfl
@[push_cast] theorem ze103 : zeroT Tryd.prog 103 = some (.nilf) := by kernel_rfl
@[push_cast] theorem by103 : bytesT Tryd.prog 103 = 8 := by kernel_rfl
@[push_cast] theorem sz104 : sizeT Tryd.prog 104 = some 1 := by kernel_rfl
@[push_cast] theorem ag104 : aggT Tryd.prog 104 = some false := by kernel_rfl
@[push_cast] theorem ze104 : zeroT Tryd.prog 104 = some (.nilf) := by kernel_rfl
@[push_cast] theorem by104 : bytesT Tryd.prog 104 = 8 := by kernel_rfl
@[push_cast] theorem sz105 : sizeT Tryd.prog 105 = some 1 := by kernel_rfl
@[push_cast] theorem ag105 : aggT Tryd.prog 105 = some false := by kernel_rfl
@[push_cast] theorem ze105 : zeroT Tryd.prog 105 = some (.nilf) := by kernel_rfl
@[push_cast] theorem by105 : bytesT Tryd.prog 105 = 8 := by kernel_rfl
@[push_cast] theorem sz106 : sizeT Tryd.prog 106 = some 1 := by kernel_rfl
@[push_cast] theorem ag106 : aggT Tryd.prog 106 = some false := by kernel_rfl
@[push_cast] theorem ze106 : zeroT Tryd.prog 106 = some (.nilf) := by kernel_rfl
@[push_cast] theorem by106 : bytesT Tryd.prog 106 = 8 := by kernel_rfl
@[push_cast] theorem sz107 : sizeT Tryd.prog 107 = some 1 := by kernel_rfl
@[push_cast] theorem ag107 : aggT Tryd.prog 107 = some false := by kernel_rfl
@[push_cast] theorem ze107 : zeroT Tryd.prog 107 = some (.nilf) := by kernel_rfl
@[push_cast] theorem by107 : bytesT Tryd.prog 107 = 8 := by kernel_rfl
@[push_cast] theorem sz108 : sizeT Tryd.prog 108 = some 1 := by kernel_rfl
@[push_cast] theorem ag108 : aggT Tryd.prog 108 = some false := by kernel_rfl
@[push_cast] theorem ze108 : zeroT Tryd.prog 108 = some (.nilp) := by kernel_rfl
@[push_cast] theorem by108 : bytesT Tryd.prog 108 = 8 := by kernel_rfl
@[push_cast] theorem sz109 : sizeT Tryd.prog 109 = some 1 := by kernel_rfl
@[push_cast] theorem ag109 : aggT Tryd.prog 109 = some false := by kernel_rfl
@[push_cast] theorem by109 : bytesT Tryd.prog 109 = 0 := by kernel_rfl
@[push_cast] theorem sz110 : sizeT Tryd.prog 110 = some 1 := by kernel_rfl
@[push_cast] theorem ag110 : aggT Tryd.prog 110 = some false := by kernel_rfl
@[push_cast] theorem ze110 : zeroT Tryd.prog 110 = some (.nilf) := by kernel_rfl
@[push_cast] theorem by110 : bytesT Tryd.prog 110 = 8 := by kernel_rfl
@[push_cast] theorem sz111 : sizeT Tryd.prog 111 = some 1 := by kernel_rfl
@[push_cast] theorem ag111 : aggT Tryd.prog 111 = some false := by kernel_rfl
@[push_cast] theorem ze111 : zeroT Tryd.prog 111 = some (.nilf) := by kernel_rfl
@[push_cast] theorem by111 : bytesT Tryd.prog 111 = 8 := by kernel_rfl
@[push_cast] theorem sz112 : sizeT Tryd.prog 112 = some 4 := by kernel_rfl
@[push_cast] theorem ag112 : aggT Tryd.prog 112 = some true := by kernel_rfl
@[push_cast] theorem ze112 : zeroT Tryd.prog 112 = some (.agg [.str ⟨#[]⟩, .nils, .nils, .bool false]) := by kernel_rfl
@[push_cast] theorem by112 : bytesT Tryd.prog 112 = 72 := by kernel_rfl
@[push_cast] theorem fn112x0 : fieldN Tryd.prog 112 0 = some (72, 0) := by kernel_rfl
@[push_cast] theorem fn112x1 : fieldN Tryd.prog 112 1 = some (28, 2) := by kernel_rfl
@[push_cast] theorem fn112x2 : fieldN Tryd.prog 112 2 = some (4, 3) := by kernel_rfl
@[push_cast] theorem pl112 : placesT Tryd.prog 112 = some [(0, 2), (2, 1), (3, 1)] := by kernel_rfl
@[push_cast] theorem pe112 : plainEqT Tryd.prog 112 = true := by kernel_rfl
@[push_cast] theorem sh112 : Program.stoodInHeld Tryd.prog 112 = false := by kernel_rfl
@[push_cast] theorem sz113 : sizeT Tryd.prog 113 = some 4 := by kernel_rfl
@[push_cast] theorem ag113 : aggT Tryd.prog 113 = some true := by kernel_rfl
@[push_cast] theorem ze113 : zeroT Tryd.prog 113 = some (.agg [.str ⟨#[]⟩, .nils, .nils, .bool false]) := by kernel_rfl
@[push_cast] theorem by113 : bytesT Tryd.prog 113 = 72 := by kernel_rfl
@[push_cast] theorem fn113x0 : fieldN Tryd.prog 113 0 = some (72, 0) := by kernel_rfl
@[push_cast] theorem fn113x1 : fieldN Tryd.prog 113 1 = some (28, 2) := by kernel_rfl
@[push_cast] theorem fn113x2 : fieldN Tryd.prog 113 2 = some (4, 3) := by kernel_rfl
@[push_cast] theorem pl113 : placesT Tryd.prog 113 = some [(0, 2), (2, 1), (3, 1)] := by kernel_rfl
@[push_cast] theorem pe113 : plainEqT Tryd.prog 113 = true := by kernel_rfl
@[push_cast] theorem sh113 : Program.stoodInHeld Tryd.prog 113 = false := by kernel_rfl
@[push_cast] theorem sz114 : sizeT Tryd.prog 114 = some 1 := by kernel_rfl
@[push_cast] theorem ag114 : aggT Tryd.prog 114 = some false := by kernel_rfl
@[push_cast] theorem ze114 : zeroT Tryd.prog 114 = some (.nils) := by kernel_rfl
@[push_cast] theorem by114 : bytesT Tryd.prog 114 = 24 := by kernel_rfl
@[push_cast] theorem el114 : elemT Tryd.prog 114 = some 108 := by kernel_rfl
@[push_cast] theorem sz115 : sizeT Tryd.prog 115 = some 1 := by kernel_rfl
@[push_cast] theorem ag115 : aggT Tryd.prog 115 = some false := by kernel_rfl
@[push_cast] theorem by115 : bytesT Tryd.prog 115 = 0 := by kernel_rfl
@[push_cast] theorem sz116 : sizeT Tryd.prog 116 = some 1 := by kernel_rfl
@[push_cast] theorem ag116 : aggT Tryd.prog 116 = some false := by kernel_rfl
@[push_cast] theorem ze116 : zeroT Tryd.prog 116 = some (.nilf) := by kernel_rfl
@[push_cast] theorem by116 : bytesT Tryd.prog 116 = 8 := by kernel_rfl
@[push_cast] theorem sz117 : sizeT Tryd.prog 117 = some 1 := by kernel_rfl
@[push_cast] theorem ag117 : aggT Tryd.prog 117 = some false := by kernel_rfl
@[push_cast] theorem ze117 : zeroT Tryd.prog 117 = some (.nilf) := by kernel_rfl
@[push_cast] theorem by117 : bytesT Tryd.prog 117 = 8 := by kernel_rfl
@[push_cast] theorem sz118 : sizeT Tryd.prog 118 = some 1 := by kernel_rfl
@[push_cast] theorem ag118 : aggT Tryd.prog 118 = some false := by kernel_rfl
@[push_cast] theorem ze118 : zeroT Tryd.prog 118 = some (.nilf) := by kernel_rfl
@[push_cast] theorem by118 : bytesT Tryd.prog 118 = 8 := by kernel_rfl
@[push_cast] theorem sz119 : sizeT Tryd.prog 119 = some 1 := by kernel_rfl
@[push_cast] theorem ag119 : aggT Tryd.prog 119 = some false := by kernel_rfl
@[push_cast] theorem ze119 : zeroT Tryd.prog 119 = some (.nilf) := by kernel_rfl
@[push_cast] theorem by119 : bytesT Tryd.prog 119 = 8 := by kernel_rfl
@[push_cast] theorem sz120 : sizeT Tryd.prog 120 = some 1 := by kernel_rfl
@[push_cast] theorem ag120 : aggT Tryd.prog 120 = some false := by kernel_rfl
@[push_cast] theorem by120 : bytesT Tryd.prog 120 = 0 := by kernel_rfl
@[push_cast] theorem sz121 : sizeT Tryd.prog 121 = some 1 := by kernel_rfl
@[push_cast] theorem ag121 : aggT Tryd.prog 121 = some false := by kernel_rfl
@[push_cast] theorem ze121 : zeroT Tryd.prog 121 = some (.nilf) := by kernel_rfl
@[push_cast] theorem by121 : bytesT Tryd.prog 121 = 8 := by kernel_rfl
@[push_cast] theorem sz122 : sizeT Tryd.prog 122 = some 1 := by kernel_rfl
@[push_cast] theorem ag122 : aggT Tryd.prog 122 = some false := by kernel_rfl
@[push_cast] theorem ze122 : zeroT Tryd.prog 122 = some (.nilf) := by kernel_rfl
@[push_cast] theorem by122 : bytesT Tryd.prog 122 = 8 := by kernel_rfl
@[push_cast] theorem sz123 : sizeT Tryd.prog 123 = some 1 := by kernel_rfl
@[push_cast] theorem ag123 : aggT Tryd.prog 123 = some false := by kernel_rfl
@[push_cast] theorem ze123 : zeroT Tryd.prog 123 = some (.nilf) := by kernel_rfl
@[push_cast] theorem by123 : bytesT Tryd.prog 123 = 8 := by kernel_rfl
@[push_cast] theorem sz124 : sizeT Tryd.prog 124 = some 1 := by kernel_rfl
@[push_cast] theorem ag124 : aggT Tryd.prog 124 = some false := by kernel_rfl
@[push_cast] theorem ze124 : zeroT Tryd.prog 124 = some (.nilf) := by kernel_rfl
@[push_cast] theorem by124 : bytesT Tryd.prog 124 = 8 := by kernel_rfl
@[push_cast] theorem sz125 : sizeT Tryd.prog 125 = some 1 := by kernel_rfl
@[push_cast] theorem ag125 : aggT Tryd.prog 125 = some false := by kernel_rfl
@[push_cast] theorem ze125 : zeroT Tryd.prog 125 = some (.nilf) := by kernel_rfl
@[push_cast] theorem by125 : bytesT Tryd.prog 125 = 8 := by kernel_rfl
@[push_cast] theorem sz126 : sizeT Tryd.prog 126 = some 1 := by kernel_rfl
@[push_cast] theorem ag126 : aggT Tryd.prog 126 = some false := by kernel_rfl
@[push_cast] theorem ze126 : zeroT Tryd.prog 126 = some (.nilf) := by kernel_rfl
@[push_cast] theorem by126 : bytesT Tryd.prog 126 = 8 := by kernel_rfl
@[push_cast] theorem sz127 : sizeT Tryd.prog 127 = some 2 := by kernel_rfl
@[push_cast] theorem ag127 : aggT Tryd.prog 127 = some true := by kernel_rfl
@[push_cast] theorem ze127 : zeroT Tryd.prog 127 = some (.agg [.int .i64 0, .str ⟨#[]⟩]) := by kernel_rfl
@[push_cast] theorem by127 : bytesT Tryd.prog 127 = 24 := by kernel_rfl
@[push_cast] theorem fn127x0 : fieldN Tryd.prog 127 0 = some (54, 0) := by kernel_rfl
@[push_cast] theorem fn127x1 : fieldN Tryd.prog 127 1 = some (9, 1) := by kernel_rfl
@[push_cast] theorem pl127 : placesT Tryd.prog 127 = some [(0, 1), (1, 1)] := by kernel_rfl
@[push_cast] theorem pe127 : plainEqT Tryd.prog 127 = true := by kernel_rfl
@[push_cast] theorem sh127 : Program.stoodInHeld Tryd.prog 127 = false := by kernel_rfl
@[push_cast] theorem sz128 : sizeT Tryd.prog 128 = some 2 := by kernel_rfl
@[push_cast] theorem ag128 : aggT Tryd.prog 128 = some true := by kernel_rfl
@[push_cast] theorem ze128 : zeroT Tryd.prog 128 = some (.agg [.int .i64 0, .str ⟨#[]⟩]) := by kernel_rfl
@[push_cast] theorem by128 : bytesT Tryd.prog 128 = 24 := by kernel_rfl
@[push_cast] theorem fn128x0 : fieldN Tryd.prog 128 0 = some (54, 0) := by kernel_rfl
@[push_cast] theorem fn128x1 : fieldN Tryd.prog 128 1 = some (9, 1) := by kernel_rfl
@[push_cast] theorem pl128 : placesT Tryd.prog 128 = some [(0, 1), (1, 1)] := by kernel_rfl
@[push_cast] theorem pe128 : plainEqT Tryd.prog 128 = true := by kernel_rfl
@[push_cast] theorem sh128 : Program.stoodInHeld Tryd.prog 128 = false := by kernel_rfl
@[push_cast] theorem sz129 : sizeT Tryd.prog 129 = some 1 := by kernel_rfl
@[push_cast] theorem ag129 : aggT Tryd.prog 129 = some false := by kernel_rfl
@[push_cast] theorem ze129 : zeroT Tryd.prog 129 = some (.nilf) := by kernel_rfl
@[push_cast] theorem by129 : bytesT Tryd.prog 129 = 8 := by kernel_rfl
@[push_cast] theorem sz130 : sizeT Tryd.prog 130 = some 1 := by kernel_rfl
@[push_cast] theorem ag130 : aggT Tryd.prog 130 = some false := by kernel_rfl
@[push_cast] theorem ze130 : zeroT Tryd.prog 130 = some (.nilf) := by kernel_rfl
@[push_cast] theorem by130 : bytesT Tryd.prog 130 = 8 := by kernel_rfl
@[push_cast] theorem sz131 : sizeT Tryd.prog 131 = some 1 := by kernel_rfl
@[push_cast] theorem ag131 : aggT Tryd.prog 131 = some false := by kernel_rfl
@[push_cast] theorem ze131 : zeroT Tryd.prog 131 = some (.nilf) := by kernel_rfl
@[push_cast] theorem by131 : bytesT Tryd.prog 131 = 8 := by kernel_rfl
@[push_cast] theorem sz132 : sizeT Tryd.prog 132 = some 1 := by kernel_rfl
@[push_cast] theorem ag132 : aggT Tryd.prog 132 = some false := by kernel_rfl
@[push_cast] theorem ze132 : zeroT Tryd.prog 132 = some (.nilf) := by kernel_rfl
@[push_cast] theorem by132 : bytesT Tryd.prog 132 = 8 := by kernel_rfl
@[push_cast] theorem sz133 : sizeT Tryd.prog 133 = some 1 := by kernel_rfl
@[push_cast] theorem ag133 : aggT Tryd.prog 133 = some false := by kernel_rfl
@[push_cast] theorem ze133 : zeroT Tryd.prog 133 = some (.nilm) := by kernel_rfl
@[push_cast] theorem by133 : bytesT Tryd.prog 133 = 8 := by kernel_rfl
@[push_cast] theorem sz134 : sizeT Tryd.prog 134 = some 1 := by kernel_rfl
@[push_cast] theorem ag134 : aggT Tryd.prog 134 = some false := by kernel_rfl
@[push_cast] theorem by134 : bytesT Tryd.prog 134 = 0 := by kernel_rfl
@[push_cast] theorem sz135 : sizeT Tryd.prog 135 = some 1 := by kernel_rfl
@[push_cast] theorem ag135 : aggT Tryd.prog 135 = some false := by kernel_rfl
@[push_cast] theorem ze135 : zeroT Tryd.prog 135 = some (.nilf) := by kernel_rfl
@[push_cast] theorem by135 : bytesT Tryd.prog 135 = 8 := by kernel_rfl
@[push_cast] theorem sz136 : sizeT Tryd.prog 136 = some 1 := by kernel_rfl
@[push_cast] theorem ag136 : aggT Tryd.prog 136 = some false := by kernel_rfl
@[push_cast] theorem ze136 : zeroT Tryd.prog 136 = some (.nilf) := by kernel_rfl
@[push_cast] theorem by136 : bytesT Tryd.prog 136 = 8 := by kernel_rfl
@[push_cast] theorem sz137 : sizeT Tryd.prog 137 = some 1 := by kernel_rfl
@[push_cast] theorem ag137 : aggT Tryd.prog 137 = some false := by kernel_rfl
@[push_cast] theorem ze137 : zeroT Tryd.prog 137 = some (.nilf) := by kernel_rfl
@[push_cast] theorem by137 : bytesT Tryd.prog 137 = 8 := by kernel_rfl
@[push_cast] theorem sz138 : sizeT Tryd.prog 138 = some 2 := by kernel_rfl
@[push_cast] theorem ag138 : aggT Tryd.prog 138 = some true := by kernel_rfl
@[push_cast] theorem ze138 : zeroT Tryd.prog 138 = some (.agg [.nils, .str ⟨#[]⟩]) := by kernel_rfl
@[push_cast] theorem by138 : bytesT Tryd.prog 138 = 40 := by kernel_rfl
@[push_cast] theorem fn138x0 : fieldN Tryd.prog 138 0 = some (41, 0) := by kernel_rfl
@[push_cast] theorem fn138x1 : fieldN Tryd.prog 138 1 = some (9, 1) := by kernel_rfl
@[push_cast] theorem pl138 : placesT Tryd.prog 138 = some [(0, 1), (1, 1)] := by kernel_rfl
@[push_cast] theorem pe138 : plainEqT Tryd.prog 138 = true := by kernel_rfl
@[push_cast] theorem sh138 : Program.stoodInHeld Tryd.prog 138 = false := by kernel_rfl
@[push_cast] theorem sz139 : sizeT Tryd.prog 139 = some 2 := by kernel_rfl
@[push_cast] theorem ag139 : aggT Tryd.prog 139 = some true := by kernel_rfl
@[push_cast] theorem ze139 : zeroT Tryd.prog 139 = some (.agg [.nils, .str ⟨#[]⟩]) := by kernel_rfl
@[push_cast] theorem by139 : bytesT Tryd.prog 139 = 40 := by kernel_rfl
@[push_cast] theorem fn139x0 : fieldN Tryd.prog 139 0 = some (41, 0) := by kernel_rfl
@[push_cast] theorem fn139x1 : fieldN Tryd.prog 139 1 = some (9, 1) := by kernel_rfl
@[push_cast] theorem pl139 : placesT Tryd.prog 139 = some [(0, 1), (1, 1)] := by kernel_rfl
@[push_cast] theorem pe139 : plainEqT Tryd.prog 139 = true := by kernel_rfl
@[push_cast] theorem sh139 : Program.stoodInHeld Tryd.prog 139 = false := by kernel_rfl
@[push_cast] theorem sz140 : sizeT Tryd.prog 140 = some 1 := by kernel_rfl
@[push_cast] theorem ag140 : aggT Tryd.prog 140 = some false := by kernel_rfl
@[push_cast] theorem ze140 : zeroT Tryd.prog 140 = some (.nilm) := by kernel_rfl
@[push_cast] theorem by140 : bytesT Tryd.prog 140 = 8 := by kernel_rfl
@[push_cast] theorem sz141 : sizeT Tryd.prog 141 = some 1 := by kernel_rfl
@[push_cast] theorem ag141 : aggT Tryd.prog 141 = some false := by kernel_rfl
@[push_cast] theorem ze141 : zeroT Tryd.prog 141 = some (.nilf) := by kernel_rfl
@[push_cast] theorem by141 : bytesT Tryd.prog 141 = 8 := by kernel_rfl
@[push_cast] theorem sz142 : sizeT Tryd.prog 142 = some 1 := by kernel_rfl
@[push_cast] theorem ag142 : aggT Tryd.prog 142 = some false := by kernel_rfl
@[push_cast] theorem ze142 : zeroT Tryd.prog 142 = some (.nilf) := by kernel_rfl
@[push_cast] theorem by142 : bytesT Tryd.prog 142 = 8 := by kernel_rfl
@[push_cast] theorem sz143 : sizeT Tryd.prog 143 = some 1 := by kernel_rfl
@[push_cast] theorem ag143 : aggT Tryd.prog 143 = some false := by kernel_rfl
@[push_cast] theorem ze143 : zeroT Tryd.prog 143 = some (.nilp) := by kernel_rfl
@[push_cast] theorem by143 : bytesT Tryd.prog 143 = 8 := by kernel_rfl
@[push_cast] theorem sz144 : sizeT Tryd.prog 144 = some 1 := by kernel_rfl
@[push_cast] theorem ag144 : aggT Tryd.prog 144 = some false := by kernel_rfl
@[push_cast] theorem ze144 : zeroT Tryd.prog 144 = some (.nilf) := by kernel_rfl
@[push_cast] theorem by144 : bytesT Tryd.prog 144 = 8 := by kernel_rfl
@[push_cast] theorem sz145 : sizeT Tryd.prog 145 = some 1 := by kernel_rfl
@[push_cast] theorem ag145 : aggT Tryd.prog 145 = some false := by kernel_rfl
@[push_cast] theorem ze145 : zeroT Tryd.prog 145 = some (.nilf) := by kernel_rfl
@[push_cast] theorem by145 : bytesT Tryd.prog 145 = 8 := by kernel_rfl
@[push_cast] theorem sz146 : sizeT Tryd.prog 146 = some 1 := by kernel_rfl
@[push_cast] theorem ag146 : aggT Tryd.prog 146 = some false := by kernel_rfl
@[push_cast] theorem ze146 : zeroT Tryd.prog 146 = some (.nilf) := by kernel_rfl
@[push_cast] theorem by146 : bytesT Tryd.prog 146 = 8 := by kernel_rfl
@[push_cast] theorem sz147 : sizeT Tryd.prog 147 = some 1 := by kernel_rfl
@[push_cast] theorem ag147 : aggT Tryd.prog 147 = some false := by kernel_rfl
@[push_cast] theorem ze147 : zeroT Tryd.prog 147 = some (.nilf) := by kernel_rfl
@[push_cast] theorem by147 : bytesT Tryd.prog 147 = 8 := by kernel_rfl
@[push_cast] theorem sz148 : sizeT Tryd.prog 148 = some 1 := by kernel_rfl
@[push_cast] theorem ag148 : aggT Tryd.prog 148 = some false := by kernel_rfl
@[push_cast] theorem ze148 : zeroT Tryd.prog 148 = some (.nilf) := by kernel_rfl
@[push_cast] theorem by148 : bytesT Tryd.prog 148 = 8 := by kernel_rfl
@[push_cast] theorem sz149 : sizeT Tryd.prog 149 = some 1 := by kernel_rfl
@[push_cast] theorem ag149 : aggT Tryd.prog 149 = some false := by kernel_rfl
@[push_cast] theorem by149 : bytesT Tryd.prog 149 = 0 := by kernel_rfl
@[push_cast] theorem sz150 : sizeT Tryd.prog 150 = some 1 := by kernel_rfl
@[push_cast] theorem ag150 : aggT Tryd.prog 150 = some false := by kernel_rfl
@[push_cast] theorem ze150 : zeroT Tryd.prog 150 = some (.nilf) := by kernel_rfl
@[push_cast] theorem by150 : bytesT Tryd.prog 150 = 8 := by kernel_rfl
@[push_cast] theorem sz151 : sizeT Tryd.prog 151 = some 1 := by kernel_rfl
@[push_cast] theorem ag151 : aggT Tryd.prog 151 = some false := by kernel_rfl
@[push_cast] theorem ze151 : zeroT Tryd.prog 151 = some (.nilf) := by kernel_rfl
@[push_cast] theorem by151 : bytesT Tryd.prog 151 = 8 := by kernel_rfl
@[push_cast] theorem sz152 : sizeT Tryd.prog 152 = some 1 := by kernel_rfl
@[push_cast] theorem ag152 : aggT Tryd.prog 152 = some false := by kernel_rfl
@[push_cast] theorem ze152 : zeroT Tryd.prog 152 = some (.nilf) := by kernel_rfl
@[push_cast] theorem by152 : bytesT Tryd.prog 152 = 8 := by kernel_rfl
@[push_cast] theorem sz153 : sizeT Tryd.prog 153 = some 1 := by kernel_rfl
@[push_cast] theorem ag153 : aggT Tryd.prog 153 = some false := by kernel_rfl
@[push_cast] theorem ze153 : zeroT Tryd.prog 153 = some (.nilf) := by kernel_rfl
@[push_cast] theorem by153 : bytesT Tryd.prog 153 = 8 := by kernel_rfl
@[push_cast] theorem sz154 : sizeT Tryd.prog 154 = some 1 := by kernel_rfl
@[push_cast] theorem ag154 : aggT Tryd.prog 154 = some false := by kernel_rfl
@[push_cast] theorem ze154 : zeroT Tryd.prog 154 = some (.nilf) := by kernel_rfl
@[push_cast] theorem by154 : bytesT Tryd.prog 154 = 8 := by kernel_rfl
@[push_cast] theorem sz155 : sizeT Tryd.prog 155 = some 1 := by kernel_rfl
@[push_cast] theorem ag155 : aggT Tryd.prog 155 = some false := by kernel_rfl
@[push_cast] theorem ze155 : zeroT Tryd.prog 155 = some (.nilf) := by kernel_rfl
@[push_cast] theorem by155 : bytesT Tryd.prog 155 = 8 := by kernel_rfl
@[push_cast] theorem sz156 : sizeT Tryd.prog 156 = some 1 := by kernel_rfl
@[push_cast] theorem ag156 : aggT Tryd.prog 156 = some false := by kernel_rfl
@[push_cast] theorem ze156 : zeroT Tryd.prog 156 = some (.nilf) := by kernel_rfl
@[push_cast] theorem by156 : bytesT Tryd.prog 156 = 8 := by kernel_rfl
@[push_cast] theorem sz157 : sizeT Tryd.prog 157 = some 1 := by kernel_rfl
@[push_cast] theorem ag157 : aggT Tryd.prog 157 = some false := by kernel_rfl
@[push_cast] theorem ze157 : zeroT Tryd.prog 157 = some (.nilf) := by kernel_rfl
@[push_cast] theorem by157 : bytesT Tryd.prog 157 = 8 := by kernel_rfl
@[push_cast] theorem sz158 : sizeT Tryd.prog 158 = some 1 := by kernel_rfl
@[push_cast] theorem ag158 : aggT Tryd.prog 158 = some false := by kernel_rfl
@[push_cast] theorem ze158 : zeroT Tryd.prog 158 = some (.nilf) := by kernel_rfl
@[push_cast] theorem by158 : bytesT Tryd.prog 158 = 8 := by kernel_rfl
@[push_cast] theorem sz159 : sizeT Tryd.prog 159 = some 1 := by kernel_rfl
@[push_cast] theorem ag159 : aggT Tryd.prog 159 = some false := by kernel_rfl
@[push_cast] theorem ze159 : zeroT Tryd.prog 159 = some (.nilp) := by kernel_rfl
@[push_cast] theorem by159 : bytesT Tryd.prog 159 = 8 := by kernel_rfl
@[push_cast] theorem sz160 : sizeT Tryd.prog 160 = some 1 := by kernel_rfl
@[push_cast] theorem ag160 : aggT Tryd.prog 160 = some false := by kernel_rfl
@[push_cast] theorem ze160 : zeroT Tryd.prog 160 = some (.nilf) := by kernel_rfl
@[push_cast] theorem by160 : bytesT Tryd.prog 160 = 8 := by kernel_rfl
@[push_cast] theorem sz161 : sizeT Tryd.prog 161 = some 1 := by kernel_rfl
@[push_cast] theorem ag161 : aggT Tryd.prog 161 = some false := by kernel_rfl
@[push_cast] theorem ze161 : zeroT Tryd.prog 161 = some (.nilf) := by kernel_rfl
@[push_cast] theorem by161 : bytesT Tryd.prog 161 = 8 := by kernel_rfl
@[push_cast] theorem sz162 : sizeT Tryd.prog 162 = some 1 := by kernel_rfl
@[push_cast] theorem ag162 : aggT Tryd.prog 162 = some false := by kernel_rfl
@[push_cast] theorem ze162 : zeroT Tryd.prog 162 = some (.nilf) := by kernel_rfl
@[push_cast] theorem by162 : bytesT Tryd.prog 162 = 8 := by kernel_rfl
@[push_cast] theorem sz163 : sizeT Tryd.prog 163 = some 1 := by kernel_rfl
@[push_cast] theorem ag163 : aggT Tryd.prog 163 = some false := by kernel_rfl
@[push_cast] theorem ze163 : zeroT Tryd.prog 163 = some (.nilf) := by kernel_rfl
@[push_cast] theorem by163 : bytesT Tryd.prog 163 = 8 := by kernel_rfl
@[push_cast] theorem sz164 : sizeT Tryd.prog 164 = some 1 := by kernel_rfl
@[push_cast] theorem ag164 : aggT Tryd.prog 164 = some false := by kernel_rfl
@[push_cast] theorem ze164 : zeroT Tryd.prog 164 = some (.nilf) := by kernel_rfl
@[push_cast] theorem by164 : bytesT Tryd.prog 164 = 8 := by kernel_rfl
@[push_cast] theorem sz165 : sizeT Tryd.prog 165 = some 1 := by kernel_rfl
@[push_cast] theorem ag165 : aggT Tryd.prog 165 = some false := by kernel_rfl
@[push_cast] theorem ze165 : zeroT Tryd.prog 165 = some (.nilf) := by kernel_rfl
@[push_cast] theorem by165 : bytesT Tryd.prog 165 = 8 := by kernel_rfl
@[push_cast] theorem sz166 : sizeT Tryd.prog 166 = some 1 := by kernel_rfl
@[push_cast] theorem ag166 : aggT Tryd.prog 166 = some false := by kernel_rfl
@[push_cast] theorem ze166 : zeroT Tryd.prog 166 = some (.nilf) := by kernel_rfl
@[push_cast] theorem by166 : bytesT Tryd.prog 166 = 8 := by kernel_rfl
@[push_cast] theorem sz167 : sizeT Tryd.prog 167 = some 1 := by kernel_rfl
@[push_cast] theorem ag167 : aggT Tryd.prog 167 = some false := by kernel_rfl
@[push_cast] theorem ze167 : zeroT Tryd.prog 167 = some (.nilf) := by kernel_rfl
@[push_cast] theorem by167 : bytesT Tryd.prog 167 = 8 := by kernel_rfl
@[push_cast] theorem sz168 : sizeT Tryd.prog 168 = some 1 := by kernel_rfl
@[push_cast] theorem ag168 : aggT Tryd.prog 168 = some false := by kernel_rfl
@[push_cast] theorem ze168 : zeroT Tryd.prog 168 = some (.int .u64 0) := by kernel_rfl
@[push_cast] theorem by168 : bytesT Tryd.prog 168 = 8 := by kernel_rfl
@[push_cast] theorem sz169 : sizeT Tryd.prog 169 = some 1 := by kernel_rfl
@[push_cast] theorem ag169 : aggT Tryd.prog 169 = some false := by kernel_rfl
@[push_cast] theorem ze169 : zeroT Tryd.prog 169 = some (.nilf) := by kernel_rfl
@[push_cast] theorem by169 : bytesT Tryd.prog 169 = 8 := by kernel_rfl
@[push_cast] theorem sz170 : sizeT Tryd.prog 170 = some 1 := by kernel_rfl
@[push_cast] theorem ag170 : aggT Tryd.prog 170 = some false := by kernel_rfl
@[push_cast] theorem ze170 : zeroT Tryd.prog 170 = some (.nilf) := by kernel_rfl
@[push_cast] theorem by170 : bytesT Tryd.prog 170 = 8 := by kernel_rfl
@[push_cast] theorem sz171 : sizeT Tryd.prog 171 = some 1 := by kernel_rfl
@[push_cast] theorem ag171 : aggT Tryd.prog 171 = some false := by kernel_rfl
@[push_cast] theorem ze171 : zeroT Tryd.prog 171 = some (.nilf) := by kernel_rfl
@[push_cast] theorem by171 : bytesT Tryd.prog 171 = 8 := by kernel_rfl
@[push_cast] theorem sz172 : sizeT Tryd.prog 172 = some 1 := by kernel_rfl
@[push_cast] theorem ag172 : aggT Tryd.prog 172 = some false := by kernel_rfl
@[push_cast] theorem ze172 : zeroT Tryd.prog 172 = some (.nilf) := by kernel_rfl
@[push_cast] theorem by172 : bytesT Tryd.prog 172 = 8 := by kernel_rfl
@[push_cast] theorem sz173 : sizeT Tryd.prog 173 = some 1 := by kernel_rfl
@[push_cast] theorem ag173 : aggT Tryd.prog 173 = some false := by kernel_rfl
@[push_cast] theorem ze173 : zeroT Tryd.prog 173 = some (.nilf) := by kernel_rfl
@[push_cast] theorem by173 : bytesT Tryd.prog 173 = 8 := by kernel_rfl
@[push_cast] theorem sz174 : sizeT Tryd.prog 174 = some 1 := by kernel_rfl
@[push_cast] theorem ag174 : aggT Tryd.prog 174 = some false := by kernel_rfl
@[push_cast] theorem ze174 : zeroT Tryd.prog 174 = some (.nilf) := by kernel_rfl
@[push_cast] theorem by174 : bytesT Tryd.prog 174 = 8 := by kernel_rfl
@[push_cast] theorem sz175 : sizeT Tryd.prog 175 = some 1 := by kernel_rfl
@[push_cast] theorem ag175 : aggT Tryd.prog 175 = some false := by kernel_rfl
@[push_cast] theorem ze175 : zeroT Tryd.prog 175 = some (.nilf) := by kernel_rfl
@[push_cast] theorem by175 : bytesT Tryd.prog 175 = 8 := by kernel_rfl
@[push_cast] theorem sz176 : sizeT Tryd.prog 176 = some 1 := by kernel_rfl
@[push_cast] theorem ag176 : aggT Tryd.prog 176 = some false := by kernel_rfl
@[push_cast] theorem ze176 : zeroT Tryd.prog 176 = some (.nilf) := by kernel_rfl
@[push_cast] theorem by176 : bytesT Tryd.prog 176 = 8 := by kernel_rfl
@[push_cast] theorem sz177 : sizeT Tryd.prog 177 = some 24 := by kernel_rfl
@[push_cast] theorem ag177 : aggT Tryd.prog 177 = some true := by kernel_rfl
@[push_cast] theorem ze177 : zeroT Tryd.prog 177 = some (.agg [.int .u8 0, .int .u8 0, .int .u8 0, .int .u8 0, .int .u8 0, .int .u8 0, .int .u8 0, .int .u8 0, .int .u8 0, .int .u8 0, .int .u8 0, .int .u8 0, .int .u8 0, .int .u8 0, .int .u8 0, .int .u8 0, .int .u8 0, .int .u8 0, .int .u8 0, .int .u8 0, .int .u8 0, .int .u8 0, .int .u8 0, .int .u8 0]) := by kernel_rfl
@[push_cast] theorem by177 : bytesT Tryd.prog 177 = 24 := by kernel_rfl
@[push_cast] theorem sz178 : sizeT Tryd.prog 178 = some 1 := by kernel_rfl
@[push_cast] theorem ag178 : aggT Tryd.prog 178 = some false := by kernel_rfl
@[push_cast] theorem ze178 : zeroT Tryd.prog 178 = some (.nilf) := by kernel_rfl
@[push_cast] theorem by178 : bytesT Tryd.prog 178 = 8 := by kernel_rfl
@[push_cast] theorem sz179 : sizeT Tryd.prog 179 = some 1 := by kernel_rfl
@[push_cast] theorem ag179 : aggT Tryd.prog 179 = some false := by kernel_rfl
@[push_cast] theorem ze179 : zeroT Tryd.prog 179 = some (.nilf) := by kernel_rfl
@[push_cast] theorem by179 : bytesT Tryd.prog 179 = 8 := by kernel_rfl
@[push_cast] theorem sz180 : sizeT Tryd.prog 180 = some 1 := by kernel_rfl
@[push_cast] theorem ag180 : aggT Tryd.prog 180 = some false := by kernel_rfl
@[push_cast] theorem by180 : bytesT Tryd.prog 180 = 0 := by kernel_rfl
@[push_cast] theorem sz181 : sizeT Tryd.prog 181 = some 1 := by kernel_rfl
@[push_cast] theorem ag181 : aggT Tryd.prog 181 = some false := by kernel_rfl
@[push_cast] theorem ze181 : zeroT Tryd.prog 181 = some (.nilf) := by kernel_rfl
@[push_cast] theorem by181 : bytesT Tryd.prog 181 = 8 := by kernel_rfl
@[push_cast] theorem sz182 : sizeT Tryd.prog 182 = some 1 := by kernel_rfl
@[push_cast] theorem ag182 : aggT Tryd.prog 182 = some false := by kernel_rfl
@[push_cast] theorem ze182 : zeroT Tryd.prog 182 = some (.nilf) := by kernel_rfl
@[push_cast] theorem by182 : bytesT Tryd.prog 182 = 8 := by kernel_rfl
@[push_cast] theorem sz183 : sizeT Tryd.prog 183 = some 20 := by kernel_rfl
@[push_cast] theorem ag183 : aggT Tryd.prog 183 = some true := by kernel_rfl
@[push_cast] theorem ze183 : zeroT Tryd.prog 183 = some (.agg [.int .u64 0, .int .u64 0, .int .u64 0, .int .u64 0, .int .u64 0, .int .u64 0, .int .u64 0, .int .u64 0, .int .u64 0, .int .u64 0, .int .u64 0, .int .u64 0, .int .u64 0, .int .u64 0, .int .u64 0, .int .u64 0, .int .u64 0, .int .u64 0, .int .u64 0, .int .u64 0]) := by kernel_rfl
@[push_cast] theorem by183 : bytesT Tryd.prog 183 = 160 := by kernel_rfl
@[push_cast] theorem sz184 : sizeT Tryd.prog 184 = some 1 := by kernel_rfl
@[push_cast] theorem ag184 : aggT Tryd.prog 184 = some false := by kernel_rfl
@[push_cast] theorem ze184 : zeroT Tryd.prog 184 = some (.int .u32 0) := by kernel_rfl
@[push_cast] theorem by184 : bytesT Tryd.prog 184 = 4 := by kernel_rfl
@[push_cast] theorem sz185 : sizeT Tryd.prog 185 = some 65 := by kernel_rfl
@[push_cast] theorem ag185 : aggT Tryd.prog 185 = some true := by kernel_rfl
@[push_cast] theorem ze185 : zeroT Tryd.prog 185 = some (.agg [.int .u8 0, .int .u8 0, .int .u8 0, .int .u8 0, .int .u8 0, .int .u8 0, .int .u8 0, .int .u8 0, .int .u8 0, .int .u8 0, .int .u8 0, .int .u8 0, .int .u8 0, .int .u8 0, .int .u8 0, .int .u8 0, .int .u8 0, .int .u8 0, .int .u8 0, .int .u8 0, .int .u8 0, .int .u8 0, .int .u8 0, .int .u8 0, .int .u8 0, .int .u8 0, .int .u8 0, .int .u8 0, .int .u8 0, .int .u8 0, .int .u8 0, .int .u8 0, .int .u8 0, .int .u8 0, .int .u8 0, .int .u8 0, .int .u8 0, .int .u8 0, .int .u8 0, .int .u8 0, .int .u8 0, .int .u8 0, .int .u8 0, .int .u8 0, .int .u8 0, .int .u8 0, .int .u8 0, .int .u8 0, .int .u8 0, .int .u8 0, .int .u8 0, .int .u8 0, .int .u8 0, .int .u8 0, .int .u8 0, .int .u8 0, .int .u8 0, .int .u8 0, .int .u8 0, .int .u8 0, .int .u8 0, .int .u8 0, .int .u8 0, .int .u8 0, .int .u8 0]) := by kernel_rfl
@[push_cast] theorem by185 : bytesT Tryd.prog 185 = 65 := by kernel_rfl
@[push_cast] theorem sz186 : sizeT Tryd.prog 186 = some 1 := by kernel_rfl
@[push_cast] theorem ag186 : aggT Tryd.prog 186 = some false := by kernel_rfl
@[push_cast] theorem ze186 : zeroT Tryd.prog 186 = some (.nilf) := by kernel_rfl
@[push_cast] theorem by186 : bytesT Tryd.prog 186 = 8 := by kernel_rfl
@[push_cast] theorem sz187 : sizeT Tryd.prog 187 = some 1 := by kernel_rfl
@[push_cast] theorem ag187 : aggT Tryd.prog 187 = some false := by kernel_rfl
@[push_cast] theorem ze187 : zeroT Tryd.prog 187 = some (.nilf) := by kernel_rfl
@[push_cast] theorem by187 : bytesT Tryd.prog 187 = 8 := by kernel_rfl
@[push_cast] theorem sz188 : sizeT Tryd.prog 188 = some 32 := by kernel_rfl
@[push_cast] theorem ag188 : aggT Tryd.prog 188 = some true := by kernel_rfl
@[push_cast] theorem ze188 : zeroT Tryd.prog 188 = some (.agg [.int .u8 0, .int .u8 0, .int .u8 0, .int .u8 0, .int .u8 0, .int .u8 0, .int .u8 0, .int .u8 0, .int .u8 0, .int .u8 0, .int .u8 0, .int .u8 0, .int .u8 0, .int .u8 0, .int .u8 0, .int .u8 0, .int .u8 0, .int .u8 0, .int .u8 0, .int .u8 0, .int .u8 0, .int .u8 0, .int .u8 0, .int .u8 0, .int .u8 0, .int .u8 0, .int .u8 0, .int .u8 0, .int .u8 0, .int .u8 0, .int .u8 0, .int .u8 0]) := by kernel_rfl
@[push_cast] theorem by188 : bytesT Tryd.prog 188 = 32 := by kernel_rfl
@[push_cast] theorem sz189 : sizeT Tryd.prog 189 = some 64 := by kernel_rfl
@[push_cast] theorem ag189 : aggT Tryd.prog 189 = some true := by kernel_rfl
@[push_cast] theorem ze189 : zeroT Tryd.prog 189 = some (.agg [.int .u8 0, .int .u8 0, .int .u8 0, .int .u8 0, .int .u8 0, .int .u8 0, .int .u8 0, .int .u8 0, .int .u8 0, .int .u8 0, .int .u8 0, .int .u8 0, .int .u8 0, .int .u8 0, .int .u8 0, .int .u8 0, .int .u8 0, .int .u8 0, .int .u8 0, .int .u8 0, .int .u8 0, .int .u8 0, .int .u8 0, .int .u8 0, .int .u8 0, .int .u8 0, .int .u8 0, .int .u8 0, .int .u8 0, .int .u8 0, .int .u8 0, .int .u8 0, .int .u8 0, .int .u8 0, .int .u8 0, .int .u8 0, .int .u8 0, .int .u8 0, .int .u8 0, .int .u8 0, .int .u8 0, .int .u8 0, .int .u8 0, .int .u8 0, .int .u8 0, .int .u8 0, .int .u8 0, .int .u8 0, .int .u8 0, .int .u8 0, .int .u8 0, .int .u8 0, .int .u8 0, .int .u8 0, .int .u8 0, .int .u8 0, .int .u8 0, .int .u8 0, .int .u8 0, .int .u8 0, .int .u8 0, .int .u8 0, .int .u8 0, .int .u8 0]) := by kernel_rfl
@[push_cast] theorem by189 : bytesT Tryd.prog 189 = 64 := by kernel_rfl
@[push_cast] theorem sz190 : sizeT Tryd.prog 190 = some 1 := by kernel_rfl
@[push_cast] theorem ag190 : aggT Tryd.prog 190 = some false := by kernel_rfl
@[push_cast] theorem ze190 : zeroT Tryd.prog 190 = some (.nilf) := by kernel_rfl
@[push_cast] theorem by190 : bytesT Tryd.prog 190 = 8 := by kernel_rfl
@[push_cast] theorem sz191 : sizeT Tryd.prog 191 = some 4 := by kernel_rfl
@[push_cast] theorem ag191 : aggT Tryd.prog 191 = some true := by kernel_rfl
@[push_cast] theorem ze191 : zeroT Tryd.prog 191 = some (.agg [.nilp, .nilp, .nilp, .str ⟨#[]⟩]) := by kernel_rfl
@[push_cast] theorem by191 : bytesT Tryd.prog 191 = 40 := by kernel_rfl
@[push_cast] theorem fn191x0 : fieldN Tryd.prog 191 0 = some (17, 0) := by kernel_rfl
@[push_cast] theorem fn191x1 : fieldN Tryd.prog 191 1 = some (17, 1) := by kernel_rfl
@[push_cast] theorem fn191x2 : fieldN Tryd.prog 191 2 = some (17, 2) := by kernel_rfl
@[push_cast] theorem fn191x3 : fieldN Tryd.prog 191 3 = some (9, 3) := by kernel_rfl
@[push_cast] theorem pl191 : placesT Tryd.prog 191 = some [(0, 1), (1, 1), (2, 1), (3, 1)] := by kernel_rfl
@[push_cast] theorem pe191 : plainEqT Tryd.prog 191 = true := by kernel_rfl
@[push_cast] theorem sh191 : Program.stoodInHeld Tryd.prog 191 = true := by kernel_rfl
@[push_cast] theorem sz192 : sizeT Tryd.prog 192 = some 4 := by kernel_rfl
@[push_cast] theorem ag192 : aggT Tryd.prog 192 = some true := by kernel_rfl
@[push_cast] theorem ze192 : zeroT Tryd.prog 192 = some (.agg [.nilp, .nilp, .nilp, .str ⟨#[]⟩]) := by kernel_rfl
@[push_cast] theorem by192 : bytesT Tryd.prog 192 = 40 := by kernel_rfl
@[push_cast] theorem fn192x0 : fieldN Tryd.prog 192 0 = some (17, 0) := by kernel_rfl
@[push_cast] theorem fn192x1 : fieldN Tryd.prog 192 1 = some (17, 1) := by kernel_rfl
@[push_cast] theorem fn192x2 : fieldN Tryd.prog 192 2 = some (17, 2) := by kernel_rfl
@[push_cast] theorem fn192x3 : fieldN Tryd.prog 192 3 = some (9, 3) := by kernel_rfl
@[push_cast] theorem pl192 : placesT Tryd.prog 192 = some [(0, 1), (1, 1), (2, 1), (3, 1)] := by kernel_rfl
@[push_cast] theorem pe192 : plainEqT Tryd.prog 192 = true := by kernel_rfl
@[push_cast] theorem sh192 : Program.stoodInHeld Tryd.prog 192 = true := by kernel_rfl
@[push_cast] theorem sz193 : sizeT Tryd.prog 193 = some 0 := by kernel_rfl
@[push_cast] theorem ag193 : aggT Tryd.prog 193 = some true := by kernel_rfl
@[push_cast] theorem ze193 : zeroT Tryd.prog 193 = some (.agg []) := by kernel_rfl
@[push_cast] theorem by193 : bytesT Tryd.prog 193 = 0 := by kernel_rfl
@[push_cast] theorem pl193 : placesT Tryd.prog 193 = some [] := by kernel_rfl
@[push_cast] theorem sz194 : sizeT Tryd.prog 194 = some 0 := by kernel_rfl
@[push_cast] theorem ag194 : aggT Tryd.prog 194 = some true := by kernel_rfl
@[push_cast] theorem ze194 : zeroT Tryd.prog 194 = some (.agg []) := by kernel_rfl
@[push_cast] theorem by194 : bytesT Tryd.prog 194 = 0 := by kernel_rfl
@[push_cast] theorem fn194x0 : fieldN Tryd.prog 194 0 = some (193, 0) := by kernel_rfl
@[push_cast] theorem pl194 : placesT Tryd.prog 194 = some [(0, 0)] := by kernel_rfl
@[push_cast] theorem pe194 : plainEqT Tryd.prog 194 = true := by kernel_rfl
@[push_cast] theorem sh194 : Program.stoodInHeld Tryd.prog 194 = true := by kernel_rfl
@[push_cast] theorem sz195 : sizeT Tryd.prog 195 = some 0 := by kernel_rfl
@[push_cast] theorem ag195 : aggT Tryd.prog 195 = some true := by kernel_rfl
@[push_cast] theorem ze195 : zeroT Tryd.prog 195 = some (.agg []) := by kernel_rfl
@[push_cast] theorem by195 : bytesT Tryd.prog 195 = 0 := by kernel_rfl
@[push_cast] theorem fn195x0 : fieldN Tryd.prog 195 0 = some (193, 0) := by kernel_rfl
@[push_cast] theorem pl195 : placesT Tryd.prog 195 = some [(0, 0)] := by kernel_rfl
@[push_cast] theorem pe195 : plainEqT Tryd.prog 195 = true := by kernel_rfl
@[push_cast] theorem sh195 : Program.stoodInHeld Tryd.prog 195 = true := by kernel_rfl
@[push_cast] theorem sz196 : sizeT Tryd.prog 196 = some 1 := by kernel_rfl
@[push_cast] theorem ag196 : aggT Tryd.prog 196 = some false := by kernel_rfl
@[push_cast] theorem ze196 : zeroT Tryd.prog 196 = some (.nilf) := by kernel_rfl
@[push_cast] theorem by196 : bytesT Tryd.prog 196 = 8 := by kernel_rfl
@[push_cast] theorem sz197 : sizeT Tryd.prog 197 = some 1 := by kernel_rfl
@[push_cast] theorem ag197 : aggT Tryd.prog 197 = some false := by kernel_rfl
@[push_cast] theorem ze197 : zeroT Tryd.prog 197 = some (.int .u8 0) := by kernel_rfl
@[push_cast] theorem by197 : bytesT Tryd.prog 197 = 1 := by kernel_rfl
@[push_cast] theorem sz198 : sizeT Tryd.prog 198 = some 1 := by kernel_rfl
@[push_cast] theorem ag198 : aggT Tryd.prog 198 = some false := by kernel_rfl
@[push_cast] theorem ze198 : zeroT Tryd.prog 198 = some (.int .u8 0) := by kernel_rfl
@[push_cast] theorem by198 : bytesT Tryd.prog 198 = 1 := by kernel_rfl
@[push_cast] theorem sz199 : sizeT Tryd.prog 199 = some 1 := by kernel_rfl
@[push_cast] theorem ag199 : aggT Tryd.prog 199 = some false := by kernel_rfl
@[push_cast] theorem ze199 : zeroT Tryd.prog 199 = some (.nilf) := by kernel_rfl
@[push_cast] theorem by199 : bytesT Tryd.prog 199 = 8 := by kernel_rfl
@[push_cast] theorem sz200 : sizeT Tryd.prog 200 = some 1 := by kernel_rfl
@[push_cast] theorem ag200 : aggT Tryd.prog 200 = some false := by kernel_rfl
@[push_cast] theorem ze200 : zeroT Tryd.prog 200 = some (.nilp) := by kernel_rfl
@[push_cast] theorem by200 : bytesT Tryd.prog 200 = 8 := by kernel_rfl
@[push_cast] theorem sz201 : sizeT Tryd.prog 201 = some 1 := by kernel_rfl
@[push_cast] theorem ag201 : aggT Tryd.prog 201 = some false := by kernel_rfl
@[push_cast] theorem ze201 : zeroT Tryd.prog 201 = some (.int .i32 0) := by kernel_rfl
@[push_cast] theorem by201 : bytesT Tryd.prog 201 = 4 := by kernel_rfl
@[push_cast] theorem sz202 : sizeT Tryd.prog 202 = some 1 := by kernel_rfl
@[push_cast] theorem ag202 : aggT Tryd.prog 202 = some false := by kernel_rfl
@[push_cast] theorem ze202 : zeroT Tryd.prog 202 = some (.int .i32 0) := by kernel_rfl
@[push_cast] theorem by202 : bytesT Tryd.prog 202 = 4 := by kernel_rfl
@[push_cast] theorem sz203 : sizeT Tryd.prog 203 = some 11 := by kernel_rfl
@[push_cast] theorem ag203 : aggT Tryd.prog 203 = some true := by kernel_rfl
@[push_cast] theorem ze203 : zeroT Tryd.prog 203 = some (.agg [.int .u64 0, .int .u64 0, .int .u32 0, .int .u8 0, .int .u8 0, .int .u8 0, .int .u8 0, .nilf, .nilp, .int .i32 0, .int .i32 0]) := by kernel_rfl
@[push_cast] theorem by203 : bytesT Tryd.prog 203 = 48 := by kernel_rfl
@[push_cast] theorem fn203x0 : fieldN Tryd.prog 203 0 = some (12, 0) := by kernel_rfl
@[push_cast] theorem fn203x1 : fieldN Tryd.prog 203 1 = some (12, 1) := by kernel_rfl
@[push_cast] theorem fn203x2 : fieldN Tryd.prog 203 2 = some (184, 2) := by kernel_rfl
@[push_cast] theorem fn203x3 : fieldN Tryd.prog 203 3 = some (197, 3) := by kernel_rfl
@[push_cast] theorem fn203x4 : fieldN Tryd.prog 203 4 = some (5, 4) := by kernel_rfl
@[push_cast] theorem fn203x5 : fieldN Tryd.prog 203 5 = some (5, 5) := by kernel_rfl
@[push_cast] theorem fn203x6 : fieldN Tryd.prog 203 6 = some (198, 6) := by kernel_rfl
@[push_cast] theorem fn203x7 : fieldN Tryd.prog 203 7 = some (199, 7) := by kernel_rfl
@[push_cast] theorem fn203x8 : fieldN Tryd.prog 203 8 = some (200, 8) := by kernel_rfl
@[push_cast] theorem fn203x9 : fieldN Tryd.prog 203 9 = some (201, 9) := by kernel_rfl
@[push_cast] theorem fn203x10 : fieldN Tryd.prog 203 10 = some (202, 10) := by kernel_rfl
@[push_cast] theorem pl203 : placesT Tryd.prog 203 = some [(0, 1), (1, 1), (2, 1), (3, 1), (4, 1), (5, 1), (6, 1), (7, 1), (8, 1), (9, 1), (10, 1)] := by kernel_rfl
@[push_cast] theorem pe203 : plainEqT Tryd.prog 203 = true := by kernel_rfl
@[push_cast] theorem sh203 : Program.stoodInHeld Tryd.prog 203 = true := by kernel_rfl
@[push_cast] theorem sz204 : sizeT Tryd.prog 204 = some 11 := by kernel_rfl
@[push_cast] theorem ag204 : aggT Tryd.prog 204 = some true := by kernel_rfl
@[push_cast] theorem ze204 : zeroT Tryd.prog 204 = some (.agg [.int .u64 0, .int .u64 0, .int .u32 0, .int .u8 0, .int .u8 0, .int .u8 0, .int .u8 0, .nilf, .nilp, .int .i32 0, .int .i32 0]) := by kernel_rfl
@[push_cast] theorem by204 : bytesT Tryd.prog 204 = 48 := by kernel_rfl
@[push_cast] theorem fn204x0 : fieldN Tryd.prog 204 0 = some (12, 0) := by kernel_rfl
@[push_cast] theorem fn204x1 : fieldN Tryd.prog 204 1 = some (12, 1) := by kernel_rfl
@[push_cast] theorem fn204x2 : fieldN Tryd.prog 204 2 = some (184, 2) := by kernel_rfl
@[push_cast] theorem fn204x3 : fieldN Tryd.prog 204 3 = some (197, 3) := by kernel_rfl
@[push_cast] theorem fn204x4 : fieldN Tryd.prog 204 4 = some (5, 4) := by kernel_rfl
@[push_cast] theorem fn204x5 : fieldN Tryd.prog 204 5 = some (5, 5) := by kernel_rfl
@[push_cast] theorem fn204x6 : fieldN Tryd.prog 204 6 = some (198, 6) := by kernel_rfl
@[push_cast] theorem fn204x7 : fieldN Tryd.prog 204 7 = some (199, 7) := by kernel_rfl
@[push_cast] theorem fn204x8 : fieldN Tryd.prog 204 8 = some (200, 8) := by kernel_rfl
@[push_cast] theorem fn204x9 : fieldN Tryd.prog 204 9 = some (201, 9) := by kernel_rfl
@[push_cast] theorem fn204x10 : fieldN Tryd.prog 204 10 = some (202, 10) := by kernel_rfl
@[push_cast] theorem pl204 : placesT Tryd.prog 204 = some [(0, 1), (1, 1), (2, 1), (3, 1), (4, 1), (5, 1), (6, 1), (7, 1), (8, 1), (9, 1), (10, 1)] := by kernel_rfl
@[push_cast] theorem pe204 : plainEqT Tryd.prog 204 = true := by kernel_rfl
@[push_cast] theorem sh204 : Program.stoodInHeld Tryd.prog 204 = true := by kernel_rfl
@[push_cast] theorem sz205 : sizeT Tryd.prog 205 = some 1 := by kernel_rfl
@[push_cast] theorem ag205 : aggT Tryd.prog 205 = some false := by kernel_rfl
@[push_cast] theorem ze205 : zeroT Tryd.prog 205 = some (.nilp) := by kernel_rfl
@[push_cast] theorem by205 : bytesT Tryd.prog 205 = 8 := by kernel_rfl
attribute [push_cast] Tryd.underlying0 Tryd.underlying1 Tryd.underlying2 Tryd.underlying3 Tryd.underlying4 Tryd.underlying5 Tryd.underlying6 Tryd.underlying7 Tryd.underlying8 Tryd.underlying9 Tryd.underlying10 Tryd.underlying11 Tryd.underlying12 Tryd.underlying13 Tryd.underlying14 Tryd.underlying15 Tryd.underlying16 Tryd.underlying17 Tryd.underlying18 Tryd.underlying19
attribute [push_cast] Tryd.underlying20 Tryd.underlying21 Tryd.underlying22 Tryd.underlying23 Tryd.underlying24 Tryd.underlying25 Tryd.underlying26 Tryd.underlying27 Tryd.underlying28 Tryd.underlying29 Tryd.underlying30 Tryd.underlying31 Tryd.underlying32 Tryd.underlying33 Tryd.underlying34 Tryd.underlying35 Tryd.underlying36 Tryd.underlying37 Tryd.underlying38 Tryd.underlying39
attribute [push_cast] Tryd.underlying40 Tryd.underlying41 Tryd.underlying42 Tryd.underlying43 Tryd.underlying44 Tryd.underlying45 Tryd.underlying46 Tryd.underlying47 Tryd.underlying48 Tryd.underlying49 Tryd.underlying50 Tryd.underlying51 Tryd.underlying52 Tryd.underlying53 Tryd.underlying54 Tryd.underlying55 Tryd.underlying56 Tryd.underlying57 Tryd.underlying58 Tryd.underlying59
attribute [push_cast] Tryd.underlying60 Tryd.underlying61 Tryd.underlying62 Tryd.underlying63 Tryd.underlying64 Tryd.underlying65 Tryd.underlying66 Tryd.underlying67 Tryd.underlying68 Tryd.underlying69 Tryd.underlying70 Tryd.underlying71 Tryd.underlying72 Tryd.underlying73 Tryd.underlying74 Tryd.underlying75 Tryd.underlying76 Tryd.underlying77 Tryd.underlying78 Tryd.underlying79
attribute [push_cast] Tryd.underlying80 Tryd.underlying81 Tryd.underlying82 Tryd.underlying83 Tryd.underlying84 Tryd.underlying85 Tryd.underlying86 Tryd.underlying87 Tryd.underlying88 Tryd.underlying89 Tryd.underlying90 Tryd.underlying91 Tryd.underlying92 Tryd.underlying93 Tryd.underlying94 Tryd.underlying95 Tryd.underlying96 Tryd.underlying97 Tryd.underlying98 Tryd.underlying99
attribute [push_cast] Tryd.underlying100 Tryd.underlying101 Tryd.underlying102 Tryd.underlying103 Tryd.underlying104 Tryd.underlying105 Tryd.underlying106 Tryd.underlying107 Tryd.underlying108 Tryd.underlying109 Tryd.underlying110 Tryd.underlying111 Tryd.underlying112 Tryd.underlying113 Tryd.underlying114 Tryd.underlying115 Tryd.underlying116 Tryd.underlying117 Tryd.underlying118 Tryd.underlying119
attribute [push_cast] Tryd.underlying120 Tryd.underlying121 Tryd.underlying122 Tryd.underlying123 Tryd.underlying124 Tryd.underlying125 Tryd.underlying126 Tryd.underlying127 Tryd.underlying128 Tryd.underlying129 Tryd.underlying130 Tryd.underlying131 Tryd.underlying132 Tryd.underlying133 Tryd.underlying134 Tryd.underlying135 Tryd.underlying136 Tryd.underlying137 Tryd.underlying138 Tryd.underlying139
attribute [push_cast] Tryd.underlying140 Tryd.underlying141 Tryd.underlying142 Tryd.underlying143 Tryd.underlying144 Tryd.underlying145 Tryd.underlying146 Tryd.underlying147 Tryd.underlying148 Tryd.underlying149 Tryd.underlying150 Tryd.underlying151 Tryd.underlying152 Tryd.underlying153 Tryd.underlying154 Tryd.underlying155 Tryd.underlying156 Tryd.underlying157 Tryd.underlying158 Tryd.underlying159
attribute [push_cast] Tryd.underlying160 Tryd.underlying161 Tryd.underlying162 Tryd.underlying163 Tryd.underlying164 Tryd.underlying165 Tryd.underlying166 Tryd.underlying167 Tryd.underlying168 Tryd.underlying169 Tryd.underlying170 Tryd.underlying171 Tryd.underlying172 Tryd.underlying173 Tryd.underlying174 Tryd.underlying175 Tryd.underlying176 Tryd.underlying177 Tryd.underlying178 Tryd.underlying179
attribute [push_cast] Tryd.underlying180 Tryd.underlying181 Tryd.underlying182 Tryd.underlying183 Tryd.underlying184 Tryd.underlying185 Tryd.underlying186 Tryd.underlying187 Tryd.underlying188 Tryd.underlying189 Tryd.underlying190 Tryd.underlying191 Tryd.underlying192 Tryd.underlying193 Tryd.underlying194 Tryd.underlying195 Tryd.underlying196 Tryd.underlying197 Tryd.underlying198 Tryd.underlying199
attribute [push_cast] Tryd.underlying200 Tryd.underlying201 Tryd.underlying202 Tryd.underlying203 Tryd.underlying204 Tryd.underlying205
end Go.Proofs.YticflebneoebkaaDoor.Dm
