/-
  What the machine of XDm asks of this seat's types: sizes, zero values, places of fields. By program (wip/tools/types.py).
-/
import Derived.Test.YtkemehicndccmaaGreatDoorDmT
set_option linter.unusedSimpArgs false
set_option linter.unusedVariables false
namespace Go.Proofs.YtkemehicndccmaaGreatDoor.Dm
open Go
@[push_cast] theorem E_P (pr:PrimF):(envOf pr).P=Tryz.prog:=rfl
@[push_cast] theorem E_G (pr:PrimF) (g:Nat):(envOf pr).G g=none:=rfl
@[push_cast] theorem sz0:sizeT Tryz.prog 0=some 1:=by kernel_rfl
@[push_cast] theorem sz3:sizeT Tryz.prog 3=some 1:=by kernel_rfl
@[push_cast] theorem ag3:aggT Tryz.prog 3=some false:=by kernel_rfl
@[push_cast] theorem ze3:zeroT Tryz.prog 3=some (.int .i64 0):=by kernel_rfl
@[push_cast] theorem by3:bytesT Tryz.prog 3=8:=by kernel_rfl
@[push_cast] theorem sz4:sizeT Tryz.prog 4=some 1:=by kernel_rfl
@[push_cast] theorem ag4:aggT Tryz.prog 4=some false:=by kernel_rfl
@[push_cast] theorem ze4:zeroT Tryz.prog 4=some (.bool false):=by kernel_rfl
@[push_cast] theorem sz5:sizeT Tryz.prog 5=some 1:=by kernel_rfl
@[push_cast] theorem ze5:zeroT Tryz.prog 5=some (.int .u8 0):=by kernel_rfl
@[push_cast] theorem fn7x0:fieldN Tryz.prog 7 0=some (2,0):=by kernel_rfl
@[push_cast] theorem fn7x1:fieldN Tryz.prog 7 1=some (3,1):=by kernel_rfl
@[push_cast] theorem fn7x2:fieldN Tryz.prog 7 2=some (4,2):=by kernel_rfl
@[push_cast] theorem fn7x3:fieldN Tryz.prog 7 3=some (6,3):=by kernel_rfl
@[push_cast] theorem fn8x0:fieldN Tryz.prog 8 0=some (2,0):=by kernel_rfl
@[push_cast] theorem fn8x1:fieldN Tryz.prog 8 1=some (3,1):=by kernel_rfl
@[push_cast] theorem fn8x2:fieldN Tryz.prog 8 2=some (4,2):=by kernel_rfl
@[push_cast] theorem fn8x3:fieldN Tryz.prog 8 3=some (6,3):=by kernel_rfl
@[push_cast] theorem sz9:sizeT Tryz.prog 9=some 1:=by kernel_rfl
@[push_cast] theorem ag9:aggT Tryz.prog 9=some false:=by kernel_rfl
@[push_cast] theorem ze9:zeroT Tryz.prog 9=some (.str ⟨#[]⟩):=by kernel_rfl
@[push_cast] theorem fn13x0:fieldN Tryz.prog 13 0=some (9,0):=by kernel_rfl
@[push_cast] theorem fn13x1:fieldN Tryz.prog 13 1=some (12,1):=by kernel_rfl
@[push_cast] theorem fn14x0:fieldN Tryz.prog 14 0=some (9,0):=by kernel_rfl
@[push_cast] theorem fn14x1:fieldN Tryz.prog 14 1=some (12,1):=by kernel_rfl
@[push_cast] theorem fn18x0:fieldN Tryz.prog 18 0=some (17,0):=by kernel_rfl
@[push_cast] theorem fn19x0:fieldN Tryz.prog 19 0=some (17,0):=by kernel_rfl
@[push_cast] theorem sz22:sizeT Tryz.prog 22=some 1:=by kernel_rfl
@[push_cast] theorem ag22:aggT Tryz.prog 22=some false:=by kernel_rfl
@[push_cast] theorem sz23:sizeT Tryz.prog 23=some 1:=by kernel_rfl
@[push_cast] theorem ag23:aggT Tryz.prog 23=some false:=by kernel_rfl
@[push_cast] theorem fn24x0:fieldN Tryz.prog 24 0=some (22,0):=by kernel_rfl
@[push_cast] theorem fn24x1:fieldN Tryz.prog 24 1=some (23,1):=by kernel_rfl
@[push_cast] theorem sz25:sizeT Tryz.prog 25=some 2:=by kernel_rfl
@[push_cast] theorem ag25:aggT Tryz.prog 25=some true:=by kernel_rfl
@[push_cast] theorem fn25x0:fieldN Tryz.prog 25 0=some (22,0):=by kernel_rfl
@[push_cast] theorem fn25x1:fieldN Tryz.prog 25 1=some (23,1):=by kernel_rfl
@[push_cast] theorem sz26:sizeT Tryz.prog 26=some 1:=by kernel_rfl
@[push_cast] theorem ag26:aggT Tryz.prog 26=some false:=by kernel_rfl
@[push_cast] theorem sz27:sizeT Tryz.prog 27=some 1:=by kernel_rfl
@[push_cast] theorem ag27:aggT Tryz.prog 27=some false:=by kernel_rfl
@[push_cast] theorem sz28:sizeT Tryz.prog 28=some 1:=by kernel_rfl
@[push_cast] theorem ag28:aggT Tryz.prog 28=some false:=by kernel_rfl
@[push_cast] theorem sz29:sizeT Tryz.prog 29=some 1:=by kernel_rfl
@[push_cast] theorem ag29:aggT Tryz.prog 29=some false:=by kernel_rfl
@[push_cast] theorem sz30:sizeT Tryz.prog 30=some 1:=by kernel_rfl
@[push_cast] theorem ag30:aggT Tryz.prog 30=some false:=by kernel_rfl
@[push_cast] theorem sz31:sizeT Tryz.prog 31=some 1:=by kernel_rfl
@[push_cast] theorem ag31:aggT Tryz.prog 31=some false:=by kernel_rfl
@[push_cast] theorem sz32:sizeT Tryz.prog 32=some 1:=by kernel_rfl
@[push_cast] theorem ag32:aggT Tryz.prog 32=some false:=by kernel_rfl
@[push_cast] theorem sz33:sizeT Tryz.prog 33=some 1:=by kernel_rfl
@[push_cast] theorem ag33:aggT Tryz.prog 33=some false:=by kernel_rfl
@[push_cast] theorem sz34:sizeT Tryz.prog 34=some 1:=by kernel_rfl
@[push_cast] theorem ag34:aggT Tryz.prog 34=some false:=by kernel_rfl
@[push_cast] theorem fn35x0:fieldN Tryz.prog 35 0=some (31,0):=by kernel_rfl
@[push_cast] theorem fn35x1:fieldN Tryz.prog 35 1=some (32,1):=by kernel_rfl
@[push_cast] theorem fn35x2:fieldN Tryz.prog 35 2=some (33,2):=by kernel_rfl
@[push_cast] theorem fn35x3:fieldN Tryz.prog 35 3=some (34,3):=by kernel_rfl
@[push_cast] theorem sz36:sizeT Tryz.prog 36=some 4:=by kernel_rfl
@[push_cast] theorem ag36:aggT Tryz.prog 36=some true:=by kernel_rfl
@[push_cast] theorem fn36x0:fieldN Tryz.prog 36 0=some (31,0):=by kernel_rfl
@[push_cast] theorem fn36x1:fieldN Tryz.prog 36 1=some (32,1):=by kernel_rfl
@[push_cast] theorem fn36x2:fieldN Tryz.prog 36 2=some (33,2):=by kernel_rfl
@[push_cast] theorem fn36x3:fieldN Tryz.prog 36 3=some (34,3):=by kernel_rfl
@[push_cast] theorem fn37x0:fieldN Tryz.prog 37 0=some (25,0):=by kernel_rfl
@[push_cast] theorem fn37x1:fieldN Tryz.prog 37 1=some (26,2):=by kernel_rfl
@[push_cast] theorem fn37x2:fieldN Tryz.prog 37 2=some (27,3):=by kernel_rfl
@[push_cast] theorem fn37x3:fieldN Tryz.prog 37 3=some (28,4):=by kernel_rfl
@[push_cast] theorem fn37x4:fieldN Tryz.prog 37 4=some (29,5):=by kernel_rfl
@[push_cast] theorem fn37x5:fieldN Tryz.prog 37 5=some (3,6):=by kernel_rfl
@[push_cast] theorem fn37x6:fieldN Tryz.prog 37 6=some (30,7):=by kernel_rfl
@[push_cast] theorem fn37x7:fieldN Tryz.prog 37 7=some (36,8):=by kernel_rfl
@[push_cast] theorem sz38:sizeT Tryz.prog 38=some 12:=by kernel_rfl
@[push_cast] theorem ag38:aggT Tryz.prog 38=some true:=by kernel_rfl
@[push_cast] theorem fn38x0:fieldN Tryz.prog 38 0=some (25,0):=by kernel_rfl
@[push_cast] theorem fn38x1:fieldN Tryz.prog 38 1=some (26,2):=by kernel_rfl
@[push_cast] theorem fn38x2:fieldN Tryz.prog 38 2=some (27,3):=by kernel_rfl
@[push_cast] theorem fn38x3:fieldN Tryz.prog 38 3=some (28,4):=by kernel_rfl
@[push_cast] theorem fn38x4:fieldN Tryz.prog 38 4=some (29,5):=by kernel_rfl
@[push_cast] theorem fn38x5:fieldN Tryz.prog 38 5=some (3,6):=by kernel_rfl
@[push_cast] theorem fn38x6:fieldN Tryz.prog 38 6=some (30,7):=by kernel_rfl
@[push_cast] theorem fn38x7:fieldN Tryz.prog 38 7=some (36,8):=by kernel_rfl
@[push_cast] theorem el46:elemT Tryz.prog 46=some 53:=by kernel_rfl
@[push_cast] theorem el48:elemT Tryz.prog 48=some 54:=by kernel_rfl
@[push_cast] theorem fn49x0:fieldN Tryz.prog 49 0=some (9,0):=by kernel_rfl
@[push_cast] theorem fn49x1:fieldN Tryz.prog 49 1=some (3,1):=by kernel_rfl
@[push_cast] theorem fn49x2:fieldN Tryz.prog 49 2=some (3,2):=by kernel_rfl
@[push_cast] theorem fn49x3:fieldN Tryz.prog 49 3=some (9,3):=by kernel_rfl
@[push_cast] theorem sz50:sizeT Tryz.prog 50=some 4:=by kernel_rfl
@[push_cast] theorem ag50:aggT Tryz.prog 50=some true:=by kernel_rfl
@[push_cast] theorem ze50:zeroT Tryz.prog 50=some (.agg [.str ⟨#[]⟩,.int .i64 0,.int .i64 0,.str ⟨#[]⟩]):=by kernel_rfl
@[push_cast] theorem fn50x0:fieldN Tryz.prog 50 0=some (9,0):=by kernel_rfl
@[push_cast] theorem fn50x1:fieldN Tryz.prog 50 1=some (3,1):=by kernel_rfl
@[push_cast] theorem fn50x2:fieldN Tryz.prog 50 2=some (3,2):=by kernel_rfl
@[push_cast] theorem fn50x3:fieldN Tryz.prog 50 3=some (9,3):=by kernel_rfl
@[push_cast] theorem pl50:placesT Tryz.prog 50=some [(0,1),(1,1),(2,1),(3,1)]:=by kernel_rfl
@[push_cast] theorem pe50:plainEqT Tryz.prog 50=true:=by kernel_rfl
@[push_cast] theorem fn52x0:fieldN Tryz.prog 52 0=some (9,0):=by kernel_rfl
@[push_cast] theorem fn52x1:fieldN Tryz.prog 52 1=some (3,1):=by kernel_rfl
@[push_cast] theorem fn52x2:fieldN Tryz.prog 52 2=some (3,2):=by kernel_rfl
@[push_cast] theorem fn52x3:fieldN Tryz.prog 52 3=some (9,3):=by kernel_rfl
@[push_cast] theorem fn52x4:fieldN Tryz.prog 52 4=some (9,4):=by kernel_rfl
@[push_cast] theorem fn52x5:fieldN Tryz.prog 52 5=some (3,5):=by kernel_rfl
@[push_cast] theorem fn52x6:fieldN Tryz.prog 52 6=some (3,6):=by kernel_rfl
@[push_cast] theorem fn52x7:fieldN Tryz.prog 52 7=some (9,7):=by kernel_rfl
@[push_cast] theorem sz53:sizeT Tryz.prog 53=some 8:=by kernel_rfl
@[push_cast] theorem ag53:aggT Tryz.prog 53=some true:=by kernel_rfl
@[push_cast] theorem ze53:zeroT Tryz.prog 53=some (.agg [.str ⟨#[]⟩,.int .i64 0,.int .i64 0,.str ⟨#[]⟩,.str ⟨#[]⟩,.int .i64 0,.int .i64 0,.str ⟨#[]⟩]):=by kernel_rfl
@[push_cast] theorem fn53x0:fieldN Tryz.prog 53 0=some (9,0):=by kernel_rfl
@[push_cast] theorem fn53x1:fieldN Tryz.prog 53 1=some (3,1):=by kernel_rfl
@[push_cast] theorem fn53x2:fieldN Tryz.prog 53 2=some (3,2):=by kernel_rfl
@[push_cast] theorem fn53x3:fieldN Tryz.prog 53 3=some (9,3):=by kernel_rfl
@[push_cast] theorem fn53x4:fieldN Tryz.prog 53 4=some (9,4):=by kernel_rfl
@[push_cast] theorem fn53x5:fieldN Tryz.prog 53 5=some (3,5):=by kernel_rfl
@[push_cast] theorem fn53x6:fieldN Tryz.prog 53 6=some (3,6):=by kernel_rfl
@[push_cast] theorem fn53x7:fieldN Tryz.prog 53 7=some (9,7):=by kernel_rfl
@[push_cast] theorem pl53:placesT Tryz.prog 53=some [(0,1),(1,1),(2,1),(3,1),(4,1),(5,1),(6,1),(7,1)]:=by kernel_rfl
@[push_cast] theorem sz54:sizeT Tryz.prog 54=some 1:=by kernel_rfl
@[push_cast] theorem ag54:aggT Tryz.prog 54=some false:=by kernel_rfl
@[push_cast] theorem ze54:zeroT Tryz.prog 54=some (.nils):=by kernel_rfl
@[push_cast] theorem el54:elemT Tryz.prog 54=some 50:=by kernel_rfl
@[push_cast] theorem el55:elemT Tryz.prog 55=some 58:=by kernel_rfl
@[push_cast] theorem sz58:sizeT Tryz.prog 58=some 1:=by kernel_rfl
@[push_cast] theorem ag58:aggT Tryz.prog 58=some false:=by kernel_rfl
@[push_cast] theorem ze58:zeroT Tryz.prog 58=some (.nils):=by kernel_rfl
@[push_cast] theorem el58:elemT Tryz.prog 58=some 9:=by kernel_rfl
@[push_cast] theorem fn61x0:fieldN Tryz.prog 61 0=some (3,0):=by kernel_rfl
@[push_cast] theorem fn61x1:fieldN Tryz.prog 61 1=some (3,1):=by kernel_rfl
@[push_cast] theorem fn61x2:fieldN Tryz.prog 61 2=some (3,2):=by kernel_rfl
@[push_cast] theorem sz62:sizeT Tryz.prog 62=some 3:=by kernel_rfl
@[push_cast] theorem ag62:aggT Tryz.prog 62=some true:=by kernel_rfl
@[push_cast] theorem ze62:zeroT Tryz.prog 62=some (.agg [.int .i64 0,.int .i64 0,.int .i64 0]):=by kernel_rfl
@[push_cast] theorem fn62x0:fieldN Tryz.prog 62 0=some (3,0):=by kernel_rfl
@[push_cast] theorem fn62x1:fieldN Tryz.prog 62 1=some (3,1):=by kernel_rfl
@[push_cast] theorem fn62x2:fieldN Tryz.prog 62 2=some (3,2):=by kernel_rfl
@[push_cast] theorem pl62:placesT Tryz.prog 62=some [(0,1),(1,1),(2,1)]:=by kernel_rfl
@[push_cast] theorem sz63:sizeT Tryz.prog 63=some 1:=by kernel_rfl
@[push_cast] theorem ag63:aggT Tryz.prog 63=some false:=by kernel_rfl
@[push_cast] theorem fn64x0:fieldN Tryz.prog 64 0=some (9,0):=by kernel_rfl
@[push_cast] theorem fn64x1:fieldN Tryz.prog 64 1=some (3,1):=by kernel_rfl
@[push_cast] theorem fn64x2:fieldN Tryz.prog 64 2=some (62,2):=by kernel_rfl
@[push_cast] theorem fn64x3:fieldN Tryz.prog 64 3=some (63,5):=by kernel_rfl
@[push_cast] theorem sz65:sizeT Tryz.prog 65=some 6:=by kernel_rfl
@[push_cast] theorem ag65:aggT Tryz.prog 65=some true:=by kernel_rfl
@[push_cast] theorem ze65:zeroT Tryz.prog 65=some (.agg [.str ⟨#[]⟩,.int .i64 0,.int .i64 0,.int .i64 0,.int .i64 0,.nils]):=by kernel_rfl
@[push_cast] theorem fn65x0:fieldN Tryz.prog 65 0=some (9,0):=by kernel_rfl
@[push_cast] theorem fn65x1:fieldN Tryz.prog 65 1=some (3,1):=by kernel_rfl
@[push_cast] theorem fn65x2:fieldN Tryz.prog 65 2=some (62,2):=by kernel_rfl
@[push_cast] theorem fn65x3:fieldN Tryz.prog 65 3=some (63,5):=by kernel_rfl
@[push_cast] theorem pl65:placesT Tryz.prog 65=some [(0,1),(1,1),(2,3),(5,1)]:=by kernel_rfl
@[push_cast] theorem sz66:sizeT Tryz.prog 66=some 1:=by kernel_rfl
@[push_cast] theorem ag66:aggT Tryz.prog 66=some false:=by kernel_rfl
@[push_cast] theorem el66:elemT Tryz.prog 66=some 104:=by kernel_rfl
@[push_cast] theorem fn76x0:fieldN Tryz.prog 76 0=some (9,0):=by kernel_rfl
@[push_cast] theorem fn76x1:fieldN Tryz.prog 76 1=some (3,1):=by kernel_rfl
@[push_cast] theorem sz77:sizeT Tryz.prog 77=some 2:=by kernel_rfl
@[push_cast] theorem ag77:aggT Tryz.prog 77=some true:=by kernel_rfl
@[push_cast] theorem ze77:zeroT Tryz.prog 77=some (.agg [.str ⟨#[]⟩,.int .i64 0]):=by kernel_rfl
@[push_cast] theorem fn77x0:fieldN Tryz.prog 77 0=some (9,0):=by kernel_rfl
@[push_cast] theorem fn77x1:fieldN Tryz.prog 77 1=some (3,1):=by kernel_rfl
@[push_cast] theorem sz78:sizeT Tryz.prog 78=some 1:=by kernel_rfl
@[push_cast] theorem ag78:aggT Tryz.prog 78=some false:=by kernel_rfl
@[push_cast] theorem fn79x0:fieldN Tryz.prog 79 0=some (9,0):=by kernel_rfl
@[push_cast] theorem fn79x1:fieldN Tryz.prog 79 1=some (3,1):=by kernel_rfl
@[push_cast] theorem fn79x2:fieldN Tryz.prog 79 2=some (3,2):=by kernel_rfl
@[push_cast] theorem fn79x3:fieldN Tryz.prog 79 3=some (78,3):=by kernel_rfl
@[push_cast] theorem sz80:sizeT Tryz.prog 80=some 4:=by kernel_rfl
@[push_cast] theorem ag80:aggT Tryz.prog 80=some true:=by kernel_rfl
@[push_cast] theorem ze80:zeroT Tryz.prog 80=some (.agg [.str ⟨#[]⟩,.int .i64 0,.int .i64 0,.nils]):=by kernel_rfl
@[push_cast] theorem fn80x0:fieldN Tryz.prog 80 0=some (9,0):=by kernel_rfl
@[push_cast] theorem fn80x1:fieldN Tryz.prog 80 1=some (3,1):=by kernel_rfl
@[push_cast] theorem fn80x2:fieldN Tryz.prog 80 2=some (3,2):=by kernel_rfl
@[push_cast] theorem fn80x3:fieldN Tryz.prog 80 3=some (78,3):=by kernel_rfl
@[push_cast] theorem sz81:sizeT Tryz.prog 81=some 1:=by kernel_rfl
@[push_cast] theorem ag81:aggT Tryz.prog 81=some false:=by kernel_rfl
@[push_cast] theorem fn82x0:fieldN Tryz.prog 82 0=some (9,0):=by kernel_rfl
@[push_cast] theorem fn82x1:fieldN Tryz.prog 82 1=some (81,1):=by kernel_rfl
@[push_cast] theorem sz83:sizeT Tryz.prog 83=some 2:=by kernel_rfl
@[push_cast] theorem ag83:aggT Tryz.prog 83=some true:=by kernel_rfl
@[push_cast] theorem ze83:zeroT Tryz.prog 83=some (.agg [.str ⟨#[]⟩,.nils]):=by kernel_rfl
@[push_cast] theorem fn83x0:fieldN Tryz.prog 83 0=some (9,0):=by kernel_rfl
@[push_cast] theorem fn83x1:fieldN Tryz.prog 83 1=some (81,1):=by kernel_rfl
@[push_cast] theorem pl83:placesT Tryz.prog 83=some [(0,1),(1,1)]:=by kernel_rfl
@[push_cast] theorem sz84:sizeT Tryz.prog 84=some 1:=by kernel_rfl
@[push_cast] theorem ag84:aggT Tryz.prog 84=some false:=by kernel_rfl
@[push_cast] theorem ze84:zeroT Tryz.prog 84=some (.int .i64 0):=by kernel_rfl
@[push_cast] theorem fn88x0:fieldN Tryz.prog 88 0=some (3,0):=by kernel_rfl
@[push_cast] theorem fn88x1:fieldN Tryz.prog 88 1=some (9,1):=by kernel_rfl
@[push_cast] theorem fn88x2:fieldN Tryz.prog 88 2=some (3,2):=by kernel_rfl
@[push_cast] theorem sz89:sizeT Tryz.prog 89=some 3:=by kernel_rfl
@[push_cast] theorem ag89:aggT Tryz.prog 89=some true:=by kernel_rfl
@[push_cast] theorem ze89:zeroT Tryz.prog 89=some (.agg [.int .i64 0,.str ⟨#[]⟩,.int .i64 0]):=by kernel_rfl
@[push_cast] theorem fn89x0:fieldN Tryz.prog 89 0=some (3,0):=by kernel_rfl
@[push_cast] theorem fn89x1:fieldN Tryz.prog 89 1=some (9,1):=by kernel_rfl
@[push_cast] theorem fn89x2:fieldN Tryz.prog 89 2=some (3,2):=by kernel_rfl
@[push_cast] theorem el92:elemT Tryz.prog 92=some 95:=by kernel_rfl
@[push_cast] theorem fn94x0:fieldN Tryz.prog 94 0=some (9,0):=by kernel_rfl
@[push_cast] theorem fn94x1:fieldN Tryz.prog 94 1=some (3,1):=by kernel_rfl
@[push_cast] theorem sz95:sizeT Tryz.prog 95=some 2:=by kernel_rfl
@[push_cast] theorem ag95:aggT Tryz.prog 95=some true:=by kernel_rfl
@[push_cast] theorem ze95:zeroT Tryz.prog 95=some (.agg [.str ⟨#[]⟩,.int .i64 0]):=by kernel_rfl
@[push_cast] theorem fn95x0:fieldN Tryz.prog 95 0=some (9,0):=by kernel_rfl
@[push_cast] theorem fn95x1:fieldN Tryz.prog 95 1=some (3,1):=by kernel_rfl
@[push_cast] theorem pl95:placesT Tryz.prog 95=some [(0,1),(1,1)]:=by kernel_rfl
@[push_cast] theorem el100:elemT Tryz.prog 100=some 84:=by kernel_rfl
@[push_cast] theorem fn103x0:fieldN Tryz.prog 103 0=some (84,0):=by kernel_rfl
@[push_cast] theorem fn103x1:fieldN Tryz.prog 103 1=some (9,1):=by kernel_rfl
@[push_cast] theorem sz104:sizeT Tryz.prog 104=some 2:=by kernel_rfl
@[push_cast] theorem ze104:zeroT Tryz.prog 104=some (.agg [.int .i64 0,.str ⟨#[]⟩]):=by kernel_rfl
@[push_cast] theorem by104:bytesT Tryz.prog 104=24:=by kernel_rfl
@[push_cast] theorem fn104x0:fieldN Tryz.prog 104 0=some (84,0):=by kernel_rfl
@[push_cast] theorem fn104x1:fieldN Tryz.prog 104 1=some (9,1):=by kernel_rfl
@[push_cast] theorem pl104:placesT Tryz.prog 104=some [(0,1),(1,1)]:=by kernel_rfl
@[push_cast] theorem fn108x0:fieldN Tryz.prog 108 0=some (9,0):=by kernel_rfl
@[push_cast] theorem fn108x1:fieldN Tryz.prog 108 1=some (9,1):=by kernel_rfl
@[push_cast] theorem fn108x2:fieldN Tryz.prog 108 2=some (9,2):=by kernel_rfl
@[push_cast] theorem fn108x3:fieldN Tryz.prog 108 3=some (3,3):=by kernel_rfl
@[push_cast] theorem sz109:sizeT Tryz.prog 109=some 4:=by kernel_rfl
@[push_cast] theorem ag109:aggT Tryz.prog 109=some true:=by kernel_rfl
@[push_cast] theorem ze109:zeroT Tryz.prog 109=some (.agg [.str ⟨#[]⟩,.str ⟨#[]⟩,.str ⟨#[]⟩,.int .i64 0]):=by kernel_rfl
@[push_cast] theorem fn109x0:fieldN Tryz.prog 109 0=some (9,0):=by kernel_rfl
@[push_cast] theorem fn109x1:fieldN Tryz.prog 109 1=some (9,1):=by kernel_rfl
@[push_cast] theorem fn109x2:fieldN Tryz.prog 109 2=some (9,2):=by kernel_rfl
@[push_cast] theorem fn109x3:fieldN Tryz.prog 109 3=some (3,3):=by kernel_rfl
@[push_cast] theorem fn115x0:fieldN Tryz.prog 115 0=some (9,0):=by kernel_rfl
@[push_cast] theorem fn115x1:fieldN Tryz.prog 115 1=some (9,1):=by kernel_rfl
@[push_cast] theorem fn115x2:fieldN Tryz.prog 115 2=some (9,2):=by kernel_rfl
@[push_cast] theorem fn115x3:fieldN Tryz.prog 115 3=some (9,3):=by kernel_rfl
@[push_cast] theorem fn115x4:fieldN Tryz.prog 115 4=some (9,4):=by kernel_rfl
@[push_cast] theorem fn115x5:fieldN Tryz.prog 115 5=some (4,5):=by kernel_rfl
@[push_cast] theorem fn115x6:fieldN Tryz.prog 115 6=some (3,6):=by kernel_rfl
@[push_cast] theorem fn115x7:fieldN Tryz.prog 115 7=some (3,7):=by kernel_rfl
@[push_cast] theorem fn115x8:fieldN Tryz.prog 115 8=some (3,8):=by kernel_rfl
@[push_cast] theorem sz116:sizeT Tryz.prog 116=some 9:=by kernel_rfl
@[push_cast] theorem ag116:aggT Tryz.prog 116=some true:=by kernel_rfl
@[push_cast] theorem fn116x0:fieldN Tryz.prog 116 0=some (9,0):=by kernel_rfl
@[push_cast] theorem fn116x1:fieldN Tryz.prog 116 1=some (9,1):=by kernel_rfl
@[push_cast] theorem fn116x2:fieldN Tryz.prog 116 2=some (9,2):=by kernel_rfl
@[push_cast] theorem fn116x3:fieldN Tryz.prog 116 3=some (9,3):=by kernel_rfl
@[push_cast] theorem fn116x4:fieldN Tryz.prog 116 4=some (9,4):=by kernel_rfl
@[push_cast] theorem fn116x5:fieldN Tryz.prog 116 5=some (4,5):=by kernel_rfl
@[push_cast] theorem fn116x6:fieldN Tryz.prog 116 6=some (3,6):=by kernel_rfl
@[push_cast] theorem fn116x7:fieldN Tryz.prog 116 7=some (3,7):=by kernel_rfl
@[push_cast] theorem fn116x8:fieldN Tryz.prog 116 8=some (3,8):=by kernel_rfl
@[push_cast] theorem sz117:sizeT Tryz.prog 117=some 1:=by kernel_rfl
@[push_cast] theorem ag117:aggT Tryz.prog 117=some false:=by kernel_rfl
@[push_cast] theorem fn118x0:fieldN Tryz.prog 118 0=some (3,0):=by kernel_rfl
@[push_cast] theorem fn118x1:fieldN Tryz.prog 118 1=some (117,1):=by kernel_rfl
@[push_cast] theorem fn118x2:fieldN Tryz.prog 118 2=some (3,2):=by kernel_rfl
@[push_cast] theorem fn118x3:fieldN Tryz.prog 118 3=some (3,3):=by kernel_rfl
@[push_cast] theorem fn118x4:fieldN Tryz.prog 118 4=some (62,4):=by kernel_rfl
@[push_cast] theorem fn118x5:fieldN Tryz.prog 118 5=some (58,7):=by kernel_rfl
@[push_cast] theorem sz119:sizeT Tryz.prog 119=some 8:=by kernel_rfl
@[push_cast] theorem ag119:aggT Tryz.prog 119=some true:=by kernel_rfl
@[push_cast] theorem fn119x0:fieldN Tryz.prog 119 0=some (3,0):=by kernel_rfl
@[push_cast] theorem fn119x1:fieldN Tryz.prog 119 1=some (117,1):=by kernel_rfl
@[push_cast] theorem fn119x2:fieldN Tryz.prog 119 2=some (3,2):=by kernel_rfl
@[push_cast] theorem fn119x3:fieldN Tryz.prog 119 3=some (3,3):=by kernel_rfl
@[push_cast] theorem fn119x4:fieldN Tryz.prog 119 4=some (62,4):=by kernel_rfl
@[push_cast] theorem fn119x5:fieldN Tryz.prog 119 5=some (58,7):=by kernel_rfl
@[push_cast] theorem sz120:sizeT Tryz.prog 120=some 1:=by kernel_rfl
@[push_cast] theorem ag120:aggT Tryz.prog 120=some false:=by kernel_rfl
@[push_cast] theorem ze120:zeroT Tryz.prog 120=some (.nils):=by kernel_rfl
@[push_cast] theorem el120:elemT Tryz.prog 120=some 3:=by kernel_rfl
@[push_cast] theorem sz121:sizeT Tryz.prog 121=some 1:=by kernel_rfl
@[push_cast] theorem ag121:aggT Tryz.prog 121=some false:=by kernel_rfl
@[push_cast] theorem fn122x0:fieldN Tryz.prog 122 0=some (3,0):=by kernel_rfl
@[push_cast] theorem fn122x1:fieldN Tryz.prog 122 1=some (119,1):=by kernel_rfl
@[push_cast] theorem fn122x2:fieldN Tryz.prog 122 2=some (120,9):=by kernel_rfl
@[push_cast] theorem fn122x3:fieldN Tryz.prog 122 3=some (3,10):=by kernel_rfl
@[push_cast] theorem fn122x4:fieldN Tryz.prog 122 4=some (3,11):=by kernel_rfl
@[push_cast] theorem fn122x5:fieldN Tryz.prog 122 5=some (3,12):=by kernel_rfl
@[push_cast] theorem fn122x6:fieldN Tryz.prog 122 6=some (3,13):=by kernel_rfl
@[push_cast] theorem fn122x7:fieldN Tryz.prog 122 7=some (121,14):=by kernel_rfl
@[push_cast] theorem sz123:sizeT Tryz.prog 123=some 15:=by kernel_rfl
@[push_cast] theorem ag123:aggT Tryz.prog 123=some true:=by kernel_rfl
@[push_cast] theorem ze123:zeroT Tryz.prog 123=some (.agg [.int .i64 0,.int .i64 0,.nils,.int .i64 0,.int .i64 0,.int .i64 0,.int .i64 0,.int .i64 0,.nils,.nils,.int .i64 0,.int .i64 0,.int .i64 0,.int .i64 0,.nils]):=by kernel_rfl
@[push_cast] theorem fn123x0:fieldN Tryz.prog 123 0=some (3,0):=by kernel_rfl
@[push_cast] theorem fn123x1:fieldN Tryz.prog 123 1=some (119,1):=by kernel_rfl
@[push_cast] theorem fn123x2:fieldN Tryz.prog 123 2=some (120,9):=by kernel_rfl
@[push_cast] theorem fn123x3:fieldN Tryz.prog 123 3=some (3,10):=by kernel_rfl
@[push_cast] theorem fn123x4:fieldN Tryz.prog 123 4=some (3,11):=by kernel_rfl
@[push_cast] theorem fn123x5:fieldN Tryz.prog 123 5=some (3,12):=by kernel_rfl
@[push_cast] theorem fn123x6:fieldN Tryz.prog 123 6=some (3,13):=by kernel_rfl
@[push_cast] theorem fn123x7:fieldN Tryz.prog 123 7=some (121,14):=by kernel_rfl
@[push_cast] theorem pl123:placesT Tryz.prog 123=some [(0,1),(1,8),(9,1),(10,1),(11,1),(12,1),(13,1),(14,1)]:=by kernel_rfl
@[push_cast] theorem sz126:sizeT Tryz.prog 126=some 1:=by kernel_rfl
@[push_cast] theorem ag126:aggT Tryz.prog 126=some false:=by kernel_rfl
@[push_cast] theorem fn127x0:fieldN Tryz.prog 127 0=some (3,0):=by kernel_rfl
@[push_cast] theorem fn127x1:fieldN Tryz.prog 127 1=some (126,1):=by kernel_rfl
@[push_cast] theorem fn127x2:fieldN Tryz.prog 127 2=some (3,2):=by kernel_rfl
@[push_cast] theorem sz128:sizeT Tryz.prog 128=some 3:=by kernel_rfl
@[push_cast] theorem ag128:aggT Tryz.prog 128=some true:=by kernel_rfl
@[push_cast] theorem ze128:zeroT Tryz.prog 128=some (.agg [.int .i64 0,.nils,.int .i64 0]):=by kernel_rfl
@[push_cast] theorem fn128x0:fieldN Tryz.prog 128 0=some (3,0):=by kernel_rfl
@[push_cast] theorem fn128x1:fieldN Tryz.prog 128 1=some (126,1):=by kernel_rfl
@[push_cast] theorem fn128x2:fieldN Tryz.prog 128 2=some (3,2):=by kernel_rfl
@[push_cast] theorem pl128:placesT Tryz.prog 128=some [(0,1),(1,1),(2,1)]:=by kernel_rfl
@[push_cast] theorem fn130x0:fieldN Tryz.prog 130 0=some (9,0):=by kernel_rfl
@[push_cast] theorem fn130x1:fieldN Tryz.prog 130 1=some (3,1):=by kernel_rfl
@[push_cast] theorem fn130x2:fieldN Tryz.prog 130 2=some (9,2):=by kernel_rfl
@[push_cast] theorem fn130x3:fieldN Tryz.prog 130 3=some (3,3):=by kernel_rfl
@[push_cast] theorem fn130x4:fieldN Tryz.prog 130 4=some (3,4):=by kernel_rfl
@[push_cast] theorem fn130x5:fieldN Tryz.prog 130 5=some (3,5):=by kernel_rfl
@[push_cast] theorem fn130x6:fieldN Tryz.prog 130 6=some (58,6):=by kernel_rfl
@[push_cast] theorem sz131:sizeT Tryz.prog 131=some 7:=by kernel_rfl
@[push_cast] theorem ag131:aggT Tryz.prog 131=some true:=by kernel_rfl
@[push_cast] theorem ze131:zeroT Tryz.prog 131=some (.agg [.str ⟨#[]⟩,.int .i64 0,.str ⟨#[]⟩,.int .i64 0,.int .i64 0,.int .i64 0,.nils]):=by kernel_rfl
@[push_cast] theorem fn131x0:fieldN Tryz.prog 131 0=some (9,0):=by kernel_rfl
@[push_cast] theorem fn131x1:fieldN Tryz.prog 131 1=some (3,1):=by kernel_rfl
@[push_cast] theorem fn131x2:fieldN Tryz.prog 131 2=some (9,2):=by kernel_rfl
@[push_cast] theorem fn131x3:fieldN Tryz.prog 131 3=some (3,3):=by kernel_rfl
@[push_cast] theorem fn131x4:fieldN Tryz.prog 131 4=some (3,4):=by kernel_rfl
@[push_cast] theorem fn131x5:fieldN Tryz.prog 131 5=some (3,5):=by kernel_rfl
@[push_cast] theorem fn131x6:fieldN Tryz.prog 131 6=some (58,6):=by kernel_rfl
@[push_cast] theorem sz134:sizeT Tryz.prog 134=some 1:=by kernel_rfl
@[push_cast] theorem ag134:aggT Tryz.prog 134=some false:=by kernel_rfl
@[push_cast] theorem fn135x0:fieldN Tryz.prog 135 0=some (29,0):=by kernel_rfl
@[push_cast] theorem fn135x1:fieldN Tryz.prog 135 1=some (134,1):=by kernel_rfl
@[push_cast] theorem ze136:zeroT Tryz.prog 136=some (.agg [.nils,.nilm]):=by kernel_rfl
@[push_cast] theorem fn136x0:fieldN Tryz.prog 136 0=some (29,0):=by kernel_rfl
@[push_cast] theorem fn136x1:fieldN Tryz.prog 136 1=some (134,1):=by kernel_rfl
@[push_cast] theorem pl136:placesT Tryz.prog 136=some [(0,1),(1,1)]:=by kernel_rfl
@[push_cast] theorem sz137:sizeT Tryz.prog 137=some 1:=by kernel_rfl
@[push_cast] theorem ag137:aggT Tryz.prog 137=some false:=by kernel_rfl
@[push_cast] theorem ze137:zeroT Tryz.prog 137=some (.nilp):=by kernel_rfl
@[push_cast] theorem sz140:sizeT Tryz.prog 140=some 1:=by kernel_rfl
@[push_cast] theorem ag140:aggT Tryz.prog 140=some false:=by kernel_rfl
@[push_cast] theorem el140:elemT Tryz.prog 140=some 120:=by kernel_rfl
@[push_cast] theorem fn142x0:fieldN Tryz.prog 142 0=some (83,0):=by kernel_rfl
@[push_cast] theorem fn142x1:fieldN Tryz.prog 142 1=some (140,2):=by kernel_rfl
@[push_cast] theorem fn142x2:fieldN Tryz.prog 142 2=some (4,3):=by kernel_rfl
@[push_cast] theorem ze143:zeroT Tryz.prog 143=some (.agg [.str ⟨#[]⟩,.nils,.nils,.bool false]):=by kernel_rfl
@[push_cast] theorem fn143x0:fieldN Tryz.prog 143 0=some (83,0):=by kernel_rfl
@[push_cast] theorem fn143x1:fieldN Tryz.prog 143 1=some (140,2):=by kernel_rfl
@[push_cast] theorem fn143x2:fieldN Tryz.prog 143 2=some (4,3):=by kernel_rfl
@[push_cast] theorem pl143:placesT Tryz.prog 143=some [(0,2),(2,1),(3,1)]:=by kernel_rfl
@[push_cast] theorem sz144:sizeT Tryz.prog 144=some 1:=by kernel_rfl
@[push_cast] theorem ag144:aggT Tryz.prog 144=some false:=by kernel_rfl
@[push_cast] theorem el144:elemT Tryz.prog 144=some 149:=by kernel_rfl
@[push_cast] theorem fn145x0:fieldN Tryz.prog 145 0=some (4,0):=by kernel_rfl
@[push_cast] theorem fn145x1:fieldN Tryz.prog 145 1=some (29,1):=by kernel_rfl
@[push_cast] theorem fn145x2:fieldN Tryz.prog 145 2=some (144,2):=by kernel_rfl
@[push_cast] theorem ze146:zeroT Tryz.prog 146=some (.agg [.bool false,.nils,.nils]):=by kernel_rfl
@[push_cast] theorem fn146x0:fieldN Tryz.prog 146 0=some (4,0):=by kernel_rfl
@[push_cast] theorem fn146x1:fieldN Tryz.prog 146 1=some (29,1):=by kernel_rfl
@[push_cast] theorem fn146x2:fieldN Tryz.prog 146 2=some (144,2):=by kernel_rfl
@[push_cast] theorem pl146:placesT Tryz.prog 146=some [(0,1),(1,1),(2,1)]:=by kernel_rfl
@[push_cast] theorem fn148x0:fieldN Tryz.prog 148 0=some (50,0):=by kernel_rfl
@[push_cast] theorem fn148x1:fieldN Tryz.prog 148 1=some (9,4):=by kernel_rfl
@[push_cast] theorem fn148x2:fieldN Tryz.prog 148 2=some (4,5):=by kernel_rfl
@[push_cast] theorem fn148x3:fieldN Tryz.prog 148 3=some (140,6):=by kernel_rfl
@[push_cast] theorem sz149:sizeT Tryz.prog 149=some 7:=by kernel_rfl
@[push_cast] theorem ze149:zeroT Tryz.prog 149=some (.agg [.str ⟨#[]⟩,.int .i64 0,.int .i64 0,.str ⟨#[]⟩,.str ⟨#[]⟩,.bool false,.nils]):=by kernel_rfl
@[push_cast] theorem fn149x0:fieldN Tryz.prog 149 0=some (50,0):=by kernel_rfl
@[push_cast] theorem fn149x1:fieldN Tryz.prog 149 1=some (9,4):=by kernel_rfl
@[push_cast] theorem fn149x2:fieldN Tryz.prog 149 2=some (4,5):=by kernel_rfl
@[push_cast] theorem fn149x3:fieldN Tryz.prog 149 3=some (140,6):=by kernel_rfl
@[push_cast] theorem pl149:placesT Tryz.prog 149=some [(0,4),(4,1),(5,1),(6,1)]:=by kernel_rfl
@[push_cast] theorem el150:elemT Tryz.prog 150=some 137:=by kernel_rfl
@[push_cast] theorem sz172:sizeT Tryz.prog 172=some 1:=by kernel_rfl
@[push_cast] theorem ag172:aggT Tryz.prog 172=some false:=by kernel_rfl
@[push_cast] theorem fn173x0:fieldN Tryz.prog 173 0=some (3,0):=by kernel_rfl
@[push_cast] theorem fn173x1:fieldN Tryz.prog 173 1=some (172,1):=by kernel_rfl
@[push_cast] theorem sz174:sizeT Tryz.prog 174=some 2:=by kernel_rfl
@[push_cast] theorem ag174:aggT Tryz.prog 174=some true:=by kernel_rfl
@[push_cast] theorem fn174x0:fieldN Tryz.prog 174 0=some (3,0):=by kernel_rfl
@[push_cast] theorem fn174x1:fieldN Tryz.prog 174 1=some (172,1):=by kernel_rfl
@[push_cast] theorem fn175x0:fieldN Tryz.prog 175 0=some (9,0):=by kernel_rfl
@[push_cast] theorem fn175x1:fieldN Tryz.prog 175 1=some (9,1):=by kernel_rfl
@[push_cast] theorem fn175x2:fieldN Tryz.prog 175 2=some (9,2):=by kernel_rfl
@[push_cast] theorem fn175x3:fieldN Tryz.prog 175 3=some (174,3):=by kernel_rfl
@[push_cast] theorem sz176:sizeT Tryz.prog 176=some 5:=by kernel_rfl
@[push_cast] theorem ag176:aggT Tryz.prog 176=some true:=by kernel_rfl
@[push_cast] theorem ze176:zeroT Tryz.prog 176=some (.agg [.str ⟨#[]⟩,.str ⟨#[]⟩,.str ⟨#[]⟩,.int .i64 0,.nils]):=by kernel_rfl
@[push_cast] theorem fn176x0:fieldN Tryz.prog 176 0=some (9,0):=by kernel_rfl
@[push_cast] theorem fn176x1:fieldN Tryz.prog 176 1=some (9,1):=by kernel_rfl
@[push_cast] theorem fn176x2:fieldN Tryz.prog 176 2=some (9,2):=by kernel_rfl
@[push_cast] theorem fn176x3:fieldN Tryz.prog 176 3=some (174,3):=by kernel_rfl
@[push_cast] theorem pl176:placesT Tryz.prog 176=some [(0,1),(1,1),(2,1),(3,2)]:=by kernel_rfl
@[push_cast] theorem fn180x0:fieldN Tryz.prog 180 0=some (9,0):=by kernel_rfl
@[push_cast] theorem fn180x1:fieldN Tryz.prog 180 1=some (9,1):=by kernel_rfl
@[push_cast] theorem fn180x2:fieldN Tryz.prog 180 2=some (3,2):=by kernel_rfl
@[push_cast] theorem sz181:sizeT Tryz.prog 181=some 3:=by kernel_rfl
@[push_cast] theorem ag181:aggT Tryz.prog 181=some true:=by kernel_rfl
@[push_cast] theorem ze181:zeroT Tryz.prog 181=some (.agg [.str ⟨#[]⟩,.str ⟨#[]⟩,.int .i64 0]):=by kernel_rfl
@[push_cast] theorem fn181x0:fieldN Tryz.prog 181 0=some (9,0):=by kernel_rfl
@[push_cast] theorem fn181x1:fieldN Tryz.prog 181 1=some (9,1):=by kernel_rfl
@[push_cast] theorem fn181x2:fieldN Tryz.prog 181 2=some (3,2):=by kernel_rfl
@[push_cast] theorem fn186x0:fieldN Tryz.prog 186 0=some (9,0):=by kernel_rfl
@[push_cast] theorem fn186x1:fieldN Tryz.prog 186 1=some (9,1):=by kernel_rfl
@[push_cast] theorem fn186x2:fieldN Tryz.prog 186 2=some (3,2):=by kernel_rfl
@[push_cast] theorem fn186x3:fieldN Tryz.prog 186 3=some (3,3):=by kernel_rfl
@[push_cast] theorem fn186x4:fieldN Tryz.prog 186 4=some (9,4):=by kernel_rfl
@[push_cast] theorem sz187:sizeT Tryz.prog 187=some 5:=by kernel_rfl
@[push_cast] theorem ag187:aggT Tryz.prog 187=some true:=by kernel_rfl
@[push_cast] theorem ze187:zeroT Tryz.prog 187=some (.agg [.str ⟨#[]⟩,.str ⟨#[]⟩,.int .i64 0,.int .i64 0,.str ⟨#[]⟩]):=by kernel_rfl
@[push_cast] theorem fn187x0:fieldN Tryz.prog 187 0=some (9,0):=by kernel_rfl
@[push_cast] theorem fn187x1:fieldN Tryz.prog 187 1=some (9,1):=by kernel_rfl
@[push_cast] theorem fn187x2:fieldN Tryz.prog 187 2=some (3,2):=by kernel_rfl
@[push_cast] theorem fn187x3:fieldN Tryz.prog 187 3=some (3,3):=by kernel_rfl
@[push_cast] theorem fn187x4:fieldN Tryz.prog 187 4=some (9,4):=by kernel_rfl
@[push_cast] theorem fn195x0:fieldN Tryz.prog 195 0=some (9,0):=by kernel_rfl
@[push_cast] theorem fn195x1:fieldN Tryz.prog 195 1=some (3,1):=by kernel_rfl
@[push_cast] theorem fn195x2:fieldN Tryz.prog 195 2=some (62,2):=by kernel_rfl
@[push_cast] theorem fn195x3:fieldN Tryz.prog 195 3=some (9,5):=by kernel_rfl
@[push_cast] theorem fn195x4:fieldN Tryz.prog 195 4=some (3,6):=by kernel_rfl
@[push_cast] theorem fn195x5:fieldN Tryz.prog 195 5=some (9,7):=by kernel_rfl
@[push_cast] theorem fn195x6:fieldN Tryz.prog 195 6=some (9,8):=by kernel_rfl
@[push_cast] theorem sz196:sizeT Tryz.prog 196=some 9:=by kernel_rfl
@[push_cast] theorem ag196:aggT Tryz.prog 196=some true:=by kernel_rfl
@[push_cast] theorem ze196:zeroT Tryz.prog 196=some (.agg [.str ⟨#[]⟩,.int .i64 0,.int .i64 0,.int .i64 0,.int .i64 0,.str ⟨#[]⟩,.int .i64 0,.str ⟨#[]⟩,.str ⟨#[]⟩]):=by kernel_rfl
@[push_cast] theorem fn196x0:fieldN Tryz.prog 196 0=some (9,0):=by kernel_rfl
@[push_cast] theorem fn196x1:fieldN Tryz.prog 196 1=some (3,1):=by kernel_rfl
@[push_cast] theorem fn196x2:fieldN Tryz.prog 196 2=some (62,2):=by kernel_rfl
@[push_cast] theorem fn196x3:fieldN Tryz.prog 196 3=some (9,5):=by kernel_rfl
@[push_cast] theorem fn196x4:fieldN Tryz.prog 196 4=some (3,6):=by kernel_rfl
@[push_cast] theorem fn196x5:fieldN Tryz.prog 196 5=some (9,7):=by kernel_rfl
@[push_cast] theorem fn196x6:fieldN Tryz.prog 196 6=some (9,8):=by kernel_rfl
@[push_cast] theorem fn210x0:fieldN Tryz.prog 210 0=some (9,0):=by kernel_rfl
@[push_cast] theorem fn210x1:fieldN Tryz.prog 210 1=some (9,1):=by kernel_rfl
@[push_cast] theorem sz211:sizeT Tryz.prog 211=some 2:=by kernel_rfl
@[push_cast] theorem ag211:aggT Tryz.prog 211=some true:=by kernel_rfl
@[push_cast] theorem ze211:zeroT Tryz.prog 211=some (.agg [.str ⟨#[]⟩,.str ⟨#[]⟩]):=by kernel_rfl
@[push_cast] theorem fn211x0:fieldN Tryz.prog 211 0=some (9,0):=by kernel_rfl
@[push_cast] theorem fn211x1:fieldN Tryz.prog 211 1=some (9,1):=by kernel_rfl
@[push_cast] theorem fn213x0:fieldN Tryz.prog 213 0=some (66,0):=by kernel_rfl
@[push_cast] theorem fn213x1:fieldN Tryz.prog 213 1=some (9,1):=by kernel_rfl
@[push_cast] theorem ze214:zeroT Tryz.prog 214=some (.agg [.nils,.str ⟨#[]⟩]):=by kernel_rfl
@[push_cast] theorem fn214x0:fieldN Tryz.prog 214 0=some (66,0):=by kernel_rfl
@[push_cast] theorem fn214x1:fieldN Tryz.prog 214 1=some (9,1):=by kernel_rfl
@[push_cast] theorem fn222x0:fieldN Tryz.prog 222 0=some (3,0):=by kernel_rfl
@[push_cast] theorem fn222x1:fieldN Tryz.prog 222 1=some (3,1):=by kernel_rfl
@[push_cast] theorem sz223:sizeT Tryz.prog 223=some 2:=by kernel_rfl
@[push_cast] theorem ag223:aggT Tryz.prog 223=some true:=by kernel_rfl
@[push_cast] theorem ze223:zeroT Tryz.prog 223=some (.agg [.int .i64 0,.int .i64 0]):=by kernel_rfl
@[push_cast] theorem fn223x0:fieldN Tryz.prog 223 0=some (3,0):=by kernel_rfl
@[push_cast] theorem fn223x1:fieldN Tryz.prog 223 1=some (3,1):=by kernel_rfl
@[push_cast] theorem fn234x0:fieldN Tryz.prog 234 0=some (9,0):=by kernel_rfl
@[push_cast] theorem fn234x1:fieldN Tryz.prog 234 1=some (3,1):=by kernel_rfl
@[push_cast] theorem sz235:sizeT Tryz.prog 235=some 2:=by kernel_rfl
@[push_cast] theorem fn235x0:fieldN Tryz.prog 235 0=some (9,0):=by kernel_rfl
@[push_cast] theorem fn235x1:fieldN Tryz.prog 235 1=some (3,1):=by kernel_rfl
@[push_cast] theorem el242:elemT Tryz.prog 242=some 5:=by kernel_rfl
@[push_cast] theorem fn266x0:fieldN Tryz.prog 266 0=some (17,0):=by kernel_rfl
@[push_cast] theorem fn266x1:fieldN Tryz.prog 266 1=some (17,1):=by kernel_rfl
@[push_cast] theorem fn266x2:fieldN Tryz.prog 266 2=some (17,2):=by kernel_rfl
@[push_cast] theorem fn266x3:fieldN Tryz.prog 266 3=some (9,3):=by kernel_rfl
@[push_cast] theorem fn267x0:fieldN Tryz.prog 267 0=some (17,0):=by kernel_rfl
@[push_cast] theorem fn267x1:fieldN Tryz.prog 267 1=some (17,1):=by kernel_rfl
@[push_cast] theorem fn267x2:fieldN Tryz.prog 267 2=some (17,2):=by kernel_rfl
@[push_cast] theorem fn267x3:fieldN Tryz.prog 267 3=some (9,3):=by kernel_rfl
@[push_cast] theorem fn269x0:fieldN Tryz.prog 269 0=some (268,0):=by kernel_rfl
@[push_cast] theorem fn270x0:fieldN Tryz.prog 270 0=some (268,0):=by kernel_rfl
@[push_cast] theorem fn278x0:fieldN Tryz.prog 278 0=some (12,0):=by kernel_rfl
@[push_cast] theorem fn278x1:fieldN Tryz.prog 278 1=some (12,1):=by kernel_rfl
@[push_cast] theorem fn278x2:fieldN Tryz.prog 278 2=some (258,2):=by kernel_rfl
@[push_cast] theorem fn278x3:fieldN Tryz.prog 278 3=some (272,3):=by kernel_rfl
@[push_cast] theorem fn278x4:fieldN Tryz.prog 278 4=some (5,4):=by kernel_rfl
@[push_cast] theorem fn278x5:fieldN Tryz.prog 278 5=some (5,5):=by kernel_rfl
@[push_cast] theorem fn278x6:fieldN Tryz.prog 278 6=some (273,6):=by kernel_rfl
@[push_cast] theorem fn278x7:fieldN Tryz.prog 278 7=some (274,7):=by kernel_rfl
@[push_cast] theorem fn278x8:fieldN Tryz.prog 278 8=some (275,8):=by kernel_rfl
@[push_cast] theorem fn278x9:fieldN Tryz.prog 278 9=some (276,9):=by kernel_rfl
@[push_cast] theorem fn278x10:fieldN Tryz.prog 278 10=some (277,10):=by kernel_rfl
@[push_cast] theorem fn279x0:fieldN Tryz.prog 279 0=some (12,0):=by kernel_rfl
@[push_cast] theorem fn279x1:fieldN Tryz.prog 279 1=some (12,1):=by kernel_rfl
@[push_cast] theorem fn279x2:fieldN Tryz.prog 279 2=some (258,2):=by kernel_rfl
@[push_cast] theorem fn279x3:fieldN Tryz.prog 279 3=some (272,3):=by kernel_rfl
@[push_cast] theorem fn279x4:fieldN Tryz.prog 279 4=some (5,4):=by kernel_rfl
@[push_cast] theorem fn279x5:fieldN Tryz.prog 279 5=some (5,5):=by kernel_rfl
@[push_cast] theorem fn279x6:fieldN Tryz.prog 279 6=some (273,6):=by kernel_rfl
@[push_cast] theorem fn279x7:fieldN Tryz.prog 279 7=some (274,7):=by kernel_rfl
@[push_cast] theorem fn279x8:fieldN Tryz.prog 279 8=some (275,8):=by kernel_rfl
@[push_cast] theorem fn279x9:fieldN Tryz.prog 279 9=some (276,9):=by kernel_rfl
@[push_cast] theorem fn279x10:fieldN Tryz.prog 279 10=some (277,10):=by kernel_rfl
attribute [push_cast] Tryz.underlying0 Tryz.underlying1 Tryz.underlying2 Tryz.underlying3 Tryz.underlying4 Tryz.underlying5 Tryz.underlying6 Tryz.underlying7 Tryz.underlying8 Tryz.underlying9 Tryz.underlying10 Tryz.underlying11 Tryz.underlying12 Tryz.underlying13 Tryz.underlying14 Tryz.underlying15 Tryz.underlying16 Tryz.underlying17 Tryz.underlying18 Tryz.underlying19
attribute [push_cast] Tryz.underlying20 Tryz.underlying21 Tryz.underlying22 Tryz.underlying23 Tryz.underlying24 Tryz.underlying25 Tryz.underlying26 Tryz.underlying27 Tryz.underlying28 Tryz.underlying29 Tryz.underlying30 Tryz.underlying31 Tryz.underlying32 Tryz.underlying33 Tryz.underlying34 Tryz.underlying35 Tryz.underlying36 Tryz.underlying37 Tryz.underlying38 Tryz.underlying39
attribute [push_cast] Tryz.underlying40 Tryz.underlying41 Tryz.underlying42 Tryz.underlying43 Tryz.underlying44 Tryz.underlying45 Tryz.underlying46 Tryz.underlying47 Tryz.underlying48 Tryz.underlying49 Tryz.underlying50 Tryz.underlying51 Tryz.underlying52 Tryz.underlying53 Tryz.underlying54 Tryz.underlying55 Tryz.underlying56 Tryz.underlying57 Tryz.underlying58 Tryz.underlying59
attribute [push_cast] Tryz.underlying60 Tryz.underlying61 Tryz.underlying62 Tryz.underlying63 Tryz.underlying64 Tryz.underlying65 Tryz.underlying66 Tryz.underlying67 Tryz.underlying68 Tryz.underlying69 Tryz.underlying70 Tryz.underlying71 Tryz.underlying72 Tryz.underlying73 Tryz.underlying74 Tryz.underlying75 Tryz.underlying76 Tryz.underlying77 Tryz.underlying78 Tryz.underlying79
attribute [push_cast] Tryz.underlying80 Tryz.underlying81 Tryz.underlying82 Tryz.underlying83 Tryz.underlying84 Tryz.underlying85 Tryz.underlying86 Tryz.underlying87 Tryz.underlying88 Tryz.underlying89 Tryz.underlying90 Tryz.underlying91 Tryz.underlying92 Tryz.underlying93 Tryz.underlying94 Tryz.underlying95 Tryz.underlying96 Tryz.underlying97 Tryz.underlying98 Tryz.underlying99
attribute [push_cast] Tryz.underlying100 Tryz.underlying101 Tryz.underlying102 Tryz.underlying103 Tryz.underlying104 Tryz.underlying105 Tryz.underlying106 Tryz.underlying107 Tryz.underlying108 Tryz.underlying109 Tryz.underlying110 Tryz.underlying111 Tryz.underlying112 Tryz.underlying113 Tryz.underlying114 Tryz.underlying115 Tryz.underlying116 Tryz.underlying117 Tryz.underlying118 Tryz.underlying119
attribute [push_cast] Tryz.underlying120 Tryz.underlying121 Tryz.underlying122 Tryz.underlying123 Tryz.underlying124 Tryz.underlying125 Tryz.underlying126 Tryz.underlying127 Tryz.underlying128 Tryz.underlying129 Tryz.underlying130 Tryz.underlying131 Tryz.underlying132 Tryz.underlying133 Tryz.underlying134 Tryz.underlying135 Tryz.underlying136 Tryz.underlying137 Tryz.underlying138 Tryz.underlying139
attribute [push_cast] Tryz.underlying140 Tryz.underlying141 Tryz.underlying142 Tryz.underlying143 Tryz.underlying144 Tryz.underlying145 Tryz.underlying146 Tryz.underlying147 Tryz.underlying148 Tryz.underlying149 Tryz.underlying150 Tryz.underlying151 Tryz.underlying152 Tryz.underlying153 Tryz.underlying154 Tryz.underlying155 Tryz.underlying156 Tryz.underlying157 Tryz.underlying158 Tryz.underlying159
attribute [push_cast] Tryz.underlying160 Tryz.underlying161 Tryz.underlying162 Tryz.underlying163 Tryz.underlying164 Tryz.underlying165 Tryz.underlying166 Tryz.underlying167 Tryz.underlying168 Tryz.underlying169 Tryz.underlying170 Tryz.underlying171 Tryz.underlying172 Tryz.underlying173 Tryz.underlying174 Tryz.underlying175 Tryz.underlying176 Tryz.underlying177 Tryz.underlying178 Tryz.underlying179
attribute [push_cast] Tryz.underlying180 Tryz.underlying181 Tryz.underlying182 Tryz.underlying183 Tryz.underlying184 Tryz.underlying185 Tryz.underlying186 Tryz.underlying187 Tryz.underlying188 Tryz.underlying189 Tryz.underlying190 Tryz.underlying191 Tryz.underlying192 Tryz.underlying193 Tryz.underlying194 Tryz.underlying195 Tryz.underlying196 Tryz.underlying197 Tryz.underlying198 Tryz.underlying199
attribute [push_cast] Tryz.underlying200 Tryz.underlying201 Tryz.underlying202 Tryz.underlying203 Tryz.underlying204 Tryz.underlying205 Tryz.underlying206 Tryz.underlying207 Tryz.underlying208 Tryz.underlying209 Tryz.underlying210 Tryz.underlying211 Tryz.underlying212 Tryz.underlying213 Tryz.underlying214 Tryz.underlying215 Tryz.underlying216 Tryz.underlying217 Tryz.underlying218 Tryz.underlying219
attribute [push_cast] Tryz.underlying220 Tryz.underlying221 Tryz.underlying222 Tryz.underlying223 Tryz.underlying224 Tryz.underlying225 Tryz.underlying226 Tryz.underlying227 Tryz.underlying228 Tryz.underlying229 Tryz.underlying230 Tryz.underlying231 Tryz.underlying232 Tryz.underlying233 Tryz.underlying234 Tryz.underlying235 Tryz.underlying236 Tryz.underlying237 Tryz.underlying238 Tryz.underlying239
attribute [push_cast] Tryz.underlying240 Tryz.underlying241 Tryz.underlying242 Tryz.underlying243 Tryz.underlying244 Tryz.underlying245 Tryz.underlying246 Tryz.underlying247 Tryz.underlying248 Tryz.underlying249 Tryz.underlying250 Tryz.underlying251 Tryz.underlying252 Tryz.underlying253 Tryz.underlying254 Tryz.underlying255 Tryz.underlying256 Tryz.underlying257 Tryz.underlying258 Tryz.underlying259
attribute [push_cast] Tryz.underlying260 Tryz.underlying261 Tryz.underlying262 Tryz.underlying263 Tryz.underlying264 Tryz.underlying265 Tryz.underlying266 Tryz.underlying267 Tryz.underlying268 Tryz.underlying269 Tryz.underlying270 Tryz.underlying271 Tryz.underlying272 Tryz.underlying273 Tryz.underlying274 Tryz.underlying275 Tryz.underlying276 Tryz.underlying277 Tryz.underlying278 Tryz.underlying279
attribute [push_cast] Tryz.underlying280
end Go.Proofs.YtkemehicndccmaaGreatDoor.Dm
