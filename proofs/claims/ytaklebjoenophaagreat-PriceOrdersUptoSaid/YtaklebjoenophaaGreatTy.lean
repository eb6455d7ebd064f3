/-
  What the machine of XDm asks of this seat's types: sizes, zero values, places of fields. By program (wip/tools/types.py).
-/
import Derived.Test.YtaklebjoenophaaGreatEnvH
set_option linter.unusedSimpArgs false
set_option linter.unusedVariables false
namespace Go.Proofs.YtaklebjoenophaaGreat.Dm
open Go
@[push_cast] theorem E_P (pr:PrimF):(envOf pr).P=Tryz.prog:=rfl
@[push_cast] theorem E_G (pr:PrimF) (g:Nat):(envOf pr).G g=none:=rfl
@[push_cast] theorem sz0:sizeT Tryz.prog 0=some 1:=by kernel_rfl
@[push_cast] theorem sz3:sizeT Tryz.prog 3=some 1:=by kernel_rfl
@[push_cast] theorem ag3:aggT Tryz.prog 3=some false:=by kernel_rfl
@[push_cast] theorem ze3:zeroT Tryz.prog 3=some (.int .i64 0):=by kernel_rfl
@[push_cast] theorem sz4:sizeT Tryz.prog 4=some 1:=by kernel_rfl
@[push_cast] theorem ag4:aggT Tryz.prog 4=some false:=by kernel_rfl
@[push_cast] theorem fn7x0:fieldN Tryz.prog 7 0=some (2,0):=by kernel_rfl
@[push_cast] theorem fn7x1:fieldN Tryz.prog 7 1=some (3,1):=by kernel_rfl
@[push_cast] theorem fn7x2:fieldN Tryz.prog 7 2=some (4,2):=by kernel_rfl
@[push_cast] theorem fn7x3:fieldN Tryz.prog 7 3=some (6,3):=by kernel_rfl
@[push_cast] theorem fn8x0:fieldN Tryz.prog 8 0=some (2,0):=by kernel_rfl
@[push_cast] theorem fn8x1:fieldN Tryz.prog 8 1=some (3,1):=by kernel_rfl
@[push_cast] theorem fn8x2:fieldN Tryz.prog 8 2=some (4,2):=by kernel_rfl
@[push_cast] theorem fn8x3:fieldN Tryz.prog 8 3=some (6,3):=by kernel_rfl
@[push_cast] theorem sz9:sizeT Tryz.prog 9=some 1:=by kernel_rfl
@[push_cast] theorem ag9:aggT Tryz.prog 9=some false:=by kernel_rfl
@[push_cast] theorem ze9:zeroT Tryz.prog 9=some (.str ⟨#[]⟩):=by kernel_rfl
@[push_cast] theorem fn13x0:fieldN Tryz.prog 13 0=some (9,0):=by kernel_rfl
@[push_cast] theorem fn13x1:fieldN Tryz.prog 13 1=some (12,1):=by kernel_rfl
@[push_cast] theorem fn14x0:fieldN Tryz.prog 14 0=some (9,0):=by kernel_rfl
@[push_cast] theorem fn14x1:fieldN Tryz.prog 14 1=some (12,1):=by kernel_rfl
@[push_cast] theorem fn18x0:fieldN Tryz.prog 18 0=some (17,0):=by kernel_rfl
@[push_cast] theorem fn19x0:fieldN Tryz.prog 19 0=some (17,0):=by kernel_rfl
@[push_cast] theorem sz22:sizeT Tryz.prog 22=some 1:=by kernel_rfl
@[push_cast] theorem ag22:aggT Tryz.prog 22=some false:=by kernel_rfl
@[push_cast] theorem sz23:sizeT Tryz.prog 23=some 1:=by kernel_rfl
@[push_cast] theorem ag23:aggT Tryz.prog 23=some false:=by kernel_rfl
@[push_cast] theorem fn24x0:fieldN Tryz.prog 24 0=some (22,0):=by kernel_rfl
@[push_cast] theorem fn24x1:fieldN Tryz.prog 24 1=some (23,1):=by kernel_rfl
@[push_cast] theorem sz25:sizeT Tryz.prog 25=some 2:=by kernel_rfl
@[push_cast] theorem ag25:aggT Tryz.prog 25=some true:=by kernel_rfl
@[push_cast] theorem fn25x0:fieldN Tryz.prog 25 0=some (22,0):=by kernel_rfl
@[push_cast] theorem fn25x1:fieldN Tryz.prog 25 1=some (23,1):=by kernel_rfl
@[push_cast] theorem sz26:sizeT Tryz.prog 26=some 1:=by kernel_rfl
@[push_cast] theorem ag26:aggT Tryz.prog 26=some false:=by kernel_rfl
@[push_cast] theorem sz27:sizeT Tryz.prog 27=some 1:=by kernel_rfl
@[push_cast] theorem ag27:aggT Tryz.prog 27=some false:=by kernel_rfl
@[push_cast] theorem sz28:sizeT Tryz.prog 28=some 1:=by kernel_rfl
@[push_cast] theorem ag28:aggT Tryz.prog 28=some false:=by kernel_rfl
@[push_cast] theorem sz29:sizeT Tryz.prog 29=some 1:=by kernel_rfl
@[push_cast] theorem ag29:aggT Tryz.prog 29=some false:=by kernel_rfl
@[push_cast] theorem fn30x0:fieldN Tryz.prog 30 0=some (26,0):=by kernel_rfl
@[push_cast] theorem fn30x1:fieldN Tryz.prog 30 1=some (27,1):=by kernel_rfl
@[push_cast] theorem fn30x2:fieldN Tryz.prog 30 2=some (28,2):=by kernel_rfl
@[push_cast] theorem fn30x3:fieldN Tryz.prog 30 3=some (29,3):=by kernel_rfl
@[push_cast] theorem sz31:sizeT Tryz.prog 31=some 4:=by kernel_rfl
@[push_cast] theorem ag31:aggT Tryz.prog 31=some true:=by kernel_rfl
@[push_cast] theorem fn31x0:fieldN Tryz.prog 31 0=some (26,0):=by kernel_rfl
@[push_cast] theorem fn31x1:fieldN Tryz.prog 31 1=some (27,1):=by kernel_rfl
@[push_cast] theorem fn31x2:fieldN Tryz.prog 31 2=some (28,2):=by kernel_rfl
@[push_cast] theorem fn31x3:fieldN Tryz.prog 31 3=some (29,3):=by kernel_rfl
@[push_cast] theorem sz32:sizeT Tryz.prog 32=some 1:=by kernel_rfl
@[push_cast] theorem ag32:aggT Tryz.prog 32=some false:=by kernel_rfl
@[push_cast] theorem fn33x0:fieldN Tryz.prog 33 0=some (25,0):=by kernel_rfl
@[push_cast] theorem fn33x1:fieldN Tryz.prog 33 1=some (31,2):=by kernel_rfl
@[push_cast] theorem fn33x2:fieldN Tryz.prog 33 2=some (32,6):=by kernel_rfl
@[push_cast] theorem fn33x3:fieldN Tryz.prog 33 3=some (9,7):=by kernel_rfl
@[push_cast] theorem fn33x4:fieldN Tryz.prog 33 4=some (3,8):=by kernel_rfl
@[push_cast] theorem sz34:sizeT Tryz.prog 34=some 9:=by kernel_rfl
@[push_cast] theorem ag34:aggT Tryz.prog 34=some true:=by kernel_rfl
@[push_cast] theorem fn34x0:fieldN Tryz.prog 34 0=some (25,0):=by kernel_rfl
@[push_cast] theorem fn34x1:fieldN Tryz.prog 34 1=some (31,2):=by kernel_rfl
@[push_cast] theorem fn34x2:fieldN Tryz.prog 34 2=some (32,6):=by kernel_rfl
@[push_cast] theorem fn34x3:fieldN Tryz.prog 34 3=some (9,7):=by kernel_rfl
@[push_cast] theorem fn34x4:fieldN Tryz.prog 34 4=some (3,8):=by kernel_rfl
@[push_cast] theorem sz37:sizeT Tryz.prog 37=some 1:=by kernel_rfl
@[push_cast] theorem ag37:aggT Tryz.prog 37=some false:=by kernel_rfl
@[push_cast] theorem sz38:sizeT Tryz.prog 38=some 1:=by kernel_rfl
@[push_cast] theorem ag38:aggT Tryz.prog 38=some false:=by kernel_rfl
@[push_cast] theorem el38:elemT Tryz.prog 38=some 91:=by kernel_rfl
@[push_cast] theorem sz39:sizeT Tryz.prog 39=some 1:=by kernel_rfl
@[push_cast] theorem ag39:aggT Tryz.prog 39=some false:=by kernel_rfl
@[push_cast] theorem el39:elemT Tryz.prog 39=some 93:=by kernel_rfl
@[push_cast] theorem fn40x0:fieldN Tryz.prog 40 0=some (37,0):=by kernel_rfl
@[push_cast] theorem fn40x1:fieldN Tryz.prog 40 1=some (38,1):=by kernel_rfl
@[push_cast] theorem fn40x2:fieldN Tryz.prog 40 2=some (39,2):=by kernel_rfl
@[push_cast] theorem fn40x3:fieldN Tryz.prog 40 3=some (3,3):=by kernel_rfl
@[push_cast] theorem fn40x4:fieldN Tryz.prog 40 4=some (3,4):=by kernel_rfl
@[push_cast] theorem sz41:sizeT Tryz.prog 41=some 5:=by kernel_rfl
@[push_cast] theorem ag41:aggT Tryz.prog 41=some true:=by kernel_rfl
@[push_cast] theorem ze41:zeroT Tryz.prog 41=some (.agg [.nils,.nils,.nils,.int .i64 0,.int .i64 0]):=by kernel_rfl
@[push_cast] theorem fn41x0:fieldN Tryz.prog 41 0=some (37,0):=by kernel_rfl
@[push_cast] theorem fn41x1:fieldN Tryz.prog 41 1=some (38,1):=by kernel_rfl
@[push_cast] theorem fn41x2:fieldN Tryz.prog 41 2=some (39,2):=by kernel_rfl
@[push_cast] theorem fn41x3:fieldN Tryz.prog 41 3=some (3,3):=by kernel_rfl
@[push_cast] theorem fn41x4:fieldN Tryz.prog 41 4=some (3,4):=by kernel_rfl
@[push_cast] theorem pl41:placesT Tryz.prog 41=some [(0,1),(1,1),(2,1),(3,1),(4,1)]:=by kernel_rfl
@[push_cast] theorem sz42:sizeT Tryz.prog 42=some 1:=by kernel_rfl
@[push_cast] theorem ag42:aggT Tryz.prog 42=some false:=by kernel_rfl
@[push_cast] theorem ze42:zeroT Tryz.prog 42=some (.int .i64 0):=by kernel_rfl
@[push_cast] theorem el51:elemT Tryz.prog 51=some 112:=by kernel_rfl
@[push_cast] theorem sz55:sizeT Tryz.prog 55=some 1:=by kernel_rfl
@[push_cast] theorem ag55:aggT Tryz.prog 55=some false:=by kernel_rfl
@[push_cast] theorem fn56x0:fieldN Tryz.prog 56 0=some (3,0):=by kernel_rfl
@[push_cast] theorem fn56x1:fieldN Tryz.prog 56 1=some (55,1):=by kernel_rfl
@[push_cast] theorem sz57:sizeT Tryz.prog 57=some 2:=by kernel_rfl
@[push_cast] theorem ag57:aggT Tryz.prog 57=some true:=by kernel_rfl
@[push_cast] theorem fn57x0:fieldN Tryz.prog 57 0=some (3,0):=by kernel_rfl
@[push_cast] theorem fn57x1:fieldN Tryz.prog 57 1=some (55,1):=by kernel_rfl
@[push_cast] theorem fn58x0:fieldN Tryz.prog 58 0=some (9,0):=by kernel_rfl
@[push_cast] theorem fn58x1:fieldN Tryz.prog 58 1=some (9,1):=by kernel_rfl
@[push_cast] theorem fn58x2:fieldN Tryz.prog 58 2=some (9,2):=by kernel_rfl
@[push_cast] theorem fn58x3:fieldN Tryz.prog 58 3=some (57,3):=by kernel_rfl
@[push_cast] theorem sz59:sizeT Tryz.prog 59=some 5:=by kernel_rfl
@[push_cast] theorem ag59:aggT Tryz.prog 59=some true:=by kernel_rfl
@[push_cast] theorem ze59:zeroT Tryz.prog 59=some (.agg [.str ⟨#[]⟩,.str ⟨#[]⟩,.str ⟨#[]⟩,.int .i64 0,.nils]):=by kernel_rfl
@[push_cast] theorem fn59x0:fieldN Tryz.prog 59 0=some (9,0):=by kernel_rfl
@[push_cast] theorem fn59x1:fieldN Tryz.prog 59 1=some (9,1):=by kernel_rfl
@[push_cast] theorem fn59x2:fieldN Tryz.prog 59 2=some (9,2):=by kernel_rfl
@[push_cast] theorem fn59x3:fieldN Tryz.prog 59 3=some (57,3):=by kernel_rfl
@[push_cast] theorem pl59:placesT Tryz.prog 59=some [(0,1),(1,1),(2,1),(3,2)]:=by kernel_rfl
@[push_cast] theorem fn60x0:fieldN Tryz.prog 60 0=some (9,0):=by kernel_rfl
@[push_cast] theorem fn60x1:fieldN Tryz.prog 60 1=some (9,1):=by kernel_rfl
@[push_cast] theorem fn60x2:fieldN Tryz.prog 60 2=some (3,2):=by kernel_rfl
@[push_cast] theorem sz61:sizeT Tryz.prog 61=some 3:=by kernel_rfl
@[push_cast] theorem ag61:aggT Tryz.prog 61=some true:=by kernel_rfl
@[push_cast] theorem ze61:zeroT Tryz.prog 61=some (.agg [.str ⟨#[]⟩,.str ⟨#[]⟩,.int .i64 0]):=by kernel_rfl
@[push_cast] theorem fn61x0:fieldN Tryz.prog 61 0=some (9,0):=by kernel_rfl
@[push_cast] theorem fn61x1:fieldN Tryz.prog 61 1=some (9,1):=by kernel_rfl
@[push_cast] theorem fn61x2:fieldN Tryz.prog 61 2=some (3,2):=by kernel_rfl
@[push_cast] theorem fn62x0:fieldN Tryz.prog 62 0=some (9,0):=by kernel_rfl
@[push_cast] theorem fn62x1:fieldN Tryz.prog 62 1=some (9,1):=by kernel_rfl
@[push_cast] theorem fn62x2:fieldN Tryz.prog 62 2=some (9,2):=by kernel_rfl
@[push_cast] theorem fn62x3:fieldN Tryz.prog 62 3=some (9,3):=by kernel_rfl
@[push_cast] theorem fn62x4:fieldN Tryz.prog 62 4=some (9,4):=by kernel_rfl
@[push_cast] theorem fn62x5:fieldN Tryz.prog 62 5=some (4,5):=by kernel_rfl
@[push_cast] theorem fn62x6:fieldN Tryz.prog 62 6=some (3,6):=by kernel_rfl
@[push_cast] theorem fn62x7:fieldN Tryz.prog 62 7=some (3,7):=by kernel_rfl
@[push_cast] theorem fn62x8:fieldN Tryz.prog 62 8=some (3,8):=by kernel_rfl
@[push_cast] theorem sz63:sizeT Tryz.prog 63=some 9:=by kernel_rfl
@[push_cast] theorem ag63:aggT Tryz.prog 63=some true:=by kernel_rfl
@[push_cast] theorem ze63:zeroT Tryz.prog 63=some (.agg [.str ⟨#[]⟩,.str ⟨#[]⟩,.str ⟨#[]⟩,.str ⟨#[]⟩,.str ⟨#[]⟩,.bool false,.int .i64 0,.int .i64 0,.int .i64 0]):=by kernel_rfl
@[push_cast] theorem fn63x0:fieldN Tryz.prog 63 0=some (9,0):=by kernel_rfl
@[push_cast] theorem fn63x1:fieldN Tryz.prog 63 1=some (9,1):=by kernel_rfl
@[push_cast] theorem fn63x2:fieldN Tryz.prog 63 2=some (9,2):=by kernel_rfl
@[push_cast] theorem fn63x3:fieldN Tryz.prog 63 3=some (9,3):=by kernel_rfl
@[push_cast] theorem fn63x4:fieldN Tryz.prog 63 4=some (9,4):=by kernel_rfl
@[push_cast] theorem fn63x5:fieldN Tryz.prog 63 5=some (4,5):=by kernel_rfl
@[push_cast] theorem fn63x6:fieldN Tryz.prog 63 6=some (3,6):=by kernel_rfl
@[push_cast] theorem fn63x7:fieldN Tryz.prog 63 7=some (3,7):=by kernel_rfl
@[push_cast] theorem fn63x8:fieldN Tryz.prog 63 8=some (3,8):=by kernel_rfl
@[push_cast] theorem sz64:sizeT Tryz.prog 64=some 1:=by kernel_rfl
@[push_cast] theorem ag64:aggT Tryz.prog 64=some false:=by kernel_rfl
@[push_cast] theorem fn65x0:fieldN Tryz.prog 65 0=some (3,0):=by kernel_rfl
@[push_cast] theorem fn65x1:fieldN Tryz.prog 65 1=some (3,1):=by kernel_rfl
@[push_cast] theorem fn65x2:fieldN Tryz.prog 65 2=some (3,2):=by kernel_rfl
@[push_cast] theorem sz66:sizeT Tryz.prog 66=some 3:=by kernel_rfl
@[push_cast] theorem ag66:aggT Tryz.prog 66=some true:=by kernel_rfl
@[push_cast] theorem fn66x0:fieldN Tryz.prog 66 0=some (3,0):=by kernel_rfl
@[push_cast] theorem fn66x1:fieldN Tryz.prog 66 1=some (3,1):=by kernel_rfl
@[push_cast] theorem fn66x2:fieldN Tryz.prog 66 2=some (3,2):=by kernel_rfl
@[push_cast] theorem pl66:placesT Tryz.prog 66=some [(0,1),(1,1),(2,1)]:=by kernel_rfl
@[push_cast] theorem sz67:sizeT Tryz.prog 67=some 1:=by kernel_rfl
@[push_cast] theorem ag67:aggT Tryz.prog 67=some false:=by kernel_rfl
@[push_cast] theorem el67:elemT Tryz.prog 67=some 9:=by kernel_rfl
@[push_cast] theorem fn68x0:fieldN Tryz.prog 68 0=some (3,0):=by kernel_rfl
@[push_cast] theorem fn68x1:fieldN Tryz.prog 68 1=some (64,1):=by kernel_rfl
@[push_cast] theorem fn68x2:fieldN Tryz.prog 68 2=some (3,2):=by kernel_rfl
@[push_cast] theorem fn68x3:fieldN Tryz.prog 68 3=some (3,3):=by kernel_rfl
@[push_cast] theorem fn68x4:fieldN Tryz.prog 68 4=some (66,4):=by kernel_rfl
@[push_cast] theorem fn68x5:fieldN Tryz.prog 68 5=some (67,7):=by kernel_rfl
@[push_cast] theorem sz69:sizeT Tryz.prog 69=some 8:=by kernel_rfl
@[push_cast] theorem ag69:aggT Tryz.prog 69=some true:=by kernel_rfl
@[push_cast] theorem fn69x0:fieldN Tryz.prog 69 0=some (3,0):=by kernel_rfl
@[push_cast] theorem fn69x1:fieldN Tryz.prog 69 1=some (64,1):=by kernel_rfl
@[push_cast] theorem fn69x2:fieldN Tryz.prog 69 2=some (3,2):=by kernel_rfl
@[push_cast] theorem fn69x3:fieldN Tryz.prog 69 3=some (3,3):=by kernel_rfl
@[push_cast] theorem fn69x4:fieldN Tryz.prog 69 4=some (66,4):=by kernel_rfl
@[push_cast] theorem fn69x5:fieldN Tryz.prog 69 5=some (67,7):=by kernel_rfl
@[push_cast] theorem sz70:sizeT Tryz.prog 70=some 1:=by kernel_rfl
@[push_cast] theorem ag70:aggT Tryz.prog 70=some false:=by kernel_rfl
@[push_cast] theorem el70:elemT Tryz.prog 70=some 3:=by kernel_rfl
@[push_cast] theorem sz71:sizeT Tryz.prog 71=some 1:=by kernel_rfl
@[push_cast] theorem ag71:aggT Tryz.prog 71=some false:=by kernel_rfl
@[push_cast] theorem fn72x0:fieldN Tryz.prog 72 0=some (3,0):=by kernel_rfl
@[push_cast] theorem fn72x1:fieldN Tryz.prog 72 1=some (69,1):=by kernel_rfl
@[push_cast] theorem fn72x2:fieldN Tryz.prog 72 2=some (70,9):=by kernel_rfl
@[push_cast] theorem fn72x3:fieldN Tryz.prog 72 3=some (3,10):=by kernel_rfl
@[push_cast] theorem fn72x4:fieldN Tryz.prog 72 4=some (3,11):=by kernel_rfl
@[push_cast] theorem fn72x5:fieldN Tryz.prog 72 5=some (3,12):=by kernel_rfl
@[push_cast] theorem fn72x6:fieldN Tryz.prog 72 6=some (3,13):=by kernel_rfl
@[push_cast] theorem fn72x7:fieldN Tryz.prog 72 7=some (71,14):=by kernel_rfl
@[push_cast] theorem sz73:sizeT Tryz.prog 73=some 15:=by kernel_rfl
@[push_cast] theorem ag73:aggT Tryz.prog 73=some true:=by kernel_rfl
@[push_cast] theorem ze73:zeroT Tryz.prog 73=some (.agg [.int .i64 0,.int .i64 0,.nils,.int .i64 0,.int .i64 0,.int .i64 0,.int .i64 0,.int .i64 0,.nils,.nils,.int .i64 0,.int .i64 0,.int .i64 0,.int .i64 0,.nils]):=by kernel_rfl
@[push_cast] theorem fn73x0:fieldN Tryz.prog 73 0=some (3,0):=by kernel_rfl
@[push_cast] theorem fn73x1:fieldN Tryz.prog 73 1=some (69,1):=by kernel_rfl
@[push_cast] theorem fn73x2:fieldN Tryz.prog 73 2=some (70,9):=by kernel_rfl
@[push_cast] theorem fn73x3:fieldN Tryz.prog 73 3=some (3,10):=by kernel_rfl
@[push_cast] theorem fn73x4:fieldN Tryz.prog 73 4=some (3,11):=by kernel_rfl
@[push_cast] theorem fn73x5:fieldN Tryz.prog 73 5=some (3,12):=by kernel_rfl
@[push_cast] theorem fn73x6:fieldN Tryz.prog 73 6=some (3,13):=by kernel_rfl
@[push_cast] theorem fn73x7:fieldN Tryz.prog 73 7=some (71,14):=by kernel_rfl
@[push_cast] theorem pl73:placesT Tryz.prog 73=some [(0,1),(1,8),(9,1),(10,1),(11,1),(12,1),(13,1),(14,1)]:=by kernel_rfl
@[push_cast] theorem fn74x0:fieldN Tryz.prog 74 0=some (9,0):=by kernel_rfl
@[push_cast] theorem fn74x1:fieldN Tryz.prog 74 1=some (3,1):=by kernel_rfl
@[push_cast] theorem fn74x2:fieldN Tryz.prog 74 2=some (3,2):=by kernel_rfl
@[push_cast] theorem fn74x3:fieldN Tryz.prog 74 3=some (9,3):=by kernel_rfl
@[push_cast] theorem fn74x4:fieldN Tryz.prog 74 4=some (9,4):=by kernel_rfl
@[push_cast] theorem fn74x5:fieldN Tryz.prog 74 5=some (3,5):=by kernel_rfl
@[push_cast] theorem fn74x6:fieldN Tryz.prog 74 6=some (3,6):=by kernel_rfl
@[push_cast] theorem sz75:sizeT Tryz.prog 75=some 7:=by kernel_rfl
@[push_cast] theorem ag75:aggT Tryz.prog 75=some true:=by kernel_rfl
@[push_cast] theorem ze75:zeroT Tryz.prog 75=some (.agg [.str ⟨#[]⟩,.int .i64 0,.int .i64 0,.str ⟨#[]⟩,.str ⟨#[]⟩,.int .i64 0,.int .i64 0]):=by kernel_rfl
@[push_cast] theorem fn75x0:fieldN Tryz.prog 75 0=some (9,0):=by kernel_rfl
@[push_cast] theorem fn75x1:fieldN Tryz.prog 75 1=some (3,1):=by kernel_rfl
@[push_cast] theorem fn75x2:fieldN Tryz.prog 75 2=some (3,2):=by kernel_rfl
@[push_cast] theorem fn75x3:fieldN Tryz.prog 75 3=some (9,3):=by kernel_rfl
@[push_cast] theorem fn75x4:fieldN Tryz.prog 75 4=some (9,4):=by kernel_rfl
@[push_cast] theorem fn75x5:fieldN Tryz.prog 75 5=some (3,5):=by kernel_rfl
@[push_cast] theorem fn75x6:fieldN Tryz.prog 75 6=some (3,6):=by kernel_rfl
@[push_cast] theorem fn76x0:fieldN Tryz.prog 76 0=some (75,0):=by kernel_rfl
@[push_cast] theorem fn76x1:fieldN Tryz.prog 76 1=some (9,7):=by kernel_rfl
@[push_cast] theorem sz77:sizeT Tryz.prog 77=some 8:=by kernel_rfl
@[push_cast] theorem fn77x0:fieldN Tryz.prog 77 0=some (75,0):=by kernel_rfl
@[push_cast] theorem fn77x1:fieldN Tryz.prog 77 1=some (9,7):=by kernel_rfl
@[push_cast] theorem fn78x0:fieldN Tryz.prog 78 0=some (3,0):=by kernel_rfl
@[push_cast] theorem fn78x1:fieldN Tryz.prog 78 1=some (3,1):=by kernel_rfl
@[push_cast] theorem fn78x2:fieldN Tryz.prog 78 2=some (3,2):=by kernel_rfl
@[push_cast] theorem fn78x3:fieldN Tryz.prog 78 3=some (3,3):=by kernel_rfl
@[push_cast] theorem sz79:sizeT Tryz.prog 79=some 4:=by kernel_rfl
@[push_cast] theorem ag79:aggT Tryz.prog 79=some true:=by kernel_rfl
@[push_cast] theorem ze79:zeroT Tryz.prog 79=some (.agg [.int .i64 0,.int .i64 0,.int .i64 0,.int .i64 0]):=by kernel_rfl
@[push_cast] theorem fn79x0:fieldN Tryz.prog 79 0=some (3,0):=by kernel_rfl
@[push_cast] theorem fn79x1:fieldN Tryz.prog 79 1=some (3,1):=by kernel_rfl
@[push_cast] theorem fn79x2:fieldN Tryz.prog 79 2=some (3,2):=by kernel_rfl
@[push_cast] theorem fn79x3:fieldN Tryz.prog 79 3=some (3,3):=by kernel_rfl
@[push_cast] theorem fn81x0:fieldN Tryz.prog 81 0=some (25,0):=by kernel_rfl
@[push_cast] theorem fn81x1:fieldN Tryz.prog 81 1=some (31,2):=by kernel_rfl
@[push_cast] theorem fn81x2:fieldN Tryz.prog 81 2=some (32,6):=by kernel_rfl
@[push_cast] theorem fn81x3:fieldN Tryz.prog 81 3=some (9,7):=by kernel_rfl
@[push_cast] theorem fn81x4:fieldN Tryz.prog 81 4=some (3,8):=by kernel_rfl
@[push_cast] theorem fn82x0:fieldN Tryz.prog 82 0=some (25,0):=by kernel_rfl
@[push_cast] theorem fn82x1:fieldN Tryz.prog 82 1=some (31,2):=by kernel_rfl
@[push_cast] theorem fn82x2:fieldN Tryz.prog 82 2=some (32,6):=by kernel_rfl
@[push_cast] theorem fn82x3:fieldN Tryz.prog 82 3=some (9,7):=by kernel_rfl
@[push_cast] theorem fn82x4:fieldN Tryz.prog 82 4=some (3,8):=by kernel_rfl
@[push_cast] theorem fn84x0:fieldN Tryz.prog 84 0=some (82,0):=by kernel_rfl
@[push_cast] theorem fn84x1:fieldN Tryz.prog 84 1=some (83,9):=by kernel_rfl
@[push_cast] theorem fn84x2:fieldN Tryz.prog 84 2=some (70,10):=by kernel_rfl
@[push_cast] theorem fn84x3:fieldN Tryz.prog 84 3=some (37,11):=by kernel_rfl
@[push_cast] theorem fn84x4:fieldN Tryz.prog 84 4=some (3,12):=by kernel_rfl
@[push_cast] theorem fn84x5:fieldN Tryz.prog 84 5=some (41,13):=by kernel_rfl
@[push_cast] theorem fn84x6:fieldN Tryz.prog 84 6=some (4,18):=by kernel_rfl
@[push_cast] theorem fn85x0:fieldN Tryz.prog 85 0=some (82,0):=by kernel_rfl
@[push_cast] theorem fn85x1:fieldN Tryz.prog 85 1=some (83,9):=by kernel_rfl
@[push_cast] theorem fn85x2:fieldN Tryz.prog 85 2=some (70,10):=by kernel_rfl
@[push_cast] theorem fn85x3:fieldN Tryz.prog 85 3=some (37,11):=by kernel_rfl
@[push_cast] theorem fn85x4:fieldN Tryz.prog 85 4=some (3,12):=by kernel_rfl
@[push_cast] theorem fn85x5:fieldN Tryz.prog 85 5=some (41,13):=by kernel_rfl
@[push_cast] theorem fn85x6:fieldN Tryz.prog 85 6=some (4,18):=by kernel_rfl
@[push_cast] theorem fn88x0:fieldN Tryz.prog 88 0=some (25,0):=by kernel_rfl
@[push_cast] theorem fn88x1:fieldN Tryz.prog 88 1=some (31,2):=by kernel_rfl
@[push_cast] theorem fn88x2:fieldN Tryz.prog 88 2=some (32,6):=by kernel_rfl
@[push_cast] theorem fn88x3:fieldN Tryz.prog 88 3=some (9,7):=by kernel_rfl
@[push_cast] theorem fn88x4:fieldN Tryz.prog 88 4=some (3,8):=by kernel_rfl
@[push_cast] theorem fn88x5:fieldN Tryz.prog 88 5=some (4,9):=by kernel_rfl
@[push_cast] theorem fn88x6:fieldN Tryz.prog 88 6=some (4,10):=by kernel_rfl
@[push_cast] theorem fn88x7:fieldN Tryz.prog 88 7=some (41,11):=by kernel_rfl
@[push_cast] theorem fn89x0:fieldN Tryz.prog 89 0=some (25,0):=by kernel_rfl
@[push_cast] theorem fn89x1:fieldN Tryz.prog 89 1=some (31,2):=by kernel_rfl
@[push_cast] theorem fn89x2:fieldN Tryz.prog 89 2=some (32,6):=by kernel_rfl
@[push_cast] theorem fn89x3:fieldN Tryz.prog 89 3=some (9,7):=by kernel_rfl
@[push_cast] theorem fn89x4:fieldN Tryz.prog 89 4=some (3,8):=by kernel_rfl
@[push_cast] theorem fn89x5:fieldN Tryz.prog 89 5=some (4,9):=by kernel_rfl
@[push_cast] theorem fn89x6:fieldN Tryz.prog 89 6=some (4,10):=by kernel_rfl
@[push_cast] theorem fn89x7:fieldN Tryz.prog 89 7=some (41,11):=by kernel_rfl
@[push_cast] theorem sz91:sizeT Tryz.prog 91=some 2:=by kernel_rfl
@[push_cast] theorem ag91:aggT Tryz.prog 91=some true:=by kernel_rfl
@[push_cast] theorem ze91:zeroT Tryz.prog 91=some (.agg [.int .i64 0,.int .i64 0]):=by kernel_rfl
@[push_cast] theorem pl91:placesT Tryz.prog 91=some [(0,1),(1,1)]:=by kernel_rfl
@[push_cast] theorem fn92x0:fieldN Tryz.prog 92 0=some (9,0):=by kernel_rfl
@[push_cast] theorem fn92x1:fieldN Tryz.prog 92 1=some (3,1):=by kernel_rfl
@[push_cast] theorem sz93:sizeT Tryz.prog 93=some 2:=by kernel_rfl
@[push_cast] theorem ag93:aggT Tryz.prog 93=some true:=by kernel_rfl
@[push_cast] theorem ze93:zeroT Tryz.prog 93=some (.agg [.str ⟨#[]⟩,.int .i64 0]):=by kernel_rfl
@[push_cast] theorem fn93x0:fieldN Tryz.prog 93 0=some (9,0):=by kernel_rfl
@[push_cast] theorem fn93x1:fieldN Tryz.prog 93 1=some (3,1):=by kernel_rfl
@[push_cast] theorem pl93:placesT Tryz.prog 93=some [(0,1),(1,1)]:=by kernel_rfl
@[push_cast] theorem el108:elemT Tryz.prog 108=some 42:=by kernel_rfl
@[push_cast] theorem fn111x0:fieldN Tryz.prog 111 0=some (42,0):=by kernel_rfl
@[push_cast] theorem fn111x1:fieldN Tryz.prog 111 1=some (9,1):=by kernel_rfl
@[push_cast] theorem sz112:sizeT Tryz.prog 112=some 2:=by kernel_rfl
@[push_cast] theorem ze112:zeroT Tryz.prog 112=some (.agg [.int .i64 0,.str ⟨#[]⟩]):=by kernel_rfl
@[push_cast] theorem by112:bytesT Tryz.prog 112=24:=by kernel_rfl
@[push_cast] theorem fn112x0:fieldN Tryz.prog 112 0=some (42,0):=by kernel_rfl
@[push_cast] theorem fn112x1:fieldN Tryz.prog 112 1=some (9,1):=by kernel_rfl
@[push_cast] theorem pl112:placesT Tryz.prog 112=some [(0,1),(1,1)]:=by kernel_rfl
@[push_cast] theorem sz116:sizeT Tryz.prog 116=some 1:=by kernel_rfl
@[push_cast] theorem ag116:aggT Tryz.prog 116=some false:=by kernel_rfl
@[push_cast] theorem fn117x0:fieldN Tryz.prog 117 0=some (3,0):=by kernel_rfl
@[push_cast] theorem fn117x1:fieldN Tryz.prog 117 1=some (116,1):=by kernel_rfl
@[push_cast] theorem fn117x2:fieldN Tryz.prog 117 2=some (3,2):=by kernel_rfl
@[push_cast] theorem sz118:sizeT Tryz.prog 118=some 3:=by kernel_rfl
@[push_cast] theorem ag118:aggT Tryz.prog 118=some true:=by kernel_rfl
@[push_cast] theorem ze118:zeroT Tryz.prog 118=some (.agg [.int .i64 0,.nils,.int .i64 0]):=by kernel_rfl
@[push_cast] theorem fn118x0:fieldN Tryz.prog 118 0=some (3,0):=by kernel_rfl
@[push_cast] theorem fn118x1:fieldN Tryz.prog 118 1=some (116,1):=by kernel_rfl
@[push_cast] theorem fn118x2:fieldN Tryz.prog 118 2=some (3,2):=by kernel_rfl
@[push_cast] theorem pl118:placesT Tryz.prog 118=some [(0,1),(1,1),(2,1)]:=by kernel_rfl
@[push_cast] theorem fn120x0:fieldN Tryz.prog 120 0=some (9,0):=by kernel_rfl
@[push_cast] theorem fn120x1:fieldN Tryz.prog 120 1=some (3,1):=by kernel_rfl
@[push_cast] theorem fn120x2:fieldN Tryz.prog 120 2=some (9,2):=by kernel_rfl
@[push_cast] theorem fn120x3:fieldN Tryz.prog 120 3=some (3,3):=by kernel_rfl
@[push_cast] theorem fn120x4:fieldN Tryz.prog 120 4=some (3,4):=by kernel_rfl
@[push_cast] theorem fn120x5:fieldN Tryz.prog 120 5=some (3,5):=by kernel_rfl
@[push_cast] theorem fn120x6:fieldN Tryz.prog 120 6=some (67,6):=by kernel_rfl
@[push_cast] theorem sz121:sizeT Tryz.prog 121=some 7:=by kernel_rfl
@[push_cast] theorem ag121:aggT Tryz.prog 121=some true:=by kernel_rfl
@[push_cast] theorem ze121:zeroT Tryz.prog 121=some (.agg [.str ⟨#[]⟩,.int .i64 0,.str ⟨#[]⟩,.int .i64 0,.int .i64 0,.int .i64 0,.nils]):=by kernel_rfl
@[push_cast] theorem fn121x0:fieldN Tryz.prog 121 0=some (9,0):=by kernel_rfl
@[push_cast] theorem fn121x1:fieldN Tryz.prog 121 1=some (3,1):=by kernel_rfl
@[push_cast] theorem fn121x2:fieldN Tryz.prog 121 2=some (9,2):=by kernel_rfl
@[push_cast] theorem fn121x3:fieldN Tryz.prog 121 3=some (3,3):=by kernel_rfl
@[push_cast] theorem fn121x4:fieldN Tryz.prog 121 4=some (3,4):=by kernel_rfl
@[push_cast] theorem fn121x5:fieldN Tryz.prog 121 5=some (3,5):=by kernel_rfl
@[push_cast] theorem fn121x6:fieldN Tryz.prog 121 6=some (67,6):=by kernel_rfl
@[push_cast] theorem fn138x0:fieldN Tryz.prog 138 0=some (9,0):=by kernel_rfl
@[push_cast] theorem fn138x1:fieldN Tryz.prog 138 1=some (3,1):=by kernel_rfl
@[push_cast] theorem fn138x2:fieldN Tryz.prog 138 2=some (3,2):=by kernel_rfl
@[push_cast] theorem fn138x3:fieldN Tryz.prog 138 3=some (3,3):=by kernel_rfl
@[push_cast] theorem fn138x4:fieldN Tryz.prog 138 4=some (3,4):=by kernel_rfl
@[push_cast] theorem fn138x5:fieldN Tryz.prog 138 5=some (3,5):=by kernel_rfl
@[push_cast] theorem fn138x6:fieldN Tryz.prog 138 6=some (67,6):=by kernel_rfl
@[push_cast] theorem fn138x7:fieldN Tryz.prog 138 7=some (70,7):=by kernel_rfl
@[push_cast] theorem fn138x8:fieldN Tryz.prog 138 8=some (67,8):=by kernel_rfl
@[push_cast] theorem sz139:sizeT Tryz.prog 139=some 9:=by kernel_rfl
@[push_cast] theorem ag139:aggT Tryz.prog 139=some true:=by kernel_rfl
@[push_cast] theorem ze139:zeroT Tryz.prog 139=some (.agg [.str ⟨#[]⟩,.int .i64 0,.int .i64 0,.int .i64 0,.int .i64 0,.int .i64 0,.nils,.nils,.nils]):=by kernel_rfl
@[push_cast] theorem fn139x0:fieldN Tryz.prog 139 0=some (9,0):=by kernel_rfl
@[push_cast] theorem fn139x1:fieldN Tryz.prog 139 1=some (3,1):=by kernel_rfl
@[push_cast] theorem fn139x2:fieldN Tryz.prog 139 2=some (3,2):=by kernel_rfl
@[push_cast] theorem fn139x3:fieldN Tryz.prog 139 3=some (3,3):=by kernel_rfl
@[push_cast] theorem fn139x4:fieldN Tryz.prog 139 4=some (3,4):=by kernel_rfl
@[push_cast] theorem fn139x5:fieldN Tryz.prog 139 5=some (3,5):=by kernel_rfl
@[push_cast] theorem fn139x6:fieldN Tryz.prog 139 6=some (67,6):=by kernel_rfl
@[push_cast] theorem fn139x7:fieldN Tryz.prog 139 7=some (70,7):=by kernel_rfl
@[push_cast] theorem fn139x8:fieldN Tryz.prog 139 8=some (67,8):=by kernel_rfl
@[push_cast] theorem pl139:placesT Tryz.prog 139=some [(0,1),(1,1),(2,1),(3,1),(4,1),(5,1),(6,1),(7,1),(8,1)]:=by kernel_rfl
@[push_cast] theorem el152:elemT Tryz.prog 152=some 75:=by kernel_rfl
@[push_cast] theorem fn174x0:fieldN Tryz.prog 174 0=some (9,0):=by kernel_rfl
@[push_cast] theorem fn174x1:fieldN Tryz.prog 174 1=some (9,1):=by kernel_rfl
@[push_cast] theorem sz175:sizeT Tryz.prog 175=some 2:=by kernel_rfl
@[push_cast] theorem ag175:aggT Tryz.prog 175=some true:=by kernel_rfl
@[push_cast] theorem ze175:zeroT Tryz.prog 175=some (.agg [.str ⟨#[]⟩,.str ⟨#[]⟩]):=by kernel_rfl
@[push_cast] theorem fn175x0:fieldN Tryz.prog 175 0=some (9,0):=by kernel_rfl
@[push_cast] theorem fn175x1:fieldN Tryz.prog 175 1=some (9,1):=by kernel_rfl
@[push_cast] theorem fn189x0:fieldN Tryz.prog 189 0=some (9,0):=by kernel_rfl
@[push_cast] theorem fn189x1:fieldN Tryz.prog 189 1=some (3,1):=by kernel_rfl
@[push_cast] theorem sz190:sizeT Tryz.prog 190=some 2:=by kernel_rfl
@[push_cast] theorem fn190x0:fieldN Tryz.prog 190 0=some (9,0):=by kernel_rfl
@[push_cast] theorem fn190x1:fieldN Tryz.prog 190 1=some (3,1):=by kernel_rfl
@[push_cast] theorem fn201x0:fieldN Tryz.prog 201 0=some (3,0):=by kernel_rfl
@[push_cast] theorem fn201x1:fieldN Tryz.prog 201 1=some (3,1):=by kernel_rfl
@[push_cast] theorem sz202:sizeT Tryz.prog 202=some 2:=by kernel_rfl
@[push_cast] theorem ag202:aggT Tryz.prog 202=some true:=by kernel_rfl
@[push_cast] theorem ze202:zeroT Tryz.prog 202=some (.agg [.int .i64 0,.int .i64 0]):=by kernel_rfl
@[push_cast] theorem fn202x0:fieldN Tryz.prog 202 0=some (3,0):=by kernel_rfl
@[push_cast] theorem fn202x1:fieldN Tryz.prog 202 1=some (3,1):=by kernel_rfl
@[push_cast] theorem fn253x0:fieldN Tryz.prog 253 0=some (9,0):=by kernel_rfl
@[push_cast] theorem fn253x1:fieldN Tryz.prog 253 1=some (3,1):=by kernel_rfl
@[push_cast] theorem sz254:sizeT Tryz.prog 254=some 2:=by kernel_rfl
@[push_cast] theorem ze254:zeroT Tryz.prog 254=some (.agg [.str ⟨#[]⟩,.int .i64 0]):=by kernel_rfl
@[push_cast] theorem fn254x0:fieldN Tryz.prog 254 0=some (9,0):=by kernel_rfl
@[push_cast] theorem fn254x1:fieldN Tryz.prog 254 1=some (3,1):=by kernel_rfl
@[push_cast] theorem pl254:placesT Tryz.prog 254=some [(0,1),(1,1)]:=by kernel_rfl
@[push_cast] theorem el255:elemT Tryz.prog 255=some 254:=by kernel_rfl
@[push_cast] theorem fn269x0:fieldN Tryz.prog 269 0=some (17,0):=by kernel_rfl
@[push_cast] theorem fn269x1:fieldN Tryz.prog 269 1=some (17,1):=by kernel_rfl
@[push_cast] theorem fn269x2:fieldN Tryz.prog 269 2=some (17,2):=by kernel_rfl
@[push_cast] theorem fn269x3:fieldN Tryz.prog 269 3=some (9,3):=by kernel_rfl
@[push_cast] theorem fn270x0:fieldN Tryz.prog 270 0=some (17,0):=by kernel_rfl
@[push_cast] theorem fn270x1:fieldN Tryz.prog 270 1=some (17,1):=by kernel_rfl
@[push_cast] theorem fn270x2:fieldN Tryz.prog 270 2=some (17,2):=by kernel_rfl
@[push_cast] theorem fn270x3:fieldN Tryz.prog 270 3=some (9,3):=by kernel_rfl
@[push_cast] theorem fn272x0:fieldN Tryz.prog 272 0=some (271,0):=by kernel_rfl
@[push_cast] theorem fn273x0:fieldN Tryz.prog 273 0=some (271,0):=by kernel_rfl
@[push_cast] theorem fn281x0:fieldN Tryz.prog 281 0=some (12,0):=by kernel_rfl
@[push_cast] theorem fn281x1:fieldN Tryz.prog 281 1=some (12,1):=by kernel_rfl
@[push_cast] theorem fn281x2:fieldN Tryz.prog 281 2=some (214,2):=by kernel_rfl
@[push_cast] theorem fn281x3:fieldN Tryz.prog 281 3=some (275,3):=by kernel_rfl
@[push_cast] theorem fn281x4:fieldN Tryz.prog 281 4=some (5,4):=by kernel_rfl
@[push_cast] theorem fn281x5:fieldN Tryz.prog 281 5=some (5,5):=by kernel_rfl
@[push_cast] theorem fn281x6:fieldN Tryz.prog 281 6=some (276,6):=by kernel_rfl
@[push_cast] theorem fn281x7:fieldN Tryz.prog 281 7=some (277,7):=by kernel_rfl
@[push_cast] theorem fn281x8:fieldN Tryz.prog 281 8=some (278,8):=by kernel_rfl
@[push_cast] theorem fn281x9:fieldN Tryz.prog 281 9=some (279,9):=by kernel_rfl
@[push_cast] theorem fn281x10:fieldN Tryz.prog 281 10=some (280,10):=by kernel_rfl
@[push_cast] theorem fn282x0:fieldN Tryz.prog 282 0=some (12,0):=by kernel_rfl
@[push_cast] theorem fn282x1:fieldN Tryz.prog 282 1=some (12,1):=by kernel_rfl
@[push_cast] theorem fn282x2:fieldN Tryz.prog 282 2=some (214,2):=by kernel_rfl
@[push_cast] theorem fn282x3:fieldN Tryz.prog 282 3=some (275,3):=by kernel_rfl
@[push_cast] theorem fn282x4:fieldN Tryz.prog 282 4=some (5,4):=by kernel_rfl
@[push_cast] theorem fn282x5:fieldN Tryz.prog 282 5=some (5,5):=by kernel_rfl
@[push_cast] theorem fn282x6:fieldN Tryz.prog 282 6=some (276,6):=by kernel_rfl
@[push_cast] theorem fn282x7:fieldN Tryz.prog 282 7=some (277,7):=by kernel_rfl
@[push_cast] theorem fn282x8:fieldN Tryz.prog 282 8=some (278,8):=by kernel_rfl
@[push_cast] theorem fn282x9:fieldN Tryz.prog 282 9=some (279,9):=by kernel_rfl
@[push_cast] theorem fn282x10:fieldN Tryz.prog 282 10=some (280,10):=by kernel_rfl
@[push_cast] theorem fn283x0:fieldN Tryz.prog 283 0=some (9,0):=by kernel_rfl
@[push_cast] theorem fn284x0:fieldN Tryz.prog 284 0=some (9,0):=by kernel_rfl
attribute [push_cast] Tryz.underlying0 Tryz.underlying1 Tryz.underlying2 Tryz.underlying3 Tryz.underlying4 Tryz.underlying5 Tryz.underlying6 Tryz.underlying7 Tryz.underlying8 Tryz.underlying9 Tryz.underlying10 Tryz.underlying11 Tryz.underlying12 Tryz.underlying13 Tryz.underlying14 Tryz.underlying15 Tryz.underlying16 Tryz.underlying17 Tryz.underlying18 Tryz.underlying19
attribute [push_cast] Tryz.underlying20 Tryz.underlying21 Tryz.underlying22 Tryz.underlying23 Tryz.underlying24 Tryz.underlying25 Tryz.underlying26 Tryz.underlying27 Tryz.underlying28 Tryz.underlying29 Tryz.underlying30 Tryz.underlying31 Tryz.underlying32 Tryz.underlying33 Tryz.underlying34 Tryz.underlying35 Tryz.underlying36 Tryz.underlying37 Tryz.underlying38 Tryz.underlying39
attribute [push_cast] Tryz.underlying40 Tryz.underlying41 Tryz.underlying42 Tryz.underlying43 Tryz.underlying44 Tryz.underlying45 Tryz.underlying46 Tryz.underlying47 Tryz.underlying48 Tryz.underlying49 Tryz.underlying50 Tryz.underlying51 Tryz.underlying52 Tryz.underlying53 Tryz.underlying54 Tryz.underlying55 Tryz.underlying56 Tryz.underlying57 Tryz.underlying58 Tryz.underlying59
attribute [push_cast] Tryz.underlying60 Tryz.underlying61 Tryz.underlying62 Tryz.underlying63 Tryz.underlying64 Tryz.underlying65 Tryz.underlying66 Tryz.underlying67 Tryz.underlying68 Tryz.underlying69 Tryz.underlying70 Tryz.underlying71 Tryz.underlying72 Tryz.underlying73 Tryz.underlying74 Tryz.underlying75 Tryz.underlying76 Tryz.underlying77 Tryz.underlying78 Tryz.underlying79
attribute [push_cast] Tryz.underlying80 Tryz.underlying81 Tryz.underlying82 Tryz.underlying83 Tryz.underlying84 Tryz.underlying85 Tryz.underlying86 Tryz.underlying87 Tryz.underlying88 Tryz.underlying89 Tryz.underlying90 Tryz.underlying91 Tryz.underlying92 Tryz.underlying93 Tryz.underlying94 Tryz.underlying95 Tryz.underlying96 Tryz.underlying97 Tryz.underlying98 Tryz.underlying99
attribute [push_cast] Tryz.underlying100 Tryz.underlying101 Tryz.underlying102 Tryz.underlying103 Tryz.underlying104 Tryz.underlying105 Tryz.underlying106 Tryz.underlying107 Tryz.underlying108 Tryz.underlying109 Tryz.underlying110 Tryz.underlying111 Tryz.underlying112 Tryz.underlying113 Tryz.underlying114 Tryz.underlying115 Tryz.underlying116 Tryz.underlying117 Tryz.underlying118 Tryz.underlying119
attribute [push_cast] Tryz.underlying120 Tryz.underlying121 Tryz.underlying122 Tryz.underlying123 Tryz.underlying124 Tryz.underlying125 Tryz.underlying126 Tryz.underlying127 Tryz.underlying128 Tryz.underlying129 Tryz.underlying130 Tryz.underlying131 Tryz.underlying132 Tryz.underlying133 Tryz.underlying134 Tryz.underlying135 Tryz.underlying136 Tryz.underlying137 Tryz.underlying138 Tryz.underlying139
attribute [push_cast] Tryz.underlying140 Tryz.underlying141 Tryz.underlying142 Tryz.underlying143 Tryz.underlying144 Tryz.underlying145 Tryz.underlying146 Tryz.underlying147 Tryz.underlying148 Tryz.underlying149 Tryz.underlying150 Tryz.underlying151 Tryz.underlying152 Tryz.underlying153 Tryz.underlying154 Tryz.underlying155 Tryz.underlying156 Tryz.underlying157 Tryz.underlying158 Tryz.underlying159
attribute [push_cast] Tryz.underlying160 Tryz.underlying161 Tryz.underlying162 Tryz.underlying163 Tryz.underlying164 Tryz.underlying165 Tryz.underlying166 Tryz.underlying167 Tryz.underlying168 Tryz.underlying169 Tryz.underlying170 Tryz.underlying171 Tryz.underlying172 Tryz.underlying173 Tryz.underlying174 Tryz.underlying175 Tryz.underlying176 Tryz.underlying177 Tryz.underlying178 Tryz.underlying179
attribute [push_cast] Tryz.underlying180 Tryz.underlying181 Tryz.underlying182 Tryz.underlying183 Tryz.underlying184 Tryz.underlying185 Tryz.underlying186 Tryz.underlying187 Tryz.underlying188 Tryz.underlying189 Tryz.underlying190 Tryz.underlying191 Tryz.underlying192 Tryz.underlying193 Tryz.underlying194 Tryz.underlying195 Tryz.underlying196 Tryz.underlying197 Tryz.underlying198 Tryz.underlying199
attribute [push_cast] Tryz.underlying200 Tryz.underlying201 Tryz.underlying202 Tryz.underlying203 Tryz.underlying204 Tryz.underlying205 Tryz.underlying206 Tryz.underlying207 Tryz.underlying208 Tryz.underlying209 Tryz.underlying210 Tryz.underlying211 Tryz.underlying212 Tryz.underlying213 Tryz.underlying214 Tryz.underlying215 Tryz.underlying216 Tryz.underlying217 Tryz.underlying218 Tryz.underlying219
attribute [push_cast] Tryz.underlying220 Tryz.underlying221 Tryz.underlying222 Tryz.underlying223 Tryz.underlying224 Tryz.underlying225 Tryz.underlying226 Tryz.underlying227 Tryz.underlying228 Tryz.underlying229 Tryz.underlying230 Tryz.underlying231 Tryz.underlying232 Tryz.underlying233 Tryz.underlying234 Tryz.underlying235 Tryz.underlying236 Tryz.underlying237 Tryz.underlying238 Tryz.underlying239
attribute [push_cast] Tryz.underlying240 Tryz.underlying241 Tryz.underlying242 Tryz.underlying243 Tryz.underlying244 Tryz.underlying245 Tryz.underlying246 Tryz.underlying247 Tryz.underlying248 Tryz.underlying249 Tryz.underlying250 Tryz.underlying251 Tryz.underlying252 Tryz.underlying253 Tryz.underlying254 Tryz.underlying255 Tryz.underlying256 Tryz.underlying257 Tryz.underlying258 Tryz.underlying259
attribute [push_cast] Tryz.underlying260 Tryz.underlying261 Tryz.underlying262 Tryz.underlying263 Tryz.underlying264 Tryz.underlying265 Tryz.underlying266 Tryz.underlying267 Tryz.underlying268 Tryz.underlying269 Tryz.underlying270 Tryz.underlying271 Tryz.underlying272 Tryz.underlying273 Tryz.underlying274 Tryz.underlying275 Tryz.underlying276 Tryz.underlying277 Tryz.underlying278 Tryz.underlying279
attribute [push_cast] Tryz.underlying280 Tryz.underlying281 Tryz.underlying282 Tryz.underlying283 Tryz.underlying284 Tryz.underlying285
end Go.Proofs.YtaklebjoenophaaGreat.Dm
