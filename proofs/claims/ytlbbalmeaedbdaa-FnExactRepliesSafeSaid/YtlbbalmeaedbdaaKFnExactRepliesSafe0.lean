/- Texts of a proof, joined. -/
import Derived.Test.YtlbbalmeaedbdaaProg
import Derived.KernelRfl
import Derived.Test.YtlbbalmeaedbdaaKM0
import Derived.Test.YtlbbalmeaedbdaaKM1
import Derived.Test.YtlbbalmeaedbdaaKM2
/- What the value machine is told of the program: which functions may change rows, and the types' sizes and places. -/
namespace Go.Proofs.Ytlbbalmeaedbdaa.V
open Go Go.VM Go.Proofs
noncomputable def C : Ctx := { P := Try.prog, mode := fun g => if [14, 15, 16, 35, 36, 38, 43, 44, 55, 56, 65, 67, 78, 83, 91, 92, 93, 94, 95, 96, 97, 98, 103, 105, 106, 107, 108].contains g then 2 else if [7, 9, 10, 23, 24, 25, 28, 33, 34, 45, 46].contains g then 1 else 0, ext := fun _ => none }
@[simp] theorem CP : C.P = Try.prog := rfl
theorem drawn : DrawOk C := drawOk_holds C (by kernel_rfl)
@[simp] theorem mode0 : C.mode 0 = 0 := rfl
@[simp] theorem mode1 : C.mode 1 = 0 := rfl
@[simp] theorem mode2 : C.mode 2 = 0 := rfl
@[simp] theorem mode3 : C.mode 3 = 0 := rfl
@[simp] theorem mode4 : C.mode 4 = 0 := rfl
@[simp] theorem mode5 : C.mode 5 = 0 := rfl
@[simp] theorem mode6 : C.mode 6 = 0 := rfl
@[simp] theorem mode7 : C.mode 7 = 1 := rfl
@[simp] theorem mode8 : C.mode 8 = 0 := rfl
@[simp] theorem mode9 : C.mode 9 = 1 := rfl
@[simp] theorem mode10 : C.mode 10 = 1 := rfl
@[simp] theorem mode11 : C.mode 11 = 0 := rfl
@[simp] theorem mode12 : C.mode 12 = 0 := rfl
@[simp] theorem mode13 : C.mode 13 = 0 := rfl
@[simp] theorem mode14 : C.mode 14 = 2 := rfl
@[simp] theorem mode15 : C.mode 15 = 2 := rfl
@[simp] theorem mode16 : C.mode 16 = 2 := rfl
@[simp] theorem mode17 : C.mode 17 = 0 := rfl
@[simp] theorem mode18 : C.mode 18 = 0 := rfl
@[simp] theorem mode19 : C.mode 19 = 0 := rfl
@[simp] theorem mode20 : C.mode 20 = 0 := rfl
@[simp] theorem mode21 : C.mode 21 = 0 := rfl
@[simp] theorem mode22 : C.mode 22 = 0 := rfl
@[simp] theorem mode23 : C.mode 23 = 1 := rfl
@[simp] theorem mode24 : C.mode 24 = 1 := rfl
@[simp] theorem mode25 : C.mode 25 = 1 := rfl
@[simp] theorem mode26 : C.mode 26 = 0 := rfl
@[simp] theorem mode27 : C.mode 27 = 0 := rfl
@[simp] theorem mode28 : C.mode 28 = 1 := rfl
@[simp] theorem mode29 : C.mode 29 = 0 := rfl
@[simp] theorem mode30 : C.mode 30 = 0 := rfl
@[simp] theorem mode31 : C.mode 31 = 0 := rfl
@[simp] theorem mode32 : C.mode 32 = 0 := rfl
@[simp] theorem mode33 : C.mode 33 = 1 := rfl
@[simp] theorem mode34 : C.mode 34 = 1 := rfl
@[simp] theorem mode35 : C.mode 35 = 2 := rfl
@[simp] theorem mode36 : C.mode 36 = 2 := rfl
@[simp] theorem mode37 : C.mode 37 = 0 := rfl
@[simp] theorem mode38 : C.mode 38 = 2 := rfl
@[simp] theorem mode39 : C.mode 39 = 0 := rfl
@[simp] theorem mode40 : C.mode 40 = 0 := rfl
@[simp] theorem mode41 : C.mode 41 = 0 := rfl
@[simp] theorem mode42 : C.mode 42 = 0 := rfl
@[simp] theorem mode43 : C.mode 43 = 2 := rfl
@[simp] theorem mode44 : C.mode 44 = 2 := rfl
@[simp] theorem mode45 : C.mode 45 = 1 := rfl
@[simp] theorem mode46 : C.mode 46 = 1 := rfl
@[simp] theorem mode47 : C.mode 47 = 0 := rfl
@[simp] theorem mode48 : C.mode 48 = 0 := rfl
@[simp] theorem mode49 : C.mode 49 = 0 := rfl
@[simp] theorem mode50 : C.mode 50 = 0 := rfl
@[simp] theorem mode51 : C.mode 51 = 0 := rfl
@[simp] theorem mode52 : C.mode 52 = 0 := rfl
@[simp] theorem mode53 : C.mode 53 = 0 := rfl
@[simp] theorem mode54 : C.mode 54 = 0 := rfl
@[simp] theorem mode55 : C.mode 55 = 2 := rfl
@[simp] theorem mode56 : C.mode 56 = 2 := rfl
@[simp] theorem mode57 : C.mode 57 = 0 := rfl
@[simp] theorem mode58 : C.mode 58 = 0 := rfl
@[simp] theorem mode59 : C.mode 59 = 0 := rfl
@[simp] theorem mode60 : C.mode 60 = 0 := rfl
@[simp] theorem mode61 : C.mode 61 = 0 := rfl
@[simp] theorem mode62 : C.mode 62 = 0 := rfl
@[simp] theorem mode63 : C.mode 63 = 0 := rfl
@[simp] theorem mode64 : C.mode 64 = 0 := rfl
@[simp] theorem mode65 : C.mode 65 = 2 := rfl
@[simp] theorem mode66 : C.mode 66 = 0 := rfl
@[simp] theorem mode67 : C.mode 67 = 2 := rfl
@[simp] theorem mode68 : C.mode 68 = 0 := rfl
@[simp] theorem mode69 : C.mode 69 = 0 := rfl
@[simp] theorem mode70 : C.mode 70 = 0 := rfl
@[simp] theorem mode71 : C.mode 71 = 0 := rfl
@[simp] theorem mode72 : C.mode 72 = 0 := rfl
@[simp] theorem mode73 : C.mode 73 = 0 := rfl
@[simp] theorem mode74 : C.mode 74 = 0 := rfl
@[simp] theorem mode75 : C.mode 75 = 0 := rfl
@[simp] theorem mode76 : C.mode 76 = 0 := rfl
@[simp] theorem mode77 : C.mode 77 = 0 := rfl
@[simp] theorem mode78 : C.mode 78 = 2 := rfl
@[simp] theorem mode79 : C.mode 79 = 0 := rfl
@[simp] theorem mode80 : C.mode 80 = 0 := rfl
@[simp] theorem mode81 : C.mode 81 = 0 := rfl
@[simp] theorem mode82 : C.mode 82 = 0 := rfl
@[simp] theorem mode83 : C.mode 83 = 2 := rfl
@[simp] theorem mode84 : C.mode 84 = 0 := rfl
@[simp] theorem mode85 : C.mode 85 = 0 := rfl
@[simp] theorem mode86 : C.mode 86 = 0 := rfl
@[simp] theorem mode87 : C.mode 87 = 0 := rfl
@[simp] theorem mode88 : C.mode 88 = 0 := rfl
@[simp] theorem mode89 : C.mode 89 = 0 := rfl
@[simp] theorem mode90 : C.mode 90 = 0 := rfl
@[simp] theorem mode91 : C.mode 91 = 2 := rfl
@[simp] theorem mode92 : C.mode 92 = 2 := rfl
@[simp] theorem mode93 : C.mode 93 = 2 := rfl
@[simp] theorem mode94 : C.mode 94 = 2 := rfl
@[simp] theorem mode95 : C.mode 95 = 2 := rfl
@[simp] theorem mode96 : C.mode 96 = 2 := rfl
@[simp] theorem mode97 : C.mode 97 = 2 := rfl
@[simp] theorem mode98 : C.mode 98 = 2 := rfl
@[simp] theorem mode99 : C.mode 99 = 0 := rfl
@[simp] theorem mode100 : C.mode 100 = 0 := rfl
@[simp] theorem mode101 : C.mode 101 = 0 := rfl
@[simp] theorem mode102 : C.mode 102 = 0 := rfl
@[simp] theorem mode103 : C.mode 103 = 2 := rfl
@[simp] theorem mode104 : C.mode 104 = 0 := rfl
@[simp] theorem mode105 : C.mode 105 = 2 := rfl
@[simp] theorem mode106 : C.mode 106 = 2 := rfl
@[simp] theorem mode107 : C.mode 107 = 2 := rfl
@[simp] theorem mode108 : C.mode 108 = 2 := rfl
@[simp] theorem mode109 : C.mode 109 = 0 := rfl
@[simp] theorem mode110 : C.mode 110 = 0 := rfl
@[simp] theorem mode111 : C.mode 111 = 0 := rfl
@[simp] theorem mode112 : C.mode 112 = 0 := rfl
@[simp] theorem mode113 : C.mode 113 = 0 := rfl
@[simp] theorem mode114 : C.mode 114 = 0 := rfl
@[simp] theorem mode115 : C.mode 115 = 0 := rfl
@[simp] theorem mode116 : C.mode 116 = 0 := rfl
@[simp] theorem mode117 : C.mode 117 = 0 := rfl
@[simp] theorem mode118 : C.mode 118 = 0 := rfl
@[simp] theorem mode119 : C.mode 119 = 0 := rfl
@[simp] theorem mode120 : C.mode 120 = 0 := rfl
@[simp] theorem mode121 : C.mode 121 = 0 := rfl
@[simp] theorem mode122 : C.mode 122 = 0 := rfl
@[simp] theorem mode123 : C.mode 123 = 0 := rfl
@[simp] theorem mode124 : C.mode 124 = 0 := rfl
@[simp] theorem tsz1 : tsz Try.prog 1 = some (false, 1) := by kernel_rfl
@[simp] theorem tsz2 : tsz Try.prog 2 = some (false, 1) := by kernel_rfl
@[simp] theorem tzero2 : tzero Try.prog 2 = some [.int .i64 0] := by kernel_rfl
@[simp] theorem und2 : Try.prog.underlying 2 = some (.int .i64) := by kernel_rfl
@[simp] theorem tsz3 : tsz Try.prog 3 = some (false, 1) := by kernel_rfl
@[simp] theorem tzero3 : tzero Try.prog 3 = some [.int .i64 0] := by kernel_rfl
@[simp] theorem und3 : Try.prog.underlying 3 = some (.int .i64) := by kernel_rfl
@[simp] theorem tsz4 : tsz Try.prog 4 = some (false, 1) := by kernel_rfl
@[simp] theorem tzero4 : tzero Try.prog 4 = some [.bool false] := by kernel_rfl
@[simp] theorem und4 : Try.prog.underlying 4 = some .bool := by kernel_rfl
@[simp] theorem tsz5 : tsz Try.prog 5 = some (false, 1) := by kernel_rfl
@[simp] theorem tzero5 : tzero Try.prog 5 = some [.int .u8 0] := by kernel_rfl
@[simp] theorem und5 : Try.prog.underlying 5 = some (.int .u8) := by kernel_rfl
@[simp] theorem tsz6 : tsz Try.prog 6 = some (false, 1) := by kernel_rfl
@[simp] theorem tzero6 : tzero Try.prog 6 = some [.int .u8 0] := by kernel_rfl
@[simp] theorem und6 : Try.prog.underlying 6 = some (.int .u8) := by kernel_rfl
@[simp] theorem tsz7 : tsz Try.prog 7 = some (true, 4) := by kernel_rfl
@[simp] theorem tzero7 : tzero Try.prog 7 = some [.int .i64 0, .int .i64 0, .bool false, .int .u8 0] := by kernel_rfl
@[simp] theorem finfo7_0 : finfo Try.prog 7 0 = some (0, false, 1) := by kernel_rfl
@[simp] theorem finfo7_1 : finfo Try.prog 7 1 = some (1, false, 1) := by kernel_rfl
@[simp] theorem finfo7_2 : finfo Try.prog 7 2 = some (2, false, 1) := by kernel_rfl
@[simp] theorem finfo7_3 : finfo Try.prog 7 3 = some (3, false, 1) := by kernel_rfl
@[simp] theorem bplaces7 : bplaces Try.prog 7 = some [(0, 1), (1, 1), (2, 1), (3, 1)] := by kernel_rfl
@[simp] theorem tsz8 : tsz Try.prog 8 = some (true, 4) := by kernel_rfl
@[simp] theorem tzero8 : tzero Try.prog 8 = some [.int .i64 0, .int .i64 0, .bool false, .int .u8 0] := by kernel_rfl
@[simp] theorem finfo8_0 : finfo Try.prog 8 0 = some (0, false, 1) := by kernel_rfl
@[simp] theorem finfo8_1 : finfo Try.prog 8 1 = some (1, false, 1) := by kernel_rfl
@[simp] theorem finfo8_2 : finfo Try.prog 8 2 = some (2, false, 1) := by kernel_rfl
@[simp] theorem finfo8_3 : finfo Try.prog 8 3 = some (3, false, 1) := by kernel_rfl
@[simp] theorem bplaces8 : bplaces Try.prog 8 = some [(0, 1), (1, 1), (2, 1), (3, 1)] := by kernel_rfl
@[simp] theorem tsz9 : tsz Try.prog 9 = some (false, 1) := by kernel_rfl
@[simp] theorem tzero9 : tzero Try.prog 9 = some [.string .empty] := by kernel_rfl
@[simp] theorem isStr9 : isStr Try.prog 9 = true := by kernel_rfl
@[simp] theorem und9 : Try.prog.underlying 9 = some .string := by kernel_rfl
@[simp] theorem tsz10 : tsz Try.prog 10 = some (false, 1) := by kernel_rfl
@[simp] theorem tzero10 : tzero Try.prog 10 = some [.string .empty] := by kernel_rfl
@[simp] theorem isStr10 : isStr Try.prog 10 = true := by kernel_rfl
@[simp] theorem und10 : Try.prog.underlying 10 = some .string := by kernel_rfl
@[simp] theorem tsz11 : tsz Try.prog 11 = some (false, 1) := by kernel_rfl
@[simp] theorem tzero11 : tzero Try.prog 11 = some [.string .empty] := by kernel_rfl
@[simp] theorem isStr11 : isStr Try.prog 11 = true := by kernel_rfl
@[simp] theorem und11 : Try.prog.underlying 11 = some .string := by kernel_rfl
@[simp] theorem tsz12 : tsz Try.prog 12 = some (false, 1) := by kernel_rfl
@[simp] theorem tzero12 : tzero Try.prog 12 = some [.int .u64 0] := by kernel_rfl
@[simp] theorem und12 : Try.prog.underlying 12 = some (.int .u64) := by kernel_rfl
@[simp] theorem tsz13 : tsz Try.prog 13 = some (true, 2) := by kernel_rfl
@[simp] theorem tzero13 : tzero Try.prog 13 = some [.string .empty, .int .u64 0] := by kernel_rfl
@[simp] theorem finfo13_0 : finfo Try.prog 13 0 = some (0, false, 1) := by kernel_rfl
@[simp] theorem finfo13_1 : finfo Try.prog 13 1 = some (1, false, 1) := by kernel_rfl
@[simp] theorem bplaces13 : bplaces Try.prog 13 = some [(0, 1), (1, 1)] := by kernel_rfl
@[simp] theorem tsz14 : tsz Try.prog 14 = some (true, 2) := by kernel_rfl
@[simp] theorem tzero14 : tzero Try.prog 14 = some [.string .empty, .int .u64 0] := by kernel_rfl
@[simp] theorem finfo14_0 : finfo Try.prog 14 0 = some (0, false, 1) := by kernel_rfl
@[simp] theorem finfo14_1 : finfo Try.prog 14 1 = some (1, false, 1) := by kernel_rfl
@[simp] theorem bplaces14 : bplaces Try.prog 14 = some [(0, 1), (1, 1)] := by kernel_rfl
@[simp] theorem tsz15 : tsz Try.prog 15 = some (false, 1) := by kernel_rfl
@[simp] theorem tzero15 : tzero Try.prog 15 = some [.pointer none] := by kernel_rfl
@[simp] theorem tsz16 : tsz Try.prog 16 = some (false, 1) := by kernel_rfl
@[simp] theorem tzero16 : tzero Try.prog 16 = some [.pointer none] := by kernel_rfl
@[simp] theorem tsz17 : tsz Try.prog 17 = some (false, 1) := by kernel_rfl
@[simp] theorem tzero17 : tzero Try.prog 17 = some [.pointer none] := by kernel_rfl
@[simp] theorem tsz18 : tsz Try.prog 18 = some (true, 1) := by kernel_rfl
@[simp] theorem tzero18 : tzero Try.prog 18 = some [.pointer none] := by kernel_rfl
@[simp] theorem finfo18_0 : finfo Try.prog 18 0 = some (0, false, 1) := by kernel_rfl
@[simp] theorem bplaces18 : bplaces Try.prog 18 = some [(0, 1)] := by kernel_rfl
@[simp] theorem tsz19 : tsz Try.prog 19 = some (true, 1) := by kernel_rfl
@[simp] theorem tzero19 : tzero Try.prog 19 = some [.pointer none] := by kernel_rfl
@[simp] theorem finfo19_0 : finfo Try.prog 19 0 = some (0, false, 1) := by kernel_rfl
@[simp] theorem bplaces19 : bplaces Try.prog 19 = some [(0, 1)] := by kernel_rfl
@[simp] theorem tsz21 : tsz Try.prog 21 = some (false, 1) := by kernel_rfl
@[simp] theorem tzero21 : tzero Try.prog 21 = some [.int .i32 0] := by kernel_rfl
@[simp] theorem und21 : Try.prog.underlying 21 = some (.int .i32) := by kernel_rfl
@[simp] theorem tsz22 : tsz Try.prog 22 = some (true, 2) := by kernel_rfl
@[simp] theorem tzero22 : tzero Try.prog 22 = some [.int .i64 0, .int .i64 0] := by kernel_rfl
@[simp] theorem finfo22_0 : finfo Try.prog 22 0 = some (0, false, 1) := by kernel_rfl
@[simp] theorem finfo22_1 : finfo Try.prog 22 1 = some (1, false, 1) := by kernel_rfl
@[simp] theorem bplaces22 : bplaces Try.prog 22 = some [(0, 1), (1, 1)] := by kernel_rfl
@[simp] theorem tsz23 : tsz Try.prog 23 = some (true, 2) := by kernel_rfl
@[simp] theorem tzero23 : tzero Try.prog 23 = some [.int .i64 0, .int .i64 0] := by kernel_rfl
@[simp] theorem finfo23_0 : finfo Try.prog 23 0 = some (0, false, 1) := by kernel_rfl
@[simp] theorem finfo23_1 : finfo Try.prog 23 1 = some (1, false, 1) := by kernel_rfl
@[simp] theorem flatN23 : flatN Try.prog 23 = some [0, 0] := by kernel_rfl
@[simp] theorem bplaces23 : bplaces Try.prog 23 = some [(0, 1), (1, 1)] := by kernel_rfl
@[simp] theorem tsz24 : tsz Try.prog 24 = some (false, 1) := by kernel_rfl
@[simp] theorem tzero24 : tzero Try.prog 24 = some [.slice none 0 0] := by kernel_rfl
@[simp] theorem eltp24 : eltp Try.prog 24 = some (3, 1) := by kernel_rfl
@[simp] theorem isSl24 : isSl Try.prog 24 = true := by kernel_rfl
@[simp] theorem und24 : Try.prog.underlying 24 = some (.slice 3) := by kernel_rfl
@[simp] theorem tsz25 : tsz Try.prog 25 = some (true, 3) := by kernel_rfl
@[simp] theorem tzero25 : tzero Try.prog 25 = some [.int .i64 0, .int .i64 0, .slice none 0 0] := by kernel_rfl
@[simp] theorem finfo25_0 : finfo Try.prog 25 0 = some (0, true, 2) := by kernel_rfl
@[simp] theorem finfo25_1 : finfo Try.prog 25 1 = some (2, false, 1) := by kernel_rfl
@[simp] theorem bplaces25 : bplaces Try.prog 25 = some [(0, 2), (2, 1)] := by kernel_rfl
@[simp] theorem tsz26 : tsz Try.prog 26 = some (true, 3) := by kernel_rfl
@[simp] theorem tzero26 : tzero Try.prog 26 = some [.int .i64 0, .int .i64 0, .slice none 0 0] := by kernel_rfl
@[simp] theorem finfo26_0 : finfo Try.prog 26 0 = some (0, true, 2) := by kernel_rfl
@[simp] theorem finfo26_1 : finfo Try.prog 26 1 = some (2, false, 1) := by kernel_rfl
@[simp] theorem bplaces26 : bplaces Try.prog 26 = some [(0, 2), (2, 1)] := by kernel_rfl
@[simp] theorem tsz27 : tsz Try.prog 27 = some (true, 1) := by kernel_rfl
@[simp] theorem tzero27 : tzero Try.prog 27 = some [.slice none 0 0] := by kernel_rfl
@[simp] theorem finfo27_0 : finfo Try.prog 27 0 = some (0, false, 1) := by kernel_rfl
@[simp] theorem bplaces27 : bplaces Try.prog 27 = some [(0, 1)] := by kernel_rfl
@[simp] theorem tsz28 : tsz Try.prog 28 = some (true, 1) := by kernel_rfl
@[simp] theorem tzero28 : tzero Try.prog 28 = some [.slice none 0 0] := by kernel_rfl
@[simp] theorem finfo28_0 : finfo Try.prog 28 0 = some (0, false, 1) := by kernel_rfl
@[simp] theorem bplaces28 : bplaces Try.prog 28 = some [(0, 1)] := by kernel_rfl
@[simp] theorem tsz29 : tsz Try.prog 29 = some (true, 2) := by kernel_rfl
@[simp] theorem tzero29 : tzero Try.prog 29 = some [.slice none 0 0, .slice none 0 0] := by kernel_rfl
@[simp] theorem finfo29_0 : finfo Try.prog 29 0 = some (0, true, 1) := by kernel_rfl
@[simp] theorem finfo29_1 : finfo Try.prog 29 1 = some (1, true, 1) := by kernel_rfl
@[simp] theorem bplaces29 : bplaces Try.prog 29 = some [(0, 1), (1, 1)] := by kernel_rfl
@[simp] theorem tsz30 : tsz Try.prog 30 = some (true, 2) := by kernel_rfl
@[simp] theorem tzero30 : tzero Try.prog 30 = some [.slice none 0 0, .slice none 0 0] := by kernel_rfl
@[simp] theorem finfo30_0 : finfo Try.prog 30 0 = some (0, true, 1) := by kernel_rfl
@[simp] theorem finfo30_1 : finfo Try.prog 30 1 = some (1, true, 1) := by kernel_rfl
@[simp] theorem bplaces30 : bplaces Try.prog 30 = some [(0, 1), (1, 1)] := by kernel_rfl
@[simp] theorem tsz31 : tsz Try.prog 31 = some (false, 1) := by kernel_rfl
@[simp] theorem tsz32 : tsz Try.prog 32 = some (false, 1) := by kernel_rfl
@[simp] theorem tsz33 : tsz Try.prog 33 = some (false, 1) := by kernel_rfl
@[simp] theorem tzero33 : tzero Try.prog 33 = some [.slice none 0 0] := by kernel_rfl
@[simp] theorem eltp33 : eltp Try.prog 33 = some (61, 2) := by kernel_rfl
@[simp] theorem isSl33 : isSl Try.prog 33 = true := by kernel_rfl
@[simp] theorem und33 : Try.prog.underlying 33 = some (.slice 61) := by kernel_rfl
@[simp] theorem tsz34 : tsz Try.prog 34 = some (false, 1) := by kernel_rfl
@[simp] theorem tsz35 : tsz Try.prog 35 = some (true, 2) := by kernel_rfl
@[simp] theorem tzero35 : tzero Try.prog 35 = some [.int .i64 0, .int .i64 0] := by kernel_rfl
@[simp] theorem finfo35_0 : finfo Try.prog 35 0 = some (0, false, 1) := by kernel_rfl
@[simp] theorem finfo35_1 : finfo Try.prog 35 1 = some (1, false, 1) := by kernel_rfl
@[simp] theorem flatN35 : flatN Try.prog 35 = some [0, 0] := by kernel_rfl
@[simp] theorem bplaces35 : bplaces Try.prog 35 = some [(0, 1), (1, 1)] := by kernel_rfl
@[simp] theorem tsz36 : tsz Try.prog 36 = some (true, 3) := by kernel_rfl
@[simp] theorem tzero36 : tzero Try.prog 36 = some [.int .i64 0, .int .i64 0, .slice none 0 0] := by kernel_rfl
@[simp] theorem finfo36_0 : finfo Try.prog 36 0 = some (0, true, 2) := by kernel_rfl
@[simp] theorem finfo36_1 : finfo Try.prog 36 1 = some (2, false, 1) := by kernel_rfl
@[simp] theorem bplaces36 : bplaces Try.prog 36 = some [(0, 2), (2, 1)] := by kernel_rfl
@[simp] theorem tsz37 : tsz Try.prog 37 = some (true, 3) := by kernel_rfl
@[simp] theorem tzero37 : tzero Try.prog 37 = some [.int .i64 0, .int .i64 0, .slice none 0 0] := by kernel_rfl
@[simp] theorem finfo37_0 : finfo Try.prog 37 0 = some (0, true, 2) := by kernel_rfl
@[simp] theorem finfo37_1 : finfo Try.prog 37 1 = some (2, false, 1) := by kernel_rfl
@[simp] theorem bplaces37 : bplaces Try.prog 37 = some [(0, 2), (2, 1)] := by kernel_rfl
@[simp] theorem tsz38 : tsz Try.prog 38 = some (false, 1) := by kernel_rfl
@[simp] theorem tsz39 : tsz Try.prog 39 = some (true, 1) := by kernel_rfl
@[simp] theorem tzero39 : tzero Try.prog 39 = some [.slice none 0 0] := by kernel_rfl
@[simp] theorem finfo39_0 : finfo Try.prog 39 0 = some (0, false, 1) := by kernel_rfl
@[simp] theorem bplaces39 : bplaces Try.prog 39 = some [(0, 1)] := by kernel_rfl
@[simp] theorem tsz40 : tsz Try.prog 40 = some (true, 2) := by kernel_rfl
@[simp] theorem tzero40 : tzero Try.prog 40 = some [.slice none 0 0, .slice none 0 0] := by kernel_rfl
@[simp] theorem finfo40_0 : finfo Try.prog 40 0 = some (0, true, 1) := by kernel_rfl
@[simp] theorem finfo40_1 : finfo Try.prog 40 1 = some (1, true, 1) := by kernel_rfl
@[simp] theorem bplaces40 : bplaces Try.prog 40 = some [(0, 1), (1, 1)] := by kernel_rfl
@[simp] theorem tsz41 : tsz Try.prog 41 = some (true, 2) := by kernel_rfl
@[simp] theorem tzero41 : tzero Try.prog 41 = some [.slice none 0 0, .slice none 0 0] := by kernel_rfl
@[simp] theorem finfo41_0 : finfo Try.prog 41 0 = some (0, true, 1) := by kernel_rfl
@[simp] theorem finfo41_1 : finfo Try.prog 41 1 = some (1, true, 1) := by kernel_rfl
@[simp] theorem bplaces41 : bplaces Try.prog 41 = some [(0, 1), (1, 1)] := by kernel_rfl
@[simp] theorem tsz42 : tsz Try.prog 42 = some (false, 1) := by kernel_rfl
@[simp] theorem tsz43 : tsz Try.prog 43 = some (false, 1) := by kernel_rfl
@[simp] theorem tsz44 : tsz Try.prog 44 = some (false, 1) := by kernel_rfl
@[simp] theorem tsz45 : tsz Try.prog 45 = some (false, 1) := by kernel_rfl
@[simp] theorem tsz46 : tsz Try.prog 46 = some (false, 1) := by kernel_rfl
@[simp] theorem tsz47 : tsz Try.prog 47 = some (false, 1) := by kernel_rfl
@[simp] theorem tsz48 : tsz Try.prog 48 = some (false, 1) := by kernel_rfl
@[simp] theorem tsz49 : tsz Try.prog 49 = some (false, 1) := by kernel_rfl
@[simp] theorem tsz50 : tsz Try.prog 50 = some (false, 1) := by kernel_rfl
@[simp] theorem tsz51 : tsz Try.prog 51 = some (false, 1) := by kernel_rfl
@[simp] theorem tsz52 : tsz Try.prog 52 = some (false, 1) := by kernel_rfl
@[simp] theorem tsz53 : tsz Try.prog 53 = some (false, 1) := by kernel_rfl
@[simp] theorem tsz54 : tsz Try.prog 54 = some (false, 1) := by kernel_rfl
@[simp] theorem tsz55 : tsz Try.prog 55 = some (false, 1) := by kernel_rfl
@[simp] theorem tsz56 : tsz Try.prog 56 = some (false, 1) := by kernel_rfl
@[simp] theorem tsz57 : tsz Try.prog 57 = some (false, 1) := by kernel_rfl
@[simp] theorem tsz58 : tsz Try.prog 58 = some (false, 1) := by kernel_rfl
@[simp] theorem tsz59 : tsz Try.prog 59 = some (false, 1) := by kernel_rfl
@[simp] theorem tsz60 : tsz Try.prog 60 = some (true, 2) := by kernel_rfl
@[simp] theorem tzero60 : tzero Try.prog 60 = some [.int .i64 0, .int .i64 0] := by kernel_rfl
@[simp] theorem finfo60_0 : finfo Try.prog 60 0 = some (0, false, 1) := by kernel_rfl
@[simp] theorem finfo60_1 : finfo Try.prog 60 1 = some (1, false, 1) := by kernel_rfl
@[simp] theorem bplaces60 : bplaces Try.prog 60 = some [(0, 1), (1, 1)] := by kernel_rfl
@[simp] theorem tsz61 : tsz Try.prog 61 = some (true, 2) := by kernel_rfl
@[simp] theorem tzero61 : tzero Try.prog 61 = some [.int .i64 0, .int .i64 0] := by kernel_rfl
@[simp] theorem finfo61_0 : finfo Try.prog 61 0 = some (0, false, 1) := by kernel_rfl
@[simp] theorem finfo61_1 : finfo Try.prog 61 1 = some (1, false, 1) := by kernel_rfl
@[simp] theorem flatN61 : flatN Try.prog 61 = some [0, 0] := by kernel_rfl
@[simp] theorem bplaces61 : bplaces Try.prog 61 = some [(0, 1), (1, 1)] := by kernel_rfl
@[simp] theorem tsz62 : tsz Try.prog 62 = some (false, 1) := by kernel_rfl
@[simp] theorem tsz63 : tsz Try.prog 63 = some (false, 1) := by kernel_rfl
@[simp] theorem tsz64 : tsz Try.prog 64 = some (false, 1) := by kernel_rfl
@[simp] theorem tsz65 : tsz Try.prog 65 = some (false, 1) := by kernel_rfl
@[simp] theorem tsz66 : tsz Try.prog 66 = some (false, 1) := by kernel_rfl
@[simp] theorem tsz67 : tsz Try.prog 67 = some (false, 1) := by kernel_rfl
@[simp] theorem tsz68 : tsz Try.prog 68 = some (false, 1) := by kernel_rfl
@[simp] theorem tsz69 : tsz Try.prog 69 = some (false, 1) := by kernel_rfl
@[simp] theorem tsz70 : tsz Try.prog 70 = some (false, 1) := by kernel_rfl
@[simp] theorem tsz71 : tsz Try.prog 71 = some (false, 1) := by kernel_rfl
@[simp] theorem tsz72 : tsz Try.prog 72 = some (false, 1) := by kernel_rfl
@[simp] theorem tsz74 : tsz Try.prog 74 = some (false, 1) := by kernel_rfl
@[simp] theorem tsz75 : tsz Try.prog 75 = some (false, 1) := by kernel_rfl
@[simp] theorem tsz76 : tsz Try.prog 76 = some (false, 1) := by kernel_rfl
@[simp] theorem tsz77 : tsz Try.prog 77 = some (false, 1) := by kernel_rfl
@[simp] theorem tsz78 : tsz Try.prog 78 = some (false, 1) := by kernel_rfl
@[simp] theorem tsz79 : tsz Try.prog 79 = some (false, 1) := by kernel_rfl
@[simp] theorem tsz80 : tsz Try.prog 80 = some (false, 1) := by kernel_rfl
@[simp] theorem tsz81 : tsz Try.prog 81 = some (false, 1) := by kernel_rfl
@[simp] theorem tsz82 : tsz Try.prog 82 = some (false, 1) := by kernel_rfl
@[simp] theorem tsz83 : tsz Try.prog 83 = some (false, 1) := by kernel_rfl
@[simp] theorem tsz84 : tsz Try.prog 84 = some (false, 1) := by kernel_rfl
@[simp] theorem tsz85 : tsz Try.prog 85 = some (false, 1) := by kernel_rfl
@[simp] theorem tsz86 : tsz Try.prog 86 = some (false, 1) := by kernel_rfl
@[simp] theorem tsz87 : tsz Try.prog 87 = some (false, 1) := by kernel_rfl
@[simp] theorem tsz88 : tsz Try.prog 88 = some (false, 1) := by kernel_rfl
@[simp] theorem tsz89 : tsz Try.prog 89 = some (false, 1) := by kernel_rfl
@[simp] theorem tsz90 : tsz Try.prog 90 = some (false, 1) := by kernel_rfl
@[simp] theorem tsz91 : tsz Try.prog 91 = some (false, 1) := by kernel_rfl
@[simp] theorem tsz92 : tsz Try.prog 92 = some (false, 1) := by kernel_rfl
@[simp] theorem tsz93 : tsz Try.prog 93 = some (false, 1) := by kernel_rfl
@[simp] theorem tsz94 : tsz Try.prog 94 = some (false, 1) := by kernel_rfl
@[simp] theorem tzero94 : tzero Try.prog 94 = some [.int .u64 0] := by kernel_rfl
@[simp] theorem und94 : Try.prog.underlying 94 = some (.int .u64) := by kernel_rfl
@[simp] theorem tsz96 : tsz Try.prog 96 = some (false, 1) := by kernel_rfl
@[simp] theorem tsz97 : tsz Try.prog 97 = some (false, 1) := by kernel_rfl
@[simp] theorem tsz98 : tsz Try.prog 98 = some (false, 1) := by kernel_rfl
@[simp] theorem tsz99 : tsz Try.prog 99 = some (false, 1) := by kernel_rfl
@[simp] theorem tsz100 : tsz Try.prog 100 = some (false, 1) := by kernel_rfl
@[simp] theorem tzero100 : tzero Try.prog 100 = some [.int .i64 0] := by kernel_rfl
@[simp] theorem und100 : Try.prog.underlying 100 = some (.int .i64) := by kernel_rfl
@[simp] theorem tsz102 : tsz Try.prog 102 = some (false, 1) := by kernel_rfl
@[simp] theorem tsz103 : tsz Try.prog 103 = some (false, 1) := by kernel_rfl
@[simp] theorem tsz104 : tsz Try.prog 104 = some (false, 1) := by kernel_rfl
@[simp] theorem tsz106 : tsz Try.prog 106 = some (false, 1) := by kernel_rfl
@[simp] theorem tsz107 : tsz Try.prog 107 = some (false, 1) := by kernel_rfl
@[simp] theorem tsz108 : tsz Try.prog 108 = some (false, 1) := by kernel_rfl
@[simp] theorem tzero108 : tzero Try.prog 108 = some [.int .u32 0] := by kernel_rfl
@[simp] theorem und108 : Try.prog.underlying 108 = some (.int .u32) := by kernel_rfl
@[simp] theorem tsz109 : tsz Try.prog 109 = some (false, 1) := by kernel_rfl
@[simp] theorem tsz110 : tsz Try.prog 110 = some (false, 1) := by kernel_rfl
@[simp] theorem tzero110 : tzero Try.prog 110 = some [.int .u64 0] := by kernel_rfl
@[simp] theorem und110 : Try.prog.underlying 110 = some (.int .u64) := by kernel_rfl
@[simp] theorem tsz112 : tsz Try.prog 112 = some (false, 1) := by kernel_rfl
@[simp] theorem tsz114 : tsz Try.prog 114 = some (false, 1) := by kernel_rfl
@[simp] theorem tsz115 : tsz Try.prog 115 = some (false, 1) := by kernel_rfl
@[simp] theorem tzero115 : tzero Try.prog 115 = some [.int .u64 0] := by kernel_rfl
@[simp] theorem und115 : Try.prog.underlying 115 = some (.int .u64) := by kernel_rfl
@[simp] theorem tsz116 : tsz Try.prog 116 = some (false, 1) := by kernel_rfl
@[simp] theorem tsz117 : tsz Try.prog 117 = some (false, 1) := by kernel_rfl
@[simp] theorem tsz118 : tsz Try.prog 118 = some (false, 1) := by kernel_rfl
@[simp] theorem tsz119 : tsz Try.prog 119 = some (false, 1) := by kernel_rfl
@[simp] theorem tzero119 : tzero Try.prog 119 = some [.pointer none] := by kernel_rfl
@[simp] theorem tsz120 : tsz Try.prog 120 = some (false, 1) := by kernel_rfl
@[simp] theorem tsz121 : tsz Try.prog 121 = some (false, 1) := by kernel_rfl
@[simp] theorem tzero121 : tzero Try.prog 121 = some [.pointer none] := by kernel_rfl
@[simp] theorem tsz123 : tsz Try.prog 123 = some (false, 1) := by kernel_rfl
@[simp] theorem tsz124 : tsz Try.prog 124 = some (false, 1) := by kernel_rfl
@[simp] theorem tsz125 : tsz Try.prog 125 = some (true, 4) := by kernel_rfl
@[simp] theorem tzero125 : tzero Try.prog 125 = some [.pointer none, .pointer none, .pointer none, .string .empty] := by kernel_rfl
@[simp] theorem finfo125_0 : finfo Try.prog 125 0 = some (0, false, 1) := by kernel_rfl
@[simp] theorem finfo125_1 : finfo Try.prog 125 1 = some (1, false, 1) := by kernel_rfl
@[simp] theorem finfo125_2 : finfo Try.prog 125 2 = some (2, false, 1) := by kernel_rfl
@[simp] theorem finfo125_3 : finfo Try.prog 125 3 = some (3, false, 1) := by kernel_rfl
@[simp] theorem bplaces125 : bplaces Try.prog 125 = some [(0, 1), (1, 1), (2, 1), (3, 1)] := by kernel_rfl
@[simp] theorem tsz126 : tsz Try.prog 126 = some (true, 4) := by kernel_rfl
@[simp] theorem tzero126 : tzero Try.prog 126 = some [.pointer none, .pointer none, .pointer none, .string .empty] := by kernel_rfl
@[simp] theorem finfo126_0 : finfo Try.prog 126 0 = some (0, false, 1) := by kernel_rfl
@[simp] theorem finfo126_1 : finfo Try.prog 126 1 = some (1, false, 1) := by kernel_rfl
@[simp] theorem finfo126_2 : finfo Try.prog 126 2 = some (2, false, 1) := by kernel_rfl
@[simp] theorem finfo126_3 : finfo Try.prog 126 3 = some (3, false, 1) := by kernel_rfl
@[simp] theorem bplaces126 : bplaces Try.prog 126 = some [(0, 1), (1, 1), (2, 1), (3, 1)] := by kernel_rfl
@[simp] theorem tsz127 : tsz Try.prog 127 = some (true, 0) := by kernel_rfl
@[simp] theorem tzero127 : tzero Try.prog 127 = some [] := by kernel_rfl
@[simp] theorem arrp127 : arrp Try.prog 127 = some (0, 1) := by kernel_rfl
@[simp] theorem tsz128 : tsz Try.prog 128 = some (true, 0) := by kernel_rfl
@[simp] theorem tzero128 : tzero Try.prog 128 = some [] := by kernel_rfl
@[simp] theorem bplaces128 : bplaces Try.prog 128 = some [(0, 0)] := by kernel_rfl
@[simp] theorem tsz129 : tsz Try.prog 129 = some (true, 0) := by kernel_rfl
@[simp] theorem tzero129 : tzero Try.prog 129 = some [] := by kernel_rfl
@[simp] theorem bplaces129 : bplaces Try.prog 129 = some [(0, 0)] := by kernel_rfl
@[simp] theorem tsz130 : tsz Try.prog 130 = some (false, 1) := by kernel_rfl
@[simp] theorem tsz131 : tsz Try.prog 131 = some (false, 1) := by kernel_rfl
@[simp] theorem tzero131 : tzero Try.prog 131 = some [.int .u8 0] := by kernel_rfl
@[simp] theorem und131 : Try.prog.underlying 131 = some (.int .u8) := by kernel_rfl
@[simp] theorem tsz132 : tsz Try.prog 132 = some (false, 1) := by kernel_rfl
@[simp] theorem tzero132 : tzero Try.prog 132 = some [.int .u8 0] := by kernel_rfl
@[simp] theorem und132 : Try.prog.underlying 132 = some (.int .u8) := by kernel_rfl
@[simp] theorem tsz133 : tsz Try.prog 133 = some (false, 1) := by kernel_rfl
@[simp] theorem tsz134 : tsz Try.prog 134 = some (false, 1) := by kernel_rfl
@[simp] theorem tzero134 : tzero Try.prog 134 = some [.pointer none] := by kernel_rfl
@[simp] theorem tsz135 : tsz Try.prog 135 = some (false, 1) := by kernel_rfl
@[simp] theorem tzero135 : tzero Try.prog 135 = some [.int .i32 0] := by kernel_rfl
@[simp] theorem und135 : Try.prog.underlying 135 = some (.int .i32) := by kernel_rfl
@[simp] theorem tsz136 : tsz Try.prog 136 = some (false, 1) := by kernel_rfl
@[simp] theorem tzero136 : tzero Try.prog 136 = some [.int .i32 0] := by kernel_rfl
@[simp] theorem und136 : Try.prog.underlying 136 = some (.int .i32) := by kernel_rfl
@[simp] theorem tsz137 : tsz Try.prog 137 = some (true, 11) := by kernel_rfl
@[simp] theorem tzero137 : tzero Try.prog 137 = some [.int .u64 0, .int .u64 0, .int .u32 0, .int .u8 0, .int .u8 0, .int .u8 0, .int .u8 0, .nilFunc, .pointer none, .int .i32 0, .int .i32 0] := by kernel_rfl
@[simp] theorem finfo137_0 : finfo Try.prog 137 0 = some (0, false, 1) := by kernel_rfl
@[simp] theorem finfo137_1 : finfo Try.prog 137 1 = some (1, false, 1) := by kernel_rfl
@[simp] theorem finfo137_2 : finfo Try.prog 137 2 = some (2, false, 1) := by kernel_rfl
@[simp] theorem finfo137_3 : finfo Try.prog 137 3 = some (3, false, 1) := by kernel_rfl
@[simp] theorem finfo137_4 : finfo Try.prog 137 4 = some (4, false, 1) := by kernel_rfl
@[simp] theorem finfo137_5 : finfo Try.prog 137 5 = some (5, false, 1) := by kernel_rfl
@[simp] theorem finfo137_6 : finfo Try.prog 137 6 = some (6, false, 1) := by kernel_rfl
@[simp] theorem finfo137_8 : finfo Try.prog 137 8 = some (8, false, 1) := by kernel_rfl
@[simp] theorem finfo137_9 : finfo Try.prog 137 9 = some (9, false, 1) := by kernel_rfl
@[simp] theorem finfo137_10 : finfo Try.prog 137 10 = some (10, false, 1) := by kernel_rfl
@[simp] theorem tsz138 : tsz Try.prog 138 = some (true, 11) := by kernel_rfl
@[simp] theorem tzero138 : tzero Try.prog 138 = some [.int .u64 0, .int .u64 0, .int .u32 0, .int .u8 0, .int .u8 0, .int .u8 0, .int .u8 0, .nilFunc, .pointer none, .int .i32 0, .int .i32 0] := by kernel_rfl
@[simp] theorem finfo138_0 : finfo Try.prog 138 0 = some (0, false, 1) := by kernel_rfl
@[simp] theorem finfo138_1 : finfo Try.prog 138 1 = some (1, false, 1) := by kernel_rfl
@[simp] theorem finfo138_2 : finfo Try.prog 138 2 = some (2, false, 1) := by kernel_rfl
@[simp] theorem finfo138_3 : finfo Try.prog 138 3 = some (3, false, 1) := by kernel_rfl
@[simp] theorem finfo138_4 : finfo Try.prog 138 4 = some (4, false, 1) := by kernel_rfl
@[simp] theorem finfo138_5 : finfo Try.prog 138 5 = some (5, false, 1) := by kernel_rfl
@[simp] theorem finfo138_6 : finfo Try.prog 138 6 = some (6, false, 1) := by kernel_rfl
@[simp] theorem finfo138_8 : finfo Try.prog 138 8 = some (8, false, 1) := by kernel_rfl
@[simp] theorem finfo138_9 : finfo Try.prog 138 9 = some (9, false, 1) := by kernel_rfl
@[simp] theorem finfo138_10 : finfo Try.prog 138 10 = some (10, false, 1) := by kernel_rfl
end Go.Proofs.Ytlbbalmeaedbdaa.V
/-! The plain side: grids, meshes. -/
set_option linter.all false
namespace Go.Proofs.Ytlbbalmeaedbdaa.V
open Go Go.VM
def rd (b : List Int) (j : Int) : Int := b.getD j.toNat 0
/-- a range, told as one word -/
def inR (lo n hi : Int) : Prop := lo ≤ n ∧ n ≤ hi
instance (lo n hi : Int) : Decidable (inR lo n hi) := inferInstanceAs (Decidable (_ ∧ _))
def okG (w h : Int) : Prop := (1 ≤ w ∧ w ≤ 4) ∧ 1 ≤ h ∧ h ≤ 4
instance (w h : Int) : Decidable (okG w h) := inferInstanceAs (Decidable (_ ∧ _))
def cnt (w h : Int) : Int := if okG w h then w * h else 0
def isN (w h n : Int) : Prop := 0 ≤ n ∧ n < cnt w h
instance (w h n : Int) : Decidable (isN w h n) := inferInstanceAs (Decidable (_ ∧ _))
def nodeAt (w h x y : Int) : Int := if okG w h ∧ (0 ≤ x ∧ x < w) ∧ 0 ≤ y ∧ y < h then y * w + x else -1
def next (w h n p : Int) : Int :=
  if isN w h n then
    (if p = 0 then nodeAt w h (n % w) (n / w - 1) else if p = 1 then nodeAt w h (n % w + 1) (n / w) else if p = 2 then nodeAt w h (n % w) (n / w + 1)
     else if p = 3 then nodeAt w h (n % w - 1) (n / w) else if p = 4 then n else -1)
  else -1
def leads (w h c : Int) : Prop := (0 ≤ c ∧ c < 4 * cnt w h) ∧ 0 ≤ next w h (c / 4) (c % 4)
instance (w h c : Int) : Decidable (leads w h c) := inferInstanceAs (Decidable (_ ∧ _))
def opp (p : Int) : Int := if p = 4 then 4 else if 0 ≤ p ∧ p ≤ 3 then (p + 2) % 4 else -1
def goodAt (w h : Int) (b : List Int) (j : Nat) : Prop := leads w h (b.getD j 0) ∧ (0 < j → b.getD (j - 1) 0 < b.getD j 0)
instance (w h : Int) (b : List Int) (j : Nat) : Decidable (goodAt w h b j) := inferInstanceAs (Decidable (_ ∧ _))
def meshOk (w h : Int) (b : List Int) : Prop := (∀ j, j < b.length → goodAt w h b j) ∧ okG w h
instance (w h : Int) (b : List Int) : Decidable (meshOk w h b) := inferInstanceAs (Decidable (_ ∧ _))
def has (w h : Int) (b : List Int) (c : Int) : Prop := leads w h c ∧ c ∉ b
instance (w h : Int) (b : List Int) (c : Int) : Decidable (has w h b c) := inferInstanceAs (Decidable (_ ∧ _))

theorem mul_small {w h : Int} (h1 : okG w h) : 1 ≤ w * h ∧ w * h ≤ 16 := by
  obtain ⟨⟨a1, a2⟩, b1, b2⟩ := h1
  have c1 : 1 * 1 ≤ w * h := Int.mul_le_mul a1 b1 (by omega) (by omega)
  have c2 : w * h ≤ 4 * 4 := Int.mul_le_mul a2 b2 (by omega) (by omega)
  omega
theorem cnt_range (w h : Int) : 0 ≤ cnt w h ∧ cnt w h ≤ 16 := by
  unfold cnt; split
  · rename_i h1; have := mul_small h1; omega
  · omega
theorem isN_ok {w h n : Int} (h1 : isN w h n) : okG w h ∧ 0 ≤ n ∧ n < w * h ∧ n < 16 := by
  obtain ⟨a, b⟩ := h1
  have := cnt_range w h
  unfold cnt at b; split at b
  · rename_i hg; have := mul_small hg; exact ⟨hg, a, b, by omega⟩
  · omega
theorem w64 {x : Int} (h1 : -9223372036854775808 ≤ x) (h2 : x ≤ 9223372036854775807) : IntKind.i64.wrap x = x := by rw [IntKind.wrap_i64]; omega
end Go.Proofs.Ytlbbalmeaedbdaa.V
/-! What the functions on grids return. -/
set_option linter.all false
namespace Go.Proofs.Ytlbbalmeaedbdaa.V
open Go Go.VM Go.Proofs
set_option maxRecDepth 10000
variable {frz : Nat} {H : Heap}
theorem inside_c (n lo hi : Int) : vcall C frz 58 [.int .i64 n, .int .i64 lo, .int .i64 hi] H = some (.bool (decide (inR lo n hi)), H) := by
  rw [vcall_go (fn := Try.f58) Try.func58 rfl (by kernel_rfl) rfl]
  simp
  repeat' (first | refine gd_dec _ _ ?_ ?_ | refine br_dec _ ?_ ?_) <;> intro h <;> simp [h, inR]
theorem l01In_c (n lo hi : Int) : vcall C frz 49 [.int .i64 n, .int .i64 lo, .int .i64 hi] H = some (.bool (decide (inR lo n hi)), H) := by
  rw [vcall_go (fn := Try.f49) Try.func49 rfl (by kernel_rfl) rfl]
  simp
  repeat' (first | refine gd_dec _ _ ?_ ?_ | refine br_dec _ ?_ ?_) <;> intro h <;> simp [h, inR]
theorem okG_of {w h : Int} (h1 : inR 1 w 4) (h2 : inR 1 h 4) : okG w h := ⟨h1, h2⟩
theorem gridOk_c (w h : Int) : vcall C frz 79 [.agg #[.int .i64 w, .int .i64 h]] H = some (.bool (decide (okG w h)), H) := by
  rw [vcall_go (fn := Try.f79) Try.func79 rfl (by kernel_rfl) rfl]
  simp [inside_c]
  refine gd_dec _ _ ?_ ?_ <;> intro h1 <;> simp [h1, inside_c]
  · have : okG w h ↔ inR 1 h 4 := ⟨fun g => g.2, fun g => ⟨h1, g⟩⟩
    simp [this]
  · exact fun g => h1 g.1
theorem sGridOk_c (w h : Int) : vcall C frz 50 [.agg #[.int .i64 w, .int .i64 h]] H = some (.bool (decide (okG w h)), H) := by
  rw [vcall_go (fn := Try.f50) Try.func50 rfl (by kernel_rfl) rfl]
  simp [l01In_c]
  refine gd_dec _ _ ?_ ?_ <;> intro h1 <;> simp [h1, l01In_c]
  · have : okG w h ↔ inR 1 h 4 := ⟨fun g => g.2, fun g => ⟨h1, g⟩⟩
    simp [this]
  · exact fun g => h1 g.1
theorem nodeCount_c (w h : Int) : vcall C frz 59 [.agg #[.int .i64 w, .int .i64 h]] H = some (.int .i64 (cnt w h), H) := by
  rw [vcall_go (fn := Try.f59) Try.func59 rfl (by kernel_rfl) rfl]
  simp [gridOk_c]
  refine br_dec _ ?_ ?_ <;> intro h1 <;> simp [h1, cnt]
  have := mul_small h1
  exact w64 (by omega) (by omega)
theorem sNodeCount_c (w h : Int) : vcall C frz 26 [.agg #[.int .i64 w, .int .i64 h]] H = some (.int .i64 (cnt w h), H) := by
  rw [vcall_go (fn := Try.f26) Try.func26 rfl (by kernel_rfl) rfl]
  simp [sGridOk_c]
  refine br_dec _ ?_ ?_ <;> intro h1 <;> simp [h1, cnt]
  have := mul_small h1
  exact w64 (by omega) (by omega)
theorem isN_inR (w h n : Int) : inR 0 n (IntKind.i64.wrap (cnt w h - 1)) ↔ isN w h n := by
  have := cnt_range w h
  rw [w64 (by omega) (by omega)]
  simp only [inR, isN]; omega
theorem isNode_c (w h n : Int) : vcall C frz 61 [.agg #[.int .i64 w, .int .i64 h], .int .i64 n] H = some (.bool (decide (isN w h n)), H) := by
  rw [vcall_go (fn := Try.f61) Try.func61 rfl (by kernel_rfl) rfl]
  simp [nodeCount_c, inside_c, isN_inR]
theorem l02Has_c (w h n : Int) : vcall C frz 75 [.agg #[.int .i64 w, .int .i64 h], .int .i64 n] H = some (.bool (decide (isN w h n)), H) := by
  rw [vcall_go (fn := Try.f75) Try.func75 rfl (by kernel_rfl) rfl]
  simp [sNodeCount_c, l01In_c, isN_inR]
end Go.Proofs.Ytlbbalmeaedbdaa.V
/-! What the functions on grids return: places, neighbours, channels. -/
set_option linter.all false
namespace Go.Proofs.Ytlbbalmeaedbdaa.V
open Go Go.VM Go.Proofs
set_option maxRecDepth 10000
variable {frz : Nat} {H : Heap}
theorem at_inR (w h x y : Int) (h1 : okG w h) : (inR 0 x (IntKind.i64.wrap (w - 1)) ↔ 0 ≤ x ∧ x < w) ∧ (inR 0 y (IntKind.i64.wrap (h - 1)) ↔ 0 ≤ y ∧ y < h) := by
  obtain ⟨⟨a1, a2⟩, b1, b2⟩ := h1
  rw [w64 (by omega) (by omega), w64 (by omega) (by omega)]
  simp only [inR]; omega
theorem at_val {w h x y : Int} (h1 : okG w h) (h2 : 0 ≤ x ∧ x < w) (h3 : 0 ≤ y ∧ y < h) : IntKind.i64.wrap (IntKind.i64.wrap (y * w) + x) = y * w + x := by
  have hm := mul_small h1
  obtain ⟨⟨a1, a2⟩, b1, b2⟩ := h1
  have c1 : 0 * 0 ≤ y * w := Int.mul_le_mul h3.1 (by omega) (by omega) (by omega)
  have c2 : y * w ≤ h * w := Int.mul_le_mul_of_nonneg_right (by omega) (by omega)
  rw [Int.mul_comm h w] at c2
  rw [w64 (x := y * w) (by omega) (by omega), w64 (by omega) (by omega)]
theorem nodeAt_c (w h x y : Int) : vcall C frz 90 [.agg #[.int .i64 w, .int .i64 h], .int .i64 x, .int .i64 y] H = some (.int .i64 (nodeAt w h x y), H) := by
  rw [vcall_go (fn := Try.f90) Try.func90 rfl (by kernel_rfl) rfl]
  simp [gridOk_c]
  refine gd_dec _ _ ?_ ?_ <;> intro h1 <;> simp [h1, inside_c, nodeAt]
  obtain ⟨e1, e2⟩ := at_inR w h x y h1
  simp only [e1, e2]
  refine gd_dec _ _ ?_ ?_ <;> intro h2 <;> simp [h2, inside_c]
  simp only [e2]
  refine br_dec _ ?_ ?_ <;> intro h3 <;> simp [h3]
  exact at_val h1 h2 h3
theorem sNodeAt_c (w h x y : Int) : vcall C frz 76 [.agg #[.int .i64 w, .int .i64 h], .int .i64 x, .int .i64 y] H = some (.int .i64 (nodeAt w h x y), H) := by
  rw [vcall_go (fn := Try.f76) Try.func76 rfl (by kernel_rfl) rfl]
  simp [sGridOk_c]
  refine gd_dec _ _ ?_ ?_ <;> intro h1 <;> simp [h1, l01In_c, nodeAt]
  obtain ⟨e1, e2⟩ := at_inR w h x y h1
  simp only [e1, e2]
  refine gd_dec _ _ ?_ ?_ <;> intro h2 <;> simp [h2, l01In_c]
  simp only [e2]
  refine br_dec _ ?_ ?_ <;> intro h3 <;> simp [h3]
  exact at_val h1 h2 h3
theorem nodeAt_range (w h x y : Int) : -1 ≤ nodeAt w h x y ∧ nodeAt w h x y < 16 := by
  unfold nodeAt
  split
  · rename_i h1
    obtain ⟨h1, h2, h3⟩ := h1
    have hm := mul_small h1
    obtain ⟨⟨a1, a2⟩, b1, b2⟩ := h1
    have c1 : 0 * 0 ≤ y * w := Int.mul_le_mul h3.1 (by omega) (by omega) (by omega)
    have c2 : y * w ≤ (h - 1) * w := Int.mul_le_mul_of_nonneg_right (by omega) (by omega)
    rw [Int.sub_mul, Int.mul_comm h w] at c2
    omega
  · omega
theorem tdiv_of {n w : Int} (h : 0 ≤ n) (h1 : 1 ≤ w) (h2 : n < 16) : IntKind.i64.wrap (n.tdiv w) = n / w := by
  rw [Int.tdiv_eq_ediv_of_nonneg h]
  have h3 := Int.ediv_le_self w h
  have h4 := Int.ediv_nonneg h (by omega : 0 ≤ w)
  exact w64 (by omega) (by omega)
theorem tmod_of {n w : Int} (h : 0 ≤ n) : n.tmod w = n % w := Int.tmod_eq_emod_of_nonneg h
theorem div_small {n w : Int} (h : 0 ≤ n) (h1 : 1 ≤ w) (h2 : n < 16) : 0 ≤ n / w ∧ n / w < 16 := ⟨Int.ediv_nonneg h (by omega), by have := Int.ediv_le_self w h; omega⟩
theorem mod_small {n w : Int} (h1 : 1 ≤ w) (h2 : w ≤ 4) : 0 ≤ n % w ∧ n % w < 4 := ⟨Int.emod_nonneg _ (by omega), by have := Int.emod_lt_of_pos n (by omega : 0 < w); omega⟩
theorem nextNode_c (w h n p : Int) : vcall C frz 82 [.agg #[.int .i64 w, .int .i64 h], .int .i64 n, .int .i64 p] H = some (.int .i64 (next w h n p), H) := by
  rw [vcall_go (fn := Try.f82) Try.func82 rfl (by kernel_rfl) rfl]
  simp [isNode_c]
  refine br_dec _ ?_ ?_ <;> intro h1 <;> simp [h1, next]
  obtain ⟨⟨⟨a1, a2⟩, b1, b2⟩, g2, g3, g4⟩ := isN_ok h1
  rw [go_draw (h := by kernel_rfl)]
  simp
  refine vneed_eq (by omega) ?_
  refine vneed_eq (by omega) ?_
  obtain ⟨d1, d2⟩ := div_small g2 a1 g4
  obtain ⟨m1, m2⟩ := mod_small (n := n) a1 a2
  rw [tdiv_of g2 a1 g4, tmod_of g2]
  refine br_dec _ ?_ ?_ <;> intro p0 <;> simp [p0, nodeAt_c]
  · rw [w64 (by omega) (by omega)]
  refine br_dec _ ?_ ?_ <;> intro p1 <;> simp [p1, nodeAt_c]
  · rw [w64 (by omega) (by omega)]
  refine br_dec _ ?_ ?_ <;> intro p2 <;> simp [p2, nodeAt_c]
  · rw [w64 (by omega) (by omega)]
  refine br_dec _ ?_ ?_ <;> intro p3 <;> simp [p3, nodeAt_c]
  · rw [w64 (by omega) (by omega)]
  refine br_dec _ ?_ ?_ <;> intro p4 <;> simp [p4, nodeAt_c]
theorem sNextNode_c (w h n p : Int) : vcall C frz 52 [.agg #[.int .i64 w, .int .i64 h], .int .i64 n, .int .i64 p] H = some (.int .i64 (next w h n p), H) := by
  rw [vcall_go (fn := Try.f52) Try.func52 rfl (by kernel_rfl) rfl]
  simp [l02Has_c]
  refine br_dec _ ?_ ?_ <;> intro h1 <;> simp [h1, next]
  obtain ⟨⟨⟨a1, a2⟩, b1, b2⟩, g2, g3, g4⟩ := isN_ok h1
  refine vneed_eq (by omega) ?_
  refine vneed_eq (by omega) ?_
  obtain ⟨d1, d2⟩ := div_small g2 a1 g4
  obtain ⟨m1, m2⟩ := mod_small (n := n) a1 a2
  rw [tdiv_of g2 a1 g4, tmod_of g2]
  refine br_dec _ ?_ ?_ <;> intro p0 <;> simp [p0, sNodeAt_c]
  · rw [w64 (by omega) (by omega)]
  refine br_dec _ ?_ ?_ <;> intro p1 <;> simp [p1, sNodeAt_c]
  · rw [w64 (by omega) (by omega)]
  refine br_dec _ ?_ ?_ <;> intro p2 <;> simp [p2, sNodeAt_c]
  · rw [w64 (by omega) (by omega)]
  refine br_dec _ ?_ ?_ <;> intro p3 <;> simp [p3, sNodeAt_c]
  · rw [w64 (by omega) (by omega)]
  refine br_dec _ ?_ ?_ <;> intro p4 <;> simp [p4, sNodeAt_c]
theorem next_range (w h n p : Int) : -1 ≤ next w h n p ∧ next w h n p < 16 := by
  unfold next
  split
  · rename_i h1
    have := isN_ok h1
    have a0 := nodeAt_range w h (n % w) (n / w - 1)
    have a1 := nodeAt_range w h (n % w + 1) (n / w)
    have a2 := nodeAt_range w h (n % w) (n / w + 1)
    have a3 := nodeAt_range w h (n % w - 1) (n / w)
    repeat' split
    all_goals omega
  · omega
theorem chan_inR (w h c : Int) : inR 0 c (IntKind.i64.wrap (IntKind.i64.wrap (4 * cnt w h) - 1)) ↔ 0 ≤ c ∧ c < 4 * cnt w h := by
  have := cnt_range w h
  rw [w64 (x := 4 * cnt w h) (by omega) (by omega), w64 (by omega) (by omega)]
  simp only [inR]; omega
theorem chan_div {w h c : Int} (h1 : 0 ≤ c ∧ c < 4 * cnt w h) : IntKind.i64.wrap (c.tdiv 4) = c / 4 ∧ c.tmod 4 = c % 4 := by
  have := cnt_range w h
  rw [Int.tdiv_eq_ediv_of_nonneg h1.1, Int.tmod_eq_emod_of_nonneg h1.1]
  exact ⟨w64 (by omega) (by omega), rfl⟩
theorem leads_c (w h c : Int) : vcall C frz 80 [.agg #[.int .i64 w, .int .i64 h], .int .i64 c] H = some (.bool (decide (leads w h c)), H) := by
  rw [vcall_go (fn := Try.f80) Try.func80 rfl (by kernel_rfl) rfl]
  simp [nodeCount_c, inside_c]
  refine gd_dec _ _ ?_ ?_ <;> intro h1 <;> simp [h1]
  · rw [chan_inR] at h1
    obtain ⟨e1, e2⟩ := chan_div h1
    simp [e1, e2, nextNode_c, leads, h1]
  · rw [chan_inR] at h1
    exact fun g => h1 g.1
theorem l03Leads_c (w h c : Int) : vcall C frz 73 [.agg #[.int .i64 w, .int .i64 h], .int .i64 c] H = some (.bool (decide (leads w h c)), H) := by
  rw [vcall_go (fn := Try.f73) Try.func73 rfl (by kernel_rfl) rfl]
  simp [sNodeCount_c, l01In_c]
  refine gd_dec _ _ ?_ ?_ <;> intro h1 <;> simp [h1]
  · rw [chan_inR] at h1
    obtain ⟨e1, e2⟩ := chan_div h1
    simp [e1, e2, sNextNode_c, leads, h1]
  · rw [chan_inR] at h1
    exact fun g => h1 g.1
end Go.Proofs.Ytlbbalmeaedbdaa.V
/-! What the laws' own functions return: arguments copied, compared, counted. -/
set_option linter.all false
namespace Go.Proofs.Ytlbbalmeaedbdaa.V
open Go Go.VM Go.Proofs
set_option maxRecDepth 10000
variable {frz : Nat} {H : Heap}
theorem getD_get (xs : List Int) (i : Nat) (h : i < xs.length) : xs.getD i 0 = xs[i] := by simp [List.getD_eq_getElem?_getD, h]
theorem szIntS_c (v : Value) (xs : List Int) (n : Int) (hI : IsI H v xs) (h0 : 0 ≤ n) (h1 : n ≤ 1048576) (h2 : xs.length ≤ 9223372036854775807) :
    vcall C frz 20 [v, .int .i64 n] H = some (.int .i64 (if n < xs.length then -1 else n - xs.length), H) := by
  rw [vcall_go (fn := Try.f20) Try.func20 rfl (by kernel_rfl) rfl]
  simp [hI.len]
  rw [w64 (by omega) (by omega)]
  refine br_dec _ ?_ ?_ <;> intro h <;> simp [h]
  · intro hh; omega
  · intro hh; omega
theorem toIntS_c (v : Value) (xs : List Int) (hI : IsI H v xs) (hb : xs.length ≤ 1073741824) :
   vcall C frz 30 [v] H = some (.slice (some ⟨H.length, 0, some 0⟩) xs.length 0, H ++ [⟨xs.map (.int .i64), 0, 3⟩]) := by
  rw [vcall_go (fn := Try.f30) Try.func30 rfl (by kernel_rfl) rfl]
  simp [hI.len]
  refine vneed_eq (by omega) ?_
  refine go_inv (fun n t H' => ∃ i : Nat, n = xs.length - i ∧ i ≤ xs.length ∧ t 0 = v ∧ t 3 = .slice (some ⟨H.length, 0, some 0⟩) xs.length 0 ∧ t 4 = .int .i64 i ∧
    H' = H ++ [⟨(xs.map (.int .i64)).take i ++ List.replicate (xs.length - i) (.int .i64 0), 0, 3⟩]) ?_ (n := xs.length) ⟨0, by simp⟩
  rintro n t H' ⟨i, rfl, hi, h0, h3, h4, rfl⟩ ih
  simp [h0, h3, h4, hI.lenA]
  refine br_dec _ ?_ ?_ <;> intro h
  · simp [h0, h3, h4, h, hI.idxA, hI.loadA, getD_get]
    refine vneed_eq (by omega) ?_
    refine ih (xs.length - (i + 1)) _ _ ⟨i + 1, rfl, by omega, by simp [h0], by simp [h3], ?_, ?_⟩ (by omega)
    · simp; rw [w64 (by omega) (by omega)]
    · rw [splice_fill' _ _ _ _ h]
  · have : i = xs.length := by omega
    subst this
    simp [h0, h3, h4, scrub_ints]
end Go.Proofs.Ytlbbalmeaedbdaa.V
/-! What the laws' own functions return: meshes copied and compared. -/
set_option linter.all false
namespace Go.Proofs.Ytlbbalmeaedbdaa.V
open Go Go.VM Go.Proofs
set_option maxRecDepth 10000
variable {frz : Nat} {H : Heap}
theorem eqIntS_c (a b : Value) (xs ys : List Int) (ha : IsI H a xs) (hb : IsI H b ys) (hl : xs.length ≤ 1073741824) :
   vcall C frz 41 [a, b] H = some (.bool (decide (xs = ys)), H) := by
  rw [vcall_go (fn := Try.f41) Try.func41 rfl (by kernel_rfl) rfl]
  simp [ha.len, hb.len]
  refine br_dec _ ?_ ?_ <;> intro h0 <;> simp [h0]
  · refine go_inv (fun n t H' => ∃ i : Nat, n = xs.length - i ∧ i ≤ xs.length ∧ t 0 = a ∧ t 1 = b ∧ t 5 = .int .i64 i ∧ H' = H ∧ xs.take i = ys.take i) ?_ (n := xs.length) ⟨0, by simp⟩
    rintro n t H' ⟨i, rfl, hi, h1, h2, h3, rfl, h4⟩ ih
    simp [h1, h2, h3, ha.len]
    refine br_dec _ ?_ ?_ <;> intro h
    · have h' : i < ys.length := by omega
      simp [h1, h2, h3, h]
      rw [go_draw (h := by kernel_rfl)]
      simp [h1, h2, h3, h, h', ha.idx, ha.load, hb.idx, hb.load, getD_get]
      refine br_dec _ ?_ ?_ <;> intro h5 <;> simp [h1, h2, h3, h5]
      · refine ih (xs.length - (i + 1)) _ _ ⟨i + 1, rfl, by omega, by simp [h1], by simp [h2], ?_, rfl, ?_⟩ (by omega)
        · simp; rw [w64 (by omega) (by omega)]
        · rw [List.take_succ_eq_append_getElem h, List.take_succ_eq_append_getElem h', h4]; simp [h5]
      · intro hh; subst hh; simp at h5
    · have : i = xs.length := by omega
      subst this
      simp [h1, h2, h3]
      rw [List.take_length, List.take_of_length_le (by omega)] at h4
      exact h4
  · intro hh; exact h0 (by rw [hh])
theorem toGrid_c (w h : Int) : vcall C frz 29 [.agg #[.int .i64 w, .int .i64 h]] H = some (.agg #[.int .i64 w, .int .i64 h], H) := by
  rw [vcall_go (fn := Try.f29) Try.func29 rfl (by kernel_rfl) rfl]
  simp
theorem szMesh_c (w h : Int) (v : Value) (xs : List Int) (n : Int) (hI : IsI H v xs) (h0 : 0 ≤ n) (h1 : n ≤ 1048576) (h2 : xs.length ≤ 9223372036854775807) :
    vcall C frz 5 [.agg #[.int .i64 w, .int .i64 h, v], .int .i64 n] H = some (.int .i64 (if n < xs.length then -1 else n - xs.length), H) := by
  rw [vcall_go (fn := Try.f5) Try.func5 rfl (by kernel_rfl) rfl]
  simp [szIntS_c _ _ _ (hI.app _) h0 h1 h2, hI.one', hI.cells]
  refine br_dec _ ?_ ?_ <;> intro h <;> simp [h]
  · intro hh; omega
theorem toMesh_c (w h : Int) (v : Value) (xs : List Int) (hI : IsI H v xs) (hb : xs.length ≤ 1073741824) :
   vcall C frz 8 [.agg #[.int .i64 w, .int .i64 h, v]] H = some (.agg #[.int .i64 w, .int .i64 h, .slice (some ⟨H.length, 0, some 0⟩) xs.length 0], H ++ [⟨xs.map (.int .i64), 0, 3⟩]) := by
  rw [vcall_go (fn := Try.f8) Try.func8 rfl (by kernel_rfl) rfl]
  simp [toGrid_c, toIntS_c _ _ (hI.app _) hb, hI.one', hI.cells]
theorem eqGrid_c (w h w' h' : Int) : vcall C frz 40 [.agg #[.int .i64 w, .int .i64 h], .agg #[.int .i64 w', .int .i64 h']] H = some (.bool (decide (w = w' ∧ h = h')), H) := by
  rw [vcall_go (fn := Try.f40) Try.func40 rfl (by kernel_rfl) rfl]
  simp
  refine br_dec _ ?_ ?_ <;> intro h0 <;> simp [h0]
  refine br_dec _ ?_ ?_ <;> intro h0 <;> simp [h0]
theorem eqMesh_c (w h w' h' : Int) (a b : Value) (xs ys : List Int) (ha : IsI H a xs) (hb : IsI H b ys) (hl : xs.length ≤ 1073741824) :
   vcall C frz 12 [.agg #[.int .i64 w, .int .i64 h, a], .agg #[.int .i64 w', .int .i64 h', b]] H = some (.bool (decide ((w = w' ∧ h = h') ∧ xs = ys)), H) := by
  rw [vcall_go (fn := Try.f12) Try.func12 rfl (by kernel_rfl) rfl]
  simp [eqGrid_c, ha.one', hb.one', ha.cells, hb.cells, -Bool.decide_and]
  refine br_dec _ ?_ ?_ <;> intro h0 <;> simp [h0, eqIntS_c _ _ _ _ (ha.app _) (hb.app _) hl]
  refine br_dec _ ?_ ?_ <;> intro h0 <;> simp [h0]
end Go.Proofs.Ytlbbalmeaedbdaa.V
/-! slices.Concat on two slices of numbers. -/
set_option linter.all false
namespace Go.Proofs.Ytlbbalmeaedbdaa.V
open Go Go.VM Go.Proofs
set_option maxRecDepth 10000
variable {frz : Nat} {H : Heap}
theorem wr0 : IntKind.i64.wrap 0 = 0 := by decide
end Go.Proofs.Ytlbbalmeaedbdaa.V
/-! What the functions on meshes return. -/
set_option linter.all false
namespace Go.Proofs.Ytlbbalmeaedbdaa.V
open Go Go.VM Go.Proofs
set_option maxRecDepth 10000
variable {frz : Nat} {H : Heap}
theorem goodAt_bad {w h : Int} {b : List Int} {i : Nat} (h5 : i < b.length) (hg : ¬ goodAt w h b i) : ¬ meshOk w h b := fun hh => hg (hh.1 i h5)
theorem goodAt_succ {w h : Int} {b : List Int} {i : Nat} (hj : ∀ j < i, goodAt w h b j) (hg : goodAt w h b i) : ∀ j < i + 1, goodAt w h b j := fun j hh => by
  by_cases hji : j < i
  · exact hj j hji
  · have : j = i := by omega
    rw [this]; exact hg
theorem goodAt_iff {w h : Int} {b : List Int} {i : Nat} (h5 : i < b.length) : goodAt w h b i ↔ leads w h b[i] ∧ (0 < i → b[i - 1] < b[i]) := by
  unfold goodAt
  rw [getD_get _ _ h5]
  refine and_congr Iff.rfl ⟨fun g p => ?_, fun g p => ?_⟩
  · have := g p; rwa [getD_get _ _ (by omega)] at this
  · rw [getD_get _ _ (by omega)]; exact g p
theorem sMeshOk_c (w h : Int) (v : Value) (b : List Int) (hI : IsI H v b) (hl : b.length ≤ 1073741824) :
   vcall C frz 88 [.agg #[.int .i64 w, .int .i64 h, v]] H = some (.bool (decide (meshOk w h b)), H) := by
  rw [vcall_go (fn := Try.f88) Try.func88 rfl (by kernel_rfl) rfl]
  simp [hI.one', hI.cells, hI.lenA, sGridOk_c]
  refine br_dec _ ?_ ?_ <;> intro hg <;> simp [hg]
  · refine go_inv (fun n t H' => ∃ i : Nat, n = b.length - i ∧ i ≤ b.length ∧ t 1 = .pointer (some ⟨H.length, 0, some 0⟩) ∧ t 3 = .int .i64 i ∧
      H' = H ++ [⟨[.int .i64 w, .int .i64 h, v], 0, 37⟩] ∧ ∀ j < i, goodAt w h b j) ?_ (n := b.length) ⟨0, by simp⟩
    rintro n t H' ⟨i, rfl, hi, h1, h3, rfl, hj⟩ ih
    have next := fun (t' : Env) (e1 : t' 1 = .pointer (some ⟨H.length, 0, some 0⟩)) (e2 : t' 3 = .int .i64 (i + 1 : Nat)) (e3 : i < b.length) (e4 : goodAt w h b i) =>
      ih (b.length - (i + 1)) t' _ ⟨i + 1, rfl, by omega, e1, e2, rfl, goodAt_succ hj e4⟩ (by omega)
    simp [h1, h3, hI.lenA]
    refine br_dec _ ?_ ?_ <;> intro h5
    · simp [h1, h3, h5]
      rw [go_draw (h := by kernel_rfl)]
      simp [h1, h3, h5, hI.idxA, hI.loadA, getD_get, l03Leads_c]

      refine gd_dec _ _ ?_ ?_ <;> intro hL <;> simp [h1, h3, h5, hL]
      · refine gd_dec _ _ ?_ ?_ <;> intro h0
        · have e : IntKind.i64.wrap ((i : Int) - 1) = ((i - 1 : Nat) : Int) := by rw [w64 (by omega) (by omega)]; omega
          have e' : i - 1 < b.length := by omega
          simp [h1, h3, h5, h0, hL, hI.idxA, hI.loadA, getD_get, e, e']
          refine br_dec _ ?_ ?_ <;> intro h6
          · simp [h1, h3, h5, h0, hL, h6]
            refine goodAt_bad h5 ?_
            rw [goodAt_iff h5]
            exact fun hh => absurd (hh.2 h0) (by omega)
          · simp [h1, h3, h5, h0, hL, h6]
            refine next _ (by simp [h1]) ?_ h5 ((goodAt_iff h5).2 ⟨hL, fun _ => by omega⟩)
            simp; rw [w64 (by omega) (by omega)]
        · simp [h1, h3, h5, h0, hL]
          refine next _ (by simp [h1]) ?_ h5 ((goodAt_iff h5).2 ⟨hL, fun hh => absurd hh h0⟩)
          simp; rw [w64 (by omega) (by omega)]
      · refine goodAt_bad h5 ?_
        rw [goodAt_iff h5]
        exact fun hh => hL hh.1
    · have : i = b.length := by omega
      subst this
      simp [h1, h3]
      exact ⟨hj, hg⟩
  · exact fun hh => hg hh.2
theorem notin_succ {b : List Int} {c : Int} {i : Nat} (h : i < b.length) (h1 : c ∉ b.take i) (h2 : ¬ b[i] = c) : c ∉ b.take (i + 1) := by
  rw [List.take_succ_eq_append_getElem h]
  simp only [List.mem_append, List.mem_singleton, not_or]
  exact ⟨h1, fun hh => h2 hh.symm⟩
/-- the place of a number, or -1 -/
def place (b : List Int) (c : Int) : Int := if c ∈ b then b.idxOf c else -1
theorem place_range (b : List Int) (c : Int) : -1 ≤ place b c ∧ place b c < b.length ∧ (0 ≤ place b c ↔ c ∈ b) := by
  unfold place
  split
  · rename_i h
    have := List.idxOf_lt_length_iff.2 h
    refine ⟨by omega, by omega, ?_⟩
    simp [h]
  · rename_i h
    refine ⟨by omega, by omega, ?_⟩
    simp [h]
theorem place_at {b : List Int} {c : Int} {i : Nat} (h : i < b.length) (h1 : c ∉ b.take i) (h2 : b[i] = c) : place b c = i := by
  have hm : c ∈ b := h2 ▸ List.getElem_mem h
  unfold place
  rw [if_pos hm]
  have e : b = b.take i ++ b.drop i := (List.take_append_drop i b).symm
  have e2 : b.drop i = c :: b.drop (i + 1) := by rw [List.drop_eq_getElem_cons h, h2]
  rw [e, List.idxOf_append, if_neg h1, e2, List.idxOf_cons_self]
  simp; omega
theorem find_c (v : Value) (b : List Int) (c : Int) (hI : IsI H v b) (hl : b.length ≤ 1073741824) :
   vcall C frz 74 [v, .int .i64 c] H = some (.bool (decide (c ∈ b)), H) := by
  rw [vcall_go (fn := Try.f74) Try.func74 rfl (by kernel_rfl) rfl]
  simp [hI.len]
  refine go_inv (fun n t H' => ∃ i : Nat, n = b.length - i ∧ i ≤ b.length ∧ t 0 = v ∧ t 1 = .int .i64 c ∧ t 5 = .int .i64 i ∧ H' = H ∧ c ∉ b.take i) ?_ (n := b.length) ⟨0, by simp⟩
  rintro n t H' ⟨i, rfl, hi, h1, h2, h3, rfl, hj⟩ ih
  simp [h1, h2, h3, hI.len]
  refine br_dec _ ?_ ?_ <;> intro h5
  · simp [h1, h2, h3, h5, hI.idx, hI.load, getD_get]
    refine br_dec _ ?_ ?_ <;> intro h6 <;> simp [h1, h2, h3, h6]
    · rw [← h6]; exact List.getElem_mem h5
    · refine ih (b.length - (i + 1)) _ _ ⟨i + 1, rfl, by omega, by simp [h1], by simp [h2], ?_, rfl, notin_succ h5 hj h6⟩ (by omega)
      simp; rw [w64 (by omega) (by omega)]
  · have : i = b.length := by omega
    subst this
    simp [h1, h2, h3]
    rwa [List.take_length] at hj
theorem index_c (v : Value) (b : List Int) (c : Int) (hI : IsI H v b) (hl : b.length ≤ 1073741824) :
   vcall C frz 89 [v, .int .i64 c] H = some (.int .i64 (place b c), H) := by
  rw [vcall_go (fn := Try.f89) Try.func89 rfl (by kernel_rfl) rfl]
  simp [hI.len]
  refine go_inv (fun n t H' => ∃ i : Nat, n = b.length - i ∧ i ≤ b.length ∧ t 0 = v ∧ t 1 = .int .i64 c ∧ t 6 = v ∧ t 7 = .int .i64 b.length ∧ t 8 = .int .i64 i ∧ H' = H ∧ c ∉ b.take i) ?_ (n := b.length) ⟨0, by simp⟩
  rintro n t H' ⟨i, rfl, hi, h0, h1, h2, h3, h4, rfl, hj⟩ ih
  simp [h0, h1, h2, h3, h4, hI.len]
  refine br_dec _ ?_ ?_ <;> intro h5
  · simp [h0, h1, h2, h3, h4, h5, hI.idx, hI.load, getD_get]
    refine br_dec _ ?_ ?_ <;> intro h6 <;> simp [h0, h1, h2, h3, h4, h6]
    · rw [place_at (c := b[i]) h5 (by first | exact hj | (rw [h6]; exact hj) | (rw [← h6]; exact hj)) rfl]
    · refine ih (b.length - (i + 1)) _ _ ⟨i + 1, rfl, by omega, by simp [h0], by simp [h1], by simp [h2], by simp [h3], ?_, rfl, notin_succ h5 hj (by omega)⟩ (by omega)
      simp; rw [w64 (by omega) (by omega)]
  · have : i = b.length := by omega
    subst this
    simp [h0, h1, h2, h3]
    rw [List.take_length] at hj
    rw [place, if_neg hj]
theorem contains_c (v : Value) (b : List Int) (c : Int) (hI : IsI H v b) (hl : b.length ≤ 1073741824) :
   vcall C frz 81 [v, .int .i64 c] H = some (.bool (decide (c ∈ b)), H) := by
  rw [vcall_go (fn := Try.f81) Try.func81 rfl (by kernel_rfl) rfl]
  simp [index_c _ _ _ hI hl, place_range]
theorem l03Has_c (w h : Int) (v : Value) (b : List Int) (c : Int) (hI : IsI H v b) (hl : b.length ≤ 1073741824) :
   vcall C frz 51 [.agg #[.int .i64 w, .int .i64 h, v], .int .i64 c] H = some (.bool (decide (has w h b c)), H) := by
  rw [vcall_go (fn := Try.f51) Try.func51 rfl (by kernel_rfl) rfl]
  simp [hI.one', hI.cells, l03Leads_c]
  refine gd_dec _ _ ?_ ?_ <;> intro h1 <;> simp [h1, find_c _ _ _ (hI.app _) hl, has, -Bool.decide_and]
theorem endOf_c (w h : Int) (v : Value) (b : List Int) (c : Int) (hI : IsI H v b) (h0 : leads w h c) :
   vcall C frz 64 [.agg #[.int .i64 w, .int .i64 h, v], .int .i64 c] H = some (.int .i64 (next w h (c / 4) (c % 4)), H) := by
  rw [vcall_go (fn := Try.f64) Try.func64 rfl (by kernel_rfl) rfl]
  obtain ⟨e1, e2⟩ := chan_div h0.1
  simp [hI.one', hI.cells, e1, e2, nextNode_c]
theorem meshOk_c (w h : Int) (v : Value) (b : List Int) (hI : IsI H v b) (hl : b.length ≤ 1073741824) :
   vcall C frz 60 [.agg #[.int .i64 w, .int .i64 h, v]] H = some (.bool (decide (meshOk w h b)), H) := by
  rw [vcall_go (fn := Try.f60) Try.func60 rfl (by kernel_rfl) rfl]
  simp [hI.one', hI.cells, hI.lenA]
  refine go_inv (fun n t H' => ∃ i : Nat, n = b.length - i ∧ i ≤ b.length ∧ t 1 = .pointer (some ⟨H.length, 0, some 0⟩) ∧ t 6 = v ∧ t 7 = .int .i64 b.length ∧ t 8 = .int .i64 i ∧
      H' = H ++ [⟨[.int .i64 w, .int .i64 h, v], 0, 37⟩] ∧ ∀ j < i, goodAt w h b j) ?_ (n := b.length) ⟨0, by simp⟩
  rintro n t H' ⟨i, rfl, hi, h1, h2, h3, h4, rfl, hj⟩ ih
  have next := fun (t' : Env) (e1 : t' 1 = .pointer (some ⟨H.length, 0, some 0⟩)) (e2 : t' 6 = v) (e3 : t' 7 = .int .i64 b.length) (e4 : t' 8 = .int .i64 (i + 1 : Nat)) (e5 : i < b.length) (e6 : goodAt w h b i) =>
      ih (b.length - (i + 1)) t' _ ⟨i + 1, rfl, by omega, e1, e2, e3, e4, rfl, goodAt_succ hj e6⟩ (by omega)
  simp [h1, h2, h3, h4]
  refine br_dec _ ?_ ?_ <;> intro h5
  · simp [h1, h2, h3, h4, h5, hI.idxA, hI.loadA, getD_get, leads_c]
    refine gd_dec _ _ ?_ ?_ <;> intro hL <;> simp [h1, h2, h3, h4, h5, hL]
    · refine gd_dec _ _ ?_ ?_ <;> intro h0
      · have e : IntKind.i64.wrap ((i : Int) - 1) = ((i - 1 : Nat) : Int) := by rw [w64 (by omega) (by omega)]; omega
        have e' : i - 1 < b.length := by omega
        simp [h1, h2, h3, h4, h5, h0, hL, hI.idxA, hI.loadA, getD_get, e, e']
        refine br_dec _ ?_ ?_ <;> intro h6
        · simp [h1, h2, h3, h4, h5, h0, hL, h6]
          refine goodAt_bad h5 ?_
          rw [goodAt_iff h5]
          exact fun hh => absurd (hh.2 h0) (by omega)
        · simp [h1, h2, h3, h4, h5, h0, hL, h6]
          refine next _ (by simp [h1]) (by simp [h2]) (by simp [h3]) ?_ h5 ((goodAt_iff h5).2 ⟨hL, fun _ => by omega⟩)
          simp; rw [w64 (by omega) (by omega)]
      · simp [h1, h2, h3, h4, h5, h0, hL]
        refine next _ (by simp [h1]) (by simp [h2]) (by simp [h3]) ?_ h5 ((goodAt_iff h5).2 ⟨hL, fun hh => absurd hh h0⟩)
        simp; rw [w64 (by omega) (by omega)]
    · refine goodAt_bad h5 ?_
      rw [goodAt_iff h5]
      exact fun hh => hL hh.1
  · have : i = b.length := by omega
    subst this
    simp [h1, h2, h3, h4, gridOk_c]
    exact ⟨fun hg => ⟨hj, hg⟩, fun hh => hh.2⟩
theorem hasChannel_c (w h : Int) (v : Value) (b : List Int) (c : Int) (hI : IsI H v b) (hl : b.length ≤ 1073741824) :
   vcall C frz 63 [.agg #[.int .i64 w, .int .i64 h, v], .int .i64 c] H = some (.bool (decide (meshOk w h b ∧ has w h b c)), H) := by
  rw [vcall_go (fn := Try.f63) Try.func63 rfl (by kernel_rfl) rfl]
  simp [hI.one', hI.cells, meshOk_c _ _ _ _ (hI.app _) hl]
  refine gd_dec _ _ ?_ ?_ <;> intro h1 <;> simp [h1, leads_c, -Bool.decide_and]
  refine gd_dec _ _ ?_ ?_ <;> intro h2 <;> simp [h2, has, contains_c _ _ _ (hI.app _) hl, -Bool.decide_and]
end Go.Proofs.Ytlbbalmeaedbdaa.V
/-! Tables: the plain walk. -/
set_option linter.all false
namespace Go.Proofs.Ytlbbalmeaedbdaa.V
open Go Go.VM Go.Proofs
set_option maxRecDepth 10000
def portOf (w h : Int) (T : List Int) (a to : Int) : Int := rd T (a * cnt w h + to)
def stepOk (w h : Int) (b T : List Int) (a to : Int) : Prop := inR 0 (portOf w h T a to) 3 ∧ has w h b (4 * a + portOf w h T a to)
instance (w h : Int) (b T : List Int) (a to : Int) : Decidable (stepOk w h b T a to) := inferInstanceAs (Decidable (_ ∧ _))
def walkN (w h : Int) (b T : List Int) (to : Int) : Nat → Int → List Int → List Int
  | 0, a, out => if portOf w h T a to = 4 then (if a = to then out else []) else []
  | f + 1, a, out => if portOf w h T a to = 4 then (if a = to then out else []) else
      if stepOk w h b T a to then walkN w h b T to f (next w h a (portOf w h T a to)) (out ++ [4 * a + portOf w h T a to]) else []
/-- the walk of a table -/
def walk (w h : Int) (b T : List Int) (a to : Int) : List Int := walkN w h b T to (cnt w h).toNat a []
def tsized (w h : Int) (b T : List Int) : Prop := meshOk w h b ∧ (T.length : Int) = cnt w h * cnt w h
instance (w h : Int) (b T : List Int) : Decidable (tsized w h b T) := inferInstanceAs (Decidable (_ ∧ _))
def tableOk (w h : Int) (b T : List Int) : Prop := tsized w h b T ∧ ∀ a, a < (cnt w h).toNat → ∀ c, c < (cnt w h).toNat → (a = c → portOf w h T a a = 4) ∧ (a ≠ c → walk w h b T a c ≠ [])
instance (w h : Int) (b T : List Int) : Decidable (tableOk w h b T) := inferInstanceAs (Decidable (_ ∧ _))
theorem walkN_len (w h : Int) (b T : List Int) (to : Int) : ∀ f a out, (walkN w h b T to f a out).length ≤ out.length + f := by
  intro f
  induction f with
  | zero => intro a out; simp only [walkN]; repeat' split
            all_goals simp
  | succ f ih =>
    intro a out; simp only [walkN]; repeat' split
    · omega
    · simp
    · have := ih (next w h a (portOf w h T a to)) (out ++ [4 * a + portOf w h T a to])
      simp at this; omega
    · simp
theorem nodeAt_isN {w h x y : Int} (hx : 0 ≤ nodeAt w h x y) : isN w h (nodeAt w h x y) := by
  refine ⟨hx, ?_⟩
  unfold nodeAt at hx ⊢
  split
  · rename_i h1
    obtain ⟨h1, h2, h3⟩ := h1
    have hm := mul_small h1
    have c2 : y * w ≤ (h - 1) * w := Int.mul_le_mul_of_nonneg_right (by omega) (by have := h1.1.1; omega)
    rw [Int.sub_mul, Int.mul_comm h w] at c2
    rw [cnt, if_pos h1]
    omega
  · rename_i h1; rw [if_neg h1] at hx; omega
theorem next_isN {w h a p : Int} (hx : 0 ≤ next w h a p) : isN w h (next w h a p) := by
  unfold next at hx ⊢
  by_cases h1 : isN w h a
  · rw [if_pos h1] at hx ⊢
    by_cases p0 : p = 0
    · rw [if_pos p0] at hx ⊢; exact nodeAt_isN hx
    rw [if_neg p0] at hx ⊢
    by_cases p1 : p = 1
    · rw [if_pos p1] at hx ⊢; exact nodeAt_isN hx
    rw [if_neg p1] at hx ⊢
    by_cases p2 : p = 2
    · rw [if_pos p2] at hx ⊢; exact nodeAt_isN hx
    rw [if_neg p2] at hx ⊢
    by_cases p3 : p = 3
    · rw [if_pos p3] at hx ⊢; exact nodeAt_isN hx
    rw [if_neg p3] at hx ⊢
    by_cases p4 : p = 4
    · rw [if_pos p4] at hx ⊢; exact h1
    rw [if_neg p4] at hx; omega
  · rw [if_neg h1] at hx; omega
theorem step_next {w h a p : Int} {b : List Int} (h0 : inR 0 p 3) (h1 : has w h b (4 * a + p)) : (4 * a + p) / 4 = a ∧ (4 * a + p) % 4 = p ∧ isN w h (next w h a p) := by
  obtain ⟨h2, h3⟩ := h0
  have e1 : (4 * a + p) / 4 = a := by omega
  have e2 : (4 * a + p) % 4 = p := by omega
  refine ⟨e1, e2, next_isN ?_⟩
  have := h1.1.2
  rwa [e1, e2] at this
theorem at_small {w h a to : Int} (h1 : isN w h a) (h2 : isN w h to) : 0 ≤ a * cnt w h + to ∧ a * cnt w h + to < cnt w h * cnt w h ∧ a * cnt w h ≤ 256 ∧ 0 ≤ a * cnt w h := by
  have hc := cnt_range w h
  obtain ⟨a1, a2⟩ := h1
  obtain ⟨b1, b2⟩ := h2
  have c1 : 0 * 0 ≤ a * cnt w h := Int.mul_le_mul a1 hc.1 (by omega) (by omega)
  have c2 : a * cnt w h ≤ (cnt w h - 1) * cnt w h := Int.mul_le_mul_of_nonneg_right (by omega) hc.1
  rw [Int.sub_mul] at c2
  have c3 : cnt w h * cnt w h ≤ 16 * 16 := Int.mul_le_mul hc.2 hc.2 hc.1 (by omega)
  omega
theorem rd_get {T : List Int} {k : Int} (h0 : 0 ≤ k) (h1 : k < T.length) : T.getD k.toNat 0 = rd T k := rfl
end Go.Proofs.Ytlbbalmeaedbdaa.V
/-! Trees: the plain side. -/
set_option linter.all false
namespace Go.Proofs.Ytlbbalmeaedbdaa.V
open Go Go.VM
theorem rd_at {s : List Int} {j : Nat} (h : j < s.length) : rd s (j : Int) = s[j] := by simp [rd, List.getD_eq_getElem?_getD, h]
theorem rd_mem {s : List Int} {k : Int} (h0 : 0 ≤ k) (h1 : k < s.length) : rd s k ∈ s := by
  obtain ⟨i, rfl⟩ := Int.eq_ofNat_of_zero_le h0
  rw [rd_at (by omega)]; exact List.getElem_mem _
theorem meshOk_iff (w h : Int) (b : List Int) : meshOk w h b ↔ okG w h ∧ (∀ c ∈ b, leads w h c) ∧ b.Pairwise (· < ·) := by
  have e : ∀ j, j < b.length → b.getD j 0 = rd b (j : Int) := fun j _ => by simp [rd]
  constructor
  · rintro ⟨h1, h2⟩
    refine ⟨h2, fun c hc => ?_, ?_⟩
    · obtain ⟨j, hj, rfl⟩ := List.getElem_of_mem hc
      have := (h1 j hj).1
      rwa [getD_get _ _ hj] at this
    · rw [List.pairwise_iff_getElem]
      intro i j hi hj hij
      induction j with
      | zero => omega
      | succ j ih =>
        have := (h1 (j + 1) hj).2 (by omega)
        rw [getD_get _ _ hj, Nat.add_sub_cancel, getD_get _ _ (by omega)] at this
        by_cases h3 : i = j
        · subst h3; exact this
        · exact Int.lt_trans (ih (by omega) (by omega)) this
  · rintro ⟨h1, h2, h3⟩
    refine ⟨fun j hj => ⟨by rw [getD_get _ _ hj]; exact h2 _ (List.getElem_mem hj), fun h0 => ?_⟩, h1⟩
    rw [getD_get _ _ hj, getD_get _ _ (by omega)]
    exact List.pairwise_iff_getElem.1 h3 _ _ _ _ (by omega)
def endC (w h c : Int) : Int := next w h (c / 4) (c % 4)
def backC (w h c : Int) : Int := 4 * endC w h c + opp (c % 4)
def link (w h : Int) (b : List Int) (c : Int) : Prop := has w h b c ∧ has w h b (backC w h c)
instance (w h : Int) (b : List Int) (c : Int) : Decidable (link w h b c) := inferInstanceAs (Decidable (_ ∧ _))
theorem asc_length {n : Nat} : ∀ {b : List Int}, b.Pairwise (· < ·) → (∀ c ∈ b, 0 ≤ c ∧ c < (n : Int)) → b.length ≤ n := by
  intro b hb hc
  have key : ∀ (b : List Int) (lo : Int), b.Pairwise (· < ·) → (∀ c ∈ b, lo ≤ c ∧ c < (n : Int)) → 0 ≤ lo → (b.length : Int) ≤ max 0 (n - lo) := by
    intro b
    induction b with
    | nil => intro lo _ _ _; simp; omega
    | cons a l ih =>
      intro lo hp hm h0
      have h1 := hm a (by simp)
      have h2 := ih (a + 1) (List.pairwise_cons.1 hp).2 (fun c hc => ⟨by have := (List.pairwise_cons.1 hp).1 c hc; omega, (hm c (by simp [hc])).2⟩) (by omega)
      simp; omega
  have := key b 0 hb (fun c h => ⟨(hc c h).1, (hc c h).2⟩) (by omega)
  omega
def neg (s : List Int) : Nat := s.countP (· < 0)
theorem rd_set {s : List Int} {k x v : Int} (h0 : 0 ≤ k) (h1 : k < s.length) (hx : 0 ≤ x) : rd (s.set k.toNat v) x = if x = k then v else rd s x := by
  obtain ⟨i, rfl⟩ := Int.eq_ofNat_of_zero_le h0
  obtain ⟨j, rfl⟩ := Int.eq_ofNat_of_zero_le hx
  simp only [Int.toNat_natCast]
  by_cases hj : j < s.length
  · rw [rd_at (by simpa using hj), rd_at hj, List.getElem_set]
    by_cases e : i = j
    · subst e; simp
    · rw [if_neg e, if_neg (by omega)]
  · rw [if_neg (by omega)]
    simp [rd, hj]
theorem rd_neg_lt {s : List Int} {x : Int} (h0 : 0 ≤ x) (h : rd s x < 0) : x < s.length := by
  obtain ⟨j, rfl⟩ := Int.eq_ofNat_of_zero_le h0
  by_cases hj : j < s.length
  · omega
  · simp [rd, hj] at h
theorem neg_set {s : List Int} {k v : Int} (h0 : 0 ≤ k) (h1 : k < s.length) (h : rd s k < 0) (hv : 0 ≤ v) : neg (s.set k.toNat v) + 1 = neg s := by
  obtain ⟨i, rfl⟩ := Int.eq_ofNat_of_zero_le h0
  have hi : i < s.length := by omega
  rw [rd_at hi] at h
  unfold neg
  rw [Int.toNat_natCast, List.countP_set hi]
  have : 0 < s.countP (· < 0) := List.countP_pos_iff.2 ⟨_, List.getElem_mem hi, by simpa using h⟩
  rw [if_pos (by simpa using h), if_neg (by simp; omega)]
  omega
def vst (w h : Int) (b : List Int) (a d : Int) (x : List Int × List Int) (p : Nat) : List Int × List Int :=
  if link w h b (4 * a + p) ∧ rd x.1 (next w h a p) < 0 then (x.1.set (next w h a p).toNat d, x.2 ++ [next w h a p]) else x
def vis (w h : Int) (b : List Int) (a d : Int) (x : List Int × List Int) : List Int × List Int := (List.range 4).foldl (vst w h b a d) x
theorem link_next {w h : Int} {b : List Int} {a : Int} {p : Nat} (hp : p < 4) (h1 : link w h b (4 * a + p)) : isN w h a ∧ isN w h (next w h a p) ∧ endC w h (4 * a + p) = next w h a p := by
  obtain ⟨⟨⟨h2, h3⟩, _⟩, _⟩ := h1
  have e1 : (4 * a + (p : Int)) / 4 = a := by omega
  have e2 : (4 * a + (p : Int)) % 4 = p := by omega
  unfold endC
  rw [e1, e2] at h3 ⊢
  exact ⟨⟨by omega, by omega⟩, next_isN h3, rfl⟩
structure BExt (w h : Int) (d : Int) (x y : List Int × List Int) : Prop where
  len : y.1.length = x.1.length
  old : ∀ v, 0 ≤ v → 0 ≤ rd x.1 v → rd y.1 v = rd x.1 v
  new : ∀ v ∈ y.2, v ∈ x.2 ∨ (isN w h v ∧ rd y.1 v = d)
  sum : neg y.1 + y.2.length = neg x.1 + x.2.length
  pre : ∀ v ∈ x.2, v ∈ y.2
  low : (∀ v ∈ x.1, -1 ≤ v ∧ v ≤ d) → ∀ v ∈ y.1, -1 ≤ v ∧ v ≤ d
theorem BExt.rfl' {w h d : Int} {x : List Int × List Int} : BExt w h d x x := ⟨rfl, fun _ _ _ => rfl, fun _ h => .inl h, rfl, fun _ h => h, fun h => h⟩
theorem BExt.trans {w h d : Int} {x y z : List Int × List Int} (hd : 0 ≤ d) (a : BExt w h d x y) (b : BExt w h d y z) : BExt w h d x z where
  len := b.len.trans a.len
  old v h0 h1 := by
    have e := a.old v h0 h1
    rw [b.old v h0 (by omega), e]
  new v hv := by
    rcases b.new v hv with h1 | h1
    · rcases a.new v h1 with h2 | ⟨h2, h3⟩
      · exact .inl h2
      · exact .inr ⟨h2, by rw [b.old v h2.1 (by omega), h3]⟩
    · exact .inr h1
  sum := b.sum.trans a.sum
  pre v h := b.pre v (a.pre v h)
  low h := b.low (a.low h)
theorem vst_ext {w h : Int} {b : List Int} {a d : Int} {x : List Int × List Int} {p : Nat} (hp : p < 4) (hd : 0 ≤ d) : BExt w h d x (vst w h b a d x p) := by
  unfold vst
  by_cases hc : link w h b (4 * a + p) ∧ rd x.1 (next w h a p) < 0
  · rw [if_pos hc]
    obtain ⟨h1, h2, h3⟩ := link_next hp hc.1
    have h4 := rd_neg_lt h2.1 hc.2
    have := neg_set h2.1 h4 hc.2 hd
    refine ⟨by simp, fun v h0 h5 => ?_, fun v hv => ?_, by simp; omega, fun v hv => by simp [hv], fun hl v hv => ?_⟩
    · simp only
      rw [rd_set h2.1 h4 h0, if_neg (by intro e; subst e; omega)]
    · simp only [List.mem_append, List.mem_singleton] at hv
      rcases hv with hv | rfl
      · exact .inl hv
      · exact .inr ⟨h2, by simp only; rw [rd_set h2.1 h4 h2.1, if_pos rfl]⟩
    · rcases List.mem_or_eq_of_mem_set hv with h6 | rfl
      · exact hl v h6
      · omega
  · rw [if_neg hc]; exact BExt.rfl'
theorem foldl_ext {w h : Int} {b : List Int} {a d : Int} (hd : 0 ≤ d) : ∀ (l : List Nat) (x : List Int × List Int), (∀ p ∈ l, p < 4) → BExt w h d x (l.foldl (vst w h b a d) x)
  | [], x, _ => BExt.rfl'
  | p :: l, x, hp => (vst_ext (hp p (by simp)) hd).trans hd (foldl_ext hd l _ (fun q hq => hp q (by simp [hq])))
theorem vis_ext {w h : Int} {b : List Int} {a d : Int} (hd : 0 ≤ d) (x : List Int × List Int) : BExt w h d x (vis w h b a d x) := foldl_ext hd _ _ (by simp)
theorem vst_app {w h : Int} {b : List Int} {a d : Int} (s q q' : List Int) (p : Nat) : vst w h b a d (s, q ++ q') p = ((vst w h b a d (s, q') p).1, q ++ (vst w h b a d (s, q') p).2) := by
  unfold vst
  simp only
  split <;> simp
theorem foldl_app {w h : Int} {b : List Int} {a d : Int} (q : List Int) : ∀ (l : List Nat) (s q' : List Int), l.foldl (vst w h b a d) (s, q ++ q') = ((l.foldl (vst w h b a d) (s, q')).1, q ++ (l.foldl (vst w h b a d) (s, q')).2)
  | [], s, q' => rfl
  | p :: l, s, q' => by
    rw [List.foldl_cons, List.foldl_cons, vst_app]
    exact foldl_app q l _ _
theorem vis_app {w h : Int} {b : List Int} {a d : Int} (q s q' : List Int) : vis w h b a d (s, q ++ q') = ((vis w h b a d (s, q')).1, q ++ (vis w h b a d (s, q')).2) := foldl_app q _ _ _
inductive Run (w h : Int) (b : List Int) : List Int → List Int → List Int → Int → List Int → Prop
  | done (s : List Int) (d : Int) : Run w h b s [] [] d s
  | level {s : List Int} {x : Int} {nx : List Int} {d : Int} {r : List Int} : Run w h b s (x :: nx) [] (d + 1) r → Run w h b s [] (x :: nx) d r
  | node {s : List Int} {a : Int} {rest nx : List Int} {d : Int} {r : List Int} : Run w h b (vis w h b a d (s, nx)).1 rest (vis w h b a d (s, nx)).2 d r → Run w h b s (a :: rest) nx d r
structure Inv (w h : Int) (s rest nx : List Int) (d : Int) : Prop where
  len : (s.length : Int) = cnt w h
  fr : ∀ v ∈ rest, isN w h v ∧ rd s v = d - 1
  nw : ∀ v ∈ nx, isN w h v ∧ rd s v = d
  one : 1 ≤ d
  sum : d + neg s + nx.length ≤ cnt w h
  low : ∀ v ∈ s, -1 ≤ v ∧ v ≤ d
theorem Inv.level {w h : Int} {s nx : List Int} {x d : Int} (i : Inv w h s [] (x :: nx) d) : Inv w h s (x :: nx) [] (d + 1) :=
  ⟨i.len, fun v hv => ⟨(i.nw v hv).1, by have := (i.nw v hv).2; omega⟩, by simp, by have := i.one; omega, by have := i.sum; simp at this ⊢; omega, fun v hv => by have := i.low v hv; omega⟩
theorem Inv.node {w h : Int} {b s rest nx : List Int} {a d : Int} (i : Inv w h s (a :: rest) nx d) : Inv w h (vis w h b a d (s, nx)).1 rest (vis w h b a d (s, nx)).2 d := by
  have h1 := i.one
  have e := vis_ext (w := w) (h := h) (b := b) (a := a) (d := d) (by omega) (s, nx)
  refine ⟨by rw [e.len]; exact i.len, fun v hv => ?_, fun v hv => ?_, h1, ?_, e.low i.low⟩
  · obtain ⟨h2, h3⟩ := i.fr v (by simp [hv])
    exact ⟨h2, by rw [e.old v h2.1 (by simp only; omega)]; exact h3⟩
  · rcases e.new v hv with h2 | h2
    · obtain ⟨h3, h4⟩ := i.nw v h2
      exact ⟨h3, by rw [e.old v h3.1 (by simp only; omega)]; exact h4⟩
    · exact h2
  · have := e.sum; have := i.sum; simp only at *; omega
theorem run_ex {w h : Int} {b : List Int} : ∀ (m : Nat) (s rest nx : List Int) (d : Int), 3 * neg s + 2 * nx.length + rest.length ≤ m → Inv w h s rest nx d → ∃ r, Run w h b s rest nx d r := by
  intro m
  induction m with
  | zero =>
    intro s rest nx d hm i
    cases rest with
    | nil => cases nx with
      | nil => exact ⟨s, .done s d⟩
      | cons x nx => simp at hm
    | cons a rest => simp at hm
  | succ m ih =>
    intro s rest nx d hm i
    cases rest with
    | nil => cases nx with
      | nil => exact ⟨s, .done s d⟩
      | cons x nx =>
        obtain ⟨r, hr⟩ := ih s (x :: nx) [] (d + 1) (by simp at hm ⊢; omega) i.level
        exact ⟨r, .level hr⟩
    | cons a rest =>
      have e := (vis_ext (w := w) (h := h) (b := b) (a := a) (d := d) (by have := i.one; omega) (s, nx)).sum
      have e2 := (vis_ext (w := w) (h := h) (b := b) (a := a) (d := d) (by have := i.one; omega) (s, nx))
      have h1 : nx.length ≤ (vis w h b a d (s, nx)).2.length := by
        have := vis_app (w := w) (h := h) (b := b) (a := a) (d := d) nx s []
        rw [List.append_nil] at this; rw [this]; simp
      simp only at e
      obtain ⟨r, hr⟩ := ih (vis w h b a d (s, nx)).1 rest (vis w h b a d (s, nx)).2 d (by simp at hm; omega) i.node
      exact ⟨r, .node hr⟩
def start (w h root : Int) : List Int := (List.replicate (cnt w h).toNat (-1)).set root.toNat 0
theorem start_inv {w h root : Int} (hr : isN w h root) : Inv w h (start w h root) [root] [] 1 ∧ ((neg (start w h root) : Nat) : Int) + 1 = cnt w h := by
  have hc := cnt_range w h
  have hl : root < ((List.replicate (cnt w h).toNat (-1 : Int)).length : Int) := by have := hr.2; simp; omega
  have h0 : rd (List.replicate (cnt w h).toNat (-1 : Int)) root = -1 := by
    have := rd_mem hr.1 hl
    exact List.eq_of_mem_replicate this
  have h1 := neg_set (v := 0) hr.1 hl (by omega) (by omega)
  have h2 : neg (List.replicate (cnt w h).toNat (-1 : Int)) = (cnt w h).toNat := by unfold neg; simp [List.countP_replicate]
  rw [h2] at h1
  have h3 : ((neg (start w h root) : Nat) : Int) + 1 = cnt w h := by unfold start; omega
  refine ⟨⟨by unfold start; simp; omega, fun v hv => ?_, by simp, by omega, by simp; omega, fun v hv => ?_⟩, h3⟩
  · simp only [List.mem_singleton] at hv
    subst hv
    refine ⟨hr, ?_⟩
    unfold start; rw [rd_set hr.1 hl hr.1, if_pos rfl]; omega
  · rcases List.mem_or_eq_of_mem_set hv with h6 | rfl
    · have := List.eq_of_mem_replicate h6; omega
    · omega
theorem Run.inv {w h : Int} {b s rest nx : List Int} {d : Int} {r : List Int} (R : Run w h b s rest nx d r) : Inv w h s rest nx d → ∃ d', Inv w h r [] [] d' := by
  induction R with
  | done s d => exact fun i => ⟨d, i⟩
  | level _ ih => exact fun i => ih i.level
  | node _ ih => exact fun i => ih i.node
def rootOk (w h : Int) (b : List Int) (root : Int) : Prop := meshOk w h b ∧ isN w h root
instance (w h : Int) (b : List Int) (root : Int) : Decidable (rootOk w h b root) := inferInstanceAs (Decidable (_ ∧ _))
theorem run_start {w h : Int} (b : List Int) {root : Int} (hr : isN w h root) : ∃ r, Run w h b (start w h root) [root] [] 1 r := run_ex _ _ _ _ _ (Nat.le_refl _) (start_inv hr).1
noncomputable def depths (w h : Int) (b : List Int) (root : Int) : List Int := if H : rootOk w h b root then Classical.choose (run_start b H.2) else []
theorem depths_run {w h : Int} {b : List Int} {root : Int} (H : rootOk w h b root) : Run w h b (start w h root) [root] [] 1 (depths w h b root) := by
  unfold depths; rw [dif_pos H]; exact Classical.choose_spec (run_start b H.2)
theorem depths_no {w h : Int} {b : List Int} {root : Int} (H : ¬ rootOk w h b root) : depths w h b root = [] := dif_neg H
theorem depths_inv {w h : Int} {b : List Int} {root : Int} (H : rootOk w h b root) : (((depths w h b root).length : Nat) : Int) = cnt w h ∧ ∀ v ∈ depths w h b root, -1 ≤ v ∧ v ≤ 16 := by
  obtain ⟨d, i⟩ := (depths_run H).inv (start_inv H.2).1
  have hc := cnt_range w h
  refine ⟨i.len, fun v hv => ?_⟩
  have := i.low v hv; have := i.sum; omega
theorem depths_length (w h : Int) (b : List Int) (root : Int) : (depths w h b root).length ≤ 16 := by
  have hc := cnt_range w h
  by_cases H : rootOk w h b root
  · have := (depths_inv H).1; omega
  · rw [depths_no H]; simp
theorem depths_mem {w h : Int} {b : List Int} {root : Int} {v : Int} (hv : v ∈ depths w h b root) : -1 ≤ v ∧ v ≤ 16 := by
  by_cases H : rootOk w h b root
  · exact (depths_inv H).2 v hv
  · rw [depths_no H] at hv; simp at hv
theorem okG_isN {w h : Int} (h1 : okG w h) : isN w h 0 := by
  have := mul_small h1
  refine ⟨by omega, ?_⟩
  unfold cnt; rw [if_pos h1]; omega
def conn (w h : Int) (b : List Int) : Prop := meshOk w h b ∧ -1 ∉ depths w h b 0
noncomputable instance (w h : Int) (b : List Int) : Decidable (conn w h b) := inferInstanceAs (Decidable (_ ∧ _))
noncomputable def depthOf (w h : Int) (b : List Int) (root : Int) : Int := (depths w h b root).foldl max (-1)
noncomputable def better (w h : Int) (b : List Int) (best : Int) (root : Nat) : Int := if depthOf w h b (root : Int) < depthOf w h b best then (root : Int) else best
noncomputable def bestRoot (w h : Int) (b : List Int) : Int := if conn w h b then (List.range (cnt w h).toNat).foldl (better w h b) 0 else -1
theorem better_range {w h : Int} {b : List Int} {best : Int} {root : Nat} (h0 : 0 ≤ best) : 0 ≤ better w h b best root := by
  unfold better; split <;> omega
def toRoot (w h : Int) (b d : List Int) (i : Int) (p : Nat) : Prop := link w h b (4 * i + p) ∧ rd d (next w h i p) = rd d i - 1
instance (w h : Int) (b d : List Int) (i : Int) (p : Nat) : Decidable (toRoot w h b d i p) := inferInstanceAs (Decidable (_ ∧ _))
def par (w h : Int) (b d : List Int) (i : Int) : Int :=
  if rd d i > 0 then
    (if toRoot w h b d i 0 then next w h i (0 : Nat) else if toRoot w h b d i 1 then next w h i (1 : Nat) else if toRoot w h b d i 2 then next w h i (2 : Nat) else if toRoot w h b d i 3 then next w h i (3 : Nat) else -1)
  else -1
def pars (w h : Int) (b d : List Int) : List Int := (List.range d.length).map fun i : Nat => par w h b d (i : Int)
noncomputable def parents (w h : Int) (b : List Int) (root : Int) : List Int := pars w h b (depths w h b root)
theorem parents_length (w h : Int) (b : List Int) (root : Int) : (parents w h b root).length = (depths w h b root).length := by simp [parents, pars]
def Hi (d : Int) (x : List Int × List Int) : Prop := ∀ v ∈ x.1, v < d ∨ (v = d ∧ x.2 ≠ [])
theorem vst_hi {w h : Int} {b : List Int} {a d : Int} {x : List Int × List Int} {p : Nat} (hx : Hi d x) : Hi d (vst w h b a d x p) := by
  unfold vst
  split
  · intro v hv
    rcases List.mem_or_eq_of_mem_set hv with h6 | rfl
    · rcases hx v h6 with h7 | h7
      · exact .inl h7
      · exact .inr ⟨h7.1, by simp⟩
    · exact .inr ⟨rfl, by simp⟩
  · exact hx
theorem foldl_hi {w h : Int} {b : List Int} {a d : Int} : ∀ (l : List Nat) (x : List Int × List Int), Hi d x → Hi d (l.foldl (vst w h b a d) x)
  | [], x, hx => hx
  | p :: l, x, hx => foldl_hi l _ (vst_hi hx)
theorem Run.hi {w h : Int} {b s rest nx : List Int} {d : Int} {r : List Int} (R : Run w h b s rest nx d r) : Inv w h s rest nx d → Hi d (s, nx) → ∀ v ∈ r, v < cnt w h := by
  induction R with
  | done s d =>
    intro i hh v hv
    rcases hh v hv with h1 | h1
    · have := i.sum; simp at this; omega
    · exact absurd rfl h1.2
  | level _ ih =>
    exact fun i hh => ih i.level (fun v hv => by rcases hh v hv with h1 | h1 <;> exact .inl (by omega))
  | node _ ih => exact fun i hh => ih i.node (foldl_hi _ _ hh)
theorem depths_lt {w h : Int} {b : List Int} {root : Int} (H : rootOk w h b root) : ∀ v ∈ depths w h b root, v < cnt w h := by
  refine (depths_run H).hi (start_inv H.2).1 (fun v hv => ?_)
  have := (start_inv H.2).1.low v hv
  rcases List.mem_or_eq_of_mem_set hv with h6 | rfl
  · have := List.eq_of_mem_replicate h6; exact .inl (by omega)
  · exact .inl (by omega)
theorem par_cases (w h : Int) (b d : List Int) (i : Int) : par w h b d i = -1 ∨ ∃ p : Nat, p < 4 ∧ par w h b d i = next w h i p ∧ toRoot w h b d i p ∧ rd d i > 0 := by
  unfold par
  by_cases h0 : rd d i > 0
  · rw [if_pos h0]
    by_cases e0 : toRoot w h b d i 0
    · rw [if_pos e0]; exact .inr ⟨0, by omega, rfl, e0, h0⟩
    rw [if_neg e0]
    by_cases e1 : toRoot w h b d i 1
    · rw [if_pos e1]; exact .inr ⟨1, by omega, rfl, e1, h0⟩
    rw [if_neg e1]
    by_cases e2 : toRoot w h b d i 2
    · rw [if_pos e2]; exact .inr ⟨2, by omega, rfl, e2, h0⟩
    rw [if_neg e2]
    by_cases e3 : toRoot w h b d i 3
    · rw [if_pos e3]; exact .inr ⟨3, by omega, rfl, e3, h0⟩
    rw [if_neg e3]; exact .inl rfl
  · rw [if_neg h0]; exact .inl rfl
def Tree (t : List Int) (m : Int → Int) : Prop := ∀ i : Int, 0 ≤ i → i < t.length → m i < t.length ∧ (rd t i = -1 ∨ (0 ≤ rd t i ∧ rd t i < t.length ∧ 0 ≤ m (rd t i) ∧ m (rd t i) + 1 = m i))
theorem parents_tree {w h : Int} {b : List Int} {root : Int} (H : rootOk w h b root) : Tree (parents w h b root) (rd (depths w h b root)) := by
  have hl := parents_length w h b root
  obtain ⟨hc, _⟩ := depths_inv H
  intro i h0 h1
  have h2 : i < ((depths w h b root).length : Int) := by omega
  refine ⟨by have := depths_lt H _ (rd_mem h0 h2); omega, ?_⟩
  have e : rd (parents w h b root) i = par w h b (depths w h b root) i := by
    obtain ⟨j, rfl⟩ := Int.eq_ofNat_of_zero_le h0
    rw [rd_at (by omega)]; simp [parents, pars]
  rw [e]
  rcases par_cases w h b (depths w h b root) i with h3 | ⟨p, hp, h3, h4, h5⟩
  · exact .inl h3
  · obtain ⟨_, hn, _⟩ := link_next hp h4.1
    rw [h3]
    refine .inr ⟨hn.1, by have := hn.2; omega, ?_, ?_⟩
    · have := h4.2; omega
    · have := h4.2; omega

def inP (P : List Int) (a : Int) : Prop := 0 ≤ a ∧ a < P.length
instance (P : List Int) (a : Int) : Decidable (inP P a) := inferInstanceAs (Decidable (_ ∧ _))
@[simp] theorem inP_m1 (P : List Int) : inP P (-1) = False := by simp [inP]
def ancN (P : List Int) : Nat → Int → List Int → List Int
  | 0, a, out => if inP P a then [] else if a = -1 ∧ out ≠ [] then out else []
  | f + 1, a, out => if inP P a then ancN P f (rd P a) (out ++ [a]) else if a = -1 ∧ out ≠ [] then out else []
def anc (P : List Int) (a : Int) : List Int := ancN P P.length a []
theorem ancN_len (P : List Int) : ∀ f a out, (ancN P f a out).length ≤ out.length + f := by
  intro f
  induction f with
  | zero => intro a out; unfold ancN; repeat' split
            all_goals simp
  | succ f ih =>
    intro a out; unfold ancN; split
    · have := ih (rd P a) (out ++ [a]); simp at this; omega
    · split <;> simp
theorem anc_len (P : List Int) (a : Int) : (anc P a).length ≤ P.length := by have := ancN_len P P.length a []; simpa [anc] using this
theorem ancN_in (P : List Int) : ∀ f a out, (∀ x ∈ out, inP P x) → ∀ x ∈ ancN P f a out, inP P x := by
  intro f
  induction f with
  | zero => intro a out ho x hx; unfold ancN at hx; repeat' split at hx
            all_goals first | exact ho x hx | (simp at hx)
  | succ f ih =>
    intro a out ho x hx; unfold ancN at hx; split at hx
    · rename_i h1
      exact ih _ _ (fun y hy => by rcases List.mem_append.1 hy with hy | hy; exact ho y hy; rw [List.mem_singleton.1 hy]; exact h1) x hx
    · split at hx
      · exact ho x hx
      · simp at hx
theorem anc_in {P : List Int} {a x : Int} (h : x ∈ anc P a) : inP P x := ancN_in P P.length a [] (by simp) x h
def common (P : List Int) (a b : Int) : Int := ((anc P a).find? (fun x => decide (x ∈ anc P b))).getD (-1)
theorem common_no {P : List Int} {a b : Int} (h : ∀ x ∈ anc P a, x ∉ anc P b) : common P a b = -1 := by
  unfold common
  rw [List.find?_eq_none.2 (by simpa using h)]; rfl
theorem common_mem {P : List Int} {a b : Int} (h : 0 ≤ common P a b) : common P a b ∈ anc P a ∧ common P a b ∈ anc P b := by
  unfold common at h ⊢
  cases hf : (anc P a).find? (fun x => decide (x ∈ anc P b)) with
  | none => rw [hf] at h; simp at h
  | some u =>
    have h1 := List.mem_of_find?_eq_some hf
    have h2 := List.find?_some hf
    exact ⟨h1, by simpa using h2⟩
/-- the nodes of the way through the tree -/
def treeNodes (P : List Int) (a b : Int) : List Int :=
  if common P a b < 0 then [] else (anc P a).take ((anc P a).idxOf (common P a b) + 1) ++ ((anc P b).take ((anc P b).idxOf (common P a b))).reverse
theorem find_at {l : List Int} {q : Int → Bool} {j : Nat} (h : j < l.length) (hq : ∀ x ∈ l.take j, q x = false) (hx : q l[j] = true) : l.find? q = some l[j] := by
  have e : l = l.take j ++ (l[j] :: l.drop (j + 1)) := by rw [← List.drop_eq_getElem_cons h, List.take_append_drop]
  have e2 := congrArg (List.find? q) e
  rw [e2, List.find?_append, List.find?_eq_none.2 (by simpa using hq), List.find?_cons_of_pos hx]; rfl
def chain (t : List Int) : Nat → Int → List Int
  | 0, _ => []
  | k + 1, v => if inP t v then v :: chain t k (rd t v) else []
def Ends (t : List Int) : Nat → Int → Prop
  | 0, v => v = -1
  | k + 1, v => v = -1 ∨ (inP t v ∧ Ends t k (rd t v))
theorem Tree.ends {t : List Int} {m : Int → Int} (T : Tree t m) : ∀ (k : Nat) (v : Int), 0 ≤ v → v < t.length → m v < k → (0 ≤ m v ∨ 0 < k) → Ends t k v := by
  intro k
  induction k with
  | zero => intro v h0 h1 h2 h3; omega
  | succ k ih =>
    intro v h0 h1 h2 _
    refine .inr ⟨⟨h0, h1⟩, ?_⟩
    rcases (T v h0 h1).2 with h3 | ⟨h3, h4, h5, h6⟩
    · rw [h3]; cases k <;> simp [Ends]
    · exact ih _ h3 h4 (by omega) (.inl h5)
theorem ancN_chain {t : List Int} : ∀ (k : Nat) (v : Int) (out : List Int), Ends t k v → (out ≠ [] ∨ (0 ≤ v ∧ v < t.length)) → ancN t k v out = out ++ chain t k v := by
  intro k
  induction k with
  | zero =>
    intro v out he ho
    have he : v = -1 := he
    subst he
    have ho : out ≠ [] := ho.resolve_right (by omega)
    simp [ancN, chain, ho]
  | succ k ih =>
    intro v out he ho
    rcases he with rfl | ⟨h1, h2⟩
    · have ho : out ≠ [] := ho.resolve_right (by omega)
      simp [ancN, chain, ho]
    · simp only [ancN, chain]
      rw [if_pos h1, if_pos h1, ih _ _ h2 (.inl (by simp))]
      simp
theorem chain_any {t : List Int} : ∀ (k k' : Nat) (v : Int), Ends t k v → Ends t k' v → chain t k v = chain t k' v := by
  intro k
  induction k with
  | zero =>
    intro k' v h1 h2
    have h1 : v = -1 := h1
    subst h1
    cases k' with
    | zero => rfl
    | succ k' => simp [chain]
  | succ k ih =>
    intro k' v h1 h2
    cases k' with
    | zero => have h2 : v = -1 := h2
              subst h2; simp [chain]
    | succ k' =>
      rcases h1 with rfl | ⟨h1, h3⟩
      · simp [chain]
      · rcases h2 with rfl | ⟨_, h4⟩
        · simp at h1
        · simp only [chain]; rw [if_pos h1, if_pos h1, ih _ _ h3 h4]
theorem anc_cons {t : List Int} {m : Int → Int} (T : Tree t m) {v : Int} (h0 : 0 ≤ v) (h1 : v < t.length) : anc t v = v :: (if rd t v = -1 then [] else anc t (rd t v)) := by
  have hE : ∀ u : Int, 0 ≤ u → u < t.length → Ends t t.length u := fun u a b => T.ends t.length u a b (T u a b).1 (.inr (by omega))
  have e : ∀ u : Int, 0 ≤ u → u < t.length → anc t u = chain t t.length u := fun u a b => by
    have := ancN_chain t.length u [] (hE u a b) (.inr ⟨a, b⟩); simpa [anc] using this
  rw [e v h0 h1]
  obtain ⟨n, hn⟩ : ∃ n, t.length = n + 1 := ⟨t.length - 1, by omega⟩
  have h2 := hE v h0 h1
  rw [hn] at h2 ⊢
  rcases h2 with h2 | ⟨_, h3⟩
  · omega
  simp only [chain]
  rw [if_pos (show inP t v from ⟨h0, h1⟩)]
  rcases (T v h0 h1).2 with h4 | ⟨h4, h5, _, _⟩
  · rw [if_pos h4, h4]; cases n <;> simp [chain]
  · rw [if_neg (by omega), e _ h4 h5, chain_any n t.length _ h3 (hE _ h4 h5)]
theorem anc_suffix {t : List Int} {m : Int → Int} (T : Tree t m) : ∀ (n : Nat) (v : Int), 0 ≤ v → v < t.length → m v < n → ∀ u ∈ anc t v, (0 ≤ u ∧ u < t.length) ∧ ∃ l, anc t v = l ++ anc t u ∧ ∀ x ∈ l, m u < m x := by
  intro n
  induction n with
  | zero =>
    intro v h0 h1 h2 u hu
    rw [anc_cons T h0 h1] at hu ⊢
    rcases (T v h0 h1).2 with h4 | ⟨h4, h5, h6, h7⟩
    · rw [if_pos h4] at hu ⊢
      simp only [List.mem_singleton] at hu; subst hu
      refine ⟨⟨h0, h1⟩, [], ?_, by simp⟩
      rw [anc_cons T h0 h1, if_pos h4]; rfl
    · omega
  | succ n ih =>
    intro v h0 h1 h2 u hu
    rcases (T v h0 h1).2 with h4 | ⟨h4, h5, h6, h7⟩
    · have e := anc_cons T h0 h1
      rw [if_pos h4] at e
      rw [e] at hu
      simp only [List.mem_singleton] at hu; subst hu
      exact ⟨⟨h0, h1⟩, [], rfl, by simp⟩
    · have e := anc_cons T h0 h1
      rw [if_neg (by omega)] at e
      rw [e] at hu
      rcases List.mem_cons.1 hu with rfl | hu
      · exact ⟨⟨h0, h1⟩, [], rfl, by simp⟩
      · obtain ⟨hb, l, e1, hx⟩ := ih _ h4 h5 (by omega) u hu
        refine ⟨hb, v :: l, by rw [e, e1]; rfl, fun x hx' => ?_⟩
        have hle : m u ≤ m (rd t v) := by
          cases l with
          | nil =>
            have e2 := anc_cons T h4 h5
            have e3 := anc_cons T hb.1 hb.2
            rw [List.nil_append] at e1
            rw [e1, e3] at e2
            have := (List.cons.inj e2).1
            rw [this]; omega
          | cons y l =>
            have e2 := anc_cons T h4 h5
            rw [e1, List.cons_append] at e2
            have e4 := (List.cons.inj e2).1
            have := hx y (by simp)
            rw [e4] at this; omega
        rcases List.mem_cons.1 hx' with rfl | hx'
        · omega
        · exact hx x hx'

end Go.Proofs.Ytlbbalmeaedbdaa.V
/-! Ancestors. -/
set_option linter.all false
namespace Go.Proofs.Ytlbbalmeaedbdaa.V
open Go Go.VM Go.Proofs
set_option maxRecDepth 10000
variable {frz : Nat} {H : Heap}
end Go.Proofs.Ytlbbalmeaedbdaa.V
/-! CommonAncestor, Reverse; marks. -/
set_option linter.all false
namespace Go.Proofs.Ytlbbalmeaedbdaa.V
open Go Go.VM Go.Proofs
set_option maxRecDepth 10000
variable {frz : Nat} {H : Heap}
theorem made_ret {xs : List Int} {r : Option (Value × Heap)} (h : r = some (if xs = [] then (.slice none 0 0, H) else (.slice (some ⟨H.length, 0, some 0⟩) xs.length 0, H ++ [⟨xs.map (.int .i64), 0, 3⟩]))) : wp r (Made Fl.int 3 H xs) := by
  subst h
  by_cases hx : xs = []
  · simp [hx]; exact ⟨[], by simp, .inl ⟨rfl, rfl⟩, by simp⟩
  · simp [hx]
    exact ⟨_, rfl, Ow.new0 rfl (cellsOf_int xs).symm (by simp) rfl, by simp⟩
theorem made_row {xs : List Int} {r : Option (Value × Heap)} (h : r = some (.slice (some ⟨H.length, 0, some 0⟩) xs.length 0, H ++ [⟨xs.map (.int .i64), 0, 3⟩])) : wp r (Made Fl.int 3 H xs) := by
  subst h
  simp
  exact ⟨_, rfl, Ow.new0 rfl (cellsOf_int xs).symm (by simp) rfl, by simp⟩
theorem common_at {P : List Int} {a b : Int} {i : Nat} (h : i < (anc P a).length) (h1 : ∀ x ∈ (anc P a).take i, x ∉ anc P b) (h2 : (anc P a)[i] ∈ anc P b) : common P a b = (anc P a)[i] := by
  unfold common
  rw [find_at h (by simpa using h1) (by simpa using h2)]; rfl
theorem take_succ_no {xs : List Int} {p : Int → Prop} {i : Nat} (h : i < xs.length) (h1 : ∀ x ∈ xs.take i, p x) (h2 : p xs[i]) : ∀ x ∈ xs.take (i + 1), p x := by
  rw [List.take_succ_eq_append_getElem h]
  intro x hx
  rcases List.mem_append.1 hx with hx | hx
  · exact h1 x hx
  · rw [List.mem_singleton.1 hx]; exact h2
/-- xs, of which the first i and the last i are exchanged -/
def flip (xs : List Int) (i : Nat) : List Int := (List.range xs.length).map fun j => if j < i ∨ xs.length - i ≤ j then rd xs ((xs.length - 1 - j : Nat) : Int) else rd xs (j : Int)
theorem flip_len (xs : List Int) (i : Nat) : (flip xs i).length = xs.length := by simp [flip]
theorem flip_get (xs : List Int) (i j : Nat) (h : j < xs.length) : (flip xs i)[j]'(by rw [flip_len]; exact h) = if j < i ∨ xs.length - i ≤ j then xs[xs.length - 1 - j] else xs[j] := by
  simp only [flip, List.getElem_map, List.getElem_range]
  split
  · rw [rd_at (by omega)]
  · rw [rd_at h]
theorem flip_zero (xs : List Int) : flip xs 0 = xs := by
  apply List.ext_getElem (flip_len _ _)
  intro j h1 h2
  rw [flip_get _ _ _ h2, if_neg (by omega)]
theorem flip_end (xs : List Int) (i : Nat) (h : xs.length ≤ 2 * i + 1) : flip xs i = xs.reverse := by
  apply List.ext_getElem (by rw [flip_len, List.length_reverse])
  intro j h1 h2
  rw [flip_get _ _ _ (by simpa using h2), List.getElem_reverse]
  split
  · rfl
  · congr 1; rw [List.length_reverse] at h2; omega
theorem flip_succ (xs : List Int) (i : Nat) (h : 2 * i + 1 < xs.length) : ((flip xs i).set i ((flip xs i)[xs.length - 1 - i]'(by rw [flip_len]; omega))).set (xs.length - 1 - i) ((flip xs i)[i]'(by rw [flip_len]; omega)) = flip xs (i + 1) := by
  apply List.ext_getElem (by simp [flip_len])
  intro j h1 h2
  rw [flip_len] at h2
  rw [List.getElem_set, List.getElem_set, flip_get _ _ _ h2, flip_get _ _ _ (by omega), flip_get _ _ _ (by omega), flip_get _ _ _ h2]
  by_cases e1 : xs.length - 1 - i = j
  · subst e1
    rw [if_pos rfl, if_neg (by omega), if_pos (by omega)]
    congr 1; omega
  · by_cases e2 : i = j
    · subst e2
      rw [if_neg e1, if_pos rfl, if_neg (by omega), if_pos (by omega)]
    · rw [if_neg e1, if_neg e2]
      by_cases e3 : j < i ∨ xs.length - i ≤ j
      · rw [if_pos e3, if_pos (by omega)]
      · rw [if_neg e3, if_neg (by omega)]
/-- marks -/
def marks (k : Int) (n : Nat) : List Int := (List.range n).map fun i : Nat => k + (i : Int)
@[simp] theorem marks_len (k : Int) (n : Nat) : (marks k n).length = n := by simp [marks]
theorem marks_succ (k : Int) (n : Nat) : marks k (n + 1) = marks k n ++ [k + n] := by simp [marks, List.range_succ]
theorem marks_get (k : Int) (n i : Nat) (h : i < n) : (marks k n)[i]'(by simpa using h) = k + i := by simp [marks]
theorem marks_set (k : Int) (xs : List Int) (i : Nat) (h : i < xs.length) : (marks k i ++ xs.drop i).set i (k + i) = marks k (i + 1) ++ xs.drop (i + 1) := by
  rw [List.set_append_right _ _ (by simp), marks_len, Nat.sub_self, List.drop_eq_getElem_cons h, List.set_cons_zero, marks_succ]; simp
theorem markIntS_w (v : Value) (xs : List Int) (e : TypeId) (k : Int) (h : Ow Fl.int e H v xs) (hl : xs.length ≤ 1073741824) (hk : 0 ≤ k ∧ k ≤ 4611686018427387904) (hf : ∀ i ∈ ids v, frz ≤ i) :
   wp (vcall C frz 43 [v, .int .i64 k] H) (fun r H' => r = .int .i64 (k + xs.length) ∧ Ow Fl.int e H' v (marks k xs.length) ∧ Chg H H' (ids v) ∧ H'.length = H.length) := by
  rw [vcall_go (fn := Try.f43) Try.func43 rfl (by kernel_rfl) rfl]
  simp
  refine wp_inv (fun n t H' => ∃ i : Nat, n = xs.length - i ∧ i ≤ xs.length ∧ t 0 = v ∧ t 1 = .int .i64 (k + i) ∧ t 5 = .int .i64 i ∧ Ow Fl.int e H' v (marks k i ++ xs.drop i) ∧ Chg H H' (ids v) ∧ H'.length = H.length) ?_ (n := xs.length)
    ⟨0, by simp, by omega, by simp, by simp, by simp, by simpa [marks] using h, Chg.refl _, rfl⟩
  rintro n t H' ⟨i, rfl, hi, h0, h1, h5, o, c, l⟩ ih
  have hlen : (marks k i ++ xs.drop i).length = xs.length := by simp; omega
  simp [h0, h1, h5, o.rd.len, hlen]
  have e1 : (i : Int) + ((xs.length - i : Nat) : Int) = xs.length := by omega
  refine wp_dec ?_ ?_ <;> intro h6
  · have i1 := o.rd.isI
    have p1 : i < (marks k i ++ xs.drop i).length := by omega
    obtain ⟨H1, s1, o1, c1, l1⟩ := o.put1 (P := Try.prog) (frz := frz) rfl (et := 3) (ag := false) (by simp) p1 (x := .int .i64 (k + i)) rfl rfl rfl hf
    have q1 := i1.idx (P := Try.prog) (ty := 24) (e := 3) (by simp) (i := (i : Int)) (by omega) (by omega)
    simp only [Int.toNat_natCast] at q1
    simp [h0, h1, h5, q1, s1]
    refine ih (xs.length - (i + 1)) _ _ ⟨i + 1, rfl, by omega, by simp [h0], ?_, ?_, ?_, c.trans c1, by omega⟩ (by omega)
    · simp; rw [w64 (by omega) (by omega)]; omega
    · simp; rw [w64 (by omega) (by omega)]
    · rw [marks_set _ _ _ (by omega)] at o1; exact o1
  · have : i = xs.length := by omega
    subst this
    simp [h0, h1, h5]
    exact ⟨by simpa using o, c, l⟩
end Go.Proofs.Ytlbbalmeaedbdaa.V
/-! Sorting: lists of numbers whose elements change places. -/
set_option linter.all false
namespace Go.Proofs.Ytlbbalmeaedbdaa.V
open Go Go.VM Go.Proofs
def G (xs : List Int) (i : Nat) : Int := xs.getD i 0
theorem G_get {xs : List Int} {i : Nat} (h : i < xs.length) : G xs i = xs[i] := by simp [G, List.getD_eq_getElem?_getD, h]
def swp (xs : List Int) (i j : Nat) : List Int := (xs.set i (G xs j)).set j (G xs i)
@[simp] theorem swp_len (xs : List Int) (i j : Nat) : (swp xs i j).length = xs.length := by simp [swp]
theorem G_swp {xs : List Int} {i j : Nat} (hi : i < xs.length) (hj : j < xs.length) (k : Nat) : G (swp xs i j) k = if k = j then G xs i else if k = i then G xs j else G xs k := by
  unfold swp
  by_cases hk : k < xs.length
  · rw [G_get (by simpa using hk), List.getElem_set, List.getElem_set]
    by_cases h1 : k = j
    · rw [if_pos h1.symm, if_pos h1]
    · rw [if_neg (Ne.symm h1), if_neg h1]
      by_cases h2 : k = i
      · rw [if_pos h2.symm, if_pos h2]
      · rw [if_neg (Ne.symm h2), if_neg h2, G_get hk]
  · rw [if_neg (by omega), if_neg (by omega)]
    simp [G, List.getD_eq_getElem?_getD, hk]
theorem swp_perm {xs : List Int} {i j : Nat} (hi : i < xs.length) (hj : j < xs.length) : (swp xs i j).Perm xs := by
  unfold swp
  rw [G_get hi, G_get hj]
  exact List.set_set_perm hi hj
/-- elements of [a, b) have changed places -/
inductive Sw (a b : Nat) (xs : List Int) : List Int → Prop
  | refl : Sw a b xs xs
  | step {ys : List Int} (i j : Nat) (h : Sw a b xs ys) (hi : a ≤ i ∧ i < b) (hj : a ≤ j ∧ j < b) : Sw a b xs (swp ys i j)
variable {a b c d : Nat} {xs ys zs : List Int}
theorem Sw.len (h : Sw a b xs ys) : ys.length = xs.length := by
  induction h with
  | refl => rfl
  | step i j _ _ _ ih => rw [swp_len, ih]
theorem Sw.trans (h : Sw a b xs ys) (h' : Sw a b ys zs) : Sw a b xs zs := by
  induction h' with
  | refl => exact h
  | step i j _ hi hj ih => exact .step i j ih hi hj
theorem Sw.mono (h : Sw a b xs ys) (ha : c ≤ a) (hb : b ≤ d) : Sw c d xs ys := by
  induction h with
  | refl => exact .refl
  | step i j _ hi hj ih => exact .step i j ih (by omega) (by omega)
theorem Sw.perm (h : Sw a b xs ys) (hb : b ≤ xs.length) : ys.Perm xs := by
  induction h with
  | refl => exact List.Perm.refl _
  | step i j g hi hj ih => exact (swp_perm (by rw [g.len]; omega) (by rw [g.len]; omega)).trans ih
theorem Sw.out (h : Sw a b xs ys) (hb : b ≤ xs.length) {k : Nat} (hk : k < a ∨ b ≤ k) : G ys k = G xs k := by
  induction h with
  | refl => rfl
  | step i j g hi hj ih => rw [G_swp (by rw [g.len]; omega) (by rw [g.len]; omega), if_neg (by omega), if_neg (by omega), ih]
theorem Sw.all (h : Sw a b xs ys) (hb : b ≤ xs.length) {p : Int → Prop} (hp : ∀ k, a ≤ k → k < b → p (G xs k)) : ∀ k, a ≤ k → k < b → p (G ys k) := by
  induction h with
  | refl => exact hp
  | step i j g hi hj ih =>
    intro k h1 h2
    rw [G_swp (by rw [g.len]; omega) (by rw [g.len]; omega)]
    split
    · exact ih i hi.1 hi.2
    · split
      · exact ih j hj.1 hj.2
      · exact ih k h1 h2
/-- a larger window that holds the changed one -/
theorem Sw.all' (h : Sw a b xs ys) (hb : b ≤ xs.length) {p : Int → Prop} (hc : c ≤ a) (hd : b ≤ d) (hp : ∀ k, c ≤ k → k < d → p (G xs k)) : ∀ k, c ≤ k → k < d → p (G ys k) := by
  intro k h1 h2
  by_cases hk : a ≤ k ∧ k < b
  · exact h.all hb (fun q g1 g2 => hp q (by omega) (by omega)) k hk.1 hk.2
  · rw [h.out hb (by omega)]; exact hp k h1 h2
/-- sorted in [a, b) -/
def Srt (ys : List Int) (a b : Nat) : Prop := ∀ p q, a ≤ p → p < q → q < b → G ys p ≤ G ys q
theorem Srt.short (h : b ≤ a + 1) : Srt ys a b := fun p q h1 h2 h3 => by omega
theorem Srt.frame (h : Srt ys a b) (he : ∀ k, a ≤ k → k < b → G zs k = G ys k) : Srt zs a b := fun p q h1 h2 h3 => by
  rw [he p h1 (by omega), he q (by omega) h3]; exact h p q h1 h2 h3
/-- sorted parts, the left one below the right one -/
theorem Srt.join (h1 : Srt ys a b) (h2 : Srt ys b c) (h : ∀ p q, a ≤ p → p < b → b ≤ q → q < c → G ys p ≤ G ys q) : Srt ys a c := fun p q h3 h4 h5 => by
  by_cases hq : q < b
  · exact h1 p q h3 h4 hq
  · by_cases hp : p < b
    · exact h p q h3 hp (by omega) h5
    · exact h2 p q (by omega) h4 h5
theorem Srt.pairwise (h : Srt ys 0 ys.length) : ys.Pairwise (· ≤ ·) := by
  rw [List.pairwise_iff_getElem]
  intro i j hi hj hij
  have := h i j (Nat.zero_le _) hij hj
  rwa [G_get hi, G_get hj] at this
/-- insertion: sorted up to i, but for the element at j -/
def Ins (ys : List Int) (a i j : Nat) : Prop := ∀ p q, a ≤ p → p < q → q ≤ i → q ≠ j → G ys p ≤ G ys q
theorem Ins.start (h : Srt ys a b) : Ins ys a b b := fun p q h1 h2 h3 h4 => h p q h1 h2 (by omega)
theorem Ins.step {i j : Nat} (h : Ins ys a i j) (hi : i < ys.length) (ha : a < j) (hj : j ≤ i) (hlt : G ys j < G ys (j - 1)) : Ins (swp ys j (j - 1)) a i (j - 1) := by
  intro p q h1 h2 h3 h4
  rw [G_swp (by omega) (by omega), G_swp (by omega) (by omega)]
  rw [if_neg h4]
  by_cases hp : p = j - 1
  · rw [if_pos hp]
    by_cases hq : q = j
    · rw [if_pos hq]; omega
    · rw [if_neg hq]; have := h (j - 1) q (by omega) (by omega) h3 hq; omega
  · rw [if_neg hp]
    by_cases hpj : p = j
    · rw [if_pos hpj]
      rw [if_neg (by omega)]
      exact h (j - 1) q (by omega) (by omega) h3 (by omega)
    · rw [if_neg hpj]
      by_cases hq : q = j
      · rw [if_pos hq]; exact h p (j - 1) h1 (by omega) (by omega) (by omega)
      · rw [if_neg hq]; exact h p q h1 h2 h3 hq
theorem Ins.done {i j : Nat} (h : Ins ys a i j) (hj : j = a ∨ (a < j ∧ G ys (j - 1) ≤ G ys j)) : Srt ys a (i + 1) := by
  intro p q h1 h2 h3
  by_cases hq : q = j
  · subst hq
    rcases hj with hj | ⟨hj, hle⟩
    · omega
    · by_cases hp : p = q - 1
      · rw [hp]; exact hle
      · have := h p (q - 1) h1 (by omega) (by omega) (by omega); omega
  · exact h p q h1 h2 (by omega) hq
/-- heaps: f is the first place, n the size; lo the least root -/
def Hp (ys : List Int) (f lo n : Nat) : Prop := ∀ r c, lo ≤ r → (c = 2 * r + 1 ∨ c = 2 * r + 2) → c < n → G ys (f + c) ≤ G ys (f + r)
/-- a heap but for the root r -/
def HpB (ys : List Int) (f lo n r : Nat) : Prop :=
  (∀ s c, lo ≤ s → s ≠ r → (c = 2 * s + 1 ∨ c = 2 * s + 2) → c < n → G ys (f + c) ≤ G ys (f + s)) ∧
  (∀ s c, lo ≤ s → (r = 2 * s + 1 ∨ r = 2 * s + 2) → (c = 2 * r + 1 ∨ c = 2 * r + 2) → c < n → G ys (f + c) ≤ G ys (f + s))
theorem HpB.start {f lo n : Nat} (h : Hp ys f (lo + 1) n) : HpB ys f lo n lo :=
  ⟨fun s c h1 h2 h3 h4 => h s c (by omega) h3 h4, fun s c h1 h2 => by omega⟩
theorem HpB.done {f lo n r : Nat} (h : HpB ys f lo n r) (hd : ∀ c, (c = 2 * r + 1 ∨ c = 2 * r + 2) → c < n → G ys (f + c) ≤ G ys (f + r)) : Hp ys f lo n := fun s c h1 h2 h3 => by
  by_cases hs : s = r
  · subst hs; exact hd c h2 h3
  · exact h.1 s c h1 hs h2 h3
theorem HpB.step {f lo n r c : Nat} (h : HpB ys f lo n r) (hl : f + n ≤ ys.length) (hlo : lo ≤ r) (hc : c = 2 * r + 1 ∨ c = 2 * r + 2) (hn : c < n) (hlt : G ys (f + r) < G ys (f + c))
    (hbig : ∀ q, (q = 2 * r + 1 ∨ q = 2 * r + 2) → q < n → G ys (f + q) ≤ G ys (f + c)) : HpB (swp ys (f + r) (f + c)) f lo n c := by
  have gc : G (swp ys (f + r) (f + c)) (f + c) = G ys (f + r) := by rw [G_swp (by omega) (by omega), if_pos rfl]
  have gr : G (swp ys (f + r) (f + c)) (f + r) = G ys (f + c) := by rw [G_swp (by omega) (by omega), if_neg (by omega), if_pos rfl]
  have go : ∀ k, k ≠ c → k ≠ r → G (swp ys (f + r) (f + c)) (f + k) = G ys (f + k) := fun k h1 h2 => by rw [G_swp (by omega) (by omega), if_neg (by omega), if_neg (by omega)]
  refine ⟨fun s q h1 h2 h3 h4 => ?_, fun s q h1 h2 h3 h4 => ?_⟩
  · by_cases hq : q = c
    · have hs : s = r := by omega
      subst hq hs
      rw [gc, gr]; omega
    · by_cases hs : s = r
      · subst hs
        rw [gr, go q hq (by omega)]
        exact hbig q h3 h4
      · by_cases hqr : q = r
        · subst hqr
          rw [gr, go s h2 hs]
          exact h.2 s c h1 h3 hc hn
        · rw [go q hq hqr, go s h2 hs]; exact h.1 s q h1 hs h3 h4
  · have hs : s = r := by omega
    subst hs
    rw [gr, go q (by omega) (by omega)]
    exact h.1 c q (by omega) (by omega) h3 h4
theorem Hp.top {f n : Nat} (h : Hp ys f 0 n) : ∀ c, c < n → G ys (f + c) ≤ G ys f := by
  intro c
  induction c using Nat.strongRecOn with
  | _ c ih =>
    intro hc
    by_cases h0 : c = 0
    · subst h0; exact Int.le_refl _
    · have h1 := h ((c - 1) / 2) c (by omega) (by omega) hc
      have h2 := ih ((c - 1) / 2) (by omega) (by omega)
      omega
theorem Hp.frame {f lo n : Nat} (h : Hp ys f lo n) (he : ∀ k, lo ≤ k → k < n → G zs (f + k) = G ys (f + k)) : Hp zs f lo n := fun r c h1 h2 h3 => by
  rw [he c (by omega) h3, he r h1 (by omega)]; exact h r c h1 h2 h3
end Go.Proofs.Ytlbbalmeaedbdaa.V
/-! Sorting: cmp.Less, insertion sort, heap sort. -/
set_option linter.all false
namespace Go.Proofs.Ytlbbalmeaedbdaa.V
open Go Go.VM Go.Proofs
set_option maxRecDepth 10000
variable {frz : Nat} {H : Heap} {v : Value} {xs : List Int} {e : TypeId}
theorem ow_ix (o : Ow Fl.int e H v xs) {i : Nat} (h1 : i < xs.length) : vindexAddr Try.prog H 24 v (.int .i64 i) = some (elp v i) := by
  have := o.rd.isI.idx (P := Try.prog) (ty := 24) (e := 3) (by simp) (i := (i : Int)) (by omega) (by omega)
  simpa using this
theorem ow_ld (o : Ow Fl.int e H v xs) {i : Nat} (h1 : i < xs.length) : vload Try.prog H 3 (elp v i) = some (.int .i64 (G xs i)) :=
  o.rd.isI.load (P := Try.prog) (e := 3) (by simp) h1
theorem ow_swap (o : Ow Fl.int e H v xs) {i j : Nat} (hi : i < xs.length) (hj : j < xs.length) (hf : ∀ i ∈ ids v, frz ≤ i) :
    ∃ H1 H2, vstore Try.prog frz H 3 (.int .i64 (G xs j)) (elp v i) = some H1 ∧ (∀ k : Nat, k < xs.length → vindexAddr Try.prog H1 24 v (.int .i64 k) = some (elp v k)) ∧
      vstore Try.prog frz H1 3 (.int .i64 (G xs i)) (elp v j) = some H2 ∧ Ow Fl.int e H2 v (swp xs i j) ∧ Chg H H2 (ids v) ∧ H2.length = H.length := by
  obtain ⟨H1, s1, o1, c1, l1⟩ := o.put1 (P := Try.prog) (frz := frz) rfl (et := 3) (ag := false) (by simp) hi (x := .int .i64 (G xs j)) (y := G xs j) rfl rfl rfl hf
  obtain ⟨H2, s2, o2, c2, l2⟩ := o1.put1 (P := Try.prog) (frz := frz) rfl (et := 3) (ag := false) (by simp) (j := j) (by simpa using hj) (x := .int .i64 (G xs i)) (y := G xs i) rfl rfl rfl hf
  exact ⟨H1, H2, s1, fun k hk => ow_ix o1 (by simpa using hk), s2, o2, c1.trans c2, by omega⟩
/-- what a sorting step leaves: elements of [a, b) have changed places, nothing else has changed -/
def Swd (H : Heap) (v : Value) (xs : List Int) (e : TypeId) (a b : Nat) (K : List Int → Prop) (H' : Heap) : Prop :=
  ∃ ys, Sw a b xs ys ∧ K ys ∧ Ow Fl.int e H' v ys ∧ Chg H H' (ids v) ∧ H'.length = H.length
end Go.Proofs.Ytlbbalmeaedbdaa.V
/-! Sorting: the choice of a pivot. -/
set_option linter.all false
namespace Go.Proofs.Ytlbbalmeaedbdaa.V
open Go Go.VM Go.Proofs
set_option maxRecDepth 10000
variable {frz : Nat} {H : Heap} {v : Value} {xs : List Int} {e : TypeId}
end Go.Proofs.Ytlbbalmeaedbdaa.V
/-! Sorting: lengths of bits, patterns broken. -/
set_option linter.all false
namespace Go.Proofs.Ytlbbalmeaedbdaa.V
open Go Go.VM Go.Proofs
set_option maxRecDepth 10000
variable {frz : Nat} {H : Heap} {v : Value} {xs : List Int} {e : TypeId}
def blen (y : Nat) : Nat := if y = 0 then 0 else y.log2 + 1
def tabOk (T : ByteArray) : Bool := (List.range 256).all fun y => match T[y]? with | some b => b.toNat == blen y | none => false
theorem blen_spec {y : Nat} (h : y < 256) : y < 2 ^ blen y ∧ (2 ^ blen y ≤ 2 * y ∨ y = 0) ∧ blen y ≤ 8 := by
  have : ∀ y : Fin 256, y.val < 2 ^ blen y.val ∧ (2 ^ blen y.val ≤ 2 * y.val ∨ y.val = 0) ∧ blen y.val ≤ 8 := by decide +kernel
  exact this ⟨y, h⟩
theorem blen_up {x z s n : Nat} (hz : z = x / 2 ^ s) (h1 : z < 2 ^ n) (h2 : 2 ^ n ≤ 2 * z ∨ z = 0) (h0 : 0 < z) : x < 2 ^ (n + s) ∧ (2 ^ (n + s) ≤ 2 * x ∨ x = 0) := by
  have hp : 0 < 2 ^ s := Nat.pow_pos (by decide)
  rw [Nat.pow_add]
  subst hz
  refine ⟨(Nat.div_lt_iff_lt_mul hp).1 h1, .inl ?_⟩
  have h3 : x / 2 ^ s * 2 ^ s ≤ x := Nat.div_mul_le_self _ _
  have h4 : 2 ^ n * 2 ^ s ≤ 2 * (x / 2 ^ s) * 2 ^ s := Nat.mul_le_mul_right _ (by omega)
  rw [Nat.mul_assoc] at h4
  omega
theorem vindex_tab {T : ByteArray} {y : Nat} (hy : y < 256) (h : tabOk T = true) : vindex Try.prog 9 (.string T) (.int .u8 (IntKind.u8.wrap (y : Int))) = some (.int .u8 (blen y)) := by
  have e1 : IntKind.u8.wrap (y : Int) = (y : Int) := by show (y : Int) % 256 = y; omega
  have := List.all_eq_true.1 h y (by simpa using hy)
  have hn : (0 : Int) ≤ y := by omega
  rw [e1]
  simp only [vindex, und9, hn, if_true, Int.toNat_natCast]
  cases hT : T[y]? with
  | none => rw [hT] at this; simp at this
  | some b => rw [hT] at this; simp at this; simp [this]
theorem shr_nat (x j : Nat) (hj : j ≤ 64) : ishr .u64 (x : Int) (j : Int) = ((x / 2 ^ j : Nat) : Int) := ishr_nat .u64 x j hj
theorem len64_w (x : Nat) (hx : x < 2147483648) :
   wp (vcall C frz 100 [.int .u64 x] H) (fun r H' => H' = H ∧ ∃ n : Nat, r = .int .i64 n ∧ x < 2 ^ n ∧ (2 ^ n ≤ 2 * x ∨ x = 0) ∧ n ≤ 32) := by
  rw [vcall_go (fn := Try.f100) Try.func100 rfl (by kernel_rfl) rfl]
  have g1 : ¬ (4294967296 : Int) ≤ x := by omega
  have e8 : IntKind.i64.wrap 8 = 8 := rfl
  have e16 : IntKind.i64.wrap 16 = 16 := rfl
  have e24 : IntKind.i64.wrap 24 = 24 := rfl
  simp [g1]
  refine wp_dec ?_ ?_ <;> intro g2
  · obtain ⟨y, hy⟩ : ∃ y, y = x / 65536 := ⟨_, rfl⟩
    have s16 : ishr .u64 (x : Int) 16 = (y : Int) := by rw [hy]; exact shr_nat x 16 (by decide)
    simp [s16]
    refine wp_dec ?_ ?_ <;> intro g3
    · obtain ⟨z, hz⟩ : ∃ z, z = y / 256 := ⟨_, rfl⟩
      have s8 : ishr .u64 (y : Int) 8 = (z : Int) := by rw [hz]; exact shr_nat y 8 (by decide)
      simp [s8]
      rw [vindex_tab (y := z) (by omega) (by decide +kernel)]
      obtain ⟨q1, q2, q3⟩ := blen_spec (y := z) (by omega)
      have w8 : IntKind.i64.wrap (blen z : Int) = (blen z : Int) := w64 (by omega) (by omega)
      simp [w8, e8, e16, e24]
      refine ⟨blen z + 24, ?_, ?_⟩
      · rw [w64 (by omega) (by omega)]; omega
      · have := blen_up (x := x) (z := z) (s := 24) (by omega) q1 q2 (by omega); omega
    · simp
      rw [vindex_tab (y := y) (by omega) (by decide +kernel)]
      obtain ⟨q1, q2, q3⟩ := blen_spec (y := y) (by omega)
      have w8 : IntKind.i64.wrap (blen y : Int) = (blen y : Int) := w64 (by omega) (by omega)
      simp [w8, e8, e16, e24]
      refine ⟨blen y + 16, ?_, ?_⟩
      · rw [w64 (by omega) (by omega)]; omega
      · have := blen_up (x := x) (z := y) (s := 16) (by omega) q1 q2 (by omega); omega
  · simp
    refine wp_dec ?_ ?_ <;> intro g3
    · obtain ⟨z, hz⟩ : ∃ z, z = x / 256 := ⟨_, rfl⟩
      have s8 : ishr .u64 (x : Int) 8 = (z : Int) := by rw [hz]; exact shr_nat x 8 (by decide)
      simp [s8]
      rw [vindex_tab (y := z) (by omega) (by decide +kernel)]
      obtain ⟨q1, q2, q3⟩ := blen_spec (y := z) (by omega)
      have w8 : IntKind.i64.wrap (blen z : Int) = (blen z : Int) := w64 (by omega) (by omega)
      simp [w8, e8, e16, e24]
      refine ⟨blen z + 8, ?_, ?_⟩
      · rw [w64 (by omega) (by omega)]; omega
      · have := blen_up (x := x) (z := z) (s := 8) (by omega) q1 q2 (by omega); omega
    · simp
      rw [vindex_tab (y := x) (by omega) (by decide +kernel)]
      obtain ⟨q1, q2, q3⟩ := blen_spec (y := x) (by omega)
      have w8 : IntKind.i64.wrap (blen x : Int) = (blen x : Int) := w64 (by omega) (by omega)
      simp [w8, e8, e16, e24]
      exact ⟨blen x, rfl, q1, q2, by omega⟩
theorem len_w (x : Nat) (hx : x < 2147483648) :
   wp (vcall C frz 84 [.int .u64 x] H) (fun r H' => H' = H ∧ ∃ n : Nat, r = .int .i64 n ∧ x < 2 ^ n ∧ (2 ^ n ≤ 2 * x ∨ x = 0) ∧ n ≤ 32) := by
  rw [vcall_go (fn := Try.f84) Try.func84 rfl (by kernel_rfl) rfl]
  simp
  refine wp_thn (len64_w x hx) ?_
  rintro _ _ ⟨rfl, n, rfl, h⟩
  simp
  exact ⟨n, rfl, h⟩
theorem w64u {x : Int} (h0 : 0 ≤ x) (h1 : x < 18446744073709551616) : IntKind.u64.wrap x = x := by show x % 18446744073709551616 = x; omega
theorem pow2_w (x : Nat) (hx : x < 2147483648) :
   wp (vcall C frz 104 [.int .i64 x] H) (fun r H' => H' = H ∧ ∃ m : Nat, r = .int .u64 m ∧ x < m ∧ (m ≤ 2 * x ∨ x = 0) ∧ m ≤ 4294967296) := by
  rw [vcall_go (fn := Try.f104) Try.func104 rfl (by kernel_rfl) rfl]
  have e1 : IntKind.u64.wrap (x : Int) = (x : Int) := w64u (by omega) (by omega)
  simp [e1]
  refine wp_thn (len_w x hx) ?_
  rintro _ _ ⟨rfl, n, rfl, h1, h2, h3⟩
  have hm : 2 ^ n ≤ 2 ^ 32 := Nat.pow_le_pow_right (by decide) h3
  have e2 : ishl .u64 1 (n : Int) = ((2 ^ n : Nat) : Int) := by
    unfold ishl
    rw [Int.toNat_natCast, Nat.min_eq_left (show n ≤ IntKind.u64.bits by show n ≤ 64; omega), Int.one_mul, w64u (Int.le_of_lt (Int.pow_pos (by decide))) (by
      have : ((2 : Int) ^ n) = ((2 ^ n : Nat) : Int) := by simp
      rw [this]; omega)]
    simp
  have hn : (0 : Int) ≤ n := by omega
  simp [vneed, hn, e2]
  exact ⟨2 ^ n, by simp, h1, h2, by omega⟩
def BoxX (H : Heap) (r : Nat) : Prop := ∃ s, H[r]? = some ⟨[.int .u64 s], 0, 115⟩
theorem xnext_w (r : Nat) (hr : BoxX H r) (hf : frz ≤ r) :
   wp (vcall C frz 105 [.pointer (some ⟨r, 0, some 0⟩)] H) (fun u H' => (∃ z, u = .int .u64 z) ∧ Chg H H' [r] ∧ BoxX H' r) := by
  obtain ⟨s, hs⟩ := hr
  rw [vcall_go (fn := Try.f105) Try.func105 rfl (by kernel_rfl) rfl]
  simp
  rw [go_draw (h := by kernel_rfl)]
  simp [vnil, VM.look, hs, hf]
  have l := box_lt hs
  rw [go_draw (h := by kernel_rfl)]
  simp [vnil, VM.look, hs, hf, l]
  rw [go_draw (h := by kernel_rfl)]
  simp [vnil, VM.look, hs, hf, l]
  exact ⟨chg_set _ _, _, by simp [l]; rfl⟩
end Go.Proofs.Ytlbbalmeaedbdaa.V
/-! Sorting: partitions. -/
set_option linter.all false
namespace Go.Proofs.Ytlbbalmeaedbdaa.V
open Go Go.VM Go.Proofs
set_option maxRecDepth 10000
variable {frz : Nat} {H : Heap} {v : Value} {xs : List Int} {e : TypeId}
/-- the pivot x lies at a; what is below i has P, what is above j has not -/
def Pt (ys : List Int) (a b : Nat) (x : Int) (P : Int → Prop) (i j : Nat) : Prop := G ys a = x ∧ (∀ k, a < k → k < i → P (G ys k)) ∧ ∀ k, j < k → k < b → ¬ P (G ys k)
section
variable {ys : List Int} {a b i j : Nat} {x : Int} {P : Int → Prop}
theorem Pt.incr (h : Pt ys a b x P i j) (ha : a < i) (hp : P (G ys i)) : Pt ys a b x P (i + 1) j := ⟨h.1, fun k h1 h2 => by
  by_cases hk : k = i
  · rw [hk]; exact hp
  · exact h.2.1 k h1 (by omega), h.2.2⟩
theorem Pt.decr (h : Pt ys a b x P i j) (hj : 0 < j) (hp : ¬ P (G ys j)) : Pt ys a b x P i (j - 1) := ⟨h.1, h.2.1, fun k h1 h2 => by
  by_cases hk : k = j
  · rw [hk]; exact hp
  · exact h.2.2 k (by omega) h2⟩
theorem Pt.swap (h : Pt ys a b x P i j) (ha : a < i) (hij : i < j) (hj : j < b) (hb : b ≤ ys.length) (hi : ¬ P (G ys i)) (hp : P (G ys j)) : Pt (swp ys i j) a b x P (i + 1) (j - 1) := by
  have g := fun k => G_swp (xs := ys) (i := i) (j := j) (by omega) (by omega) k
  refine ⟨?_, fun k h1 h2 => ?_, fun k h1 h2 => ?_⟩
  · rw [g, if_neg (by omega), if_neg (by omega)]; exact h.1
  · rw [g, if_neg (by omega)]
    split
    · exact hp
    · exact h.2.1 k h1 (by omega)
  · rw [g]
    split
    · exact hi
    · rw [if_neg (by omega)]; exact h.2.2 k (by omega) h2
/-- the pivot is laid between the two parts -/
theorem Pt.fin (h : Pt ys a b x P i j) (hij : i = j + 1) (ha : a < i) (hj : j < b) (hb : b ≤ ys.length) : G (swp ys j a) j = x ∧ (∀ k, a ≤ k → k < j → P (G (swp ys j a) k)) ∧ ∀ k, j < k → k < b → ¬ P (G (swp ys j a) k) := by
  have g := fun k => G_swp (xs := ys) (i := j) (j := a) (by omega) (by omega) k
  refine ⟨?_, fun k h1 h2 => ?_, fun k h1 h2 => ?_⟩
  · rw [g]
    split
    · rename_i e; rw [e]; exact h.1
    · rw [if_pos rfl]; exact h.1
  · rw [g]
    split
    · exact h.2.1 j (by omega) (by omega)
    · rw [if_neg (by omega)]; exact h.2.1 k (by omega) (by omega)
  · rw [g, if_neg (by omega), if_neg (by omega)]; exact h.2.2 k h1 h2
end
end Go.Proofs.Ytlbbalmeaedbdaa.V
/-! Sorting: short insertion sort. -/
set_option linter.all false
namespace Go.Proofs.Ytlbbalmeaedbdaa.V
open Go Go.VM Go.Proofs
set_option maxRecDepth 10000
variable {frz : Nat} {H : Heap} {v : Value} {xs : List Int} {e : TypeId}
theorem Srt.snoc {ys : List Int} {a i : Nat} (h : Srt ys a i) (hi : a < i → G ys (i - 1) ≤ G ys i) : Srt ys a (i + 1) := fun p q h1 h2 h3 => by
  by_cases hq : q = i
  · rw [hq]
    have hlt : a < i := by omega
    have := hi hlt
    by_cases hp : p = i - 1
    · rw [hp]; exact this
    · have := h p (i - 1) h1 (by omega) (by omega); omega
  · exact h p q h1 h2 (by omega)
end Go.Proofs.Ytlbbalmeaedbdaa.V
/-! Sorting: the sort. -/
set_option linter.all false
namespace Go.Proofs.Ytlbbalmeaedbdaa.V
open Go Go.VM Go.Proofs
set_option maxRecDepth 10000
variable {frz : Nat} {H : Heap} {v : Value} {xs : List Int} {e : TypeId}
/-- what the sort knows: outside of [a, b) all is sorted and lies on its side -/
structure Pq (ys : List Int) (A B a b : Nat) : Prop where
  le : A ≤ a ∧ a ≤ b ∧ b ≤ B
  left : Srt ys A a
  right : Srt ys b B
  lo : ∀ p q, A ≤ p → p < a → a ≤ q → q < B → G ys p ≤ G ys q
  hi : ∀ p q, A ≤ p → p < b → b ≤ q → q < B → G ys p ≤ G ys q
  low : 0 < A → ∀ k, A ≤ k → k < B → G ys (A - 1) ≤ G ys k
section
variable {ys zs : List Int} {A B a b m : Nat}
theorem Pq.below (h : Pq ys A B a b) (ha : 0 < a) : ∀ k, a ≤ k → k < B → G ys (a - 1) ≤ G ys k := fun k h1 h2 => by
  obtain ⟨l1, l2, l3⟩ := h.le
  by_cases hA : a = A
  · have := h.low (by omega) k (by omega) h2; rw [hA]; exact this
  · exact h.lo (a - 1) k (by omega) (by omega) h1 h2
theorem Pq.sw (h : Pq ys A B a b) (s : Sw a b ys zs) (hB : B ≤ ys.length) : Pq zs A B a b := by
  obtain ⟨l1, l2, l3⟩ := h.le
  have hb : b ≤ ys.length := by omega
  have out := fun k (hk : k < a ∨ b ≤ k) => s.out hb hk
  refine ⟨h.le, h.left.frame (fun k h1 h2 => out k (.inl h2)), h.right.frame (fun k h1 h2 => out k (.inr h1)), fun p q h1 h2 h3 h4 => ?_, fun p q h1 h2 h3 h4 => ?_, fun h0 k h1 h2 => ?_⟩
  · rw [out p (.inl h2)]
    exact s.all' hb (p := fun y => G ys p ≤ y) (Nat.le_refl a) l3 (fun k k1 k2 => h.lo p k h1 h2 k1 k2) q h3 h4
  · rw [out q (.inr h3)]
    exact s.all' hb (p := fun y => y ≤ G ys q) l1 (Nat.le_refl b) (fun k k1 k2 => h.hi k q k1 k2 h3 h4) p h1 h2
  · rw [out (A - 1) (.inl (by omega))]
    exact s.all' hb (p := fun y => G ys (A - 1) ≤ y) l1 l3 (fun k k1 k2 => h.low h0 k k1 k2) k h1 h2
theorem Pq.done (h : Pq ys A B a b) (s : Srt ys a b) : Srt ys A B := by
  obtain ⟨l1, l2, l3⟩ := h.le
  exact (h.left.join (s.join h.right (fun p q h1 h2 h3 h4 => h.hi p q (by omega) h2 h3 h4)) h.lo)
/-- equal elements go to the left -/
theorem Pq.eq {x : Int} (h : Pq ys A B a b) (hm : a < m ∧ m ≤ b) (hx : ∀ k, a ≤ k → k < b → x ≤ G ys k) (h1 : ∀ k, a ≤ k → k < m → ¬ x < G ys k) (h2 : ∀ k, m ≤ k → k < b → x < G ys k) : Pq ys A B m b := by
  obtain ⟨l1, l2, l3⟩ := h.le
  refine ⟨by omega, h.left.join (fun p q q1 q2 q3 => ?_) (fun p q q1 q2 q3 q4 => h.lo p q q1 q2 q3 (by omega)), h.right, fun p q q1 q2 q3 q4 => ?_, h.hi, h.low⟩
  · have := h1 p q1 (by omega); have := hx q (by omega) (by omega); omega
  · by_cases hp : p < a
    · exact h.lo p q q1 hp (by omega) q4
    · by_cases hq : q < b
      · have := h1 p (by omega) q2; have := h2 q q3 hq; omega
      · exact h.hi p q q1 (by omega) (by omega) q4
theorem Pq.goRight (h : Pq ys A B a b) (hm : a ≤ m ∧ m < b) (s : Srt ys a m) (h1 : ∀ k, a ≤ k → k < m → G ys k ≤ G ys m) (h2 : ∀ k, m < k → k < b → G ys m ≤ G ys k) : Pq ys A B (m + 1) b := by
  obtain ⟨l1, l2, l3⟩ := h.le
  refine ⟨by omega, h.left.join (fun p q q1 q2 q3 => ?_) (fun p q q1 q2 q3 q4 => h.lo p q q1 q2 q3 (by omega)), h.right, fun p q q1 q2 q3 q4 => ?_, h.hi, h.low⟩
  · by_cases hq : q = m
    · rw [hq]; exact h1 p q1 (by omega)
    · exact s p q q1 q2 (by omega)
  · by_cases hp : p < a
    · exact h.lo p q q1 hp (by omega) q4
    · by_cases hq : q < b
      · have := h2 q (by omega) hq
        by_cases hpm : p = m
        · rw [hpm]; exact this
        · have := h1 p (by omega) (by omega); omega
      · exact h.hi p q q1 (by omega) (by omega) q4
theorem Pq.goLeft (h : Pq ys A B a b) (hm : a ≤ m ∧ m < b) (s : Srt ys (m + 1) b) (h1 : ∀ k, a ≤ k → k < m → G ys k ≤ G ys m) (h2 : ∀ k, m < k → k < b → G ys m ≤ G ys k) : Pq ys A B a m := by
  obtain ⟨l1, l2, l3⟩ := h.le
  refine ⟨by omega, h.left, Srt.join (b := b) (fun p q q1 q2 q3 => ?_) h.right (fun p q q1 q2 q3 q4 => h.hi p q (by omega) q2 q3 q4), h.lo, fun p q q1 q2 q3 q4 => ?_, h.low⟩
  · by_cases hp : p = m
    · rw [hp]; exact h2 q (by omega) q3
    · exact s p q (by omega) q2 q3
  · by_cases hq : q < b
    · by_cases hp : p < a
      · exact h.lo p q q1 hp (by omega) q4
      · have := h1 p (by omega) q2
        by_cases hqm : q = m
        · rw [hqm]; exact this
        · have := h2 q (by omega) hq; omega
    · exact h.hi p q q1 (by omega) (by omega) q4
end
end Go.Proofs.Ytlbbalmeaedbdaa.V
/-! Lists of dependencies as numbers (1024 * From + To): ascending, each once. -/
set_option linter.all false
namespace Go.Proofs.Ytlbbalmeaedbdaa.V
open Go Go.VM Go.Proofs
set_option maxRecDepth 10000
/-- ascending lists with the same members are one -/
theorem strict_ext {l m : List Int} (hl : l.Pairwise (· < ·)) (hm : m.Pairwise (· < ·)) (h : ∀ x, x ∈ l ↔ x ∈ m) : l = m := by
  induction l generalizing m with
  | nil =>
    cases m with
    | nil => rfl
    | cons b m => have := (h b).2 (List.mem_cons_self ..); simp at this
  | cons a l ih =>
    cases m with
    | nil => have := (h a).1 (List.mem_cons_self ..); simp at this
    | cons b m =>
      obtain ⟨l1, l2⟩ := List.pairwise_cons.1 hl
      obtain ⟨m1, m2⟩ := List.pairwise_cons.1 hm
      have e : a = b := by
        rcases List.mem_cons.1 ((h a).1 (List.mem_cons_self ..)) with e | e
        · exact e
        · rcases List.mem_cons.1 ((h b).2 (List.mem_cons_self ..)) with e' | e'
          · exact e'.symm
          · have := m1 a e; have := l1 b e'; omega
      subst e
      congr 1
      refine ih l2 m2 fun x => ⟨fun hx => ?_, fun hx => ?_⟩
      · rcases List.mem_cons.1 ((h x).1 (List.mem_cons_of_mem _ hx)) with e | e
        · subst e; have := l1 x hx; omega
        · exact e
      · rcases List.mem_cons.1 ((h x).2 (List.mem_cons_of_mem _ hx)) with e | e
        · subst e; have := m1 x hx; omega
        · exact e
/-- one more, unless it is there -/
def insK (k : Int) : List Int → List Int
  | [] => [k]
  | a :: l => if k < a then k :: a :: l else if k = a then a :: l else a :: insK k l
theorem mem_insK (k x : Int) : ∀ l, x ∈ insK k l ↔ x = k ∨ x ∈ l
  | [] => by simp [insK]
  | a :: l => by
    unfold insK
    split
    · simp
    · split
      · rename_i e; subst e; simp
      · rw [List.mem_cons, mem_insK k x l, List.mem_cons]
        constructor
        · rintro (h | h | h)
          · exact .inr (.inl h)
          · exact .inl h
          · exact .inr (.inr h)
        · rintro (h | h | h)
          · exact .inr (.inl h)
          · exact .inl h
          · exact .inr (.inr h)
theorem insK_asc (k : Int) : ∀ l : List Int, l.Pairwise (· < ·) → (insK k l).Pairwise (· < ·)
  | [], _ => by simp [insK]
  | a :: l, h => by
    obtain ⟨h1, h2⟩ := List.pairwise_cons.1 h
    unfold insK
    split
    · rename_i g
      refine List.pairwise_cons.2 ⟨fun x hx => ?_, h⟩
      rcases List.mem_cons.1 hx with rfl | hx
      · exact g
      · have := h1 x hx; omega
    · split
      · exact h
      · refine List.pairwise_cons.2 ⟨fun x hx => ?_, insK_asc k l h2⟩
        rcases (mem_insK k x l).1 hx with rfl | hx
        · omega
        · exact h1 x hx
/-- equal neighbours once -/
def ded : List Int → List Int
  | [] => []
  | [a] => [a]
  | a :: b :: l => if a = b then ded (b :: l) else a :: ded (b :: l)
theorem mem_ded (x : Int) : ∀ l, x ∈ ded l ↔ x ∈ l
  | [] => by simp [ded]
  | [a] => by simp [ded]
  | a :: b :: l => by
    unfold ded
    have ih := mem_ded x (b :: l)
    split
    · rename_i e; subst e; rw [ih]; simp
    · rw [List.mem_cons, ih]; simp
theorem ded_asc : ∀ l : List Int, l.Pairwise (· ≤ ·) → (ded l).Pairwise (· < ·)
  | [], _ => by simp [ded]
  | [a], _ => by simp [ded]
  | a :: b :: l, h => by
    obtain ⟨h1, h2⟩ := List.pairwise_cons.1 h
    have ih := ded_asc (b :: l) h2
    unfold ded
    split
    · exact ih
    · rename_i e
      refine List.pairwise_cons.2 ⟨fun x hx => ?_, ih⟩
      have hx := (mem_ded x (b :: l)).1 hx
      have hb := h1 b (List.mem_cons_self ..)
      rcases List.mem_cons.1 hx with rfl | hx
      · omega
      · have := (List.pairwise_cons.1 h2).1 x hx; omega
/-- a list arranged -/
noncomputable def arrK (l : List Int) : List Int := l.foldl (fun s k => insK k s) []
theorem fold_asc : ∀ (l s : List Int), s.Pairwise (· < ·) → (l.foldl (fun s k => insK k s) s).Pairwise (· < ·) ∧ ∀ x, x ∈ l.foldl (fun s k => insK k s) s ↔ x ∈ s ∨ x ∈ l
  | [], s, h => ⟨h, fun x => by simp⟩
  | k :: l, s, h => by
    obtain ⟨i1, i2⟩ := fold_asc l (insK k s) (insK_asc k s h)
    refine ⟨i1, fun x => ?_⟩
    rw [List.foldl_cons, i2, mem_insK, List.mem_cons]
    constructor
    · rintro ((h | h) | h)
      · exact .inr (.inl h)
      · exact .inl h
      · exact .inr (.inr h)
    · rintro (h | h | h)
      · exact .inl (.inr h)
      · exact .inl (.inl h)
      · exact .inr h
theorem arrK_asc (l : List Int) : (arrK l).Pairwise (· < ·) := (fold_asc l [] List.Pairwise.nil).1
theorem mem_arrK (l : List Int) (x : Int) : x ∈ arrK l ↔ x ∈ l := by
  have := (fold_asc l [] List.Pairwise.nil).2 x
  unfold arrK
  rw [this]; simp
/-- sorted and without equal neighbours: the same -/
theorem ded_sorted {l m : List Int} (h : m.Pairwise (· ≤ ·)) (hp : m.Perm l) : ded m = arrK l :=
  strict_ext (ded_asc m h) (arrK_asc l) fun x => by rw [mem_ded, mem_arrK, hp.mem_iff]
theorem fold_insK {l s : List Int} (hs : s.Pairwise (· < ·)) : l.foldl (fun s k => insK k s) s = arrK (s ++ l) :=
  strict_ext (fold_asc l s hs).1 (arrK_asc _) fun x => by rw [(fold_asc l s hs).2 x, mem_arrK, List.mem_append]
end Go.Proofs.Ytlbbalmeaedbdaa.V
/-! Lists of dependencies, read as numbers (1024 * From + To). -/
set_option linter.all false
namespace Go.Proofs.Ytlbbalmeaedbdaa.V
open Go Go.VM Go.Proofs
set_option maxRecDepth 10000
variable {frz : Nat} {H : Heap} {v : Value} {xs : List Int} {e : TypeId} {f : Value}
def Fl.dep : Fl Int := ⟨2, fun k => [.int .i64 (k / 1024), .int .i64 (k % 1024)], fun _ => rfl⟩
@[simp] theorem Fl.dep_n : Fl.dep.n = 2 := rfl
theorem Fl.dep_f (k : Int) : Fl.dep.f k = [.int .i64 (k / 1024), .int .i64 (k % 1024)] := rfl
def dv (k : Int) : Value := .agg #[.int .i64 (k / 1024), .int .i64 (k % 1024)]
theorem dv_agg (k : Int) : Value.agg (Fl.dep.f k).toArray = dv k := rfl
def KB (k : Int) : Prop := 0 ≤ k ∧ k < 1099511627776
def Bd (xs : List Int) : Prop := ∀ x ∈ xs, KB x
theorem Bd.G (h : Bd xs) (i : Nat) : KB (G xs i) := by
  by_cases hi : i < xs.length
  · rw [G_get hi]; exact h _ (List.getElem_mem hi)
  · have : V.G xs i = 0 := by simp [V.G, List.getD_eq_getElem?_getD, hi]
    rw [this]; exact ⟨by decide, by decide⟩
theorem Bd.swp (h : Bd xs) (i j : Nat) : Bd (swp xs i j) := fun x hx => by
  unfold V.swp at hx
  rcases List.mem_or_eq_of_mem_set hx with hx | rfl
  · rcases List.mem_or_eq_of_mem_set hx with hx | rfl
    · exact h x hx
    · exact h.G j
  · exact h.G i
def OwE (e : TypeId) (H : Heap) (v : Value) (xs : List Int) : Prop := Ow Fl.dep e H v xs ∧ Bd xs
theorem OwE.rd (h : OwE e H v xs) : Rd Fl.dep H v xs := h.1.rd
theorem OwE.lt (h : OwE e H v xs) : ∀ i ∈ ids v, i < H.length := h.1.lt
theorem OwE.app {L : Heap} (h : OwE e H v xs) : OwE e (H ++ L) v xs := ⟨h.1.app, h.2⟩
theorem OwE.chg {H' : Heap} {is : List Nat} (h : OwE e H v xs) (k : Chg H H' is) (k' : ∀ i ∈ ids v, i ∉ is) : OwE e H' v xs := ⟨h.1.chg k k', h.2⟩
theorem dw_ix (o : OwE e H v xs) {i : Nat} (h1 : i < xs.length) : vindexAddr Try.prog H 33 v (.int .i64 i) = some (elp v (i * 2)) := by
  have := o.rd.idx (P := Try.prog) (ty := 33) (e := 61) (by simp) (i := (i : Int)) (by omega) (by omega)
  simpa using this
theorem dw_ld (o : OwE e H v xs) {i : Nat} (h1 : i < xs.length) : vload Try.prog H 61 (elp v (i * 2)) = some (dv (G xs i)) := by
  have := o.rd.load (P := Try.prog) (e := 61) (by simp) h1
  rw [G_get h1, ← dv_agg]
  exact this
theorem dw_swap (o : OwE e H v xs) {i j : Nat} (hi : i < xs.length) (hj : j < xs.length) (hf : ∀ i ∈ ids v, frz ≤ i) :
    ∃ H1 H2, vstore Try.prog frz H 61 (dv (G xs j)) (elp v (i * 2)) = some H1 ∧ (∀ k : Nat, k < xs.length → vindexAddr Try.prog H1 33 v (.int .i64 k) = some (elp v (k * 2))) ∧
      vstore Try.prog frz H1 61 (dv (G xs i)) (elp v (j * 2)) = some H2 ∧ OwE e H2 v (swp xs i j) ∧ Chg H H2 (ids v) ∧ H2.length = H.length := by
  obtain ⟨H1, s1, o1, c1, l1⟩ := o.1.store (P := Try.prog) (frz := frz) (et := 61) (ag := true) (by simp) hi (x := dv (G xs j)) (y := G xs j) rfl rfl hf
  obtain ⟨H2, s2, o2, c2, l2⟩ := o1.store (P := Try.prog) (frz := frz) (et := 61) (ag := true) (by simp) (j := j) (by simpa using hj) (x := dv (G xs i)) (y := G xs i) rfl rfl hf
  have b1 : Bd (xs.set i (G xs j)) := fun x hx => by
    rcases List.mem_or_eq_of_mem_set hx with hx | rfl
    · exact o.2 x hx
    · exact o.2.G j
  exact ⟨H1, H2, s1, fun k hk => dw_ix ⟨o1, b1⟩ (by simpa using hk), s2, ⟨o2, o.2.swp i j⟩, c1.trans c2, by omega⟩
def SwdE (H : Heap) (v : Value) (xs : List Int) (e : TypeId) (a b : Nat) (K : List Int → Prop) (H' : Heap) : Prop :=
  ∃ ys, Sw a b xs ys ∧ K ys ∧ OwE e H' v ys ∧ Chg H H' (ids v) ∧ H'.length = H.length
/-- how two dependencies compare -/
def cmpZ (x y : Int) : Int := if x / 1024 = y / 1024 then x % 1024 - y % 1024 else x / 1024 - y / 1024
@[simp] theorem cmpZ_lt (x y : Int) : cmpZ x y < 0 ↔ x < y := by unfold cmpZ; split <;> omega
def CmpK (f : Value) : Prop := ∀ F K x y, KB x → KB y → vclos (vcall C F) f [dv x, dv y] K = some (.int .i64 (cmpZ x y), K)
theorem dlt (hc : CmpK f) (o : OwE e H v xs) (F : Nat) (K : Heap) (i j : Nat) : vclos (vcall C F) f [dv (G xs i), dv (G xs j)] K = some (.int .i64 (cmpZ (G xs i) (G xs j)), K) := hc F K _ _ (o.2.G i) (o.2.G j)
theorem iand_leE (a : Int) (b : Nat) (hb : b < 18446744073709551616) : 0 ≤ iand .u64 a b ∧ iand .u64 a b ≤ b := by
  unfold iand
  have h1 : (BitVec.ofInt IntKind.u64.bits a &&& BitVec.ofInt IntKind.u64.bits (b : Int)).toNat ≤ b := by
    rw [BitVec.toNat_and]
    refine Nat.le_trans Nat.and_le_right ?_
    rw [BitVec.toNat_ofInt]
    have : IntKind.u64.bits = 64 := rfl
    rw [this]; omega
  rw [w64u (by omega) (by omega)]
  omega
def BoxE (H : Heap) (r : Nat) : Prop := ∃ s, H[r]? = some ⟨[.int .i64 s], 0, 3⟩
end Go.Proofs.Ytlbbalmeaedbdaa.V
/-! Sorting dependencies (sorte.py, of VS1). -/
set_option linter.all false
namespace Go.Proofs.Ytlbbalmeaedbdaa.V
open Go Go.VM Go.Proofs
set_option maxRecDepth 10000
variable {frz : Nat} {H : Heap} {v : Value} {xs : List Int} {e : TypeId} {cf : Value} (hK : CmpK cf)
include hK
theorem insSort_e (v : Value) (xs : List Int) (e : TypeId) (a b : Nat) (h : OwE e H v xs) (hab : a ≤ b) (hb : b ≤ xs.length) (hl : xs.length ≤ 1073741824) (hf : ∀ i ∈ ids v, frz ≤ i) :
   wp (vcall C frz 91 [v, .int .i64 a, .int .i64 b, cf] H) (fun _ H' => SwdE H v xs e a b (fun ys => Srt ys a b) H') := by
  rw [vcall_go (fn := Try.f91) Try.func91 rfl (by kernel_rfl) rfl]
  simp
  refine wp_inv (fun n t H' => ∃ i : Nat, n = b - i ∧ (t 0 = v ∧ t 3 = cf) ∧ t 1 = .int .i64 a ∧ t 2 = .int .i64 b ∧ t 8 = .int .i64 i ∧ a + 1 ≤ i ∧ i ≤ max (a + 1) b ∧ SwdE H v xs e a b (fun ys => Srt ys a i) H') ?_ (n := b - (a + 1))
    ⟨a + 1, by simp, by simp, by simp, by simp, by simp; exact w64 (by omega) (by omega), by omega, by omega, xs, .refl, Srt.short (by omega), h, Chg.refl _, rfl⟩
  rintro n t H' ⟨i, rfl, h0, h1, h2, h6, ha, hi, ys, sw, sr, o, c, l⟩ ih
  simp [h0, h1, h2, h6]
  refine wp_dec ?_ ?_ <;> intro hib
  · simp [h0, h1, h2, h6]
    refine wp_inv (fun n t H' => ∃ j : Nat, n = j ∧ (t 0 = v ∧ t 3 = cf) ∧ t 1 = .int .i64 a ∧ t 2 = .int .i64 b ∧ t 8 = .int .i64 i ∧ t 9 = .int .i64 j ∧ a ≤ j ∧ j ≤ i ∧ SwdE H v xs e a b (fun ys => Ins ys a i j) H') ?_ (n := i)
      ⟨i, rfl, by simp [h0], by simp [h1], by simp [h2], by simp [h6], by simp, by omega, by omega, ys, sw, Ins.start sr, o, c, l⟩
    rintro j t H' ⟨_, rfl, h0, h1, h2, h6, h7, haj, hji, ys, sw, ins, o, c, l⟩ ih2
    have len := sw.len
    simp [h0, h1, h2, h6, h7]
    rw [go_draw (h := by kernel_rfl)]
    simp [h0, h1, h2, h6, h7]
    refine wpg_dec ?_ ?_ <;> intro hja
    · have e1 : IntKind.i64.wrap ((j : Int) - 1) = ((j - 1 : Nat) : Int) := by rw [w64 (by omega) (by omega)]; omega
      have p1 : j < ys.length := by omega
      have p2 : j - 1 < ys.length := by omega
      simp [h0, h1, h2, h6, h7, hja, e1, dw_ix o p1, dw_ix o p2, dw_ld o p1, dw_ld o p2, dlt hK o]
      have out : ∀ t' : Env, (t' 0 = v ∧ t' 3 = cf) → t' 1 = .int .i64 a → t' 2 = .int .i64 b → t' 8 = .int .i64 (IntKind.i64.wrap ((i : Int) + 1)) → (j = a ∨ (a < j ∧ G ys (j - 1) ≤ G ys j)) →
          ∃ i' : Nat, b - (i + 1) = b - i' ∧ (t' 0 = v ∧ t' 3 = cf) ∧ t' 1 = .int .i64 a ∧ t' 2 = .int .i64 b ∧ t' 8 = .int .i64 i' ∧ a + 1 ≤ i' ∧ i' ≤ max (a + 1) b ∧ SwdE H v xs e a b (fun ys => Srt ys a i') H' := by
        intro t' g0 g1 g2 g6 hj
        exact ⟨i + 1, rfl, g0, g1, g2, by rw [g6, w64 (by omega) (by omega)]; simp, by omega, by omega, ys, sw, ins.done hj, o, c, l⟩
      refine wp_dec ?_ ?_ <;> intro hlt
      · simp [h0, h1, h2, h6, h7]
        rw [go_draw (h := by kernel_rfl)]
        obtain ⟨H1, H2, s1, ix, s2, o2, c2, l2⟩ := dw_swap o p1 p2 hf
        simp [h0, h1, h2, h6, h7, e1, dw_ix o p1, dw_ix o p2, dw_ld o p1, dw_ld o p2, s1, ix _ p1, ix _ p2, s2]
        refine ih2 (j - 1) _ _ ⟨j - 1, rfl, by simp [h0], by simp [h1], by simp [h2], by simp [h6], by simp [e1], by omega, by omega, _, sw.step j (j - 1) (by omega) (by omega), ?_, o2, c.trans c2, by omega⟩ (by omega)
        exact ins.step (by omega) hja hji hlt
      · simp [h0, h1, h2, h6, h7]
        refine ih (b - (i + 1)) _ _ (out _ ?_ ?_ ?_ ?_ (.inr ⟨hja, by omega⟩)) (by omega) <;> simp [h0, h1, h2]
    · simp [h0, h1, h2, h6, h7, hja]
      refine ih (b - (i + 1)) _ _ ⟨i + 1, rfl, by simp [h0], by simp [h1], by simp [h2], ?_, by omega, by omega, ys, sw, ins.done (.inl (by omega)), o, c, l⟩ (by omega)
      simp; exact w64 (by omega) (by omega)
  · have : i = max (a + 1) b := by omega
    simp
    exact ⟨ys, sw, fun p q h1 h2 h3 => sr p q h1 h2 (by omega), o, c, l⟩
theorem siftDown_e (v : Value) (xs : List Int) (e : TypeId) (lo n f : Nat) (h : OwE e H v xs) (hp : Hp xs f (lo + 1) n) (hlo : lo ≤ n) (hn : f + n ≤ xs.length) (hl : xs.length ≤ 1073741824) (hf : ∀ i ∈ ids v, frz ≤ i) :
   wp (vcall C frz 103 [v, .int .i64 lo, .int .i64 n, .int .i64 f, cf] H) (fun _ H' => SwdE H v xs e (f + lo) (f + n) (fun ys => Hp ys f lo n) H') := by
  rw [vcall_go (fn := Try.f103) Try.func103 rfl (by kernel_rfl) rfl]
  simp
  refine wp_inv (fun m t H' => ∃ r : Nat, m = n - r ∧ (t 0 = v ∧ t 4 = cf) ∧ t 2 = .int .i64 n ∧ t 3 = .int .i64 f ∧ t 10 = .int .i64 r ∧ lo ≤ r ∧ r ≤ n ∧ SwdE H v xs e (f + lo) (f + n) (fun ys => HpB ys f lo n r) H') ?_ (n := n - lo)
    ⟨lo, rfl, by simp, by simp, by simp, by simp, by omega, by omega, xs, .refl, HpB.start hp, h, Chg.refl _, rfl⟩
  rintro m t H' ⟨r, rfl, h0, h2, h3, h8, hlr, hrn, ys, sw, hb, o, c, l⟩ ih
  have len := sw.len
  obtain ⟨c1, hc1⟩ : ∃ c1, c1 = 2 * r + 1 := ⟨_, rfl⟩
  obtain ⟨c2, hc2⟩ : ∃ c2, c2 = 2 * r + 2 := ⟨_, rfl⟩
  obtain ⟨d0, hd0⟩ : ∃ d0, d0 = f + r := ⟨_, rfl⟩
  obtain ⟨d1, hd1⟩ : ∃ d1, d1 = f + c1 := ⟨_, rfl⟩
  obtain ⟨d2, hd2⟩ : ∃ d2, d2 = f + c2 := ⟨_, rfl⟩
  have e1 : IntKind.i64.wrap (IntKind.i64.wrap (2 * (r : Int)) + 1) = (c1 : Int) := by rw [w64 (x := 2 * (r : Int)) (by omega) (by omega), w64 (by omega) (by omega)]; omega
  simp [h0, h2, h3, h8, e1]
  refine wp_dec ?_ ?_ <;> intro hc
  · simp
    exact ⟨ys, sw, hb.done (fun q h1 h2 => by omega), o, c, l⟩
  · have e2 : IntKind.i64.wrap ((c1 : Int) + 1) = (c2 : Int) := by rw [w64 (by omega) (by omega)]; omega
    have e3 : IntKind.i64.wrap ((f : Int) + (c1 : Int)) = (d1 : Int) := by rw [w64 (by omega) (by omega)]; omega
    have e4 : IntKind.i64.wrap ((d1 : Int) + 1) = (d2 : Int) := by rw [w64 (by omega) (by omega)]; omega
    have e5 : IntKind.i64.wrap ((f : Int) + (r : Int)) = (d0 : Int) := by rw [w64 (by omega) (by omega)]; omega
    have p0 : d0 < ys.length := by omega
    have p1 : d1 < ys.length := by omega
    refine (fun (rest : ∀ (q : Nat) (t' : Env), (q = 2 * r + 1 ∨ q = 2 * r + 2) → q < n → (∀ p, (p = 2 * r + 1 ∨ p = 2 * r + 2) → p < n → G ys (f + p) ≤ G ys (f + q)) →
       (t' 0 = v ∧ t' 4 = cf) → t' 2 = .int .i64 n → t' 3 = .int .i64 f → t' 10 = .int .i64 r → t' 11 = .int .i64 q → wp (go ?F ?k .normal t' H') ?Q) => ?main) ?rest
    case main =>
      simp [h0, h2, h3, h8, hc, e2]
      rw [go_draw (h := by kernel_rfl)]
      simp [h0, h2, h3, h8, e2]
      refine wpg_dec ?_ ?_ <;> intro g1
      · have p2 : d2 < ys.length := by omega
        simp [h0, h2, h3, h8, e2, g1, e3, e4, dw_ix o p1, dw_ix o p2, dw_ld o p1, dw_ld o p2, dlt hK o]
        refine wp_dec ?_ ?_ <;> intro g2 <;> simp [e2]
        · refine rest c2 _ (.inr hc2) g1 (fun p g3 g4 => ?_) ?_ ?_ ?_ ?_ ?_ <;> try simp [h0, h2, h3, h8]
          rw [← hd2]
          rcases g3 with g3 | g3
          · rw [g3, ← hc1, ← hd1]; omega
          · rw [g3, ← hc2, ← hd2]; omega
        · refine rest c1 _ (.inl hc1) (by omega) (fun p g3 g4 => ?_) ?_ ?_ ?_ ?_ ?_ <;> try simp [h0, h2, h3, h8]
          rw [← hd1]
          rcases g3 with g3 | g3
          · rw [g3, ← hc1, ← hd1]; omega
          · rw [g3, ← hc2, ← hd2]; omega
      · simp [h0, h2, h3, h8, e2, g1]
        refine rest c1 _ (.inl hc1) (by omega) (fun p g3 g4 => ?_) ?_ ?_ ?_ ?_ ?_ <;> try simp [h0, h2, h3, h8]
        have : p = c1 := by omega
        rw [this]; omega
    case rest =>
      intro q t hq hqn hbig h0 h2 h3 h8 h9
      obtain ⟨dq, hdq⟩ : ∃ dq, dq = f + q := ⟨_, rfl⟩
      have e6 : IntKind.i64.wrap ((f : Int) + (q : Int)) = (dq : Int) := by rw [w64 (by omega) (by omega)]; omega
      have pq : dq < ys.length := by omega
      rw [← hdq] at hbig
      rw [go_draw (h := by kernel_rfl)]
      simp [h0, h2, h3, h8, h9, e5, e6, dw_ix o p0, dw_ix o pq, dw_ld o p0, dw_ld o pq, dlt hK o]
      refine wp_dec ?_ ?_ <;> intro g1
      · simp [h0, h2, h3, h8, h9]
        rw [go_draw (h := by kernel_rfl)]
        obtain ⟨H1, H2, s1, ix, s2, o2, c3, l2⟩ := dw_swap o p0 pq hf
        simp [h0, h2, h3, h8, h9, e5, e6, dw_ix o p0, dw_ix o pq, dw_ld o p0, dw_ld o pq, s1, ix _ p0, ix _ pq, s2]
        refine ih (n - q) _ _ ⟨q, rfl, by simp [h0], by simp [h2], by simp [h3], by simp, by omega, by omega, _, sw.step d0 dq (by omega) (by omega), ?_, o2, c.trans c3, by omega⟩ (by omega)
        subst hd0 hdq
        exact hb.step (by omega) hlr hq hqn g1 hbig
      · simp
        subst hd0 hdq
        exact ⟨ys, sw, hb.done (fun p g3 g4 => by have := hbig p g3 g4; omega), o, c, l⟩
theorem heapSort_e (v : Value) (xs : List Int) (e : TypeId) (a b : Nat) (h : OwE e H v xs) (hab : a < b) (hb : b ≤ xs.length) (hl : xs.length ≤ 1073741824) (hf : ∀ i ∈ ids v, frz ≤ i) :
   wp (vcall C frz 92 [v, .int .i64 a, .int .i64 b, cf] H) (fun _ H' => SwdE H v xs e a b (fun ys => Srt ys a b) H') := by
  rw [vcall_go (fn := Try.f92) Try.func92 rfl (by kernel_rfl) rfl]
  obtain ⟨n, hn⟩ : ∃ n, n = b - a := ⟨_, rfl⟩
  have e1 : IntKind.i64.wrap ((b : Int) - a) = (n : Int) := by rw [w64 (by omega) (by omega)]; omega
  have e2 : IntKind.i64.wrap ((n : Int) - 1) = ((n - 1 : Nat) : Int) := by rw [w64 (by omega) (by omega)]; omega
  have e3 : IntKind.i64.wrap (((n - 1 : Nat) : Int) / 2) = (((n - 1) / 2 + 1 : Nat) : Int) - 1 := by rw [w64 (by omega) (by omega)]; omega
  have e4 : ((n : Int) - 1) = ((n - 1 : Nat) : Int) := by omega
  have hbn : a + n = b := by omega
  simp [e1, e2, e3]
  refine wp_inv (fun m t H' => ∃ k : Nat, m = k ∧ (t 0 = v ∧ t 3 = cf) ∧ t 8 = .int .i64 a ∧ t 9 = .int .i64 0 ∧ t 10 = .int .i64 n ∧ t 11 = .int .i64 ((k : Int) - 1) ∧ k ≤ n ∧ SwdE H v xs e a b (fun ys => Hp ys a k n) H') ?_ (n := (n - 1) / 2 + 1)
    ⟨(n - 1) / 2 + 1, rfl, by simp, by simp, by simp, by simp, by simp, by omega, xs, .refl, fun r c h1 h2 h3 => by omega, h, Chg.refl _, rfl⟩
  rintro k t H' ⟨_, rfl, h0, h6, h7, h8, h9, hkn, ys, sw, hp, o, c, l⟩ ih
  have len := sw.len
  simp [h0, h6, h7, h8, h9]
  refine wp_dec ?_ ?_ <;> intro hk
  · obtain ⟨k, rfl⟩ : ∃ k', k = k' + 1 := ⟨k - 1, by omega⟩
    have e5 : ((k + 1 : Nat) : Int) - 1 = (k : Int) := by omega
    rw [e5] at h9
    simp [h0, h6, h7, h8, h9]
    refine wp_thn (siftDown_e hK v ys e k n a o hp (by omega) (by omega) (by omega) hf) ?_
    rintro _ H1 ⟨zs, sw1, hp1, o1, c1, l1⟩
    simp [h0, h6, h7, h8, h9]
    refine ih k _ _ ⟨k, rfl, by simp [h0], by simp [h6], by simp [h7], by simp [h8], ?_, by omega, zs, sw.trans (sw1.mono (by omega) (by omega)), hp1, o1, c.trans c1, by omega⟩ (by omega)
    simp; rw [w64 (by omega) (by omega)]
  · obtain rfl : k = 0 := by omega
    simp [h0, h6, h7, h8, h9, e2]
    refine wp_inv (fun m t H' => ∃ k : Nat, m = k ∧ (t 0 = v ∧ t 3 = cf) ∧ t 8 = .int .i64 a ∧ t 9 = .int .i64 0 ∧ t 12 = .int .i64 ((k : Int) - 1) ∧ k ≤ n ∧
        SwdE H v xs e a b (fun ys => Hp ys a 0 k ∧ Srt ys (a + k) b ∧ ∀ p q, a ≤ p → p < a + k → a + k ≤ q → q < b → G ys p ≤ G ys q) H') ?_ (n := n)
      ⟨n, rfl, by simp [h0], by simp [h6], by simp [h7], by simp [e4], by omega, ys, sw, ⟨hp, Srt.short (by omega), fun p q h1 h2 h3 h4 => by omega⟩, o, c, l⟩
    clear ih h0 h6 h7 h8 h9 o c l hp sw len
    rintro k t H' ⟨_, rfl, h0, h6, h7, h10, hkn, ys, sw, ⟨hp, hs, hle⟩, o, c, l⟩ ih
    have len := sw.len
    simp [h0, h6, h7, h10]
    refine wp_dec ?_ ?_ <;> intro hk
    · obtain ⟨k, rfl⟩ : ∃ k', k = k' + 1 := ⟨k - 1, by omega⟩
      have e5 : ((k + 1 : Nat) : Int) - 1 = (k : Int) := by omega
      rw [e5] at h10
      obtain ⟨d, hd⟩ : ∃ d, d = a + k := ⟨_, rfl⟩
      have e6 : IntKind.i64.wrap ((a : Int) + (k : Int)) = (d : Int) := by rw [w64 (by omega) (by omega)]; omega
      have p0 : a < ys.length := by omega
      have p1 : d < ys.length := by omega
      obtain ⟨H1, H2, s1, ix, s2, o2, c2, l2⟩ := dw_swap o p0 p1 hf
      simp [h0, h6, h7, h10]
      rw [go_draw (h := by kernel_rfl)]
      simp [h0, h6, h7, h10, e6, dw_ix o p0, dw_ix o p1, dw_ld o p0, dw_ld o p1, s1, ix _ p0, ix _ p1, s2]
      have gs := fun q => G_swp (xs := ys) p0 p1 q
      refine wp_thn (siftDown_e hK v _ e 0 k a o2 (fun r q h1 h2 h3 => ?_) (by omega) (by simp; omega) (by simp; omega) hf) ?_
      · rw [gs, gs, if_neg (by omega), if_neg (by omega), if_neg (by omega), if_neg (by omega)]
        exact hp r q (by omega) h2 (by omega)
      · rintro _ H3 ⟨zs, sw1, hp1, o3, c3, l3⟩
        simp only [Nat.add_zero] at sw1
        have hlz : a + k ≤ (swp ys a d).length := by simp; omega
        have top := hp.top
        have hz : ∀ q, q < a ∨ a + k ≤ q → G zs q = G (swp ys a d) q := fun q hq => sw1.out hlz hq
        have zd : G zs d = G ys a := by rw [hz d (by omega), gs, if_pos rfl]
        have zo : ∀ q, d < q → q < b → G zs q = G ys q := fun q h1 h2 => by rw [hz q (by omega), gs, if_neg (by omega), if_neg (by omega)]
        have zlo : ∀ p, a ≤ p → p < a + k → G zs p ≤ G ys a ∧ ∀ q, d < q → q < b → G zs p ≤ G ys q := sw1.all (p := fun x => x ≤ G ys a ∧ ∀ q, d < q → q < b → x ≤ G ys q) hlz (fun p h1 h2 => by
          rw [gs, if_neg (by omega)]
          split
          · have := top k (by omega); rw [← hd] at this
            exact ⟨this, fun q g1 g2 => hle d q (by omega) (by omega) (by omega) g2⟩
          · have := top (p - a) (by omega); rw [show a + (p - a) = p by omega] at this
            exact ⟨this, fun q g1 g2 => hle p q (by omega) (by omega) (by omega) g2⟩)
        simp [h0, h6, h7, h10]
        refine ih k _ _ ⟨k, rfl, by simp [h0], by simp [h6], by simp [h7], ?_, by omega, zs, (sw.step a d (by omega) (by omega)).trans (sw1.mono (by omega) (by omega)), ⟨hp1, fun p q h1 h2 h3 => ?_, fun p q h1 h2 h3 h4 => ?_⟩, o3, c.trans (c2.trans c3), by omega⟩ (by omega)
        · simp; rw [w64 (by omega) (by omega)]
        · rw [zo q (by omega) h3]
          by_cases hpd : p = d
          · rw [hpd, zd]; exact hle a q (by omega) (by omega) (by omega) h3
          · rw [zo p (by omega) (by omega)]; exact hs p q (by omega) h2 h3
        · by_cases hq : q = d
          · rw [hq, zd]; exact (zlo p h1 h2).1
          · rw [zo q (by omega) h4]; exact (zlo p h1 h2).2 q (by omega) h4
    · obtain rfl : k = 0 := by omega
      simp
      exact ⟨ys, sw, hs, o, c, l⟩
end Go.Proofs.Ytlbbalmeaedbdaa.V
/-! Sorting dependencies (sorte.py, of VS2). -/
set_option linter.all false
namespace Go.Proofs.Ytlbbalmeaedbdaa.V
open Go Go.VM Go.Proofs
set_option maxRecDepth 10000
variable {frz : Nat} {H : Heap} {v : Value} {xs : List Int} {e : TypeId} {cf : Value} (hK : CmpK cf)
include hK
theorem revRange_e (v : Value) (xs : List Int) (e : TypeId) (a b : Nat) (h : OwE e H v xs) (hab : a < b) (hb : b ≤ xs.length) (hl : xs.length ≤ 1073741824) (hf : ∀ i ∈ ids v, frz ≤ i) :
   wp (vcall C frz 95 [v, .int .i64 a, .int .i64 b, cf] H) (fun _ H' => SwdE H v xs e a b (fun ys => True) H') := by
  rw [vcall_go (fn := Try.f95) Try.func95 rfl (by kernel_rfl) rfl]
  have e1 : IntKind.i64.wrap ((b : Int) - 1) = ((b - 1 : Nat) : Int) := by rw [w64 (by omega) (by omega)]; omega
  simp [e1]
  refine wp_inv (fun m t H' => ∃ i j : Nat, m = j - i ∧ (t 0 = v ∧ t 3 = cf) ∧ t 8 = .int .i64 i ∧ t 9 = .int .i64 j ∧ a ≤ i ∧ j < b ∧ i ≤ j + 1 ∧ SwdE H v xs e a b (fun ys => True) H') ?_ (n := b - 1 - a)
    ⟨a, b - 1, rfl, by simp, by simp, by simp, by omega, by omega, by omega, xs, .refl, trivial, h, Chg.refl _, rfl⟩
  rintro m t H' ⟨i, j, rfl, h0, h6, h7, hi, hj, hij, ys, sw, _, o, c, l⟩ ih
  have len := sw.len
  simp [h0, h6, h7]
  refine wp_dec ?_ ?_ <;> intro hk
  · have p0 : i < ys.length := by omega
    have p1 : j < ys.length := by omega
    obtain ⟨H1, H2, s1, ix, s2, o2, c2, l2⟩ := dw_swap o p0 p1 hf
    simp [h0, h6, h7]
    rw [go_draw (h := by kernel_rfl)]
    simp [h0, h6, h7, dw_ix o p0, dw_ix o p1, dw_ld o p0, dw_ld o p1, s1, ix _ p0, ix _ p1, s2]
    refine ih (j - 1 - (i + 1)) _ _ ⟨i + 1, j - 1, rfl, by simp [h0], ?_, ?_, by omega, by omega, by omega, _, sw.step i j (by omega) (by omega), trivial, o2, c.trans c2, by omega⟩ (by omega)
    · simp; rw [w64 (by omega) (by omega)]
    · simp; rw [w64 (by omega) (by omega)]; omega
  · simp
    exact ⟨ys, sw, trivial, o, c, l⟩
theorem order2_e (v : Value) (xs : List Int) (e : TypeId) (a b r : Nat) (h : OwE e H v xs) (ha : a < xs.length) (hb : b < xs.length) (hr : BoxE H r) (hf : frz ≤ r) :
   wp (vcall C frz 108 [v, .int .i64 a, .int .i64 b, .pointer (some ⟨r, 0, some 0⟩), cf] H)
    (fun u H' => (∃ a' b' : Nat, u = .tuple #[.int .i64 a', .int .i64 b'] ∧ ((a' = a ∧ b' = b) ∨ (a' = b ∧ b' = a))) ∧ Chg H H' [r] ∧ BoxE H' r) := by
  obtain ⟨s, hs⟩ := hr
  rw [vcall_go (fn := Try.f108) Try.func108 rfl (by kernel_rfl) rfl]
  simp
  rw [go_draw (h := by kernel_rfl)]
  simp [dw_ix h ha, dw_ix h hb, dw_ld h ha, dw_ld h hb, dlt hK h]
  refine wp_dec ?_ ?_ <;> intro g1
  · simp [vnil, VM.look, hs, hf]
    exact ⟨⟨b, a, ⟨rfl, rfl⟩, .inr ⟨rfl, rfl⟩⟩, chg_set _ _, _, set_get hs⟩
  · simp
    exact ⟨⟨a, b, ⟨rfl, rfl⟩, .inl ⟨rfl, rfl⟩⟩, Chg.refl _, _, hs⟩
theorem median_e (v : Value) (xs : List Int) (e : TypeId) (a b c r : Nat) (h : OwE e H v xs) (ha : a < xs.length) (hb : b < xs.length) (hc : c < xs.length) (hr : BoxE H r) (hf : frz ≤ r) (hn : r ∉ ids v) :
   wp (vcall C frz 107 [v, .int .i64 a, .int .i64 b, .int .i64 c, .pointer (some ⟨r, 0, some 0⟩), cf] H)
    (fun u H' => (∃ m : Nat, u = .int .i64 m ∧ (m = a ∨ m = b ∨ m = c)) ∧ Chg H H' [r] ∧ BoxE H' r) := by
  rw [vcall_go (fn := Try.f107) Try.func107 rfl (by kernel_rfl) rfl]
  simp
  refine wp_thn (order2_e hK v xs e a b r h ha hb hr hf) ?_
  rintro _ H1 ⟨⟨a1, b1, rfl, h1⟩, c1, r1⟩
  have o1 := h.chg c1 (fun i hi hh => by simp at hh; subst hh; exact hn hi)
  simp
  refine wp_thn (order2_e hK v xs e b1 c r o1 (by omega) hc r1 hf) ?_
  rintro _ H2 ⟨⟨b2, c2, rfl, h2⟩, c2', r2⟩
  have o2 := o1.chg c2' (fun i hi hh => by simp at hh; subst hh; exact hn hi)
  simp
  refine wp_thn (order2_e hK v xs e a1 b2 r o2 (by omega) (by omega) r2 hf) ?_
  rintro _ H3 ⟨⟨a3, b3, rfl, h3⟩, c3, r3⟩
  simp
  exact ⟨⟨b3, rfl, by omega⟩, c1.trans (c2'.trans c3), r3⟩
theorem medianAdj_e (v : Value) (xs : List Int) (e : TypeId) (a r : Nat) (h : OwE e H v xs) (h0 : 0 < a) (ha : a + 1 < xs.length) (hl : xs.length ≤ 1073741824) (hr : BoxE H r) (hf : frz ≤ r) (hn : r ∉ ids v) :
   wp (vcall C frz 106 [v, .int .i64 a, .pointer (some ⟨r, 0, some 0⟩), cf] H)
    (fun u H' => (∃ m : Nat, u = .int .i64 m ∧ (m + 1 = a ∨ m = a ∨ m = a + 1)) ∧ Chg H H' [r] ∧ BoxE H' r) := by
  rw [vcall_go (fn := Try.f106) Try.func106 rfl (by kernel_rfl) rfl]
  have e1 : IntKind.i64.wrap ((a : Int) - 1) = ((a - 1 : Nat) : Int) := by rw [w64 (by omega) (by omega)]; omega
  have e2 : IntKind.i64.wrap ((a : Int) + 1) = ((a + 1 : Nat) : Int) := by rw [w64 (by omega) (by omega)]; omega
  simp [e1]
  rw [e2]
  refine wp_thn (median_e hK v xs e (a - 1) a (a + 1) r h (by omega) (by omega) ha hr hf hn) ?_
  rintro _ H1 ⟨⟨m, rfl, hm⟩, c1, r1⟩
  simp
  exact ⟨⟨m, rfl, by omega⟩, c1, r1⟩
theorem choosePivot_e (v : Value) (xs : List Int) (e : TypeId) (a b : Nat) (h : OwE e H v xs) (hab : a + 8 ≤ b) (hb : b ≤ xs.length) (hl : xs.length ≤ 1073741824) (hf : frz ≤ H.length) :
   wp (vcall C frz 94 [v, .int .i64 a, .int .i64 b, cf] H)
    (fun u H' => (∃ (m : Nat) (k : Int), u = .tuple #[.int .i64 m, .int .i64 k] ∧ a ≤ m ∧ m < b) ∧ Chg H H' []) := by
  rw [vcall_go (fn := Try.f94) Try.func94 rfl (by kernel_rfl) rfl]
  obtain ⟨n, hn⟩ : ∃ n, n = b - a := ⟨_, rfl⟩
  have e1 : ∀ [Inhabited Unit], IntKind.i64.wrap ((b : Int) - a) = (n : Int) := by intro _; rw [w64 (by omega) (by omega)]; omega
  obtain ⟨q, hq⟩ : ∃ q, q = n / 4 := ⟨_, rfl⟩
  have e2 : ∀ [Inhabited Unit], IntKind.i64.wrap ((n : Int) / 4) = (q : Int) := by intro _; rw [w64 (by omega) (by omega)]; omega
  obtain ⟨q2, hq2⟩ : ∃ q2, q2 = q * 2 := ⟨_, rfl⟩
  obtain ⟨q3, hq3⟩ : ∃ q3, q3 = q * 3 := ⟨_, rfl⟩
  obtain ⟨i0, hi0⟩ : ∃ i0, i0 = a + q := ⟨_, rfl⟩
  obtain ⟨i1, hi1⟩ : ∃ i1, i1 = a + q2 := ⟨_, rfl⟩
  obtain ⟨i2, hi2⟩ : ∃ i2, i2 = a + q3 := ⟨_, rfl⟩
  have e3 : ∀ [Inhabited Unit], IntKind.i64.wrap (q : Int) = (q : Int) := by intro _; rw [w64 (by omega) (by omega)]
  have e4 : ∀ [Inhabited Unit], IntKind.i64.wrap ((q : Int) * 2) = (q2 : Int) := by intro _; rw [w64 (by omega) (by omega)]; omega
  have e5 : ∀ [Inhabited Unit], IntKind.i64.wrap ((q : Int) * 3) = (q3 : Int) := by intro _; rw [w64 (by omega) (by omega)]; omega
  have e6 : ∀ [Inhabited Unit], IntKind.i64.wrap ((a : Int) + q) = (i0 : Int) := by intro _; rw [w64 (by omega) (by omega)]; omega
  have e7 : ∀ [Inhabited Unit], IntKind.i64.wrap ((a : Int) + q2) = (i1 : Int) := by intro _; rw [w64 (by omega) (by omega)]; omega
  have e8 : ∀ [Inhabited Unit], IntKind.i64.wrap ((a : Int) + q3) = (i2 : Int) := by intro _; rw [w64 (by omega) (by omega)]; omega
  have g8 : (8 : Int) ≤ n := by omega
  have lt := h.lt
  have nin : H.length ∉ ids v := fun hh => by have := lt _ hh; omega
  simp [e1, e2, e3, e4, e5, e6, e7, e8, g8]
  have b0 : BoxE (H ++ [⟨[.int .i64 0], 0, 3⟩]) H.length := ⟨0, by simp⟩
  have o0 : OwE e (H ++ [⟨[.int .i64 0], 0, 3⟩]) v xs := h.app
  refine wp_joinc (F := ?F) (k := ?k) (d := ?d) (Q := ?Q) (fun r t => ∃ (i0 i1 i2 : Nat) (H1 : Heap), r = vcall C frz 107 [v, .int .i64 i0, .int .i64 i1, .int .i64 i2, .pointer (some ⟨H.length, 0, some 0⟩), cf] H1 ∧
     (a ≤ i0 ∧ i0 < b) ∧ (a ≤ i1 ∧ i1 < b) ∧ (a ≤ i2 ∧ i2 < b) ∧ t 11 = .pointer (some ⟨H.length, 0, some 0⟩) ∧
     Chg (H ++ [⟨[.int .i64 0], 0, 3⟩]) H1 [H.length] ∧ BoxE H1 H.length) ?main ?rest
  case main =>
    intro rest
    refine wp_dec ?_ ?_ <;> intro g1
    · simp [e6, e7, e8]
      refine wp_thn (medianAdj_e hK v xs e i0 H.length o0 (by omega) (by omega) hl b0 hf nin) ?_
      rintro _ H1 ⟨⟨j0, rfl, hj0⟩, c1, r1⟩
      have o1 := o0.chg c1 (fun i hi hh => by simp at hh; subst hh; exact nin hi)
      simp [e6, e7, e8]
      refine wp_thn (medianAdj_e hK v xs e i1 H.length o1 (by omega) (by omega) hl r1 hf nin) ?_
      rintro _ H2 ⟨⟨j1, rfl, hj1⟩, c2, r2⟩
      have o2 := o1.chg c2 (fun i hi hh => by simp at hh; subst hh; exact nin hi)
      simp [e6, e7, e8]
      refine wp_thn (medianAdj_e hK v xs e i2 H.length o2 (by omega) (by omega) hl r2 hf nin) ?_
      rintro _ H3 ⟨⟨j2, rfl, hj2⟩, c3, r3⟩
      simp [e6, e7, e8]
      refine rest _ _ ?_
      exact ⟨j0, j1, j2, H3, rfl, by omega, by omega, by omega, by simp, c1.trans (c2.trans c3), r3⟩
    · simp [e6, e7, e8]
      refine rest _ _ ?_
      exact ⟨i0, i1, i2, _, rfl, by omega, by omega, by omega, by simp, Chg.refl _, b0⟩
  case rest =>
    rintro _ t ⟨i0, i1, i2, H1, rfl, h0, h1, h2, t9, c1, r1⟩
    have o1 := o0.chg c1 (fun i hi hh => by simp at hh; subst hh; exact nin hi)
    refine wp_thn (median_e hK v xs e i0 i1 i2 H.length o1 (by omega) (by omega) (by omega) r1 hf nin) ?_
    rintro _ H2 ⟨⟨m, rfl, hm⟩, c2, s, hs⟩
    have cc : Chg H H2 [] := (Chg.app (L := [⟨[.int .i64 0], 0, 3⟩]) []).trans' (c1.trans c2) (fun i hi => by simp at hi; subst hi; right; simp)
    simp [t9, VM.look, hs]
    refine wp_dec ?_ ?_ <;> intro g2 <;> simp
    · exact ⟨⟨m, rfl, by omega⟩, cc⟩
    · refine wp_dec ?_ ?_ <;> intro g3 <;> simp
      · exact ⟨⟨m, rfl, by omega⟩, cc⟩
      · exact ⟨⟨m, rfl, by omega⟩, cc⟩
end Go.Proofs.Ytlbbalmeaedbdaa.V
/-! Sorting dependencies (sorte.py, of VS3). -/
set_option linter.all false
namespace Go.Proofs.Ytlbbalmeaedbdaa.V
open Go Go.VM Go.Proofs
set_option maxRecDepth 10000
variable {frz : Nat} {H : Heap} {v : Value} {xs : List Int} {e : TypeId} {cf : Value} (hK : CmpK cf)
include hK
theorem breakPat_e (v : Value) (xs : List Int) (e : TypeId) (a b : Nat) (h : OwE e H v xs) (hab : a ≤ b) (hb : b ≤ xs.length) (hl : xs.length ≤ 1073741824) (hf : ∀ i ∈ ids v, frz ≤ i) (hF : frz ≤ H.length) :
   wp (vcall C frz 93 [v, .int .i64 a, .int .i64 b, cf] H) (fun _ H' => ∃ ys, Sw a b xs ys ∧ OwE e H' v ys ∧ Chg H H' (ids v)) := by
  rw [vcall_go (fn := Try.f93) Try.func93 rfl (by kernel_rfl) rfl]
  obtain ⟨n, hn⟩ : ∃ n, n = b - a := ⟨_, rfl⟩
  have e1 : ∀ [Inhabited Unit], IntKind.i64.wrap ((b : Int) - a) = (n : Int) := by intro _; rw [w64 (by omega) (by omega)]; omega
  simp [e1]
  refine wp_dec ?_ ?_ <;> intro g1
  · have lt := h.lt
    have nin : H.length ∉ ids v := fun hh => by have := lt _ hh; omega
    have e2 : ∀ [Inhabited Unit], IntKind.u64.wrap (n : Int) = (n : Int) := by intro _; exact w64u (by omega) (by omega)
    have e3 : ∀ [Inhabited Unit], IntKind.i64.wrap (n : Int) = (n : Int) := by intro _; exact w64 (by omega) (by omega)
    simp [e1, e2, VM.look, hF]
    refine wp_thn (pow2_w n (by omega)) ?_
    rintro _ _ ⟨rfl, m, rfl, m1, m2, m3⟩
    obtain ⟨q, hq⟩ : ∃ q, q = n / 4 := ⟨_, rfl⟩
    obtain ⟨q2, hq2⟩ : ∃ q2, q2 = q * 2 := ⟨_, rfl⟩
    obtain ⟨s, hs⟩ : ∃ s, s = a + q2 := ⟨_, rfl⟩
    have e4 : ∀ [Inhabited Unit], IntKind.i64.wrap ((n : Int) / 4) = (q : Int) := by intro _; rw [w64 (by omega) (by omega)]; omega
    have e5 : ∀ [Inhabited Unit], IntKind.i64.wrap ((q : Int) * 2) = (q2 : Int) := by intro _; rw [w64 (by omega) (by omega)]; omega
    have e6 : ∀ [Inhabited Unit], IntKind.i64.wrap ((a : Int) + q2) = (s : Int) := by intro _; rw [w64 (by omega) (by omega)]; omega
    have e7 : ∀ [Inhabited Unit], IntKind.i64.wrap ((s : Int) - 1) = ((s - 1 : Nat) : Int) := by intro _; rw [w64 (by omega) (by omega)]; omega
    have e8 : ∀ [Inhabited Unit], IntKind.i64.wrap ((s : Int) + 1) = ((s + 1 : Nat) : Int) := by intro _; rw [w64 (by omega) (by omega)]; omega
    have e9 : ∀ [Inhabited Unit], IntKind.u64.wrap ((m : Int) - 1) = ((m - 1 : Nat) : Int) := by intro _; rw [w64u (by omega) (by omega)]; omega
    simp [e1, e2, e3, e4, e5, e6, e7]
    refine wp_inv (fun c t H' => ∃ i : Nat, c = s + 2 - i ∧ s ≤ i + 1 ∧ i ≤ s + 2 ∧ (t 0 = v ∧ t 3 = cf) ∧ t 1 = .int .i64 a ∧ t 8 = .int .i64 n ∧ t 9 = .pointer (some ⟨H.length, 0, some 0⟩) ∧ t 10 = .int .u64 m ∧ t 11 = .int .i64 i ∧
        BoxX H' H.length ∧ Chg (H ++ [⟨[.int .u64 n], 0, 115⟩]) H' (H.length :: ids v) ∧ ∃ ys, Sw a b xs ys ∧ OwE e H' v ys) ?_ (n := s + 2 - (s - 1))
      ⟨s - 1, rfl, by omega, by omega, by simp, by simp, by simp, by simp, by simp, by simp, ⟨n, by simp⟩, Chg.refl _, xs, .refl, h.app⟩
    rintro c t H1 ⟨i, rfl, hi1, hi2, t0, t1, t6, t7, t8, t9, bx, ch, ys, sw, o⟩ ih
    have len := sw.len
    simp [t0, t1, t6, t7, t8, t9, e4, e5, e6, e8]
    refine wp_dec ?_ ?_ <;> intro g2
    · have p0 : i < ys.length := by omega
      simp [t0, t1, t6, t7, t8, t9]
      refine wp_thn (xnext_w H.length bx hF) ?_
      rintro _ H2 ⟨⟨z, rfl⟩, c2, bx2⟩
      have o2 := o.chg c2 (fun i hi hh => by simp at hh; subst hh; exact nin hi)
      obtain ⟨k, hk⟩ : ∃ k : Nat, iand .u64 z ((m - 1 : Nat) : Int) = k := ⟨_, (Int.toNat_of_nonneg (iand_leE z (m - 1) (by omega)).1).symm⟩
      have hk2 := (iand_leE z (m - 1) (by omega)).2
      rw [hk] at hk2
      have e10 : ∀ [Inhabited Unit], IntKind.i64.wrap (k : Int) = (k : Int) := by intro _; exact w64 (by omega) (by omega)
      have hk' : ∀ [Inhabited Unit], iand .u64 z ((m - 1 : Nat) : Int) = k := by intro _; exact hk
      clear hk
      simp [t0, t1, t6, t7, t8, t9, e9, hk', e10]
      refine wp_join (F := ?F) (k := ?k) (Q := ?Q) (fun t H' => ∃ d : Nat, d < n ∧ H' = H2 ∧ (t 0 = v ∧ t 3 = cf) ∧ t 1 = .int .i64 a ∧ t 8 = .int .i64 n ∧ t 9 = .pointer (some ⟨H.length, 0, some 0⟩) ∧ t 10 = .int .u64 m ∧ t 11 = .int .i64 i ∧ t 12 = .int .i64 d) ?main ?rest
      case main =>
        intro rest
        refine wp_dec ?_ ?_ <;> intro g3
        · have e11 : ∀ [Inhabited Unit], IntKind.i64.wrap ((k : Int) - n) = ((k - n : Nat) : Int) := by intro _; rw [w64 (by omega) (by omega)]; omega
          simp [t0, t1, t6, t7, t8, t9, e9, hk', e10, e11]
          refine rest _ _ ?_
          exact ⟨k - n, by omega, rfl, by simp [t0], by simp [t1], by simp [t6], by simp [t7], by simp [t8], by simp [t9], by simp⟩
        · simp
          refine rest _ _ ?_
          exact ⟨k, by omega, rfl, by simp [t0], by simp [t1], by simp [t6], by simp [t7], by simp [t8], by simp [t9], by simp⟩
      case rest =>
        rintro t _ ⟨d, hd, rfl, t0, t1, t6, t7, t8, t9, t10⟩
        obtain ⟨j, hj⟩ : ∃ j, j = a + d := ⟨_, rfl⟩
        have e12 : ∀ [Inhabited Unit], IntKind.i64.wrap ((a : Int) + d) = (j : Int) := by intro _; rw [w64 (by omega) (by omega)]; omega
        have p1 : j < ys.length := by omega
        obtain ⟨H3, H4, s1, ix, s2, o4, c4, l4⟩ := dw_swap o2 p0 p1 hf
        rw [go_draw (h := by kernel_rfl)]
        simp [t0, t1, t6, t7, t8, t9, t10, e12, dw_ix o2 p0, dw_ix o2 p1, dw_ld o2 p0, dw_ld o2 p1, s1, ix _ p0, ix _ p1, s2]
        obtain ⟨sx, hsx⟩ := bx2
        have bx4 : BoxX H4 H.length := ⟨sx, box_chg hsx c4 nin⟩
        refine ih (s + 2 - (i + 1)) _ _ ⟨i + 1, rfl, by omega, by omega, by simp [t0], by simp [t1], by simp [t6], by simp [t7], by simp [t8], ?_, bx4, ?_, _, sw.step i j (by omega) (by omega), o4⟩ (by omega)
        · simp; rw [w64 (by omega) (by omega)]
        · exact ch.trans ((c2.mono (by simp)).trans (c4.mono (fun q hq => by simp [hq])))
    · simp
      exact ⟨ys, sw, o, (Chg.app (ids v)).trans' ch (fun q hq => by
        rcases List.mem_cons.1 hq with hq | hq
        · right; simp [hq]
        · exact .inl hq)⟩
  · simp
    exact ⟨xs, .refl, h, Chg.refl _⟩
end Go.Proofs.Ytlbbalmeaedbdaa.V
/-! Sorting dependencies (sorte.py, of VS4). -/
set_option linter.all false
namespace Go.Proofs.Ytlbbalmeaedbdaa.V
open Go Go.VM Go.Proofs
set_option maxRecDepth 10000
variable {frz : Nat} {H : Heap} {v : Value} {xs : List Int} {e : TypeId} {cf : Value} (hK : CmpK cf)
include hK
theorem partEq_e (v : Value) (xs : List Int) (e : TypeId) (a b p : Nat) (h : OwE e H v xs) (hp : a ≤ p ∧ p < b) (hb : b ≤ xs.length) (hl : xs.length ≤ 1073741824) (hf : ∀ i ∈ ids v, frz ≤ i) :
   wp (vcall C frz 97 [v, .int .i64 a, .int .i64 b, .int .i64 p, cf] H) (fun r H' => ∃ m : Nat, r = .int .i64 m ∧ a < m ∧ m ≤ b ∧
     SwdE H v xs e a b (fun ys => (∀ k, a ≤ k → k < m → ¬ G xs p < G ys k) ∧ ∀ k, m ≤ k → k < b → G xs p < G ys k) H') := by
  rw [vcall_go (fn := Try.f97) Try.func97 rfl (by kernel_rfl) rfl]
  obtain ⟨x, hx⟩ : ∃ x, x = G xs p := ⟨_, rfl⟩
  obtain ⟨i0, hi0⟩ : ∃ i0, i0 = a + 1 := ⟨_, rfl⟩
  obtain ⟨j0, hj0⟩ : ∃ j0, j0 = b - 1 := ⟨_, rfl⟩
  have e2 : ∀ [Inhabited Unit], IntKind.i64.wrap ((a : Int) + 1) = (i0 : Int) := by intro _; rw [w64 (by omega) (by omega)]; omega
  have e3 : ∀ [Inhabited Unit], IntKind.i64.wrap ((b : Int) - 1) = (j0 : Int) := by intro _; rw [w64 (by omega) (by omega)]; omega
  have p0 : a < xs.length := by omega
  have p1 : p < xs.length := by omega
  simp
  rw [go_draw (h := by kernel_rfl)]
  obtain ⟨H1, H2, s1, ix, s2, o2, c2, l2⟩ := dw_swap h p0 p1 hf
  simp [dw_ix h p0, dw_ix h p1, dw_ld h p0, dw_ld h p1, s1, ix _ p0, ix _ p1, s2, e2, e3]
  have pt0 : Pt (swp xs a p) a b x (fun y => ¬ x < y) i0 j0 := by
    refine ⟨?_, fun k h1 h2 => by omega, fun k h1 h2 => by omega⟩
    rw [G_swp p0 p1, hx]
    split
    · rename_i e; rw [e]
    · rw [if_pos rfl]
  have sw0 : Sw a b xs (swp xs a p) := Sw.refl.step a p (by omega) (by omega)
  refine wp_inv (fun c t H' => ∃ i j : Nat, c = j + 1 - i ∧ (t 0 = v ∧ t 4 = cf) ∧ t 1 = .int .i64 a ∧ t 11 = .int .i64 i ∧ t 12 = .int .i64 j ∧ a < i ∧ i ≤ j + 1 ∧ j < b ∧ SwdE H v xs e a b (fun ys => Pt ys a b x (fun y => ¬ x < y) i j) H') ?_ (n := j0 + 1 - i0)
    ⟨i0, j0, rfl, by simp, by simp, by simp, by simp, by omega, by omega, by omega, _, sw0, pt0, o2, c2, l2⟩
  rw [← hx]
  clear pt0 sw0 o2 s1 s2 ix c2 l2 p0 p1
  rintro c t H' ⟨i, j, rfl, h0, h1, hi, hj, hai, hij, hjb, ys, sw, pt, o, c, l⟩ ih
  have len := sw.len
  have p0 : a < ys.length := by omega
  simp [h0, h1, hi, hj]
  obtain ⟨il, hil⟩ : ∃ il, il = i := ⟨_, rfl⟩
  have hai' : il ≤ i ∧ a < i := ⟨by omega, hai⟩
  refine wp_join (F := ?F1) (k := ?k1) (Q := ?Q1) (fun t H1 => ∃ i : Nat, (t 0 = v ∧ t 4 = cf) ∧ t 1 = .int .i64 a ∧ t 11 = .int .i64 i ∧ t 12 = .int .i64 j ∧ (il ≤ i ∧ a < i) ∧ i ≤ j + 1 ∧ (i = j + 1 ∨ (i ≤ j ∧ ¬ (fun y => ¬ x < y) (G ys i))) ∧ H' = H1 ∧ Pt ys a b x (fun y => ¬ x < y) i j) ?main1 ?rest1
  case main1 =>
    intro rest
    refine wp_inv (fun c t H1 => ∃ i : Nat, c = j + 1 - i ∧ (t 0 = v ∧ t 4 = cf) ∧ t 1 = .int .i64 a ∧ t 11 = .int .i64 i ∧ t 12 = .int .i64 j ∧ (il ≤ i ∧ a < i) ∧ i ≤ j + 1 ∧ H' = H1 ∧ Pt ys a b x (fun y => ¬ x < y) i j) ?_ (n := j + 1 - i)
      ⟨i, rfl, by simp [h0], by simp [h1], by simp [hi], by simp [hj], hai', hij, rfl, pt⟩
    rintro c t _ ⟨i, rfl, h0, h1, hi, hj, hai', hij, rfl, pt⟩ ih2
    have hai := hai'.2
    simp [h0, h1, hi, hj]
    rw [go_draw (h := by kernel_rfl)]
    simp [h0, h1, hi, hj]
    refine wpg_dec ?_ ?_ <;> intro g1
    · have p1 : i < ys.length := by omega
      simp [h0, h1, hi, hj, g1, dw_ix o p0, dw_ix o p1, dw_ld o p0, dw_ld o p1, dlt hK o]
      refine wp_dec ?_ ?_ <;> intro g2
      · simp [h0, h1, hi, hj]
        refine rest _ _ ?_
        exact ⟨i, by simp [h0], by simp [h1], by simp [hi], by simp [hj], hai', by omega, .inr ⟨by omega, by have := pt.1; show ¬ (¬ x < G ys i); omega⟩, rfl, pt⟩
      · simp [h0, h1, hi, hj]
        refine ih2 (j + 1 - (i + 1)) _ _ ⟨i + 1, rfl, by simp [h0], by simp [h1], ?_, by simp [hj], by omega, by omega, rfl, pt.incr hai (by have := pt.1; show ¬ x < G ys i; omega)⟩ (by omega)
        simp; rw [w64 (by omega) (by omega)]
    · simp [h0, h1, hi, hj, g1]
      refine rest _ _ ?_
      exact ⟨i, by simp [h0], by simp [h1], by simp [hi], by simp [hj], hai', hij, .inl (by omega), rfl, pt⟩
  case rest1 =>
    rintro t _ ⟨i, h0, h1, hi, hj, hai', hij, hex, rfl, pt⟩
    have hai := hai'.2
    refine wp_inv (fun c t H1 => ∃ j' : Nat, c = j' + 1 - i ∧ (t 0 = v ∧ t 4 = cf) ∧ t 1 = .int .i64 a ∧ t 11 = .int .i64 i ∧ t 12 = .int .i64 j' ∧ j' ≤ j ∧ i ≤ j' + 1 ∧ H' = H1 ∧ Pt ys a b x (fun y => ¬ x < y) i j') ?_ (n := j + 1 - i)
      ⟨j, rfl, by simp [h0], by simp [h1], by simp [hi], by simp [hj], Nat.le_refl _, hij, rfl, pt⟩
    have hex' : i < j + 1 → ¬ (fun y => ¬ x < y) (G ys i) := fun hh => by rcases hex with hex | hex; omega; exact hex.2
    have hjb0 := hjb
    rintro c t _ ⟨j', rfl, h0, h1, hi, hj, hjj', hij, rfl, pt⟩ ih2
    have hjb : j' < b := by omega
    simp [h0, h1, hi, hj]
    rw [go_draw (h := by kernel_rfl)]
    simp [h0, h1, hi, hj]
    refine wpg_dec ?_ ?_ <;> intro g1
    · have p1 : j' < ys.length := by omega
      simp [h0, h1, hi, hj, g1, dw_ix o p0, dw_ix o p1, dw_ld o p0, dw_ld o p1, dlt hK o]
      refine wp_dec ?_ ?_ <;> intro g2
      · simp [h0, h1, hi, hj]
        refine ih2 (j' - 1 + 1 - i) _ _ ⟨j' - 1, rfl, by simp [h0], by simp [h1], by simp [hi], ?_, by omega, by omega, rfl, pt.decr (by omega) (by have := pt.1; show ¬ (¬ x < G ys j'); omega)⟩ (by omega)
        simp; rw [w64 (by omega) (by omega)]; omega
      · simp [h0, h1, hi, hj]
        have hnj : ¬ j' < i := by omega
        simp [hnj]
        have p2 : i < ys.length := by omega
        have hlo : (fun y => ¬ x < y) (G ys j') := by have := pt.1; show ¬ x < G ys j'; omega
        rw [go_draw (h := by kernel_rfl)]
        obtain ⟨H3, H4, s3, ix3, s4, o4, c4, l4⟩ := dw_swap o p2 p1 hf
        simp [h0, h1, hi, hj, dw_ix o p2, dw_ix o p1, dw_ld o p2, dw_ld o p1, s3, ix3 _ p2, ix3 _ p1, s4]
        have hlt : i < j' := by
          rcases Nat.lt_or_ge i j' with q | q
          · exact q
          · have q2 : i = j' := by omega
            exact absurd (q2 ▸ hlo) (hex' (by omega))
        refine ih (j' - 1 + 1 - (i + 1)) _ _ ⟨i + 1, j' - 1, rfl, by simp [h0], by simp [h1], ?_, ?_, by omega, by omega, by omega, _, sw.step i j' (by omega) (by omega), pt.swap hai hlt hjb (by omega) (hex' (by omega)) hlo, o4, c.trans c4, by omega⟩ (by omega)
        · simp; rw [w64 (by omega) (by omega)]
        · simp; rw [w64 (by omega) (by omega)]; omega
    · have hij' : i = j' + 1 := by omega
      have hji : j' < i := by omega
      simp [h0, h1, hi, hj, g1, hji]
      refine ⟨i, rfl, by omega, by omega, ys, sw, ⟨fun k k1 k2 => ?_, fun k k1 k2 => ?_⟩, o, c, l⟩
      · by_cases hk : k = a
        · have := pt.1; rw [hk]; omega
        · have q : ¬ x < G ys k := pt.2.1 k (by omega) k2
          omega
      · have q : ¬ ¬ x < G ys k := pt.2.2 k (by omega) k2
        omega
theorem part_e (v : Value) (xs : List Int) (e : TypeId) (a b p : Nat) (h : OwE e H v xs) (hp : a ≤ p ∧ p < b) (hb : b ≤ xs.length) (hl : xs.length ≤ 1073741824) (hf : ∀ i ∈ ids v, frz ≤ i) :
   wp (vcall C frz 98 [v, .int .i64 a, .int .i64 b, .int .i64 p, cf] H) (fun r H' => ∃ (m : Nat) (d : Bool), r = .tuple #[.int .i64 m, .bool d] ∧ a ≤ m ∧ m < b ∧
     SwdE H v xs e a b (fun ys => (∀ k, a ≤ k → k < m → G ys k < G ys m) ∧ ∀ k, m < k → k < b → G ys m ≤ G ys k) H') := by
  rw [vcall_go (fn := Try.f98) Try.func98 rfl (by kernel_rfl) rfl]
  obtain ⟨x, hx⟩ : ∃ x, x = G xs p := ⟨_, rfl⟩
  obtain ⟨i0, hi0⟩ : ∃ i0, i0 = a + 1 := ⟨_, rfl⟩
  obtain ⟨j0, hj0⟩ : ∃ j0, j0 = b - 1 := ⟨_, rfl⟩
  have e2 : ∀ [Inhabited Unit], IntKind.i64.wrap ((a : Int) + 1) = (i0 : Int) := by intro _; rw [w64 (by omega) (by omega)]; omega
  have e3 : ∀ [Inhabited Unit], IntKind.i64.wrap ((b : Int) - 1) = (j0 : Int) := by intro _; rw [w64 (by omega) (by omega)]; omega
  have p0 : a < xs.length := by omega
  have p1 : p < xs.length := by omega
  simp
  rw [go_draw (h := by kernel_rfl)]
  obtain ⟨H1, H2, s1, ix, s2, o2, c2, l2⟩ := dw_swap h p0 p1 hf
  simp [dw_ix h p0, dw_ix h p1, dw_ld h p0, dw_ld h p1, s1, ix _ p0, ix _ p1, s2, e2, e3]
  have pt0 : Pt (swp xs a p) a b x (fun y => y < x) i0 j0 := by
    refine ⟨?_, fun k h1 h2 => by omega, fun k h1 h2 => by omega⟩
    rw [G_swp p0 p1, hx]
    split
    · rename_i e; rw [e]
    · rw [if_pos rfl]
  have sw0 : Sw a b xs (swp xs a p) := Sw.refl.step a p (by omega) (by omega)
  obtain ⟨ys, sw, o, c, l, pt⟩ : ∃ ys, Sw a b xs ys ∧ OwE e H2 v ys ∧ Chg H H2 (ids v) ∧ H2.length = H.length ∧ Pt ys a b x (fun y => y < x) i0 j0 := ⟨_, sw0, o2, c2, l2, pt0⟩
  obtain ⟨i, hii⟩ : ∃ i, i0 = i := ⟨_, rfl⟩
  obtain ⟨j, hjj⟩ : ∃ j, j0 = j := ⟨_, rfl⟩
  rw [hii] at pt ⊢
  rw [hjj] at pt ⊢
  have hai : a < i := by omega
  have hij : i ≤ j + 1 := by omega
  have hjb : j < b := by omega
  clear pt0 sw0 o2 s1 s2 ix c2 l2 p0 p1
  have len := sw.len
  have p0 : a < ys.length := by omega
  refine wp_join (F := ?F) (k := ?k) (Q := ?Q) (fun t H1 => H2 = H1 ∧ (t 0 = v ∧ t 4 = cf) ∧ t 1 = .int .i64 a ∧ t 12 = .int .i64 i ∧ t 13 = .int .i64 j) ?main ?rest
  case main => intro rest; refine rest _ _ ?_; exact ⟨rfl, by simp, by simp, by simp, by simp⟩
  case rest =>
   rintro t H' ⟨rfl, h0, h1, hi, hj⟩
   obtain ⟨H', hH⟩ : ∃ H', H' = H2 := ⟨_, rfl⟩
   subst hH
   obtain ⟨il, hil⟩ : ∃ il, il = i := ⟨_, rfl⟩
   have hai' : il ≤ i ∧ a < i := ⟨by omega, hai⟩
   refine wp_join (F := ?F3) (k := ?k3) (Q := ?Q3) (fun t H1 => ∃ i : Nat, (t 0 = v ∧ t 4 = cf) ∧ t 1 = .int .i64 a ∧ t 12 = .int .i64 i ∧ t 13 = .int .i64 j ∧ (il ≤ i ∧ a < i) ∧ i ≤ j + 1 ∧ (i = j + 1 ∨ (i ≤ j ∧ ¬ (fun y => y < x) (G ys i))) ∧ H' = H1 ∧ Pt ys a b x (fun y => y < x) i j) ?main3 ?rest3
   case main3 =>
     intro rest
     refine wp_inv (fun c t H1 => ∃ i : Nat, c = j + 1 - i ∧ (t 0 = v ∧ t 4 = cf) ∧ t 1 = .int .i64 a ∧ t 12 = .int .i64 i ∧ t 13 = .int .i64 j ∧ (il ≤ i ∧ a < i) ∧ i ≤ j + 1 ∧ H' = H1 ∧ Pt ys a b x (fun y => y < x) i j) ?_ (n := j + 1 - i)
       ⟨i, rfl, by simp [h0], by simp [h1], by simp [hi], by simp [hj], hai', hij, rfl, pt⟩
     rintro c t _ ⟨i, rfl, h0, h1, hi, hj, hai', hij, rfl, pt⟩ ih2
     have hai := hai'.2
     simp [h0, h1, hi, hj]
     rw [go_draw (h := by kernel_rfl)]
     simp [h0, h1, hi, hj]
     refine wpg_dec ?_ ?_ <;> intro g1
     · have p1 : i < ys.length := by omega
       simp [h0, h1, hi, hj, g1, dw_ix o p0, dw_ix o p1, dw_ld o p0, dw_ld o p1, dlt hK o]
       refine wp_dec ?_ ?_ <;> intro g2
       · simp [h0, h1, hi, hj]
         refine ih2 (j + 1 - (i + 1)) _ _ ⟨i + 1, rfl, by simp [h0], by simp [h1], ?_, by simp [hj], by omega, by omega, rfl, pt.incr hai (by have := pt.1; show G ys i < x; omega)⟩ (by omega)
         simp; rw [w64 (by omega) (by omega)]
       · simp [h0, h1, hi, hj]
         refine rest _ _ ?_
         exact ⟨i, by simp [h0], by simp [h1], by simp [hi], by simp [hj], hai', by omega, .inr ⟨by omega, by have := pt.1; show ¬ (G ys i < x); omega⟩, rfl, pt⟩
     · simp [h0, h1, hi, hj, g1]
       refine rest _ _ ?_
       exact ⟨i, by simp [h0], by simp [h1], by simp [hi], by simp [hj], hai', hij, .inl (by omega), rfl, pt⟩
   case rest3 =>
     rintro t _ ⟨i, h0, h1, hi, hj, hai', hij, hex, rfl, pt⟩
     have hai := hai'.2
     refine wp_inv (fun c t H1 => ∃ j' : Nat, c = j' + 1 - i ∧ (t 0 = v ∧ t 4 = cf) ∧ t 1 = .int .i64 a ∧ t 12 = .int .i64 i ∧ t 13 = .int .i64 j' ∧ j' ≤ j ∧ i ≤ j' + 1 ∧ H' = H1 ∧ Pt ys a b x (fun y => y < x) i j') ?_ (n := j + 1 - i)
       ⟨j, rfl, by simp [h0], by simp [h1], by simp [hi], by simp [hj], Nat.le_refl _, hij, rfl, pt⟩
     have hex' : i < j + 1 → ¬ (fun y => y < x) (G ys i) := fun hh => by rcases hex with hex | hex; omega; exact hex.2
     have hjb0 := hjb
     rintro c t _ ⟨j', rfl, h0, h1, hi, hj, hjj', hij, rfl, pt⟩ ih2
     have hjb : j' < b := by omega
     simp [h0, h1, hi, hj]
     rw [go_draw (h := by kernel_rfl)]
     simp [h0, h1, hi, hj]
     refine wpg_dec ?_ ?_ <;> intro g1
     · have p1 : j' < ys.length := by omega
       simp [h0, h1, hi, hj, g1, dw_ix o p0, dw_ix o p1, dw_ld o p0, dw_ld o p1, dlt hK o]
       refine wp_dec ?_ ?_ <;> intro g2
       · simp [h0, h1, hi, hj]
         have hnj : ¬ j' < i := by omega
         simp [hnj]
         have p2 : i < ys.length := by omega
         have hlo : (fun y => y < x) (G ys j') := by have := pt.1; show G ys j' < x; omega
         rw [go_draw (h := by kernel_rfl)]
         obtain ⟨H3, H4, s3, ix3, s4, o4, c4, l4⟩ := dw_swap o p2 p1 hf
         simp [h0, h1, hi, hj, dw_ix o p2, dw_ix o p1, dw_ld o p2, dw_ld o p1, s3, ix3 _ p2, ix3 _ p1, s4]
         have hlt : i < j' := by
           rcases Nat.lt_or_ge i j' with q | q
           · exact q
           · have q2 : i = j' := by omega
             exact absurd (q2 ▸ hlo) (hex' (by omega))
         refine wp_inv (fun c t H' => ∃ i j : Nat, c = j + 1 - i ∧ (t 0 = v ∧ t 4 = cf) ∧ t 1 = .int .i64 a ∧ t 12 = .int .i64 i ∧ t 13 = .int .i64 j ∧ a < i ∧ i ≤ j + 1 ∧ j < b ∧ SwdE H v xs e a b (fun ys => Pt ys a b x (fun y => y < x) i j) H') ?_ (n := j' - 1 + 1 - (i + 1))
           ⟨i + 1, j' - 1, rfl, by simp [h0], by simp [h1], by simp; rw [w64 (by omega) (by omega)], by simp; rw [w64 (by omega) (by omega)]; omega, by omega, by omega, by omega, _, sw.step i j' (by omega) (by omega), pt.swap hai hlt hjb (by omega) (hex' (by omega)) hlo, o4, c.trans c4, by omega⟩
         rintro c t H' ⟨i, j, rfl, h0, h1, hi, hj, hai, hij, hjb, ys, sw, pt, o, c, l⟩ ih
         have len := sw.len
         have p0 : a < ys.length := by omega
         simp [h0, h1, hi, hj]
         obtain ⟨il, hil⟩ : ∃ il, il = i := ⟨_, rfl⟩
         have hai' : il ≤ i ∧ a < i := ⟨by omega, hai⟩
         refine wp_join (F := ?F32) (k := ?k2) (Q := ?Q32) (fun t H1 => ∃ i : Nat, (t 0 = v ∧ t 4 = cf) ∧ t 1 = .int .i64 a ∧ t 12 = .int .i64 i ∧ t 13 = .int .i64 j ∧ (il ≤ i ∧ a < i) ∧ i ≤ j + 1 ∧ (i = j + 1 ∨ (i ≤ j ∧ ¬ (fun y => y < x) (G ys i))) ∧ H' = H1 ∧ Pt ys a b x (fun y => y < x) i j) ?main32 ?rest32
         case main32 =>
           intro rest
           refine wp_inv (fun c t H1 => ∃ i : Nat, c = j + 1 - i ∧ (t 0 = v ∧ t 4 = cf) ∧ t 1 = .int .i64 a ∧ t 12 = .int .i64 i ∧ t 13 = .int .i64 j ∧ (il ≤ i ∧ a < i) ∧ i ≤ j + 1 ∧ H' = H1 ∧ Pt ys a b x (fun y => y < x) i j) ?_ (n := j + 1 - i)
             ⟨i, rfl, by simp [h0], by simp [h1], by simp [hi], by simp [hj], hai', hij, rfl, pt⟩
           rintro c t _ ⟨i, rfl, h0, h1, hi, hj, hai', hij, rfl, pt⟩ ih2
           have hai := hai'.2
           simp [h0, h1, hi, hj]
           rw [go_draw (h := by kernel_rfl)]
           simp [h0, h1, hi, hj]
           refine wpg_dec ?_ ?_ <;> intro g1
           · have p1 : i < ys.length := by omega
             simp [h0, h1, hi, hj, g1, dw_ix o p0, dw_ix o p1, dw_ld o p0, dw_ld o p1, dlt hK o]
             refine wp_dec ?_ ?_ <;> intro g2
             · simp [h0, h1, hi, hj]
               refine ih2 (j + 1 - (i + 1)) _ _ ⟨i + 1, rfl, by simp [h0], by simp [h1], ?_, by simp [hj], by omega, by omega, rfl, pt.incr hai (by have := pt.1; show G ys i < x; omega)⟩ (by omega)
               simp; rw [w64 (by omega) (by omega)]
             · simp [h0, h1, hi, hj]
               refine rest _ _ ?_
               exact ⟨i, by simp [h0], by simp [h1], by simp [hi], by simp [hj], hai', by omega, .inr ⟨by omega, by have := pt.1; show ¬ (G ys i < x); omega⟩, rfl, pt⟩
           · simp [h0, h1, hi, hj, g1]
             refine rest _ _ ?_
             exact ⟨i, by simp [h0], by simp [h1], by simp [hi], by simp [hj], hai', hij, .inl (by omega), rfl, pt⟩
         case rest32 =>
           rintro t _ ⟨i, h0, h1, hi, hj, hai', hij, hex, rfl, pt⟩
           have hai := hai'.2
           refine wp_inv (fun c t H1 => ∃ j' : Nat, c = j' + 1 - i ∧ (t 0 = v ∧ t 4 = cf) ∧ t 1 = .int .i64 a ∧ t 12 = .int .i64 i ∧ t 13 = .int .i64 j' ∧ j' ≤ j ∧ i ≤ j' + 1 ∧ H' = H1 ∧ Pt ys a b x (fun y => y < x) i j') ?_ (n := j + 1 - i)
             ⟨j, rfl, by simp [h0], by simp [h1], by simp [hi], by simp [hj], Nat.le_refl _, hij, rfl, pt⟩
           have hex' : i < j + 1 → ¬ (fun y => y < x) (G ys i) := fun hh => by rcases hex with hex | hex; omega; exact hex.2
           have hjb0 := hjb
           rintro c t _ ⟨j', rfl, h0, h1, hi, hj, hjj', hij, rfl, pt⟩ ih2
           have hjb : j' < b := by omega
           simp [h0, h1, hi, hj]
           rw [go_draw (h := by kernel_rfl)]
           simp [h0, h1, hi, hj]
           refine wpg_dec ?_ ?_ <;> intro g1
           · have p1 : j' < ys.length := by omega
             simp [h0, h1, hi, hj, g1, dw_ix o p0, dw_ix o p1, dw_ld o p0, dw_ld o p1, dlt hK o]
             refine wp_dec ?_ ?_ <;> intro g2
             · simp [h0, h1, hi, hj]
               have hnj : ¬ j' < i := by omega
               simp [hnj]
               have p2 : i < ys.length := by omega
               have hlo : (fun y => y < x) (G ys j') := by have := pt.1; show G ys j' < x; omega
               rw [go_draw (h := by kernel_rfl)]
               obtain ⟨H3, H4, s3, ix3, s4, o4, c4, l4⟩ := dw_swap o p2 p1 hf
               simp [h0, h1, hi, hj, dw_ix o p2, dw_ix o p1, dw_ld o p2, dw_ld o p1, s3, ix3 _ p2, ix3 _ p1, s4]
               have hlt : i < j' := by
                 rcases Nat.lt_or_ge i j' with q | q
                 · exact q
                 · have q2 : i = j' := by omega
                   exact absurd (q2 ▸ hlo) (hex' (by omega))
               refine ih (j' - 1 + 1 - (i + 1)) _ _ ⟨i + 1, j' - 1, rfl, by simp [h0], by simp [h1], ?_, ?_, by omega, by omega, by omega, _, sw.step i j' (by omega) (by omega), pt.swap hai hlt hjb (by omega) (hex' (by omega)) hlo, o4, c.trans c4, by omega⟩ (by omega)
               · simp; rw [w64 (by omega) (by omega)]
               · simp; rw [w64 (by omega) (by omega)]; omega
             · simp [h0, h1, hi, hj]
               refine ih2 (j' - 1 + 1 - i) _ _ ⟨j' - 1, rfl, by simp [h0], by simp [h1], by simp [hi], ?_, by omega, by omega, rfl, pt.decr (by omega) (by have := pt.1; show ¬ (G ys j' < x); omega)⟩ (by omega)
               simp; rw [w64 (by omega) (by omega)]; omega
           · have hij' : i = j' + 1 := by omega
             have hji : j' < i := by omega
             simp [h0, h1, hi, hj, g1, hji]
             have p3 : j' < ys.length := by omega
             rw [go_draw (h := by kernel_rfl)]
             obtain ⟨H3, H4, s3, ix3, s4, o4, c4, l4⟩ := dw_swap o p3 p0 hf
             simp [h0, h1, hi, hj, dw_ix o p3, dw_ix o p0, dw_ld o p3, dw_ld o p0, s3, ix3 _ p3, ix3 _ p0, s4]
             obtain ⟨f1, f2, f3⟩ := pt.fin hij' hai hjb (by omega)
             exact ⟨j', rfl, by omega, by omega, _, sw.step j' a (by omega) (by omega), ⟨fun k k1 k2 => by have := f2 k k1 k2; rw [f1]; exact this, fun k k1 k2 => by have := f3 k k1 k2; rw [f1]; omega⟩, o4, c.trans c4, by omega⟩
       · simp [h0, h1, hi, hj]
         refine ih2 (j' - 1 + 1 - i) _ _ ⟨j' - 1, rfl, by simp [h0], by simp [h1], by simp [hi], ?_, by omega, by omega, rfl, pt.decr (by omega) (by have := pt.1; show ¬ (G ys j' < x); omega)⟩ (by omega)
         simp; rw [w64 (by omega) (by omega)]; omega
     · have hij' : i = j' + 1 := by omega
       have hji : j' < i := by omega
       simp [h0, h1, hi, hj, g1, hji]
       have p3 : j' < ys.length := by omega
       rw [go_draw (h := by kernel_rfl)]
       obtain ⟨H3, H4, s3, ix3, s4, o4, c4, l4⟩ := dw_swap o p3 p0 hf
       simp [h0, h1, hi, hj, dw_ix o p3, dw_ix o p0, dw_ld o p3, dw_ld o p0, s3, ix3 _ p3, ix3 _ p0, s4]
       obtain ⟨f1, f2, f3⟩ := pt.fin hij' hai hjb (by omega)
       exact ⟨j', rfl, by omega, by omega, _, sw.step j' a (by omega) (by omega), ⟨fun k k1 k2 => by have := f2 k k1 k2; rw [f1]; exact this, fun k k1 k2 => by have := f3 k k1 k2; rw [f1]; omega⟩, o4, c.trans c4, by omega⟩
end Go.Proofs.Ytlbbalmeaedbdaa.V
/-! Sorting dependencies (sorte.py, of VS5). -/
set_option linter.all false
namespace Go.Proofs.Ytlbbalmeaedbdaa.V
open Go Go.VM Go.Proofs
set_option maxRecDepth 10000
variable {frz : Nat} {H : Heap} {v : Value} {xs : List Int} {e : TypeId} {cf : Value} (hK : CmpK cf)
include hK
theorem partIns_e (v : Value) (xs : List Int) (e : TypeId) (a b : Nat) (h : OwE e H v xs) (hab : a < b) (hb : b ≤ xs.length) (hl : xs.length ≤ 1073741824) (hlo : 0 < a → ∀ k, a ≤ k → k < b → G xs (a - 1) ≤ G xs k) (hf : ∀ i ∈ ids v, frz ≤ i) :
   wp (vcall C frz 96 [v, .int .i64 a, .int .i64 b, cf] H) (fun r H' => ∃ d : Bool, r = .bool d ∧ SwdE H v xs e a b (fun ys => d = true → Srt ys a b) H') := by
  rw [vcall_go (fn := Try.f96) Try.func96 rfl (by kernel_rfl) rfl]
  obtain ⟨i0, hi0⟩ : ∃ i0, i0 = a + 1 := ⟨_, rfl⟩
  have e2 : ∀ [Inhabited Unit], IntKind.i64.wrap ((a : Int) + 1) = (i0 : Int) := by intro _; rw [w64 (by omega) (by omega)]; omega
  simp [e2]
  refine wp_inv (fun c t H' => ∃ i s : Nat, c = 5 - s ∧ s ≤ 5 ∧ (t 0 = v ∧ t 3 = cf) ∧ t 1 = .int .i64 a ∧ t 2 = .int .i64 b ∧ t 9 = .int .i64 i ∧ t 10 = .int .i64 s ∧ a < i ∧ i ≤ b ∧ SwdE H v xs e a b (fun ys => Srt ys a i) H') ?_ (n := 5)
    ⟨i0, 0, rfl, by omega, by simp, by simp, by simp, by simp, by simp, by omega, by omega, xs, .refl, Srt.short (by omega), h, Chg.refl _, rfl⟩
  rintro c t H' ⟨i, s, rfl, hs, h0, h1, h2, h7, h8, hai, hib, ys, sw, sr, o, c, l⟩ ih
  have len := sw.len
  simp [h0, h1, h2, h7, h8]
  refine wp_dec ?_ ?_ <;> intro g0
  · simp [h0, h1, h2, h7, h8]
    refine wp_joinb (F := ?F) (k1 := ?k1) (k2 := ?k2) (Q := ?Q) (fun c t H1 => ∃ i : Nat, c = .bool (decide ((i : Int) = b)) ∧ H' = H1 ∧ (t 0 = v ∧ t 3 = cf) ∧ t 1 = .int .i64 a ∧ t 2 = .int .i64 b ∧ t 9 = .int .i64 i ∧ t 10 = .int .i64 s ∧ a < i ∧ i ≤ b ∧ Srt ys a i) ?main ?rest
    case main =>
      intro rest
      refine wp_inv (fun c t H1 => ∃ i : Nat, c = b - i ∧ H' = H1 ∧ (t 0 = v ∧ t 3 = cf) ∧ t 1 = .int .i64 a ∧ t 2 = .int .i64 b ∧ t 9 = .int .i64 i ∧ t 10 = .int .i64 s ∧ a < i ∧ i ≤ b ∧ Srt ys a i) ?_ (n := b - i)
        ⟨i, rfl, rfl, by simp [h0], by simp [h1], by simp [h2], by simp [h7], by simp [h8], hai, hib, sr⟩
      rintro c t _ ⟨i, rfl, rfl, h0, h1, h2, h7, h8, hai, hib, sr⟩ ih2
      have e3 : ∀ [Inhabited Unit], IntKind.i64.wrap ((i : Int) - 1) = ((i - 1 : Nat) : Int) := by intro _; rw [w64 (by omega) (by omega)]; omega
      simp [h0, h1, h2, h7, h8]
      rw [go_draw (h := by kernel_rfl)]
      simp [h0, h1, h2, h7, h8]
      refine wpg_dec ?_ ?_ <;> intro g1
      · have p1 : i < ys.length := by omega
        have p2 : i - 1 < ys.length := by omega
        simp [h0, h1, h2, h7, h8, g1, e3, dw_ix o p1, dw_ix o p2, dw_ld o p1, dw_ld o p2, dlt hK o]
        refine wp_dec ?_ ?_ <;> intro g2
        · simp [h0, h1, h2, h7, h8]
          refine rest _ _ _ ?_
          exact ⟨i, rfl, rfl, by simp [h0], by simp [h1], by simp [h2], by simp [h7], by simp [h8], hai, hib, sr⟩
        · simp [h0, h1, h2, h7, h8]
          refine ih2 (b - (i + 1)) _ _ ⟨i + 1, rfl, rfl, by simp [h0], by simp [h1], by simp [h2], ?_, by simp [h8], by omega, by omega, sr.snoc (fun _ => by omega)⟩ (by omega)
          simp; rw [w64 (by omega) (by omega)]
      · simp [h0, h1, h2, h7, h8, g1]
        refine rest _ _ _ ?_
        exact ⟨i, rfl, rfl, by simp [h0], by simp [h1], by simp [h2], by simp [h7], by simp [h8], hai, hib, sr⟩
    case rest =>
      rintro _ t _ ⟨i, rfl, rfl, h0, h1, h2, h7, h8, hai, hib, sr⟩
      obtain ⟨n, hn⟩ : ∃ n, n = b - a := ⟨_, rfl⟩
      obtain ⟨m, hm⟩ : ∃ m, m = i - a := ⟨_, rfl⟩
      obtain ⟨r, hr⟩ : ∃ r, r = b - i := ⟨_, rfl⟩
      have e4 : ∀ [Inhabited Unit], IntKind.i64.wrap ((b : Int) - a) = (n : Int) := by intro _; rw [w64 (by omega) (by omega)]; omega
      have e5 : ∀ [Inhabited Unit], IntKind.i64.wrap ((i : Int) - a) = (m : Int) := by intro _; rw [w64 (by omega) (by omega)]; omega
      have e6 : ∀ [Inhabited Unit], IntKind.i64.wrap ((b : Int) - i) = (r : Int) := by intro _; rw [w64 (by omega) (by omega)]; omega
      have e3 : ∀ [Inhabited Unit], IntKind.i64.wrap ((i : Int) - 1) = ((i - 1 : Nat) : Int) := by intro _; rw [w64 (by omega) (by omega)]; omega
      refine wp_dec ?_ ?_ <;> intro g1
      · simp
        have hib : i = b := by omega
        exact ⟨ys, sw, hib ▸ sr, o, c, l⟩
      · simp [h0, h1, h2, h7, h8, e4]
        refine wp_dec ?_ ?_ <;> intro g2
        · simp
          exact ⟨ys, sw, trivial, o, c, l⟩
        · have p1 : i < ys.length := by omega
          have p2 : i - 1 < ys.length := by omega
          simp [h0, h1, h2, h7, h8]
          rw [go_draw (h := by kernel_rfl)]
          obtain ⟨H3, H4, s3, ix3, s4, o4, c4, l4⟩ := dw_swap o p1 p2 hf
          simp [h0, h1, h2, h7, h8, e3, e5, dw_ix o p1, dw_ix o p2, dw_ld o p1, dw_ld o p2, s3, ix3 _ p1, ix3 _ p2, s4]
          have sw4 := sw.step i (i - 1) (by omega) (by omega)
          have sr4 : Srt (swp ys i (i - 1)) a (i - 1) := Srt.frame (fun p q q1 q2 q3 => sr p q q1 q2 (by omega)) (fun k k1 k2 => by rw [G_swp p1 p2, if_neg (by omega), if_neg (by omega)])
          have c5 := c.trans c4
          have l5 : H4.length = H.length := by omega
          generalize swp ys i (i - 1) = zs at *
          refine wp_joinb (F := ?F2) (k1 := ?k12) (k2 := ?k22) (Q := ?Q2) (fun c t H1 => c = .bool (decide (2 ≤ (r : Int))) ∧ (t 0 = v ∧ t 3 = cf) ∧ t 1 = .int .i64 a ∧ t 2 = .int .i64 b ∧ t 9 = .int .i64 i ∧ t 10 = .int .i64 s ∧ SwdE H v xs e a b (fun ys => Srt ys a i) H1) ?main2 ?rest2
          case main2 =>
            intro rest2
            refine wp_dec ?_ ?_ <;> intro g3
            · simp [h0, h1, h2, h7, h8, e3]
              refine wp_inv (fun c t H1 => ∃ j : Nat, c = j ∧ (t 0 = v ∧ t 3 = cf) ∧ t 1 = .int .i64 a ∧ t 2 = .int .i64 b ∧ t 9 = .int .i64 i ∧ t 10 = .int .i64 s ∧ t 11 = .int .i64 j ∧ a ≤ j ∧ j ≤ i - 1 ∧ SwdE H v xs e a b (fun ys => Ins ys a (i - 1) j) H1) ?_ (n := i - 1)
                ⟨i - 1, rfl, by simp [h0], by simp [h1], by simp [h2], by simp [h7], by simp [h8], by simp, by omega, by omega, zs, sw4, Ins.start sr4, o4, c5, l5⟩
              rintro j t H1 ⟨_, rfl, h0, h1, h2, h7, h8, h9, haj, hji, ws, sw, ins, o, c, l⟩ ih2
              have len := sw.len
              have e7 : ∀ [Inhabited Unit], IntKind.i64.wrap ((j : Int) - 1) = ((j - 1 : Nat) : Int) ∨ j = 0 := by
                intro _
                by_cases hj : j = 0
                · exact .inr hj
                · left; rw [w64 (by omega) (by omega)]; omega
              simp [h0, h1, h2, h7, h8, h9]
              refine wp_dec ?_ ?_ <;> intro g4
              · have e7 : ∀ [Inhabited Unit], IntKind.i64.wrap ((j : Int) - 1) = ((j - 1 : Nat) : Int) := by intro _; rw [w64 (by omega) (by omega)]; omega
                have p3 : j < ws.length := by omega
                have p4 : j - 1 < ws.length := by omega
                simp [h0, h1, h2, h7, h8, h9]
                rw [go_draw (h := by kernel_rfl)]
                simp [h0, h1, h2, h7, h8, h9, e7, dw_ix o p3, dw_ix o p4, dw_ld o p3, dw_ld o p4, dlt hK o]
                have low : j = a → G ws (j - 1) ≤ G ws j := by
                  intro hja
                  have := sw.all hb (p := fun y => G xs (a - 1) ≤ y) (fun k k1 k2 => hlo (by omega) k k1 k2) j haj (by omega)
                  rw [hja] at this ⊢
                  rw [sw.out hb (k := a - 1) (by omega)]; exact this
                refine wp_dec ?_ ?_ <;> intro g5
                · have haj2 : a < j := by
                    rcases Nat.lt_or_ge a j with q | q
                    · exact q
                    · have := low (by omega); omega
                  simp [h0, h1, h2, h7, h8, h9]
                  rw [go_draw (h := by kernel_rfl)]
                  obtain ⟨H5, H6, s5, ix5, s6, o6, c6, l6⟩ := dw_swap o p3 p4 hf
                  simp [h0, h1, h2, h7, h8, h9, e7, dw_ix o p3, dw_ix o p4, dw_ld o p3, dw_ld o p4, s5, ix5 _ p3, ix5 _ p4, s6]
                  refine ih2 (j - 1) _ _ ⟨j - 1, rfl, by simp [h0], by simp [h1], by simp [h2], by simp [h7], by simp [h8], by simp [e7], by omega, by omega, _, sw.step j (j - 1) (by omega) (by omega), ins.step (by omega) haj2 hji g5, o6, c.trans c6, by omega⟩ (by omega)
                · have sr6 : Srt ws a (i - 1 + 1) := ins.done (by
                    rcases Nat.lt_or_ge a j with q | q
                    · exact .inr ⟨q, by omega⟩
                    · exact .inl (by omega))
                  rw [show i - 1 + 1 = i by omega] at sr6
                  simp [h0, h1, h2, h7, h8, h9, e6]
                  refine rest2 _ _ _ ?_
                  exact ⟨rfl, by simp [h0], by simp [h1], by simp [h2], by simp [h7], by simp [h8], ws, sw, sr6, o, c, l⟩
              · have sr6 : Srt ws a (i - 1 + 1) := ins.done (.inl (by omega))
                rw [show i - 1 + 1 = i by omega] at sr6
                simp [h0, h1, h2, h7, h8, h9, e6]
                refine rest2 _ _ _ ?_
                exact ⟨rfl, by simp [h0], by simp [h1], by simp [h2], by simp [h7], by simp [h8], ws, sw, sr6, o, c, l⟩
            · simp [h0, h1, h2, h7, h8, e6]
              refine rest2 _ _ _ ?_
              exact ⟨rfl, by simp [h0], by simp [h1], by simp [h2], by simp [h7], by simp [h8], zs, sw4, Srt.short (by omega), o4, c5, l5⟩
          case rest2 =>
            clear sw4 sr4 o4 c5 l5 s3 s4 ix3 c4 p1 p2
            rintro _ t H1 ⟨rfl, h0, h1, h2, h7, h8, ws, sw, sr, o, c, l⟩
            have fin : ∀ (t : Env) (H1 : Heap), (t 0 = v ∧ t 3 = cf) → t 1 = .int .i64 a → t 2 = .int .i64 b → t 9 = .int .i64 i → t 10 = .int .i64 (IntKind.i64.wrap ((s : Int) + 1)) → SwdE H v xs e a b (fun ys => Srt ys a i) H1 →
                ∃ i s' : Nat, 5 - (s + 1) = 5 - s' ∧ s' ≤ 5 ∧ (t 0 = v ∧ t 3 = cf) ∧ t 1 = .int .i64 a ∧ t 2 = .int .i64 b ∧ t 9 = .int .i64 i ∧ t 10 = .int .i64 s' ∧ a < i ∧ i ≤ b ∧ SwdE H v xs e a b (fun ys => Srt ys a i) H1 :=
              fun t H1 g0 g1 g2 g7 g8 gs => ⟨i, s + 1, rfl, by omega, g0, g1, g2, g7, by rw [g8, w64 (by omega) (by omega)]; simp, hai, hib, gs⟩
            refine wp_dec ?_ ?_ <;> intro g3
            · have e8 : ∀ [Inhabited Unit], IntKind.i64.wrap ((i : Int) + 1) = ((i + 1 : Nat) : Int) := by intro _; rw [w64 (by omega) (by omega)]; omega
              obtain ⟨j0, hj0⟩ : ∃ j0, j0 = i + 1 := ⟨_, rfl⟩
              rw [← hj0] at e8
              simp [h0, h1, h2, h7, h8, e8]
              refine wp_inv (fun c t H1 => ∃ j : Nat, c = b - j ∧ (t 0 = v ∧ t 3 = cf) ∧ t 1 = .int .i64 a ∧ t 2 = .int .i64 b ∧ t 9 = .int .i64 i ∧ t 10 = .int .i64 s ∧ t 12 = .int .i64 j ∧ i < j ∧ j ≤ b ∧ SwdE H v xs e a b (fun ys => Srt ys a i) H1) ?_ (n := b - j0)
                ⟨j0, rfl, by simp [h0], by simp [h1], by simp [h2], by simp [h7], by simp [h8], by simp, by omega, by omega, ws, sw, sr, o, c, l⟩
              rintro _ t H1 ⟨j, rfl, h0, h1, h2, h7, h8, h10, hij, hjb, ws, sw, sr, o, c, l⟩ ih2
              have len := sw.len
              simp [h0, h1, h2, h7, h8, h10]
              refine wp_dec ?_ ?_ <;> intro g4
              · have e7 : ∀ [Inhabited Unit], IntKind.i64.wrap ((j : Int) - 1) = ((j - 1 : Nat) : Int) := by intro _; rw [w64 (by omega) (by omega)]; omega
                have p3 : j < ws.length := by omega
                have p4 : j - 1 < ws.length := by omega
                simp [h0, h1, h2, h7, h8, h10]
                rw [go_draw (h := by kernel_rfl)]
                simp [h0, h1, h2, h7, h8, h10, e7, dw_ix o p3, dw_ix o p4, dw_ld o p3, dw_ld o p4, dlt hK o]
                refine wp_dec ?_ ?_ <;> intro g5
                · simp [h0, h1, h2, h7, h8, h10]
                  rw [go_draw (h := by kernel_rfl)]
                  obtain ⟨H5, H6, s5, ix5, s6, o6, c6, l6⟩ := dw_swap o p3 p4 hf
                  simp [h0, h1, h2, h7, h8, h10, e7, dw_ix o p3, dw_ix o p4, dw_ld o p3, dw_ld o p4, s5, ix5 _ p3, ix5 _ p4, s6]
                  refine ih2 (b - (j + 1)) _ _ ⟨j + 1, rfl, by simp [h0], by simp [h1], by simp [h2], by simp [h7], by simp [h8], ?_, by omega, by omega, _, sw.step j (j - 1) (by omega) (by omega), Srt.frame sr (fun k k1 k2 => by rw [G_swp p3 p4, if_neg (by omega), if_neg (by omega)]), o6, c.trans c6, by omega⟩ (by omega)
                  simp; rw [w64 (by omega) (by omega)]
                · simp [h0, h1, h2, h7, h8, h10]
                  refine ih (5 - (s + 1)) _ _ (fin _ _ ?_ ?_ ?_ ?_ ?_ ⟨ws, sw, sr, o, c, l⟩) (by omega) <;> simp [h0, h1, h2, h7, h8]
              · simp [h0, h1, h2, h7, h8, h10]
                refine ih (5 - (s + 1)) _ _ (fin _ _ ?_ ?_ ?_ ?_ ?_ ⟨ws, sw, sr, o, c, l⟩) (by omega) <;> simp [h0, h1, h2, h7, h8]
            · simp [h0, h1, h2, h7, h8]
              refine ih (5 - (s + 1)) _ _ (fin _ _ ?_ ?_ ?_ ?_ ?_ ⟨ws, sw, sr, o, c, l⟩) (by omega) <;> simp [h0, h1, h2, h7, h8]
  · simp
    exact ⟨ys, sw, trivial, o, c, l⟩
end Go.Proofs.Ytlbbalmeaedbdaa.V
/-! Sorting dependencies (sorte.py, of VS6). -/
set_option linter.all false
namespace Go.Proofs.Ytlbbalmeaedbdaa.V
open Go Go.VM Go.Proofs
set_option maxRecDepth 10000
variable {frz : Nat} {H : Heap} {v : Value} {xs : List Int} {e : TypeId} {cf : Value} (hK : CmpK cf)
include hK
theorem pdq_e : ∀ (n : Nat) (H : Heap) (v : Value) (xs : List Int) (e : TypeId) (A B : Nat) (L : Int) (h : OwE e H v xs) (hn : B - A ≤ n) (hab : A ≤ B) (hb : B ≤ xs.length) (hl : xs.length ≤ 1073741824)
    (hlo : 0 < A → ∀ k, A ≤ k → k < B → G xs (A - 1) ≤ G xs k) (hf : ∀ i ∈ ids v, frz ≤ i) (hF : frz ≤ H.length),
   wp (vcall C frz 83 [v, .int .i64 A, .int .i64 B, .int .i64 L, cf] H) (fun _ H' => ∃ ys, Sw A B xs ys ∧ Srt ys A B ∧ OwE e H' v ys ∧ Chg H H' (ids v)) := by
  intro n
  induction n using Nat.strongRecOn with
  | _ n IH =>
  intro H v xs e A B L h hn hab hb hl hlo hf hF
  rw [vcall_go (fn := Try.f83) Try.func83 rfl (by kernel_rfl) rfl]
  simp
  refine wp_inv (fun c t H' => ∃ (a b : Nat) (L : Int) (w1 w2 : Bool), c = b - a ∧ (t 0 = v ∧ t 4 = cf) ∧ t 1 = .int .i64 a ∧ t 2 = .int .i64 b ∧ t 3 = .int .i64 L ∧ t 10 = .bool w1 ∧ t 11 = .bool w2 ∧
      ∃ ys, Sw A B xs ys ∧ Pq ys A B a b ∧ OwE e H' v ys ∧ Chg H H' (ids v)) ?_ (n := B - A)
    ⟨A, B, L, true, true, rfl, by simp, by simp, by simp, by simp, by simp, by simp, xs, .refl, ⟨by omega, Srt.short (by omega), Srt.short (by omega), fun p q h1 h2 h3 h4 => by omega, fun p q h1 h2 h3 h4 => by omega, hlo⟩, h, Chg.refl _⟩
  rintro c t H' ⟨a, b, L, w1, w2, rfl, h0, h1, h2, h3, h8, h9, ys, sw, pq, o, c⟩ ih
  have len := sw.len
  obtain ⟨l1, l2, l3⟩ := pq.le
  obtain ⟨n1, hn1⟩ : ∃ n1, n1 = b - a := ⟨_, rfl⟩
  have e1 : ∀ [Inhabited Unit], IntKind.i64.wrap ((b : Int) - a) = (n1 : Int) := by intro _; rw [w64 (by omega) (by omega)]; omega
  simp [h0, h1, h2, h3, h8, h9, e1]
  refine wp_dec ?_ ?_ <;> intro g1
  · simp [h0, h1, h2, h3, h8, h9]
    refine wp_thn (insSort_e hK v ys e a b o l2 (by omega) (by omega) hf) ?_
    rintro _ H1 ⟨zs, sw1, sr1, o1, c1, k1⟩
    simp
    exact ⟨zs, sw.trans (sw1.mono l1 l3), (pq.sw sw1 (by omega)).done sr1, o1, c.trans c1⟩
  · simp [h0, h1, h2, h3, h8, h9]
    refine wp_dec ?_ ?_ <;> intro g2
    · simp [h0, h1, h2, h3, h8, h9]
      refine wp_thn (heapSort_e hK v ys e a b o (by omega) (by omega) (by omega) hf) ?_
      rintro _ H1 ⟨zs, sw1, sr1, o1, c1, k1⟩
      simp
      exact ⟨zs, sw.trans (sw1.mono l1 l3), (pq.sw sw1 (by omega)).done sr1, o1, c.trans c1⟩
    · simp [h0, h1, h2, h3, h8, h9]
      refine wp_joinc (F := ?F1) (k := ?k1) (d := ?d1) (Q := ?Q1) (fun r t => ∃ (L : Int) (zs : List Int) (H1 : Heap), r = vcall C frz 94 [v, .int .i64 a, .int .i64 b, cf] H1 ∧ (t 0 = v ∧ t 4 = cf) ∧ t 1 = .int .i64 a ∧ t 2 = .int .i64 b ∧ t 3 = .int .i64 L ∧ t 12 = .int .i64 n1 ∧ t 10 = .bool w1 ∧ t 11 = .bool w2 ∧
        Sw A B xs zs ∧ Pq zs A B a b ∧ OwE e H1 v zs ∧ Chg H H1 (ids v)) ?main1 ?rest1
      case main1 =>
        intro rest
        have h10 := True.intro
        refine wp_bool ?_ ?_ <;> intro g3
        · simp [h0, h1, h2, h3, h8, h9]
          refine rest _ _ ?_
          exact ⟨L, ys, H', rfl, by simp [h0], by simp [h1], by simp [h2], by simp [h3], by simp [h10], by simp [h8], by simp [h9], sw, pq, o, c⟩
        · simp [h0, h1, h2, h3, h8, h9]
          refine wp_thn (breakPat_e hK v ys e a b o l2 (by omega) (by omega) hf (by have := c.1; omega)) ?_
          rintro _ H1 ⟨zs, sw1, o1, c1⟩
          simp [h0, h1, h2, h3, h8, h9]
          refine rest _ _ ?_
          exact ⟨IntKind.i64.wrap (L - 1), zs, H1, rfl, by simp [h0], by simp [h1], by simp [h2], by simp, by simp, by simp [h8], by simp [h9], sw.trans (sw1.mono l1 l3), pq.sw sw1 (by omega), o1, c.trans c1⟩
      case rest1 =>
        clear h0 h1 h2 h3 h8 h9 sw pq o c len
        rintro _ t ⟨L, ys, H', rfl, h0, h1, h2, h3, h10, h8, h9, sw, pq, o, c⟩
        have len := sw.len
        refine wp_thn (choosePivot_e hK v ys e a b o (by omega) (by omega) (by omega) (by have := c.1; omega)) ?_
        rintro _ H1 ⟨⟨p, k, rfl, hp1, hp2⟩, c1⟩
        have o1 := o.chg c1 (by simp)
        have cH1 := c.trans (c1.mono (by simp))
        simp [h0, h1, h2, h3, h8, h9]
        refine wp_joing (F := ?F2) (k := ?k2) (d := ?d2) (want := ?w2) (op := ?op2) (Q := ?Q2) (fun c t H1 => c = .bool w1 ∧ ∃ (p : Nat) (k : Int) (zs : List Int), (a ≤ p ∧ p < b) ∧ (t 0 = v ∧ t 4 = cf) ∧ t 1 = .int .i64 a ∧ t 2 = .int .i64 b ∧ t 3 = .int .i64 L ∧ t 12 = .int .i64 n1 ∧ t 10 = .bool w1 ∧ t 11 = .bool w2 ∧ t 13 = .int .i64 p ∧ t 14 = .int .i64 k ∧ t 69 = .bool w1 ∧
          Sw A B xs zs ∧ Pq zs A B a b ∧ OwE e H1 v zs ∧ Chg H H1 (ids v)) ?main2 ?rest2
        case main2 =>
          intro rest
          refine wp_dec ?_ ?_ <;> intro g3
          · simp [h0, h1, h2, h3, h8, h9]
            refine wp_thn (revRange_e hK v ys e a b o1 (by omega) (by omega) (by omega) hf) ?_
            rintro _ H2 ⟨zs, sw1, _, o2, c2, k2⟩
            obtain ⟨b1, hb1⟩ : ∃ b1, b1 = b - 1 := ⟨_, rfl⟩
            obtain ⟨p1, hp3⟩ : ∃ p1, p1 = p - a := ⟨_, rfl⟩
            obtain ⟨p2, hp4⟩ : ∃ p2, p2 = b1 - p1 := ⟨_, rfl⟩
            have e2 : ∀ [Inhabited Unit], IntKind.i64.wrap ((b : Int) - 1) = (b1 : Int) := by intro _; rw [w64 (by omega) (by omega)]; omega
            have e3 : ∀ [Inhabited Unit], IntKind.i64.wrap ((p : Int) - a) = (p1 : Int) := by intro _; rw [w64 (by omega) (by omega)]; omega
            have e4 : ∀ [Inhabited Unit], IntKind.i64.wrap ((b1 : Int) - p1) = (p2 : Int) := by intro _; rw [w64 (by omega) (by omega)]; omega
            simp [h0, h1, h2, h3, h8, h9, e2, e3, e4]
            refine rest _ _ _ ?_
            exact ⟨rfl, p2, 1, zs, by omega, by simp [h0], by simp [h1], by simp [h2], by simp [h3], by simp [h10], by simp [h8], by simp [h9], by simp, by simp, by simp, sw.trans (sw1.mono l1 l3), pq.sw sw1 (by omega), o2, cH1.trans c2⟩
          · simp [h0, h1, h2, h3, h8, h9]
            refine rest _ _ _ ?_
            exact ⟨rfl, p, k, ys, by omega, by simp [h0], by simp [h1], by simp [h2], by simp [h3], by simp [h10], by simp [h8], by simp [h9], by simp, by simp, by simp, sw, pq, o1, cH1⟩
        case rest2 =>
          clear h0 h1 h2 h3 h8 h9 sw pq o c len o1 c1 cH1 hp1 hp2
          rintro _ t H1 ⟨rfl, p, k, ys, hp, h0, h1, h2, h3, h10, h8, h9, h11, h12, h62, sw, pq, o, c⟩
          have len := sw.len
          refine wp_join (F := ?F3) (k := ?k3) (Q := ?Q3) (fun t H1 => ∃ (zs : List Int), (t 0 = v ∧ t 4 = cf) ∧ t 1 = .int .i64 a ∧ t 2 = .int .i64 b ∧ t 3 = .int .i64 L ∧ t 12 = .int .i64 n1 ∧ t 10 = .bool w1 ∧ t 11 = .bool w2 ∧ t 13 = .int .i64 p ∧
            Sw A B xs zs ∧ Pq zs A B a b ∧ OwE e H1 v zs ∧ Chg H H1 (ids v)) ?main3 ?rest3
          case main3 =>
            intro rest
            refine wpg_bool ?_ ?_ <;> intro g3
            · simp [h0, h1, h2, h3, h8, h9, h11, h12, h62, g3]
              refine wpg_bool ?_ ?_ <;> intro g4
              · simp [h0, h1, h2, h3, h8, h9, h11, h12, h62, g3, g4]
                refine wp_dec ?_ ?_ <;> intro g5
                · simp [h0, h1, h2, h3, h8, h9, h11, h12]
                  refine wp_thn (partIns_e hK v ys e a b o (by omega) (by omega) (by omega) (fun h0 k k1 k2 => pq.below h0 k k1 (by omega)) hf) ?_
                  rintro _ H2 ⟨d, rfl, zs, sw1, sr1, o2, c2, k2⟩
                  simp
                  refine wp_bool ?_ ?_ <;> intro g6
                  · simp
                    exact ⟨zs, sw.trans (sw1.mono l1 l3), (pq.sw sw1 (by omega)).done (sr1 g6), o2, c.trans c2⟩
                  · simp
                    refine rest _ _ ?_
                    exact ⟨zs, by simp [h0], by simp [h1], by simp [h2], by simp [h3], by simp [h10], by simp [h8], by simp [h9], by simp [h11], sw.trans (sw1.mono l1 l3), pq.sw sw1 (by omega), o2, c.trans c2⟩
                · simp
                  refine rest _ _ ?_
                  exact ⟨ys, by simp [h0], by simp [h1], by simp [h2], by simp [h3], by simp [h10], by simp [h8], by simp [h9], by simp [h11], sw, pq, o, c⟩
              · simp [h0, h1, h2, h3, h8, h9, h11, h12, h62, g3, g4]
                refine rest _ _ ?_
                exact ⟨ys, by simp [h0], by simp [h1], by simp [h2], by simp [h3], by simp [h10], by simp [h8, g3], by simp [h9, g4], by simp [h11], sw, pq, o, c⟩
            · simp [h0, h1, h2, h3, h8, h9, h11, h12, h62, g3]
              refine rest _ _ ?_
              exact ⟨ys, by simp [h0], by simp [h1], by simp [h2], by simp [h3], by simp [h10], by simp [h8, g3], by simp [h9], by simp [h11], sw, pq, o, c⟩
          case rest3 =>
            clear h0 h1 h2 h3 h8 h9 h11 h12 sw pq o c len
            rintro t H1 ⟨ys, h0, h1, h2, h3, h10, h8, h9, h11, sw, pq, o, c⟩
            have len := sw.len
            have q1 : p < ys.length := by omega
            rw [go_draw (h := by kernel_rfl)]
            simp [h0, h1, h2, h3, h8, h9, h11]
            refine wp_joinc (F := ?F4) (k := ?k4) (d := ?d4) (Q := ?Q4) (fun r t => r = vcall C frz 98 [v, .int .i64 a, .int .i64 b, .int .i64 p, cf] H1 ∧ (t 0 = v ∧ t 4 = cf) ∧ t 1 = .int .i64 a ∧ t 2 = .int .i64 b ∧ t 3 = .int .i64 L ∧ t 12 = .int .i64 n1) ?main4 ?rest4
            case main4 =>
              intro rest
              refine wpg_dec ?_ ?_ <;> intro g3
              · have e5 : ∀ [Inhabited Unit], IntKind.i64.wrap ((a : Int) - 1) = ((a - 1 : Nat) : Int) := by intro _; rw [w64 (by omega) (by omega)]; omega
                have q2 : a - 1 < ys.length := by omega
                simp [h0, h1, h2, h3, h8, h9, h11, g3, e5, dw_ix o q1, dw_ix o q2, dw_ld o q1, dw_ld o q2, dlt hK o]
                refine wp_dec ?_ ?_ <;> intro g4
                · simp [h0, h1, h2, h3, h8, h9, h11]
                  refine rest _ _ ?_
                  exact ⟨rfl, by simp [h0], by simp [h1], by simp [h2], by simp [h3], by simp [h10]⟩
                · simp [h0, h1, h2, h3, h8, h9, h11]
                  refine wp_thn (partEq_e hK v ys e a b p o hp (by omega) (by omega) hf) ?_
                  rintro _ H2 ⟨m, rfl, m1, m2, zs, sw1, ⟨f1, f2⟩, o2, c2, k2⟩
                  simp [h0, h1, h2, h3, h8, h9, h11]
                  have low := (pq.sw sw1 (by omega)).below g3
                  have out := sw1.out (by omega) (k := a - 1) (by omega)
                  refine ih (b - m) _ _ ⟨m, b, L, w1, w2, rfl, by simp [h0], by simp, by simp [h2], by simp [h3], by simp [h8], by simp [h9], zs, sw.trans (sw1.mono l1 l3), (pq.sw sw1 (by omega)).eq ⟨m1, m2⟩ (fun k k1 k2 => ?_) f1 f2, o2, c.trans c2⟩ (by omega)
                  have := low k k1 (by omega); omega
              · simp [h0, h1, h2, h3, h8, h9, h11, g3]
                refine rest _ _ ?_
                exact ⟨rfl, by simp [h0], by simp [h1], by simp [h2], by simp [h3], by simp [h10]⟩
            case rest4 =>
              rintro _ t ⟨rfl, h0, h1, h2, h3, h10⟩
              refine wp_thn (part_e hK v ys e a b p o hp (by omega) (by omega) hf) ?_
              rintro _ H2 ⟨m, d, rfl, m1, m2, zs, sw1, ⟨f1, f2⟩, o2, c2, k2⟩
              have pq2 := pq.sw sw1 (by omega)
              have len2 := sw1.len
              obtain ⟨r1, hr1⟩ : ∃ r1, r1 = m - a := ⟨_, rfl⟩
              obtain ⟨r2, hr2⟩ : ∃ r2, r2 = b - m := ⟨_, rfl⟩
              obtain ⟨mm, hmm⟩ : ∃ mm, mm = m + 1 := ⟨_, rfl⟩
              have e6 : ∀ [Inhabited Unit], IntKind.i64.wrap ((m : Int) - a) = (r1 : Int) := by intro _; rw [w64 (by omega) (by omega)]; omega
              have e7 : ∀ [Inhabited Unit], IntKind.i64.wrap ((b : Int) - m) = (r2 : Int) := by intro _; rw [w64 (by omega) (by omega)]; omega
              have e8 : ∀ [Inhabited Unit], IntKind.i64.wrap ((m : Int) + 1) = (mm : Int) := by intro _; rw [w64 (by omega) (by omega)]; omega
              have f1' : ∀ k, a ≤ k → k < m → G zs k ≤ G zs m := fun k k1 k2 => Int.le_of_lt (f1 k k1 k2)
              have cc := c.trans c2
              have q8 : ∀ [Inhabited Unit], IntKind.i64.wrap ((n1 : Int) / 8) = (n1 / 8 : Nat) := by intro _; rw [w64 (by omega) (by omega)]; omega
              obtain ⟨n8, hn8⟩ : ∃ n8, n8 = n1 / 8 := ⟨_, rfl⟩
              rw [← hn8] at q8
              simp [h0, h1, h2, h3, h10, e6, e7, e8, q8]
              refine wp_dec ?_ ?_ <;> intro g7
              · simp [h0, h1, h2, h3, h10]
                refine wp_thn (IH (m - a) (by omega) H2 v zs e a m L o2 (Nat.le_refl _) (by omega) (by omega) (by omega) (fun q0 k k1 k2 => pq2.below q0 k k1 (by omega)) hf (by have := cc.1; omega)) ?_
                rintro _ H3 ⟨ws, sw3, sr3, o3, c3⟩
                simp [h0, h1, h2, h3, h10, e8]
                have hbz : m ≤ zs.length := by omega
                have wm : G ws m = G zs m := sw3.out hbz (.inr (Nat.le_refl _))
                refine ih (b - mm) _ _ ⟨mm, b, L, decide (n8 ≤ r1), d, rfl, by simp [h0], by simp, by simp [h2], by simp [h3], by simp, by simp, ws, (sw.trans (sw1.mono l1 l3)).trans (sw3.mono l1 (by omega)), ?_, o3, cc.trans c3⟩ (by omega)
                rw [hmm]
                refine (pq2.sw (sw3.mono (Nat.le_refl _) (by omega)) (by omega)).goRight ⟨m1, m2⟩ sr3 ?_ (fun k k1 k2 => ?_)
                · rw [wm]; exact sw3.all hbz (p := fun y => y ≤ G zs m) f1'
                · rw [wm, sw3.out hbz (.inr (by omega))]; exact f2 k k1 k2
              · simp [h0, h1, h2, h3, h10, e8]
                refine wp_thn (IH (b - mm) (by omega) H2 v zs e mm b L o2 (Nat.le_refl _) (by omega) (by omega) (by omega) (fun q0 k k1 k2 => by rw [show mm - 1 = m by omega]; exact f2 k (by omega) k2) hf (by have := cc.1; omega)) ?_
                rintro _ H3 ⟨ws, sw3, sr3, o3, c3⟩
                simp [h0, h1, h2, h3, h10, e8]
                have hbz : b ≤ zs.length := by omega
                have wm : G ws m = G zs m := sw3.out hbz (.inl (by omega))
                refine ih (m - a) _ _ ⟨a, m, L, decide (n8 ≤ r2), d, rfl, by simp [h0], by simp [h1], by simp, by simp [h3], by simp, by simp, ws, (sw.trans (sw1.mono l1 l3)).trans (sw3.mono (by omega) l3), ?_, o3, cc.trans c3⟩ (by omega)
                refine (pq2.sw (sw3.mono (by omega) (Nat.le_refl _)) (by omega)).goLeft ⟨m1, m2⟩ (hmm ▸ sr3) (fun k k1 k2 => ?_) (fun k k1 k2 => ?_)
                · rw [wm, sw3.out hbz (.inl (by omega))]; exact f1' k k1 k2
                · rw [wm]; exact sw3.all hbz (p := fun y => G zs m ≤ y) (fun k k1 k2 => f2 k (by omega) k2) k (by omega) k2
theorem sortF_e (v : Value) (xs : List Int) (e : TypeId) (h : OwE e H v xs) (hl : xs.length ≤ 1073741824) (hf : ∀ i ∈ ids v, frz ≤ i) (hF : frz ≤ H.length) :
   wp (vcall C frz 65 [v, cf] H) (fun _ H' => ∃ ys : List Int, ys.Pairwise (· ≤ ·) ∧ ys.Perm xs ∧ OwE e H' v ys ∧ Chg H H' (ids v)) := by
  rw [vcall_go (fn := Try.f65) Try.func65 rfl (by kernel_rfl) rfl]
  have e1 : ∀ [Inhabited Unit], IntKind.u64.wrap (xs.length : Int) = (xs.length : Int) := by intro _; exact w64u (by omega) (by omega)
  simp [h.rd.len, e1]
  refine wp_thn (len_w xs.length (by omega)) ?_
  rintro _ H0 ⟨hH, n, rfl, _⟩
  rw [hH]
  simp
  have := pdq_e (frz := frz) hK xs.length H v xs e 0 xs.length n h (by omega) (by omega) (Nat.le_refl _) hl (fun h => by omega) hf hF
  refine wp_thn (by simpa using this) ?_
  rintro _ H1 ⟨ys, sw, sr, o, c⟩
  simp
  rw [← sw.len] at sr
  exact ⟨ys, sr.pairwise, sw.perm (Nat.le_refl _), o, c⟩
end Go.Proofs.Ytlbbalmeaedbdaa.V
/-! slices.Compact on ints. -/
set_option linter.all false
namespace Go.Proofs.Ytlbbalmeaedbdaa.V
open Go Go.VM Go.Proofs
set_option maxRecDepth 10000
variable {frz : Nat} {H : Heap} {v : Value} {xs ys : List Int} {e : TypeId}
/-- the first j elements without those that equal the one before them -/
def dk (xs : List Int) : Nat → List Int
  | 0 => []
  | j + 1 => if 0 < j ∧ G xs (j - 1) = G xs j then dk xs j else dk xs j ++ [G xs j]
def compact (xs : List Int) : List Int := dk xs xs.length
theorem dk_len (xs : List Int) : ∀ j, (dk xs j).length ≤ j
  | 0 => Nat.le_refl _
  | j + 1 => by
    have := dk_len xs j
    unfold dk; split <;> simp <;> omega
theorem take_G {xs : List Int} {j : Nat} (h : j < xs.length) : xs.take (j + 1) = xs.take j ++ [G xs j] := by rw [List.take_succ_eq_append_getElem h, G_get h]
theorem dk_sorted {xs : List Int} (hs : xs.Pairwise (· ≤ ·)) : ∀ j, j ≤ xs.length → (dk xs j).Pairwise (· < ·) ∧ (∀ x, x ∈ dk xs j ↔ x ∈ xs.take j)
  | 0, _ => by simp [dk]
  | j + 1, hj => by
    obtain ⟨h1, h2⟩ := dk_sorted hs j (by omega)
    have hjl : j < xs.length := by omega
    rw [take_G hjl]
    have mem_le : ∀ x ∈ xs.take j, ∃ i, i < j ∧ x = G xs i ∧ (i < j - 1 → x ≤ G xs (j - 1)) ∧ x ≤ G xs j := by
      intro x hx
      obtain ⟨i, hi, rfl⟩ := List.mem_iff_getElem.1 hx
      simp at hi
      rw [List.getElem_take]
      refine ⟨i, by omega, (G_get (by omega)).symm, fun h => ?_, ?_⟩
      · rw [G_get (by omega)]; exact List.pairwise_iff_getElem.1 hs i (j - 1) (by omega) (by omega) (by omega)
      · rw [G_get hjl]; exact List.pairwise_iff_getElem.1 hs i j (by omega) (by omega) (by omega)
    unfold dk
    split
    · rename_i hc
      refine ⟨h1, fun x => ?_⟩
      rw [h2, List.mem_append, List.mem_singleton]
      refine ⟨.inl, fun hh => hh.elim id fun hx => ?_⟩
      rw [hx, ← hc.2, G_get (by omega), ← List.getElem_take (j := j) (h := by simp; omega)]
      exact List.getElem_mem _
    · rename_i hc
      refine ⟨?_, fun x => by rw [List.mem_append, List.mem_append, h2]⟩
      rw [List.pairwise_append]
      refine ⟨h1, by simp, fun x hx y hy => ?_⟩
      rw [List.mem_singleton.1 hy]
      obtain ⟨i, hi, he, hl, hle⟩ := mem_le x ((h2 x).1 hx)
      by_cases hij : i = j - 1
      · have h0 : 0 < j := by omega
        have : G xs (j - 1) ≠ G xs j := fun hh => hc ⟨h0, hh⟩
        rw [hij] at he
        omega
      · have h3 := hl (by omega)
        have h0 : 0 < j := by omega
        have : G xs (j - 1) ≠ G xs j := fun hh => hc ⟨h0, hh⟩
        have h4 : G xs (j - 1) ≤ G xs j := by
          rw [G_get (by omega), G_get hjl]; exact List.pairwise_iff_getElem.1 hs (j - 1) j (by omega) (by omega) (by omega)
        omega
theorem compact_sorted {xs : List Int} (hs : xs.Pairwise (· ≤ ·)) : (compact xs).Pairwise (· < ·) ∧ ∀ x, x ∈ compact xs ↔ x ∈ xs := by
  obtain ⟨h1, h2⟩ := dk_sorted hs xs.length (Nat.le_refl _)
  exact ⟨h1, fun x => by rw [compact, h2, List.take_length]⟩
/-- a slice's tail, told once for all heaps -/
theorem ow_tail (o : Ow Fl.int 3 H v xs) (h0 : 0 < xs.length) {l : Nat} (hl : l ≤ xs.length) : ∃ z, ∀ (H' : Heap) (ys : List Int), Ow Fl.int 3 H' v ys → ys.length = xs.length →
    vslice Try.prog H' 24 (some (.int .i64 (l : Nat))) none v = some z ∧ Ow Fl.int 3 H' z (ys.drop l) ∧ ids z = ids v := by
  rcases o with ⟨_, rfl⟩ | ⟨id, off, r, rfl, k2, k3, k4, k5, k6⟩
  · simp at h0
  · refine ⟨.slice (some ⟨id, off + l * 1, some r.gen⟩) (xs.length - l) 0, fun H' ys o' hlen => ?_⟩
    obtain ⟨z', h1, h2, h3⟩ := o'.slice (P := Try.prog) (ty := 24) (lo := some (.int .i64 (l : Int))) (hi := none) (l := l) (u := ys.length) (by simp) rfl rfl (by omega) (Nat.le_refl _)
    have e : (ys.drop l).take (ys.length - l) = ys.drop l := List.take_of_length_le (by simp)
    rw [e] at h2
    have hz : z' = .slice (some ⟨id, off + l * 1, some r.gen⟩) (xs.length - l) 0 := by
      rcases o' with ⟨hv, _⟩ | ⟨id', off', r', hv, q2, q3, q4, q5, q6⟩
      · cases hv
      · injection hv with hv1 hv2
        injection hv1 with hv1
        injection hv1 with i1 i2 i3
        injection i3 with i3
        subst i1 i2
        have hle : (l : Int) ≤ (xs.length : Int) := by omega
        simp [vslice, VM.look, q2, i3, vbound, q5, hle] at h1
        simp [← h1, i3]
    rw [← hz]
    exact ⟨h1, h2, h3⟩
/-- the tail is cleared -/
theorem ow_clear (o : Ow Fl.int 3 H v ys) (h0 : 0 < ys.length) {l : Nat} (hl : l ≤ ys.length) {z : Value} (hz : vslice Try.prog H 24 (some (.int .i64 (l : Nat))) none v = some z) (hf : ∀ i ∈ ids v, frz ≤ i) :
    ∃ H' zs, vclear Try.prog frz H 24 z = some (undef, H') ∧ zs.length = ys.length ∧ zs.take l = ys.take l ∧ Ow Fl.int 3 H' v zs ∧ Chg H H' (ids v) := by
  rcases o with ⟨_, rfl⟩ | ⟨id, off, r, rfl, k2, k3, k4, k5, k6⟩
  · simp at h0
  · have hle : (l : Int) ≤ (ys.length : Int) := by omega
    simp [vslice, VM.look, k2, vbound, k5, hle] at hz
    subst hz
    have hfr : frz ≤ id := hf id (by simp)
    have hn : Fl.int.n = 1 := rfl
    rw [hn] at k3 k4
    have hroom : off + l + (ys.length - l) ≤ r.cells.length := by omega
    refine ⟨H.set id { r with cells := VM.splice r.cells (off + l) (List.replicate (ys.length - l) [Value.int .i64 0]).flatten }, ys.take l ++ List.replicate (ys.length - l) 0, ?_, by simp; omega, by rw [List.take_append_of_le_length (by simp; omega), List.take_take, Nat.min_self], ?_, chg_set _ _⟩
    · simp [vclear, VM.look, k2, hfr, hroom, ones, VM.one]
    · have hcl : ((List.replicate (ys.length - l) [Value.int .i64 0]).flatten).length = ys.length - l := by simp
      have hlt : id < H.length := box_lt k2
      have hzl : (ys.take l ++ List.replicate (ys.length - l) (0 : Int)).length = ys.length := by simp; omega
      refine .inr ⟨id, off, { r with cells := VM.splice r.cells (off + l) (List.replicate (ys.length - l) [Value.int .i64 0]).flatten }, by rw [hzl], by simp [hlt], ?_, ?_, k5, ones_splice k6 (by simp [ones, VM.one])⟩
      · rw [hzl, hn, splice_region k3 k4 (by rw [hcl]; omega), cellsOf_int, cellsOf_int]
        unfold VM.splice
        rw [hcl]
        have e1 : (List.map (Value.int .i64) ys).drop (l + (ys.length - l)) = [] := by rw [List.drop_eq_nil_iff]; simp; omega
        rw [e1, List.append_nil, List.map_append, List.map_take]
        simp
      · rw [hzl, hn, splice_len (by rw [hcl]; omega)]; exact k4
end Go.Proofs.Ytlbbalmeaedbdaa.V
