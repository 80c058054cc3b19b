/- What the value machine is told of the program: which functions may change rows, and the types' sizes and places. -/
import Derived.Test.YtohkocaalbndoaaProg
import Derived.Test.YtohkocaalbndoaaVM15
import Derived.Test.YtohkocaalbndoaaVM20
import Derived.KernelRfl
namespace Go.Proofs.Ytohkocaalbndoaa.V
open Go Go.VM Go.Proofs
noncomputable def C : Ctx := { P := Try.prog, mode := fun g => if [22, 54].contains g then 2 else 0, ext := fun _ => none }
@[simp] theorem CP : C.P = Try.prog := rfl
theorem drawn : DrawOk C := drawOk_holds C (by kernel_rfl)
@[simp] theorem mode0 : C.mode 0 = 0 := rfl
@[simp] theorem mode1 : C.mode 1 = 0 := rfl
@[simp] theorem mode2 : C.mode 2 = 0 := rfl
@[simp] theorem mode3 : C.mode 3 = 0 := rfl
@[simp] theorem mode4 : C.mode 4 = 0 := rfl
@[simp] theorem mode5 : C.mode 5 = 0 := rfl
@[simp] theorem mode6 : C.mode 6 = 0 := rfl
@[simp] theorem mode7 : C.mode 7 = 0 := rfl
@[simp] theorem mode8 : C.mode 8 = 0 := rfl
@[simp] theorem mode9 : C.mode 9 = 0 := rfl
@[simp] theorem mode10 : C.mode 10 = 0 := rfl
@[simp] theorem mode11 : C.mode 11 = 0 := rfl
@[simp] theorem mode12 : C.mode 12 = 0 := rfl
@[simp] theorem mode13 : C.mode 13 = 0 := rfl
@[simp] theorem mode14 : C.mode 14 = 0 := rfl
@[simp] theorem mode15 : C.mode 15 = 0 := rfl
@[simp] theorem mode16 : C.mode 16 = 0 := rfl
@[simp] theorem mode17 : C.mode 17 = 0 := rfl
@[simp] theorem mode18 : C.mode 18 = 0 := rfl
@[simp] theorem mode19 : C.mode 19 = 0 := rfl
@[simp] theorem mode20 : C.mode 20 = 0 := rfl
@[simp] theorem mode21 : C.mode 21 = 0 := rfl
@[simp] theorem mode22 : C.mode 22 = 2 := rfl
@[simp] theorem mode23 : C.mode 23 = 0 := rfl
@[simp] theorem mode24 : C.mode 24 = 0 := rfl
@[simp] theorem mode25 : C.mode 25 = 0 := rfl
@[simp] theorem mode26 : C.mode 26 = 0 := rfl
@[simp] theorem mode27 : C.mode 27 = 0 := rfl
@[simp] theorem mode28 : C.mode 28 = 0 := rfl
@[simp] theorem mode29 : C.mode 29 = 0 := rfl
@[simp] theorem mode30 : C.mode 30 = 0 := rfl
@[simp] theorem mode31 : C.mode 31 = 0 := rfl
@[simp] theorem mode32 : C.mode 32 = 0 := rfl
@[simp] theorem mode33 : C.mode 33 = 0 := rfl
@[simp] theorem mode34 : C.mode 34 = 0 := rfl
@[simp] theorem mode35 : C.mode 35 = 0 := rfl
@[simp] theorem mode36 : C.mode 36 = 0 := rfl
@[simp] theorem mode37 : C.mode 37 = 0 := rfl
@[simp] theorem mode38 : C.mode 38 = 0 := rfl
@[simp] theorem mode39 : C.mode 39 = 0 := rfl
@[simp] theorem mode40 : C.mode 40 = 0 := rfl
@[simp] theorem mode41 : C.mode 41 = 0 := rfl
@[simp] theorem mode42 : C.mode 42 = 0 := rfl
@[simp] theorem mode43 : C.mode 43 = 0 := rfl
@[simp] theorem mode44 : C.mode 44 = 0 := rfl
@[simp] theorem mode45 : C.mode 45 = 0 := rfl
@[simp] theorem mode46 : C.mode 46 = 0 := rfl
@[simp] theorem mode47 : C.mode 47 = 0 := rfl
@[simp] theorem mode48 : C.mode 48 = 0 := rfl
@[simp] theorem mode49 : C.mode 49 = 0 := rfl
@[simp] theorem mode50 : C.mode 50 = 0 := rfl
@[simp] theorem mode51 : C.mode 51 = 0 := rfl
@[simp] theorem mode52 : C.mode 52 = 0 := rfl
@[simp] theorem mode53 : C.mode 53 = 0 := rfl
@[simp] theorem mode54 : C.mode 54 = 2 := rfl
@[simp] theorem mode55 : C.mode 55 = 0 := rfl
@[simp] theorem mode56 : C.mode 56 = 0 := rfl
@[simp] theorem mode57 : C.mode 57 = 0 := rfl
@[simp] theorem mode58 : C.mode 58 = 0 := rfl
@[simp] theorem mode59 : C.mode 59 = 0 := rfl
@[simp] theorem mode60 : C.mode 60 = 0 := rfl
@[simp] theorem mode61 : C.mode 61 = 0 := rfl
@[simp] theorem mode62 : C.mode 62 = 0 := rfl
@[simp] theorem mode63 : C.mode 63 = 0 := rfl
@[simp] theorem mode64 : C.mode 64 = 0 := rfl
@[simp] theorem mode65 : C.mode 65 = 0 := rfl
@[simp] theorem mode66 : C.mode 66 = 0 := rfl
@[simp] theorem mode67 : C.mode 67 = 0 := rfl
@[simp] theorem mode68 : C.mode 68 = 0 := rfl
@[simp] theorem mode69 : C.mode 69 = 0 := rfl
@[simp] theorem mode70 : C.mode 70 = 0 := rfl
@[simp] theorem mode71 : C.mode 71 = 0 := rfl
@[simp] theorem mode72 : C.mode 72 = 0 := rfl
@[simp] theorem mode73 : C.mode 73 = 0 := rfl
@[simp] theorem mode74 : C.mode 74 = 0 := rfl
@[simp] theorem mode75 : C.mode 75 = 0 := rfl
@[simp] theorem mode76 : C.mode 76 = 0 := rfl
@[simp] theorem mode77 : C.mode 77 = 0 := rfl
@[simp] theorem mode78 : C.mode 78 = 0 := rfl
@[simp] theorem mode79 : C.mode 79 = 0 := rfl
@[simp] theorem mode80 : C.mode 80 = 0 := rfl
@[simp] theorem mode81 : C.mode 81 = 0 := rfl
@[simp] theorem mode82 : C.mode 82 = 0 := rfl
@[simp] theorem mode83 : C.mode 83 = 0 := rfl
@[simp] theorem mode84 : C.mode 84 = 0 := rfl
@[simp] theorem mode85 : C.mode 85 = 0 := rfl
@[simp] theorem mode86 : C.mode 86 = 0 := rfl
@[simp] theorem mode87 : C.mode 87 = 0 := rfl
@[simp] theorem mode88 : C.mode 88 = 0 := rfl
@[simp] theorem mode89 : C.mode 89 = 0 := rfl
@[simp] theorem mode90 : C.mode 90 = 0 := rfl
@[simp] theorem mode91 : C.mode 91 = 0 := rfl
@[simp] theorem mode92 : C.mode 92 = 0 := rfl
@[simp] theorem mode93 : C.mode 93 = 0 := rfl
@[simp] theorem mode94 : C.mode 94 = 0 := rfl
@[simp] theorem mode95 : C.mode 95 = 0 := rfl
@[simp] theorem mode96 : C.mode 96 = 0 := rfl
@[simp] theorem mode97 : C.mode 97 = 0 := rfl
@[simp] theorem mode98 : C.mode 98 = 0 := rfl
@[simp] theorem mode99 : C.mode 99 = 0 := rfl
@[simp] theorem mode100 : C.mode 100 = 0 := rfl
@[simp] theorem mode101 : C.mode 101 = 0 := rfl
@[simp] theorem mode102 : C.mode 102 = 0 := rfl
@[simp] theorem mode103 : C.mode 103 = 0 := rfl
@[simp] theorem mode104 : C.mode 104 = 0 := rfl
@[simp] theorem mode105 : C.mode 105 = 0 := rfl
@[simp] theorem mode106 : C.mode 106 = 0 := rfl
@[simp] theorem mode107 : C.mode 107 = 0 := rfl
@[simp] theorem mode108 : C.mode 108 = 0 := rfl
@[simp] theorem mode109 : C.mode 109 = 0 := rfl
@[simp] theorem mode110 : C.mode 110 = 0 := rfl
@[simp] theorem mode111 : C.mode 111 = 0 := rfl
@[simp] theorem mode112 : C.mode 112 = 0 := rfl
@[simp] theorem mode113 : C.mode 113 = 0 := rfl
@[simp] theorem mode114 : C.mode 114 = 0 := rfl
@[simp] theorem tsz2 : tsz Try.prog 2 = some (false, 1) := by kernel_rfl
@[simp] theorem tzero2 : tzero Try.prog 2 = some [.int .i64 0] := by kernel_rfl
@[simp] theorem und2 : Try.prog.underlying 2 = some (.int .i64) := by kernel_rfl
@[simp] theorem tsz3 : tsz Try.prog 3 = some (false, 1) := by kernel_rfl
@[simp] theorem tzero3 : tzero Try.prog 3 = some [.int .i64 0] := by kernel_rfl
@[simp] theorem und3 : Try.prog.underlying 3 = some (.int .i64) := by kernel_rfl
@[simp] theorem tsz4 : tsz Try.prog 4 = some (false, 1) := by kernel_rfl
@[simp] theorem tzero4 : tzero Try.prog 4 = some [.bool false] := by kernel_rfl
@[simp] theorem und4 : Try.prog.underlying 4 = some .bool := by kernel_rfl
@[simp] theorem tsz5 : tsz Try.prog 5 = some (false, 1) := by kernel_rfl
@[simp] theorem tzero5 : tzero Try.prog 5 = some [.int .u8 0] := by kernel_rfl
@[simp] theorem und5 : Try.prog.underlying 5 = some (.int .u8) := by kernel_rfl
@[simp] theorem tsz6 : tsz Try.prog 6 = some (false, 1) := by kernel_rfl
@[simp] theorem tzero6 : tzero Try.prog 6 = some [.int .u8 0] := by kernel_rfl
@[simp] theorem und6 : Try.prog.underlying 6 = some (.int .u8) := by kernel_rfl
@[simp] theorem tsz7 : tsz Try.prog 7 = some (true, 4) := by kernel_rfl
@[simp] theorem tzero7 : tzero Try.prog 7 = some [.int .i64 0, .int .i64 0, .bool false, .int .u8 0] := by kernel_rfl
@[simp] theorem finfo7_0 : finfo Try.prog 7 0 = some (0, false, 1) := by kernel_rfl
@[simp] theorem finfo7_1 : finfo Try.prog 7 1 = some (1, false, 1) := by kernel_rfl
@[simp] theorem finfo7_2 : finfo Try.prog 7 2 = some (2, false, 1) := by kernel_rfl
@[simp] theorem finfo7_3 : finfo Try.prog 7 3 = some (3, false, 1) := by kernel_rfl
@[simp] theorem bplaces7 : bplaces Try.prog 7 = some [(0, 1), (1, 1), (2, 1), (3, 1)] := by kernel_rfl
@[simp] theorem tsz8 : tsz Try.prog 8 = some (true, 4) := by kernel_rfl
@[simp] theorem tzero8 : tzero Try.prog 8 = some [.int .i64 0, .int .i64 0, .bool false, .int .u8 0] := by kernel_rfl
@[simp] theorem finfo8_0 : finfo Try.prog 8 0 = some (0, false, 1) := by kernel_rfl
@[simp] theorem finfo8_1 : finfo Try.prog 8 1 = some (1, false, 1) := by kernel_rfl
@[simp] theorem finfo8_2 : finfo Try.prog 8 2 = some (2, false, 1) := by kernel_rfl
@[simp] theorem finfo8_3 : finfo Try.prog 8 3 = some (3, false, 1) := by kernel_rfl
@[simp] theorem bplaces8 : bplaces Try.prog 8 = some [(0, 1), (1, 1), (2, 1), (3, 1)] := by kernel_rfl
@[simp] theorem tsz9 : tsz Try.prog 9 = some (false, 1) := by kernel_rfl
@[simp] theorem tzero9 : tzero Try.prog 9 = some [.string .empty] := by kernel_rfl
@[simp] theorem isStr9 : isStr Try.prog 9 = true := by kernel_rfl
@[simp] theorem und9 : Try.prog.underlying 9 = some .string := by kernel_rfl
@[simp] theorem tsz10 : tsz Try.prog 10 = some (false, 1) := by kernel_rfl
@[simp] theorem tzero10 : tzero Try.prog 10 = some [.string .empty] := by kernel_rfl
@[simp] theorem isStr10 : isStr Try.prog 10 = true := by kernel_rfl
@[simp] theorem und10 : Try.prog.underlying 10 = some .string := by kernel_rfl
@[simp] theorem tsz11 : tsz Try.prog 11 = some (false, 1) := by kernel_rfl
@[simp] theorem tzero11 : tzero Try.prog 11 = some [.string .empty] := by kernel_rfl
@[simp] theorem isStr11 : isStr Try.prog 11 = true := by kernel_rfl
@[simp] theorem und11 : Try.prog.underlying 11 = some .string := by kernel_rfl
@[simp] theorem tsz12 : tsz Try.prog 12 = some (false, 1) := by kernel_rfl
@[simp] theorem tzero12 : tzero Try.prog 12 = some [.int .u64 0] := by kernel_rfl
@[simp] theorem und12 : Try.prog.underlying 12 = some (.int .u64) := by kernel_rfl
@[simp] theorem tsz13 : tsz Try.prog 13 = some (true, 2) := by kernel_rfl
@[simp] theorem tzero13 : tzero Try.prog 13 = some [.string .empty, .int .u64 0] := by kernel_rfl
@[simp] theorem finfo13_0 : finfo Try.prog 13 0 = some (0, false, 1) := by kernel_rfl
@[simp] theorem finfo13_1 : finfo Try.prog 13 1 = some (1, false, 1) := by kernel_rfl
@[simp] theorem bplaces13 : bplaces Try.prog 13 = some [(0, 1), (1, 1)] := by kernel_rfl
@[simp] theorem tsz14 : tsz Try.prog 14 = some (true, 2) := by kernel_rfl
@[simp] theorem tzero14 : tzero Try.prog 14 = some [.string .empty, .int .u64 0] := by kernel_rfl
@[simp] theorem finfo14_0 : finfo Try.prog 14 0 = some (0, false, 1) := by kernel_rfl
@[simp] theorem finfo14_1 : finfo Try.prog 14 1 = some (1, false, 1) := by kernel_rfl
@[simp] theorem bplaces14 : bplaces Try.prog 14 = some [(0, 1), (1, 1)] := by kernel_rfl
@[simp] theorem tsz15 : tsz Try.prog 15 = some (false, 1) := by kernel_rfl
@[simp] theorem tzero15 : tzero Try.prog 15 = some [.pointer none] := by kernel_rfl
@[simp] theorem tsz16 : tsz Try.prog 16 = some (false, 1) := by kernel_rfl
@[simp] theorem tzero16 : tzero Try.prog 16 = some [.pointer none] := by kernel_rfl
@[simp] theorem tsz17 : tsz Try.prog 17 = some (false, 1) := by kernel_rfl
@[simp] theorem tzero17 : tzero Try.prog 17 = some [.pointer none] := by kernel_rfl
@[simp] theorem tsz18 : tsz Try.prog 18 = some (true, 1) := by kernel_rfl
@[simp] theorem tzero18 : tzero Try.prog 18 = some [.pointer none] := by kernel_rfl
@[simp] theorem finfo18_0 : finfo Try.prog 18 0 = some (0, false, 1) := by kernel_rfl
@[simp] theorem bplaces18 : bplaces Try.prog 18 = some [(0, 1)] := by kernel_rfl
@[simp] theorem tsz19 : tsz Try.prog 19 = some (true, 1) := by kernel_rfl
@[simp] theorem tzero19 : tzero Try.prog 19 = some [.pointer none] := by kernel_rfl
@[simp] theorem finfo19_0 : finfo Try.prog 19 0 = some (0, false, 1) := by kernel_rfl
@[simp] theorem bplaces19 : bplaces Try.prog 19 = some [(0, 1)] := by kernel_rfl
@[simp] theorem tsz21 : tsz Try.prog 21 = some (false, 1) := by kernel_rfl
@[simp] theorem tzero21 : tzero Try.prog 21 = some [.int .i32 0] := by kernel_rfl
@[simp] theorem und21 : Try.prog.underlying 21 = some (.int .i32) := by kernel_rfl
@[simp] theorem tsz22 : tsz Try.prog 22 = some (true, 5) := by kernel_rfl
@[simp] theorem tzero22 : tzero Try.prog 22 = some [.int .i64 0, .int .i64 0, .int .i64 0, .int .i64 0, .int .i64 0] := by kernel_rfl
@[simp] theorem finfo22_0 : finfo Try.prog 22 0 = some (0, false, 1) := by kernel_rfl
@[simp] theorem finfo22_1 : finfo Try.prog 22 1 = some (1, false, 1) := by kernel_rfl
@[simp] theorem finfo22_2 : finfo Try.prog 22 2 = some (2, false, 1) := by kernel_rfl
@[simp] theorem finfo22_3 : finfo Try.prog 22 3 = some (3, false, 1) := by kernel_rfl
@[simp] theorem finfo22_4 : finfo Try.prog 22 4 = some (4, false, 1) := by kernel_rfl
@[simp] theorem bplaces22 : bplaces Try.prog 22 = some [(0, 1), (1, 1), (2, 1), (3, 1), (4, 1)] := by kernel_rfl
@[simp] theorem tsz23 : tsz Try.prog 23 = some (true, 5) := by kernel_rfl
@[simp] theorem tzero23 : tzero Try.prog 23 = some [.int .i64 0, .int .i64 0, .int .i64 0, .int .i64 0, .int .i64 0] := by kernel_rfl
@[simp] theorem finfo23_0 : finfo Try.prog 23 0 = some (0, false, 1) := by kernel_rfl
@[simp] theorem finfo23_1 : finfo Try.prog 23 1 = some (1, false, 1) := by kernel_rfl
@[simp] theorem finfo23_2 : finfo Try.prog 23 2 = some (2, false, 1) := by kernel_rfl
@[simp] theorem finfo23_3 : finfo Try.prog 23 3 = some (3, false, 1) := by kernel_rfl
@[simp] theorem finfo23_4 : finfo Try.prog 23 4 = some (4, false, 1) := by kernel_rfl
@[simp] theorem bplaces23 : bplaces Try.prog 23 = some [(0, 1), (1, 1), (2, 1), (3, 1), (4, 1)] := by kernel_rfl
@[simp] theorem tsz25 : tsz Try.prog 25 = some (true, 5) := by kernel_rfl
@[simp] theorem tzero25 : tzero Try.prog 25 = some [.int .i64 0, .int .i64 0, .int .i64 0, .int .i64 0, .int .i64 0] := by kernel_rfl
@[simp] theorem finfo25_0 : finfo Try.prog 25 0 = some (0, false, 1) := by kernel_rfl
@[simp] theorem finfo25_1 : finfo Try.prog 25 1 = some (1, false, 1) := by kernel_rfl
@[simp] theorem finfo25_2 : finfo Try.prog 25 2 = some (2, false, 1) := by kernel_rfl
@[simp] theorem finfo25_3 : finfo Try.prog 25 3 = some (3, false, 1) := by kernel_rfl
@[simp] theorem finfo25_4 : finfo Try.prog 25 4 = some (4, false, 1) := by kernel_rfl
@[simp] theorem bplaces25 : bplaces Try.prog 25 = some [(0, 1), (1, 1), (2, 1), (3, 1), (4, 1)] := by kernel_rfl
@[simp] theorem tsz28 : tsz Try.prog 28 = some (false, 1) := by kernel_rfl
@[simp] theorem tzero28 : tzero Try.prog 28 = some [.slice none 0 0] := by kernel_rfl
@[simp] theorem eltp28 : eltp Try.prog 28 = some (3, 1) := by kernel_rfl
@[simp] theorem isSl28 : isSl Try.prog 28 = true := by kernel_rfl
@[simp] theorem tsz37 : tsz Try.prog 37 = some (false, 1) := by kernel_rfl
@[simp] theorem tzero37 : tzero Try.prog 37 = some [.slice none 0 0] := by kernel_rfl
@[simp] theorem eltp37 : eltp Try.prog 37 = some (5, 1) := by kernel_rfl
@[simp] theorem isSl37 : isSl Try.prog 37 = true := by kernel_rfl
@[simp] theorem tsz39 : tsz Try.prog 39 = some (true, 2) := by kernel_rfl
@[simp] theorem tzero39 : tzero Try.prog 39 = some [.int .i64 0, .int .i64 0] := by kernel_rfl
@[simp] theorem finfo39_0 : finfo Try.prog 39 0 = some (0, false, 1) := by kernel_rfl
@[simp] theorem finfo39_1 : finfo Try.prog 39 1 = some (1, false, 1) := by kernel_rfl
@[simp] theorem bplaces39 : bplaces Try.prog 39 = some [(0, 1), (1, 1)] := by kernel_rfl
@[simp] theorem tsz40 : tsz Try.prog 40 = some (true, 2) := by kernel_rfl
@[simp] theorem tzero40 : tzero Try.prog 40 = some [.int .i64 0, .int .i64 0] := by kernel_rfl
@[simp] theorem finfo40_0 : finfo Try.prog 40 0 = some (0, false, 1) := by kernel_rfl
@[simp] theorem finfo40_1 : finfo Try.prog 40 1 = some (1, false, 1) := by kernel_rfl
@[simp] theorem bplaces40 : bplaces Try.prog 40 = some [(0, 1), (1, 1)] := by kernel_rfl
@[simp] theorem tsz41 : tsz Try.prog 41 = some (true, 3) := by kernel_rfl
@[simp] theorem tzero41 : tzero Try.prog 41 = some [.int .i64 0, .int .i64 0, .slice none 0 0] := by kernel_rfl
@[simp] theorem finfo41_0 : finfo Try.prog 41 0 = some (0, true, 2) := by kernel_rfl
@[simp] theorem finfo41_1 : finfo Try.prog 41 1 = some (2, false, 1) := by kernel_rfl
@[simp] theorem bplaces41 : bplaces Try.prog 41 = some [(0, 2), (2, 1)] := by kernel_rfl
@[simp] theorem tsz42 : tsz Try.prog 42 = some (true, 3) := by kernel_rfl
@[simp] theorem tzero42 : tzero Try.prog 42 = some [.int .i64 0, .int .i64 0, .slice none 0 0] := by kernel_rfl
@[simp] theorem finfo42_0 : finfo Try.prog 42 0 = some (0, true, 2) := by kernel_rfl
@[simp] theorem finfo42_1 : finfo Try.prog 42 1 = some (2, false, 1) := by kernel_rfl
@[simp] theorem bplaces42 : bplaces Try.prog 42 = some [(0, 2), (2, 1)] := by kernel_rfl
@[simp] theorem tsz48 : tsz Try.prog 48 = some (true, 2) := by kernel_rfl
@[simp] theorem tzero48 : tzero Try.prog 48 = some [.int .i64 0, .int .i64 0] := by kernel_rfl
@[simp] theorem finfo48_0 : finfo Try.prog 48 0 = some (0, false, 1) := by kernel_rfl
@[simp] theorem finfo48_1 : finfo Try.prog 48 1 = some (1, false, 1) := by kernel_rfl
@[simp] theorem bplaces48 : bplaces Try.prog 48 = some [(0, 1), (1, 1)] := by kernel_rfl
@[simp] theorem tsz49 : tsz Try.prog 49 = some (true, 3) := by kernel_rfl
@[simp] theorem tzero49 : tzero Try.prog 49 = some [.int .i64 0, .int .i64 0, .slice none 0 0] := by kernel_rfl
@[simp] theorem finfo49_0 : finfo Try.prog 49 0 = some (0, true, 2) := by kernel_rfl
@[simp] theorem finfo49_1 : finfo Try.prog 49 1 = some (2, false, 1) := by kernel_rfl
@[simp] theorem bplaces49 : bplaces Try.prog 49 = some [(0, 2), (2, 1)] := by kernel_rfl
@[simp] theorem tsz50 : tsz Try.prog 50 = some (true, 3) := by kernel_rfl
@[simp] theorem tzero50 : tzero Try.prog 50 = some [.int .i64 0, .int .i64 0, .slice none 0 0] := by kernel_rfl
@[simp] theorem finfo50_0 : finfo Try.prog 50 0 = some (0, true, 2) := by kernel_rfl
@[simp] theorem finfo50_1 : finfo Try.prog 50 1 = some (2, false, 1) := by kernel_rfl
@[simp] theorem bplaces50 : bplaces Try.prog 50 = some [(0, 2), (2, 1)] := by kernel_rfl
@[simp] theorem tsz66 : tsz Try.prog 66 = some (false, 1) := by kernel_rfl
@[simp] theorem tzero66 : tzero Try.prog 66 = some [.pointer none] := by kernel_rfl
@[simp] theorem tsz77 : tsz Try.prog 77 = some (false, 1) := by kernel_rfl
@[simp] theorem tzero77 : tzero Try.prog 77 = some [.slice none 0 0] := by kernel_rfl
@[simp] theorem eltp77 : eltp Try.prog 77 = some (28, 1) := by kernel_rfl
@[simp] theorem isSl77 : isSl Try.prog 77 = true := by kernel_rfl
@[simp] theorem tsz80 : tsz Try.prog 80 = some (true, 3) := by kernel_rfl
@[simp] theorem tzero80 : tzero Try.prog 80 = some [.slice none 0 0, .int .i64 0, .int .i64 0] := by kernel_rfl
@[simp] theorem finfo80_0 : finfo Try.prog 80 0 = some (0, false, 1) := by kernel_rfl
@[simp] theorem finfo80_1 : finfo Try.prog 80 1 = some (1, false, 1) := by kernel_rfl
@[simp] theorem finfo80_2 : finfo Try.prog 80 2 = some (2, false, 1) := by kernel_rfl
@[simp] theorem bplaces80 : bplaces Try.prog 80 = some [(0, 1), (1, 1), (2, 1)] := by kernel_rfl
@[simp] theorem tsz81 : tsz Try.prog 81 = some (true, 3) := by kernel_rfl
@[simp] theorem tzero81 : tzero Try.prog 81 = some [.slice none 0 0, .int .i64 0, .int .i64 0] := by kernel_rfl
@[simp] theorem finfo81_0 : finfo Try.prog 81 0 = some (0, false, 1) := by kernel_rfl
@[simp] theorem finfo81_1 : finfo Try.prog 81 1 = some (1, false, 1) := by kernel_rfl
@[simp] theorem finfo81_2 : finfo Try.prog 81 2 = some (2, false, 1) := by kernel_rfl
@[simp] theorem bplaces81 : bplaces Try.prog 81 = some [(0, 1), (1, 1), (2, 1)] := by kernel_rfl
@[simp] theorem tsz85 : tsz Try.prog 85 = some (false, 1) := by kernel_rfl
@[simp] theorem tzero85 : tzero Try.prog 85 = some [.int .u64 0] := by kernel_rfl
@[simp] theorem und85 : Try.prog.underlying 85 = some (.int .u64) := by kernel_rfl
@[simp] theorem tsz89 : tsz Try.prog 89 = some (false, 1) := by kernel_rfl
@[simp] theorem tzero89 : tzero Try.prog 89 = some [.int .u32 0] := by kernel_rfl
@[simp] theorem und89 : Try.prog.underlying 89 = some (.int .u32) := by kernel_rfl
@[simp] theorem tsz92 : tsz Try.prog 92 = some (false, 1) := by kernel_rfl
@[simp] theorem tzero92 : tzero Try.prog 92 = some [.int .u64 0] := by kernel_rfl
@[simp] theorem und92 : Try.prog.underlying 92 = some (.int .u64) := by kernel_rfl
@[simp] theorem tsz96 : tsz Try.prog 96 = some (true, 4) := by kernel_rfl
@[simp] theorem tzero96 : tzero Try.prog 96 = some [.pointer none, .pointer none, .pointer none, .string .empty] := by kernel_rfl
@[simp] theorem finfo96_0 : finfo Try.prog 96 0 = some (0, false, 1) := by kernel_rfl
@[simp] theorem finfo96_1 : finfo Try.prog 96 1 = some (1, false, 1) := by kernel_rfl
@[simp] theorem finfo96_2 : finfo Try.prog 96 2 = some (2, false, 1) := by kernel_rfl
@[simp] theorem finfo96_3 : finfo Try.prog 96 3 = some (3, false, 1) := by kernel_rfl
@[simp] theorem bplaces96 : bplaces Try.prog 96 = some [(0, 1), (1, 1), (2, 1), (3, 1)] := by kernel_rfl
@[simp] theorem tsz97 : tsz Try.prog 97 = some (true, 4) := by kernel_rfl
@[simp] theorem tzero97 : tzero Try.prog 97 = some [.pointer none, .pointer none, .pointer none, .string .empty] := by kernel_rfl
@[simp] theorem finfo97_0 : finfo Try.prog 97 0 = some (0, false, 1) := by kernel_rfl
@[simp] theorem finfo97_1 : finfo Try.prog 97 1 = some (1, false, 1) := by kernel_rfl
@[simp] theorem finfo97_2 : finfo Try.prog 97 2 = some (2, false, 1) := by kernel_rfl
@[simp] theorem finfo97_3 : finfo Try.prog 97 3 = some (3, false, 1) := by kernel_rfl
@[simp] theorem bplaces97 : bplaces Try.prog 97 = some [(0, 1), (1, 1), (2, 1), (3, 1)] := by kernel_rfl
@[simp] theorem tsz98 : tsz Try.prog 98 = some (true, 0) := by kernel_rfl
@[simp] theorem tzero98 : tzero Try.prog 98 = some [] := by kernel_rfl
@[simp] theorem tsz99 : tsz Try.prog 99 = some (true, 0) := by kernel_rfl
@[simp] theorem tzero99 : tzero Try.prog 99 = some [] := by kernel_rfl
@[simp] theorem bplaces99 : bplaces Try.prog 99 = some [(0, 0)] := by kernel_rfl
@[simp] theorem tsz100 : tsz Try.prog 100 = some (true, 0) := by kernel_rfl
@[simp] theorem tzero100 : tzero Try.prog 100 = some [] := by kernel_rfl
@[simp] theorem bplaces100 : bplaces Try.prog 100 = some [(0, 0)] := by kernel_rfl
@[simp] theorem tsz102 : tsz Try.prog 102 = some (false, 1) := by kernel_rfl
@[simp] theorem tzero102 : tzero Try.prog 102 = some [.int .u8 0] := by kernel_rfl
@[simp] theorem und102 : Try.prog.underlying 102 = some (.int .u8) := by kernel_rfl
@[simp] theorem tsz103 : tsz Try.prog 103 = some (false, 1) := by kernel_rfl
@[simp] theorem tzero103 : tzero Try.prog 103 = some [.int .u8 0] := by kernel_rfl
@[simp] theorem und103 : Try.prog.underlying 103 = some (.int .u8) := by kernel_rfl
@[simp] theorem tsz105 : tsz Try.prog 105 = some (false, 1) := by kernel_rfl
@[simp] theorem tzero105 : tzero Try.prog 105 = some [.pointer none] := by kernel_rfl
@[simp] theorem tsz106 : tsz Try.prog 106 = some (false, 1) := by kernel_rfl
@[simp] theorem tzero106 : tzero Try.prog 106 = some [.int .i32 0] := by kernel_rfl
@[simp] theorem und106 : Try.prog.underlying 106 = some (.int .i32) := by kernel_rfl
@[simp] theorem tsz107 : tsz Try.prog 107 = some (false, 1) := by kernel_rfl
@[simp] theorem tzero107 : tzero Try.prog 107 = some [.int .i32 0] := by kernel_rfl
@[simp] theorem und107 : Try.prog.underlying 107 = some (.int .i32) := by kernel_rfl
@[simp] theorem tsz108 : tsz Try.prog 108 = some (true, 11) := by kernel_rfl
@[simp] theorem tzero108 : tzero Try.prog 108 = some [.int .u64 0, .int .u64 0, .int .u32 0, .int .u8 0, .int .u8 0, .int .u8 0, .int .u8 0, .nilFunc, .pointer none, .int .i32 0, .int .i32 0] := by kernel_rfl
@[simp] theorem finfo108_0 : finfo Try.prog 108 0 = some (0, false, 1) := by kernel_rfl
@[simp] theorem finfo108_1 : finfo Try.prog 108 1 = some (1, false, 1) := by kernel_rfl
@[simp] theorem finfo108_2 : finfo Try.prog 108 2 = some (2, false, 1) := by kernel_rfl
@[simp] theorem finfo108_3 : finfo Try.prog 108 3 = some (3, false, 1) := by kernel_rfl
@[simp] theorem finfo108_4 : finfo Try.prog 108 4 = some (4, false, 1) := by kernel_rfl
@[simp] theorem finfo108_5 : finfo Try.prog 108 5 = some (5, false, 1) := by kernel_rfl
@[simp] theorem finfo108_6 : finfo Try.prog 108 6 = some (6, false, 1) := by kernel_rfl
@[simp] theorem finfo108_8 : finfo Try.prog 108 8 = some (8, false, 1) := by kernel_rfl
@[simp] theorem finfo108_9 : finfo Try.prog 108 9 = some (9, false, 1) := by kernel_rfl
@[simp] theorem finfo108_10 : finfo Try.prog 108 10 = some (10, false, 1) := by kernel_rfl
@[simp] theorem tsz109 : tsz Try.prog 109 = some (true, 11) := by kernel_rfl
@[simp] theorem tzero109 : tzero Try.prog 109 = some [.int .u64 0, .int .u64 0, .int .u32 0, .int .u8 0, .int .u8 0, .int .u8 0, .int .u8 0, .nilFunc, .pointer none, .int .i32 0, .int .i32 0] := by kernel_rfl
@[simp] theorem finfo109_0 : finfo Try.prog 109 0 = some (0, false, 1) := by kernel_rfl
@[simp] theorem finfo109_1 : finfo Try.prog 109 1 = some (1, false, 1) := by kernel_rfl
@[simp] theorem finfo109_2 : finfo Try.prog 109 2 = some (2, false, 1) := by kernel_rfl
@[simp] theorem finfo109_3 : finfo Try.prog 109 3 = some (3, false, 1) := by kernel_rfl
@[simp] theorem finfo109_4 : finfo Try.prog 109 4 = some (4, false, 1) := by kernel_rfl
@[simp] theorem finfo109_5 : finfo Try.prog 109 5 = some (5, false, 1) := by kernel_rfl
@[simp] theorem finfo109_6 : finfo Try.prog 109 6 = some (6, false, 1) := by kernel_rfl
@[simp] theorem finfo109_8 : finfo Try.prog 109 8 = some (8, false, 1) := by kernel_rfl
@[simp] theorem finfo109_9 : finfo Try.prog 109 9 = some (9, false, 1) := by kernel_rfl
@[simp] theorem finfo109_10 : finfo Try.prog 109 10 = some (10, false, 1) := by kernel_rfl
end Go.Proofs.Ytohkocaalbndoaa.V
