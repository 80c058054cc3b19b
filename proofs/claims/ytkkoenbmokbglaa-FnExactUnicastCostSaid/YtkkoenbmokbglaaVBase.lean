/- What the value machine is told of the program: which functions may change rows, and the types' sizes and places. -/
import Derived.Test.YtkkoenbmokbglaaProg
import Derived.Test.YtkkoenbmokbglaaVM15
import Derived.Test.YtkkoenbmokbglaaVM20
import Derived.KernelRfl
namespace Go.Proofs.Ytkkoenbmokbglaa.V
open Go Go.VM Go.Proofs
noncomputable def C : Ctx := { P := Try.prog, mode := fun g => if [25, 26, 74, 82].contains g then 2 else 0, ext := fun _ => none }
@[simp] theorem CP : C.P = Try.prog := rfl
theorem drawn : DrawOk C := drawOk_holds C (by kernel_rfl)
@[simp] theorem mode0 : C.mode 0 = 0 := rfl
@[simp] theorem mode1 : C.mode 1 = 0 := rfl
@[simp] theorem mode2 : C.mode 2 = 0 := rfl
@[simp] theorem mode3 : C.mode 3 = 0 := rfl
@[simp] theorem mode4 : C.mode 4 = 0 := rfl
@[simp] theorem mode5 : C.mode 5 = 0 := rfl
@[simp] theorem mode6 : C.mode 6 = 0 := rfl
@[simp] theorem mode7 : C.mode 7 = 0 := rfl
@[simp] theorem mode8 : C.mode 8 = 0 := rfl
@[simp] theorem mode9 : C.mode 9 = 0 := rfl
@[simp] theorem mode10 : C.mode 10 = 0 := rfl
@[simp] theorem mode11 : C.mode 11 = 0 := rfl
@[simp] theorem mode12 : C.mode 12 = 0 := rfl
@[simp] theorem mode13 : C.mode 13 = 0 := rfl
@[simp] theorem mode14 : C.mode 14 = 0 := rfl
@[simp] theorem mode15 : C.mode 15 = 0 := rfl
@[simp] theorem mode16 : C.mode 16 = 0 := rfl
@[simp] theorem mode17 : C.mode 17 = 0 := rfl
@[simp] theorem mode18 : C.mode 18 = 0 := rfl
@[simp] theorem mode19 : C.mode 19 = 0 := rfl
@[simp] theorem mode20 : C.mode 20 = 0 := rfl
@[simp] theorem mode21 : C.mode 21 = 0 := rfl
@[simp] theorem mode22 : C.mode 22 = 0 := rfl
@[simp] theorem mode23 : C.mode 23 = 0 := rfl
@[simp] theorem mode24 : C.mode 24 = 0 := rfl
@[simp] theorem mode25 : C.mode 25 = 2 := rfl
@[simp] theorem mode26 : C.mode 26 = 2 := rfl
@[simp] theorem mode27 : C.mode 27 = 0 := rfl
@[simp] theorem mode28 : C.mode 28 = 0 := rfl
@[simp] theorem mode29 : C.mode 29 = 0 := rfl
@[simp] theorem mode30 : C.mode 30 = 0 := rfl
@[simp] theorem mode31 : C.mode 31 = 0 := rfl
@[simp] theorem mode32 : C.mode 32 = 0 := rfl
@[simp] theorem mode33 : C.mode 33 = 0 := rfl
@[simp] theorem mode34 : C.mode 34 = 0 := rfl
@[simp] theorem mode35 : C.mode 35 = 0 := rfl
@[simp] theorem mode36 : C.mode 36 = 0 := rfl
@[simp] theorem mode37 : C.mode 37 = 0 := rfl
@[simp] theorem mode38 : C.mode 38 = 0 := rfl
@[simp] theorem mode39 : C.mode 39 = 0 := rfl
@[simp] theorem mode40 : C.mode 40 = 0 := rfl
@[simp] theorem mode41 : C.mode 41 = 0 := rfl
@[simp] theorem mode42 : C.mode 42 = 0 := rfl
@[simp] theorem mode43 : C.mode 43 = 0 := rfl
@[simp] theorem mode44 : C.mode 44 = 0 := rfl
@[simp] theorem mode45 : C.mode 45 = 0 := rfl
@[simp] theorem mode46 : C.mode 46 = 0 := rfl
@[simp] theorem mode47 : C.mode 47 = 0 := rfl
@[simp] theorem mode48 : C.mode 48 = 0 := rfl
@[simp] theorem mode49 : C.mode 49 = 0 := rfl
@[simp] theorem mode50 : C.mode 50 = 0 := rfl
@[simp] theorem mode51 : C.mode 51 = 0 := rfl
@[simp] theorem mode52 : C.mode 52 = 0 := rfl
@[simp] theorem mode53 : C.mode 53 = 0 := rfl
@[simp] theorem mode54 : C.mode 54 = 0 := rfl
@[simp] theorem mode55 : C.mode 55 = 0 := rfl
@[simp] theorem mode56 : C.mode 56 = 0 := rfl
@[simp] theorem mode57 : C.mode 57 = 0 := rfl
@[simp] theorem mode58 : C.mode 58 = 0 := rfl
@[simp] theorem mode59 : C.mode 59 = 0 := rfl
@[simp] theorem mode60 : C.mode 60 = 0 := rfl
@[simp] theorem mode61 : C.mode 61 = 0 := rfl
@[simp] theorem mode62 : C.mode 62 = 0 := rfl
@[simp] theorem mode63 : C.mode 63 = 0 := rfl
@[simp] theorem mode64 : C.mode 64 = 0 := rfl
@[simp] theorem mode65 : C.mode 65 = 0 := rfl
@[simp] theorem mode66 : C.mode 66 = 0 := rfl
@[simp] theorem mode67 : C.mode 67 = 0 := rfl
@[simp] theorem mode68 : C.mode 68 = 0 := rfl
@[simp] theorem mode69 : C.mode 69 = 0 := rfl
@[simp] theorem mode70 : C.mode 70 = 0 := rfl
@[simp] theorem mode71 : C.mode 71 = 0 := rfl
@[simp] theorem mode72 : C.mode 72 = 0 := rfl
@[simp] theorem mode73 : C.mode 73 = 0 := rfl
@[simp] theorem mode74 : C.mode 74 = 2 := rfl
@[simp] theorem mode75 : C.mode 75 = 0 := rfl
@[simp] theorem mode76 : C.mode 76 = 0 := rfl
@[simp] theorem mode77 : C.mode 77 = 0 := rfl
@[simp] theorem mode78 : C.mode 78 = 0 := rfl
@[simp] theorem mode79 : C.mode 79 = 0 := rfl
@[simp] theorem mode80 : C.mode 80 = 0 := rfl
@[simp] theorem mode81 : C.mode 81 = 0 := rfl
@[simp] theorem mode82 : C.mode 82 = 2 := rfl
@[simp] theorem mode83 : C.mode 83 = 0 := rfl
@[simp] theorem mode84 : C.mode 84 = 0 := rfl
@[simp] theorem mode85 : C.mode 85 = 0 := rfl
@[simp] theorem mode86 : C.mode 86 = 0 := rfl
@[simp] theorem mode87 : C.mode 87 = 0 := rfl
@[simp] theorem mode88 : C.mode 88 = 0 := rfl
@[simp] theorem mode89 : C.mode 89 = 0 := rfl
@[simp] theorem mode90 : C.mode 90 = 0 := rfl
@[simp] theorem mode91 : C.mode 91 = 0 := rfl
@[simp] theorem mode92 : C.mode 92 = 0 := rfl
@[simp] theorem mode93 : C.mode 93 = 0 := rfl
@[simp] theorem mode94 : C.mode 94 = 0 := rfl
@[simp] theorem mode95 : C.mode 95 = 0 := rfl
@[simp] theorem mode96 : C.mode 96 = 0 := rfl
@[simp] theorem mode97 : C.mode 97 = 0 := rfl
@[simp] theorem mode98 : C.mode 98 = 0 := rfl
@[simp] theorem mode99 : C.mode 99 = 0 := rfl
@[simp] theorem mode100 : C.mode 100 = 0 := rfl
@[simp] theorem mode101 : C.mode 101 = 0 := rfl
@[simp] theorem mode102 : C.mode 102 = 0 := rfl
@[simp] theorem mode103 : C.mode 103 = 0 := rfl
@[simp] theorem mode104 : C.mode 104 = 0 := rfl
@[simp] theorem mode105 : C.mode 105 = 0 := rfl
@[simp] theorem mode106 : C.mode 106 = 0 := rfl
@[simp] theorem mode107 : C.mode 107 = 0 := rfl
@[simp] theorem mode108 : C.mode 108 = 0 := rfl
@[simp] theorem mode109 : C.mode 109 = 0 := rfl
@[simp] theorem mode110 : C.mode 110 = 0 := rfl
@[simp] theorem mode111 : C.mode 111 = 0 := rfl
@[simp] theorem mode112 : C.mode 112 = 0 := rfl
@[simp] theorem mode113 : C.mode 113 = 0 := rfl
@[simp] theorem mode114 : C.mode 114 = 0 := rfl
@[simp] theorem mode115 : C.mode 115 = 0 := rfl
@[simp] theorem mode116 : C.mode 116 = 0 := rfl
@[simp] theorem mode117 : C.mode 117 = 0 := rfl
@[simp] theorem mode118 : C.mode 118 = 0 := rfl
@[simp] theorem mode119 : C.mode 119 = 0 := rfl
@[simp] theorem mode120 : C.mode 120 = 0 := rfl
@[simp] theorem mode121 : C.mode 121 = 0 := rfl
@[simp] theorem mode122 : C.mode 122 = 0 := rfl
@[simp] theorem mode123 : C.mode 123 = 0 := rfl
@[simp] theorem mode124 : C.mode 124 = 0 := rfl
@[simp] theorem mode125 : C.mode 125 = 0 := rfl
@[simp] theorem mode126 : C.mode 126 = 0 := rfl
@[simp] theorem mode127 : C.mode 127 = 0 := rfl
@[simp] theorem mode128 : C.mode 128 = 0 := rfl
@[simp] theorem mode129 : C.mode 129 = 0 := rfl
@[simp] theorem mode130 : C.mode 130 = 0 := rfl
@[simp] theorem mode131 : C.mode 131 = 0 := rfl
@[simp] theorem mode132 : C.mode 132 = 0 := rfl
@[simp] theorem mode133 : C.mode 133 = 0 := rfl
@[simp] theorem mode134 : C.mode 134 = 0 := rfl
@[simp] theorem mode135 : C.mode 135 = 0 := rfl
@[simp] theorem mode136 : C.mode 136 = 0 := rfl
@[simp] theorem mode137 : C.mode 137 = 0 := rfl
@[simp] theorem mode138 : C.mode 138 = 0 := rfl
@[simp] theorem mode139 : C.mode 139 = 0 := rfl
@[simp] theorem mode140 : C.mode 140 = 0 := rfl
@[simp] theorem mode141 : C.mode 141 = 0 := rfl
@[simp] theorem mode142 : C.mode 142 = 0 := rfl
@[simp] theorem mode143 : C.mode 143 = 0 := rfl
@[simp] theorem mode144 : C.mode 144 = 0 := rfl
@[simp] theorem mode145 : C.mode 145 = 0 := rfl
@[simp] theorem mode146 : C.mode 146 = 0 := rfl
@[simp] theorem mode147 : C.mode 147 = 0 := rfl
@[simp] theorem mode148 : C.mode 148 = 0 := rfl
@[simp] theorem mode149 : C.mode 149 = 0 := rfl
@[simp] theorem mode150 : C.mode 150 = 0 := rfl
@[simp] theorem mode151 : C.mode 151 = 0 := rfl
@[simp] theorem mode152 : C.mode 152 = 0 := rfl
@[simp] theorem mode153 : C.mode 153 = 0 := rfl
@[simp] theorem mode154 : C.mode 154 = 0 := rfl
@[simp] theorem mode155 : C.mode 155 = 0 := rfl
@[simp] theorem mode156 : C.mode 156 = 0 := rfl
@[simp] theorem mode157 : C.mode 157 = 0 := rfl
@[simp] theorem mode158 : C.mode 158 = 0 := rfl
@[simp] theorem mode159 : C.mode 159 = 0 := rfl
@[simp] theorem mode160 : C.mode 160 = 0 := rfl
@[simp] theorem mode161 : C.mode 161 = 0 := rfl
@[simp] theorem mode162 : C.mode 162 = 0 := rfl
@[simp] theorem mode163 : C.mode 163 = 0 := rfl
@[simp] theorem mode164 : C.mode 164 = 0 := rfl
@[simp] theorem mode165 : C.mode 165 = 0 := rfl
@[simp] theorem mode166 : C.mode 166 = 0 := rfl
@[simp] theorem mode167 : C.mode 167 = 0 := rfl
@[simp] theorem mode168 : C.mode 168 = 0 := rfl
@[simp] theorem mode169 : C.mode 169 = 0 := rfl
@[simp] theorem mode170 : C.mode 170 = 0 := rfl
@[simp] theorem mode171 : C.mode 171 = 0 := rfl
@[simp] theorem mode172 : C.mode 172 = 0 := rfl
@[simp] theorem mode173 : C.mode 173 = 0 := rfl
@[simp] theorem mode174 : C.mode 174 = 0 := rfl
@[simp] theorem mode175 : C.mode 175 = 0 := rfl
@[simp] theorem mode176 : C.mode 176 = 0 := rfl
@[simp] theorem mode177 : C.mode 177 = 0 := rfl
@[simp] theorem tsz2 : tsz Try.prog 2 = some (false, 1) := by kernel_rfl
@[simp] theorem tzero2 : tzero Try.prog 2 = some [.int .i64 0] := by kernel_rfl
@[simp] theorem und2 : Try.prog.underlying 2 = some (.int .i64) := by kernel_rfl
@[simp] theorem tsz3 : tsz Try.prog 3 = some (false, 1) := by kernel_rfl
@[simp] theorem tzero3 : tzero Try.prog 3 = some [.int .i64 0] := by kernel_rfl
@[simp] theorem und3 : Try.prog.underlying 3 = some (.int .i64) := by kernel_rfl
@[simp] theorem tsz4 : tsz Try.prog 4 = some (false, 1) := by kernel_rfl
@[simp] theorem tzero4 : tzero Try.prog 4 = some [.bool false] := by kernel_rfl
@[simp] theorem und4 : Try.prog.underlying 4 = some .bool := by kernel_rfl
@[simp] theorem tsz5 : tsz Try.prog 5 = some (false, 1) := by kernel_rfl
@[simp] theorem tzero5 : tzero Try.prog 5 = some [.int .u8 0] := by kernel_rfl
@[simp] theorem und5 : Try.prog.underlying 5 = some (.int .u8) := by kernel_rfl
@[simp] theorem tsz6 : tsz Try.prog 6 = some (false, 1) := by kernel_rfl
@[simp] theorem tzero6 : tzero Try.prog 6 = some [.int .u8 0] := by kernel_rfl
@[simp] theorem und6 : Try.prog.underlying 6 = some (.int .u8) := by kernel_rfl
@[simp] theorem tsz7 : tsz Try.prog 7 = some (true, 4) := by kernel_rfl
@[simp] theorem tzero7 : tzero Try.prog 7 = some [.int .i64 0, .int .i64 0, .bool false, .int .u8 0] := by kernel_rfl
@[simp] theorem finfo7_0 : finfo Try.prog 7 0 = some (0, false, 1) := by kernel_rfl
@[simp] theorem finfo7_1 : finfo Try.prog 7 1 = some (1, false, 1) := by kernel_rfl
@[simp] theorem finfo7_2 : finfo Try.prog 7 2 = some (2, false, 1) := by kernel_rfl
@[simp] theorem finfo7_3 : finfo Try.prog 7 3 = some (3, false, 1) := by kernel_rfl
@[simp] theorem bplaces7 : bplaces Try.prog 7 = some [(0, 1), (1, 1), (2, 1), (3, 1)] := by kernel_rfl
@[simp] theorem tsz8 : tsz Try.prog 8 = some (true, 4) := by kernel_rfl
@[simp] theorem tzero8 : tzero Try.prog 8 = some [.int .i64 0, .int .i64 0, .bool false, .int .u8 0] := by kernel_rfl
@[simp] theorem finfo8_0 : finfo Try.prog 8 0 = some (0, false, 1) := by kernel_rfl
@[simp] theorem finfo8_1 : finfo Try.prog 8 1 = some (1, false, 1) := by kernel_rfl
@[simp] theorem finfo8_2 : finfo Try.prog 8 2 = some (2, false, 1) := by kernel_rfl
@[simp] theorem finfo8_3 : finfo Try.prog 8 3 = some (3, false, 1) := by kernel_rfl
@[simp] theorem bplaces8 : bplaces Try.prog 8 = some [(0, 1), (1, 1), (2, 1), (3, 1)] := by kernel_rfl
@[simp] theorem tsz9 : tsz Try.prog 9 = some (false, 1) := by kernel_rfl
@[simp] theorem tzero9 : tzero Try.prog 9 = some [.string .empty] := by kernel_rfl
@[simp] theorem isStr9 : isStr Try.prog 9 = true := by kernel_rfl
@[simp] theorem und9 : Try.prog.underlying 9 = some .string := by kernel_rfl
@[simp] theorem tsz10 : tsz Try.prog 10 = some (false, 1) := by kernel_rfl
@[simp] theorem tzero10 : tzero Try.prog 10 = some [.string .empty] := by kernel_rfl
@[simp] theorem isStr10 : isStr Try.prog 10 = true := by kernel_rfl
@[simp] theorem und10 : Try.prog.underlying 10 = some .string := by kernel_rfl
@[simp] theorem tsz11 : tsz Try.prog 11 = some (false, 1) := by kernel_rfl
@[simp] theorem tzero11 : tzero Try.prog 11 = some [.string .empty] := by kernel_rfl
@[simp] theorem isStr11 : isStr Try.prog 11 = true := by kernel_rfl
@[simp] theorem und11 : Try.prog.underlying 11 = some .string := by kernel_rfl
@[simp] theorem tsz12 : tsz Try.prog 12 = some (false, 1) := by kernel_rfl
@[simp] theorem tzero12 : tzero Try.prog 12 = some [.int .u64 0] := by kernel_rfl
@[simp] theorem und12 : Try.prog.underlying 12 = some (.int .u64) := by kernel_rfl
@[simp] theorem tsz13 : tsz Try.prog 13 = some (true, 2) := by kernel_rfl
@[simp] theorem tzero13 : tzero Try.prog 13 = some [.string .empty, .int .u64 0] := by kernel_rfl
@[simp] theorem finfo13_0 : finfo Try.prog 13 0 = some (0, false, 1) := by kernel_rfl
@[simp] theorem finfo13_1 : finfo Try.prog 13 1 = some (1, false, 1) := by kernel_rfl
@[simp] theorem bplaces13 : bplaces Try.prog 13 = some [(0, 1), (1, 1)] := by kernel_rfl
@[simp] theorem tsz14 : tsz Try.prog 14 = some (true, 2) := by kernel_rfl
@[simp] theorem tzero14 : tzero Try.prog 14 = some [.string .empty, .int .u64 0] := by kernel_rfl
@[simp] theorem finfo14_0 : finfo Try.prog 14 0 = some (0, false, 1) := by kernel_rfl
@[simp] theorem finfo14_1 : finfo Try.prog 14 1 = some (1, false, 1) := by kernel_rfl
@[simp] theorem bplaces14 : bplaces Try.prog 14 = some [(0, 1), (1, 1)] := by kernel_rfl
@[simp] theorem tsz15 : tsz Try.prog 15 = some (false, 1) := by kernel_rfl
@[simp] theorem tzero15 : tzero Try.prog 15 = some [.pointer none] := by kernel_rfl
@[simp] theorem tsz16 : tsz Try.prog 16 = some (false, 1) := by kernel_rfl
@[simp] theorem tzero16 : tzero Try.prog 16 = some [.pointer none] := by kernel_rfl
@[simp] theorem tsz17 : tsz Try.prog 17 = some (false, 1) := by kernel_rfl
@[simp] theorem tzero17 : tzero Try.prog 17 = some [.pointer none] := by kernel_rfl
@[simp] theorem tsz18 : tsz Try.prog 18 = some (true, 1) := by kernel_rfl
@[simp] theorem tzero18 : tzero Try.prog 18 = some [.pointer none] := by kernel_rfl
@[simp] theorem finfo18_0 : finfo Try.prog 18 0 = some (0, false, 1) := by kernel_rfl
@[simp] theorem bplaces18 : bplaces Try.prog 18 = some [(0, 1)] := by kernel_rfl
@[simp] theorem tsz19 : tsz Try.prog 19 = some (true, 1) := by kernel_rfl
@[simp] theorem tzero19 : tzero Try.prog 19 = some [.pointer none] := by kernel_rfl
@[simp] theorem finfo19_0 : finfo Try.prog 19 0 = some (0, false, 1) := by kernel_rfl
@[simp] theorem bplaces19 : bplaces Try.prog 19 = some [(0, 1)] := by kernel_rfl
@[simp] theorem tsz21 : tsz Try.prog 21 = some (false, 1) := by kernel_rfl
@[simp] theorem tzero21 : tzero Try.prog 21 = some [.int .i32 0] := by kernel_rfl
@[simp] theorem und21 : Try.prog.underlying 21 = some (.int .i32) := by kernel_rfl
@[simp] theorem tsz22 : tsz Try.prog 22 = some (true, 2) := by kernel_rfl
@[simp] theorem tzero22 : tzero Try.prog 22 = some [.int .i64 0, .int .i64 0] := by kernel_rfl
@[simp] theorem finfo22_0 : finfo Try.prog 22 0 = some (0, false, 1) := by kernel_rfl
@[simp] theorem finfo22_1 : finfo Try.prog 22 1 = some (1, false, 1) := by kernel_rfl
@[simp] theorem bplaces22 : bplaces Try.prog 22 = some [(0, 1), (1, 1)] := by kernel_rfl
@[simp] theorem tsz23 : tsz Try.prog 23 = some (true, 2) := by kernel_rfl
@[simp] theorem tzero23 : tzero Try.prog 23 = some [.int .i64 0, .int .i64 0] := by kernel_rfl
@[simp] theorem finfo23_0 : finfo Try.prog 23 0 = some (0, false, 1) := by kernel_rfl
@[simp] theorem finfo23_1 : finfo Try.prog 23 1 = some (1, false, 1) := by kernel_rfl
@[simp] theorem bplaces23 : bplaces Try.prog 23 = some [(0, 1), (1, 1)] := by kernel_rfl
@[simp] theorem tsz24 : tsz Try.prog 24 = some (false, 1) := by kernel_rfl
@[simp] theorem tzero24 : tzero Try.prog 24 = some [.slice none 0 0] := by kernel_rfl
@[simp] theorem eltp24 : eltp Try.prog 24 = some (3, 1) := by kernel_rfl
@[simp] theorem isSl24 : isSl Try.prog 24 = true := by kernel_rfl
@[simp] theorem tsz25 : tsz Try.prog 25 = some (true, 3) := by kernel_rfl
@[simp] theorem tzero25 : tzero Try.prog 25 = some [.int .i64 0, .int .i64 0, .slice none 0 0] := by kernel_rfl
@[simp] theorem finfo25_0 : finfo Try.prog 25 0 = some (0, true, 2) := by kernel_rfl
@[simp] theorem finfo25_1 : finfo Try.prog 25 1 = some (2, false, 1) := by kernel_rfl
@[simp] theorem bplaces25 : bplaces Try.prog 25 = some [(0, 2), (2, 1)] := by kernel_rfl
@[simp] theorem tsz26 : tsz Try.prog 26 = some (true, 3) := by kernel_rfl
@[simp] theorem tzero26 : tzero Try.prog 26 = some [.int .i64 0, .int .i64 0, .slice none 0 0] := by kernel_rfl
@[simp] theorem finfo26_0 : finfo Try.prog 26 0 = some (0, true, 2) := by kernel_rfl
@[simp] theorem finfo26_1 : finfo Try.prog 26 1 = some (2, false, 1) := by kernel_rfl
@[simp] theorem bplaces26 : bplaces Try.prog 26 = some [(0, 2), (2, 1)] := by kernel_rfl
@[simp] theorem tsz27 : tsz Try.prog 27 = some (true, 1) := by kernel_rfl
@[simp] theorem tzero27 : tzero Try.prog 27 = some [.slice none 0 0] := by kernel_rfl
@[simp] theorem finfo27_0 : finfo Try.prog 27 0 = some (0, false, 1) := by kernel_rfl
@[simp] theorem bplaces27 : bplaces Try.prog 27 = some [(0, 1)] := by kernel_rfl
@[simp] theorem tsz28 : tsz Try.prog 28 = some (true, 1) := by kernel_rfl
@[simp] theorem tzero28 : tzero Try.prog 28 = some [.slice none 0 0] := by kernel_rfl
@[simp] theorem finfo28_0 : finfo Try.prog 28 0 = some (0, false, 1) := by kernel_rfl
@[simp] theorem bplaces28 : bplaces Try.prog 28 = some [(0, 1)] := by kernel_rfl
@[simp] theorem tsz32 : tsz Try.prog 32 = some (true, 2) := by kernel_rfl
@[simp] theorem tzero32 : tzero Try.prog 32 = some [.int .i64 0, .int .i64 0] := by kernel_rfl
@[simp] theorem finfo32_0 : finfo Try.prog 32 0 = some (0, false, 1) := by kernel_rfl
@[simp] theorem finfo32_1 : finfo Try.prog 32 1 = some (1, false, 1) := by kernel_rfl
@[simp] theorem bplaces32 : bplaces Try.prog 32 = some [(0, 1), (1, 1)] := by kernel_rfl
@[simp] theorem tsz33 : tsz Try.prog 33 = some (true, 3) := by kernel_rfl
@[simp] theorem tzero33 : tzero Try.prog 33 = some [.int .i64 0, .int .i64 0, .slice none 0 0] := by kernel_rfl
@[simp] theorem finfo33_0 : finfo Try.prog 33 0 = some (0, true, 2) := by kernel_rfl
@[simp] theorem finfo33_1 : finfo Try.prog 33 1 = some (2, false, 1) := by kernel_rfl
@[simp] theorem bplaces33 : bplaces Try.prog 33 = some [(0, 2), (2, 1)] := by kernel_rfl
@[simp] theorem tsz34 : tsz Try.prog 34 = some (true, 3) := by kernel_rfl
@[simp] theorem tzero34 : tzero Try.prog 34 = some [.int .i64 0, .int .i64 0, .slice none 0 0] := by kernel_rfl
@[simp] theorem finfo34_0 : finfo Try.prog 34 0 = some (0, true, 2) := by kernel_rfl
@[simp] theorem finfo34_1 : finfo Try.prog 34 1 = some (2, false, 1) := by kernel_rfl
@[simp] theorem bplaces34 : bplaces Try.prog 34 = some [(0, 2), (2, 1)] := by kernel_rfl
@[simp] theorem tsz36 : tsz Try.prog 36 = some (true, 1) := by kernel_rfl
@[simp] theorem tzero36 : tzero Try.prog 36 = some [.slice none 0 0] := by kernel_rfl
@[simp] theorem finfo36_0 : finfo Try.prog 36 0 = some (0, false, 1) := by kernel_rfl
@[simp] theorem bplaces36 : bplaces Try.prog 36 = some [(0, 1)] := by kernel_rfl
@[simp] theorem tsz47 : tsz Try.prog 47 = some (false, 1) := by kernel_rfl
@[simp] theorem tzero47 : tzero Try.prog 47 = some [.slice none 0 0] := by kernel_rfl
@[simp] theorem eltp47 : eltp Try.prog 47 = some (5, 1) := by kernel_rfl
@[simp] theorem isSl47 : isSl Try.prog 47 = true := by kernel_rfl
@[simp] theorem tsz57 : tsz Try.prog 57 = some (true, 2) := by kernel_rfl
@[simp] theorem tzero57 : tzero Try.prog 57 = some [.slice none 0 0, .slice none 0 0] := by kernel_rfl
@[simp] theorem finfo57_0 : finfo Try.prog 57 0 = some (0, true, 1) := by kernel_rfl
@[simp] theorem finfo57_1 : finfo Try.prog 57 1 = some (1, true, 1) := by kernel_rfl
@[simp] theorem bplaces57 : bplaces Try.prog 57 = some [(0, 1), (1, 1)] := by kernel_rfl
@[simp] theorem tsz58 : tsz Try.prog 58 = some (true, 2) := by kernel_rfl
@[simp] theorem tzero58 : tzero Try.prog 58 = some [.slice none 0 0, .slice none 0 0] := by kernel_rfl
@[simp] theorem finfo58_0 : finfo Try.prog 58 0 = some (0, true, 1) := by kernel_rfl
@[simp] theorem finfo58_1 : finfo Try.prog 58 1 = some (1, true, 1) := by kernel_rfl
@[simp] theorem bplaces58 : bplaces Try.prog 58 = some [(0, 1), (1, 1)] := by kernel_rfl
@[simp] theorem tsz59 : tsz Try.prog 59 = some (true, 5) := by kernel_rfl
@[simp] theorem tzero59 : tzero Try.prog 59 = some [.int .i64 0, .int .i64 0, .int .i64 0, .int .i64 0, .int .i64 0] := by kernel_rfl
@[simp] theorem finfo59_0 : finfo Try.prog 59 0 = some (0, false, 1) := by kernel_rfl
@[simp] theorem finfo59_1 : finfo Try.prog 59 1 = some (1, false, 1) := by kernel_rfl
@[simp] theorem finfo59_2 : finfo Try.prog 59 2 = some (2, false, 1) := by kernel_rfl
@[simp] theorem finfo59_3 : finfo Try.prog 59 3 = some (3, false, 1) := by kernel_rfl
@[simp] theorem finfo59_4 : finfo Try.prog 59 4 = some (4, false, 1) := by kernel_rfl
@[simp] theorem bplaces59 : bplaces Try.prog 59 = some [(0, 1), (1, 1), (2, 1), (3, 1), (4, 1)] := by kernel_rfl
@[simp] theorem tsz60 : tsz Try.prog 60 = some (true, 5) := by kernel_rfl
@[simp] theorem tzero60 : tzero Try.prog 60 = some [.int .i64 0, .int .i64 0, .int .i64 0, .int .i64 0, .int .i64 0] := by kernel_rfl
@[simp] theorem finfo60_0 : finfo Try.prog 60 0 = some (0, false, 1) := by kernel_rfl
@[simp] theorem finfo60_1 : finfo Try.prog 60 1 = some (1, false, 1) := by kernel_rfl
@[simp] theorem finfo60_2 : finfo Try.prog 60 2 = some (2, false, 1) := by kernel_rfl
@[simp] theorem finfo60_3 : finfo Try.prog 60 3 = some (3, false, 1) := by kernel_rfl
@[simp] theorem finfo60_4 : finfo Try.prog 60 4 = some (4, false, 1) := by kernel_rfl
@[simp] theorem bplaces60 : bplaces Try.prog 60 = some [(0, 1), (1, 1), (2, 1), (3, 1), (4, 1)] := by kernel_rfl
@[simp] theorem tsz63 : tsz Try.prog 63 = some (true, 2) := by kernel_rfl
@[simp] theorem tzero63 : tzero Try.prog 63 = some [.slice none 0 0, .slice none 0 0] := by kernel_rfl
@[simp] theorem finfo63_0 : finfo Try.prog 63 0 = some (0, true, 1) := by kernel_rfl
@[simp] theorem finfo63_1 : finfo Try.prog 63 1 = some (1, true, 1) := by kernel_rfl
@[simp] theorem bplaces63 : bplaces Try.prog 63 = some [(0, 1), (1, 1)] := by kernel_rfl
@[simp] theorem tsz64 : tsz Try.prog 64 = some (true, 2) := by kernel_rfl
@[simp] theorem tzero64 : tzero Try.prog 64 = some [.slice none 0 0, .slice none 0 0] := by kernel_rfl
@[simp] theorem finfo64_0 : finfo Try.prog 64 0 = some (0, true, 1) := by kernel_rfl
@[simp] theorem finfo64_1 : finfo Try.prog 64 1 = some (1, true, 1) := by kernel_rfl
@[simp] theorem bplaces64 : bplaces Try.prog 64 = some [(0, 1), (1, 1)] := by kernel_rfl
@[simp] theorem tsz66 : tsz Try.prog 66 = some (true, 5) := by kernel_rfl
@[simp] theorem tzero66 : tzero Try.prog 66 = some [.int .i64 0, .int .i64 0, .int .i64 0, .int .i64 0, .int .i64 0] := by kernel_rfl
@[simp] theorem finfo66_0 : finfo Try.prog 66 0 = some (0, false, 1) := by kernel_rfl
@[simp] theorem finfo66_1 : finfo Try.prog 66 1 = some (1, false, 1) := by kernel_rfl
@[simp] theorem finfo66_2 : finfo Try.prog 66 2 = some (2, false, 1) := by kernel_rfl
@[simp] theorem finfo66_3 : finfo Try.prog 66 3 = some (3, false, 1) := by kernel_rfl
@[simp] theorem finfo66_4 : finfo Try.prog 66 4 = some (4, false, 1) := by kernel_rfl
@[simp] theorem bplaces66 : bplaces Try.prog 66 = some [(0, 1), (1, 1), (2, 1), (3, 1), (4, 1)] := by kernel_rfl
@[simp] theorem tsz70 : tsz Try.prog 70 = some (false, 1) := by kernel_rfl
@[simp] theorem tzero70 : tzero Try.prog 70 = some [.slice none 0 0] := by kernel_rfl
@[simp] theorem eltp70 : eltp Try.prog 70 = some (147, 1) := by kernel_rfl
@[simp] theorem isSl70 : isSl Try.prog 70 = true := by kernel_rfl
@[simp] theorem tsz71 : tsz Try.prog 71 = some (true, 11) := by kernel_rfl
@[simp] theorem tzero71 : tzero Try.prog 71 = some [.int .i64 0, .int .i64 0, .slice none 0 0, .slice none 0 0, .slice none 0 0, .slice none 0 0, .slice none 0 0, .slice none 0 0, .slice none 0 0, .slice none 0 0, .int .i64 0] := by kernel_rfl
@[simp] theorem finfo71_0 : finfo Try.prog 71 0 = some (0, true, 3) := by kernel_rfl
@[simp] theorem finfo71_1 : finfo Try.prog 71 1 = some (3, true, 2) := by kernel_rfl
@[simp] theorem finfo71_2 : finfo Try.prog 71 2 = some (5, false, 1) := by kernel_rfl
@[simp] theorem finfo71_3 : finfo Try.prog 71 3 = some (6, false, 1) := by kernel_rfl
@[simp] theorem finfo71_4 : finfo Try.prog 71 4 = some (7, false, 1) := by kernel_rfl
@[simp] theorem finfo71_5 : finfo Try.prog 71 5 = some (8, false, 1) := by kernel_rfl
@[simp] theorem finfo71_6 : finfo Try.prog 71 6 = some (9, false, 1) := by kernel_rfl
@[simp] theorem finfo71_7 : finfo Try.prog 71 7 = some (10, false, 1) := by kernel_rfl
@[simp] theorem bplaces71 : bplaces Try.prog 71 = some [(0, 3), (3, 2), (5, 1), (6, 1), (7, 1), (8, 1), (9, 1), (10, 1)] := by kernel_rfl
@[simp] theorem tsz72 : tsz Try.prog 72 = some (true, 11) := by kernel_rfl
@[simp] theorem tzero72 : tzero Try.prog 72 = some [.int .i64 0, .int .i64 0, .slice none 0 0, .slice none 0 0, .slice none 0 0, .slice none 0 0, .slice none 0 0, .slice none 0 0, .slice none 0 0, .slice none 0 0, .int .i64 0] := by kernel_rfl
@[simp] theorem finfo72_0 : finfo Try.prog 72 0 = some (0, true, 3) := by kernel_rfl
@[simp] theorem finfo72_1 : finfo Try.prog 72 1 = some (3, true, 2) := by kernel_rfl
@[simp] theorem finfo72_2 : finfo Try.prog 72 2 = some (5, false, 1) := by kernel_rfl
@[simp] theorem finfo72_3 : finfo Try.prog 72 3 = some (6, false, 1) := by kernel_rfl
@[simp] theorem finfo72_4 : finfo Try.prog 72 4 = some (7, false, 1) := by kernel_rfl
@[simp] theorem finfo72_5 : finfo Try.prog 72 5 = some (8, false, 1) := by kernel_rfl
@[simp] theorem finfo72_6 : finfo Try.prog 72 6 = some (9, false, 1) := by kernel_rfl
@[simp] theorem finfo72_7 : finfo Try.prog 72 7 = some (10, false, 1) := by kernel_rfl
@[simp] theorem bplaces72 : bplaces Try.prog 72 = some [(0, 3), (3, 2), (5, 1), (6, 1), (7, 1), (8, 1), (9, 1), (10, 1)] := by kernel_rfl
@[simp] theorem tsz73 : tsz Try.prog 73 = some (false, 1) := by kernel_rfl
@[simp] theorem tzero73 : tzero Try.prog 73 = some [.slice none 0 0] := by kernel_rfl
@[simp] theorem eltp73 : eltp Try.prog 73 = some (60, 5) := by kernel_rfl
@[simp] theorem isSl73 : isSl Try.prog 73 = true := by kernel_rfl
@[simp] theorem tsz74 : tsz Try.prog 74 = some (true, 12) := by kernel_rfl
@[simp] theorem tzero74 : tzero Try.prog 74 = some [.int .i64 0, .int .i64 0, .slice none 0 0, .slice none 0 0, .slice none 0 0, .slice none 0 0, .slice none 0 0, .slice none 0 0, .slice none 0 0, .slice none 0 0, .int .i64 0, .slice none 0 0] := by kernel_rfl
@[simp] theorem finfo74_0 : finfo Try.prog 74 0 = some (0, true, 11) := by kernel_rfl
@[simp] theorem finfo74_1 : finfo Try.prog 74 1 = some (11, false, 1) := by kernel_rfl
@[simp] theorem bplaces74 : bplaces Try.prog 74 = some [(0, 11), (11, 1)] := by kernel_rfl
@[simp] theorem tsz75 : tsz Try.prog 75 = some (true, 12) := by kernel_rfl
@[simp] theorem tzero75 : tzero Try.prog 75 = some [.int .i64 0, .int .i64 0, .slice none 0 0, .slice none 0 0, .slice none 0 0, .slice none 0 0, .slice none 0 0, .slice none 0 0, .slice none 0 0, .slice none 0 0, .int .i64 0, .slice none 0 0] := by kernel_rfl
@[simp] theorem finfo75_0 : finfo Try.prog 75 0 = some (0, true, 11) := by kernel_rfl
@[simp] theorem finfo75_1 : finfo Try.prog 75 1 = some (11, false, 1) := by kernel_rfl
@[simp] theorem bplaces75 : bplaces Try.prog 75 = some [(0, 11), (11, 1)] := by kernel_rfl
@[simp] theorem tsz78 : tsz Try.prog 78 = some (false, 1) := by kernel_rfl
@[simp] theorem tzero78 : tzero Try.prog 78 = some [.slice none 0 0] := by kernel_rfl
@[simp] theorem eltp78 : eltp Try.prog 78 = some (149, 1) := by kernel_rfl
@[simp] theorem isSl78 : isSl Try.prog 78 = true := by kernel_rfl
@[simp] theorem tsz79 : tsz Try.prog 79 = some (true, 11) := by kernel_rfl
@[simp] theorem tzero79 : tzero Try.prog 79 = some [.int .i64 0, .int .i64 0, .slice none 0 0, .slice none 0 0, .slice none 0 0, .slice none 0 0, .slice none 0 0, .slice none 0 0, .slice none 0 0, .slice none 0 0, .int .i64 0] := by kernel_rfl
@[simp] theorem finfo79_0 : finfo Try.prog 79 0 = some (0, true, 3) := by kernel_rfl
@[simp] theorem finfo79_1 : finfo Try.prog 79 1 = some (3, true, 2) := by kernel_rfl
@[simp] theorem finfo79_2 : finfo Try.prog 79 2 = some (5, false, 1) := by kernel_rfl
@[simp] theorem finfo79_3 : finfo Try.prog 79 3 = some (6, false, 1) := by kernel_rfl
@[simp] theorem finfo79_4 : finfo Try.prog 79 4 = some (7, false, 1) := by kernel_rfl
@[simp] theorem finfo79_5 : finfo Try.prog 79 5 = some (8, false, 1) := by kernel_rfl
@[simp] theorem finfo79_6 : finfo Try.prog 79 6 = some (9, false, 1) := by kernel_rfl
@[simp] theorem finfo79_7 : finfo Try.prog 79 7 = some (10, false, 1) := by kernel_rfl
@[simp] theorem bplaces79 : bplaces Try.prog 79 = some [(0, 3), (3, 2), (5, 1), (6, 1), (7, 1), (8, 1), (9, 1), (10, 1)] := by kernel_rfl
@[simp] theorem tsz80 : tsz Try.prog 80 = some (true, 11) := by kernel_rfl
@[simp] theorem tzero80 : tzero Try.prog 80 = some [.int .i64 0, .int .i64 0, .slice none 0 0, .slice none 0 0, .slice none 0 0, .slice none 0 0, .slice none 0 0, .slice none 0 0, .slice none 0 0, .slice none 0 0, .int .i64 0] := by kernel_rfl
@[simp] theorem finfo80_0 : finfo Try.prog 80 0 = some (0, true, 3) := by kernel_rfl
@[simp] theorem finfo80_1 : finfo Try.prog 80 1 = some (3, true, 2) := by kernel_rfl
@[simp] theorem finfo80_2 : finfo Try.prog 80 2 = some (5, false, 1) := by kernel_rfl
@[simp] theorem finfo80_3 : finfo Try.prog 80 3 = some (6, false, 1) := by kernel_rfl
@[simp] theorem finfo80_4 : finfo Try.prog 80 4 = some (7, false, 1) := by kernel_rfl
@[simp] theorem finfo80_5 : finfo Try.prog 80 5 = some (8, false, 1) := by kernel_rfl
@[simp] theorem finfo80_6 : finfo Try.prog 80 6 = some (9, false, 1) := by kernel_rfl
@[simp] theorem finfo80_7 : finfo Try.prog 80 7 = some (10, false, 1) := by kernel_rfl
@[simp] theorem bplaces80 : bplaces Try.prog 80 = some [(0, 3), (3, 2), (5, 1), (6, 1), (7, 1), (8, 1), (9, 1), (10, 1)] := by kernel_rfl
@[simp] theorem tsz81 : tsz Try.prog 81 = some (false, 1) := by kernel_rfl
@[simp] theorem tzero81 : tzero Try.prog 81 = some [.slice none 0 0] := by kernel_rfl
@[simp] theorem eltp81 : eltp Try.prog 81 = some (66, 5) := by kernel_rfl
@[simp] theorem isSl81 : isSl Try.prog 81 = true := by kernel_rfl
@[simp] theorem tsz82 : tsz Try.prog 82 = some (true, 12) := by kernel_rfl
@[simp] theorem tzero82 : tzero Try.prog 82 = some [.int .i64 0, .int .i64 0, .slice none 0 0, .slice none 0 0, .slice none 0 0, .slice none 0 0, .slice none 0 0, .slice none 0 0, .slice none 0 0, .slice none 0 0, .int .i64 0, .slice none 0 0] := by kernel_rfl
@[simp] theorem finfo82_0 : finfo Try.prog 82 0 = some (0, true, 11) := by kernel_rfl
@[simp] theorem finfo82_1 : finfo Try.prog 82 1 = some (11, false, 1) := by kernel_rfl
@[simp] theorem bplaces82 : bplaces Try.prog 82 = some [(0, 11), (11, 1)] := by kernel_rfl
@[simp] theorem tsz83 : tsz Try.prog 83 = some (true, 12) := by kernel_rfl
@[simp] theorem tzero83 : tzero Try.prog 83 = some [.int .i64 0, .int .i64 0, .slice none 0 0, .slice none 0 0, .slice none 0 0, .slice none 0 0, .slice none 0 0, .slice none 0 0, .slice none 0 0, .slice none 0 0, .int .i64 0, .slice none 0 0] := by kernel_rfl
@[simp] theorem finfo83_0 : finfo Try.prog 83 0 = some (0, true, 11) := by kernel_rfl
@[simp] theorem finfo83_1 : finfo Try.prog 83 1 = some (11, false, 1) := by kernel_rfl
@[simp] theorem bplaces83 : bplaces Try.prog 83 = some [(0, 11), (11, 1)] := by kernel_rfl
@[simp] theorem tsz94 : tsz Try.prog 94 = some (false, 1) := by kernel_rfl
@[simp] theorem tzero94 : tzero Try.prog 94 = some [.pointer none] := by kernel_rfl
@[simp] theorem tsz117 : tsz Try.prog 117 = some (false, 1) := by kernel_rfl
@[simp] theorem tzero117 : tzero Try.prog 117 = some [.int .u64 0] := by kernel_rfl
@[simp] theorem und117 : Try.prog.underlying 117 = some (.int .u64) := by kernel_rfl
@[simp] theorem tsz123 : tsz Try.prog 123 = some (true, 3) := by kernel_rfl
@[simp] theorem tzero123 : tzero Try.prog 123 = some [.slice none 0 0, .int .i64 0, .int .i64 0] := by kernel_rfl
@[simp] theorem finfo123_0 : finfo Try.prog 123 0 = some (0, false, 1) := by kernel_rfl
@[simp] theorem finfo123_1 : finfo Try.prog 123 1 = some (1, false, 1) := by kernel_rfl
@[simp] theorem finfo123_2 : finfo Try.prog 123 2 = some (2, false, 1) := by kernel_rfl
@[simp] theorem bplaces123 : bplaces Try.prog 123 = some [(0, 1), (1, 1), (2, 1)] := by kernel_rfl
@[simp] theorem tsz124 : tsz Try.prog 124 = some (true, 3) := by kernel_rfl
@[simp] theorem tzero124 : tzero Try.prog 124 = some [.slice none 0 0, .int .i64 0, .int .i64 0] := by kernel_rfl
@[simp] theorem finfo124_0 : finfo Try.prog 124 0 = some (0, false, 1) := by kernel_rfl
@[simp] theorem finfo124_1 : finfo Try.prog 124 1 = some (1, false, 1) := by kernel_rfl
@[simp] theorem finfo124_2 : finfo Try.prog 124 2 = some (2, false, 1) := by kernel_rfl
@[simp] theorem bplaces124 : bplaces Try.prog 124 = some [(0, 1), (1, 1), (2, 1)] := by kernel_rfl
@[simp] theorem tsz126 : tsz Try.prog 126 = some (false, 1) := by kernel_rfl
@[simp] theorem tzero126 : tzero Try.prog 126 = some [.slice none 0 0] := by kernel_rfl
@[simp] theorem eltp126 : eltp Try.prog 126 = some (24, 1) := by kernel_rfl
@[simp] theorem isSl126 : isSl Try.prog 126 = true := by kernel_rfl
@[simp] theorem tsz138 : tsz Try.prog 138 = some (false, 1) := by kernel_rfl
@[simp] theorem tzero138 : tzero Try.prog 138 = some [.int .u32 0] := by kernel_rfl
@[simp] theorem und138 : Try.prog.underlying 138 = some (.int .u32) := by kernel_rfl
@[simp] theorem tsz141 : tsz Try.prog 141 = some (false, 1) := by kernel_rfl
@[simp] theorem tzero141 : tzero Try.prog 141 = some [.int .u64 0] := by kernel_rfl
@[simp] theorem und141 : Try.prog.underlying 141 = some (.int .u64) := by kernel_rfl
@[simp] theorem tsz147 : tsz Try.prog 147 = some (false, 1) := by kernel_rfl
@[simp] theorem tzero147 : tzero Try.prog 147 = some [.slice none 0 0] := by kernel_rfl
@[simp] theorem eltp147 : eltp Try.prog 147 = some (155, 5) := by kernel_rfl
@[simp] theorem isSl147 : isSl Try.prog 147 = true := by kernel_rfl
@[simp] theorem tsz149 : tsz Try.prog 149 = some (false, 1) := by kernel_rfl
@[simp] theorem tzero149 : tzero Try.prog 149 = some [.slice none 0 0] := by kernel_rfl
@[simp] theorem eltp149 : eltp Try.prog 149 = some (153, 5) := by kernel_rfl
@[simp] theorem isSl149 : isSl Try.prog 149 = true := by kernel_rfl
@[simp] theorem tsz152 : tsz Try.prog 152 = some (true, 5) := by kernel_rfl
@[simp] theorem tzero152 : tzero Try.prog 152 = some [.int .i64 0, .int .i64 0, .int .i64 0, .bool false, .bool false] := by kernel_rfl
@[simp] theorem finfo152_0 : finfo Try.prog 152 0 = some (0, false, 1) := by kernel_rfl
@[simp] theorem finfo152_1 : finfo Try.prog 152 1 = some (1, false, 1) := by kernel_rfl
@[simp] theorem finfo152_2 : finfo Try.prog 152 2 = some (2, false, 1) := by kernel_rfl
@[simp] theorem finfo152_3 : finfo Try.prog 152 3 = some (3, false, 1) := by kernel_rfl
@[simp] theorem finfo152_4 : finfo Try.prog 152 4 = some (4, false, 1) := by kernel_rfl
@[simp] theorem bplaces152 : bplaces Try.prog 152 = some [(0, 1), (1, 1), (2, 1), (3, 1), (4, 1)] := by kernel_rfl
@[simp] theorem tsz153 : tsz Try.prog 153 = some (true, 5) := by kernel_rfl
@[simp] theorem tzero153 : tzero Try.prog 153 = some [.int .i64 0, .int .i64 0, .int .i64 0, .bool false, .bool false] := by kernel_rfl
@[simp] theorem finfo153_0 : finfo Try.prog 153 0 = some (0, false, 1) := by kernel_rfl
@[simp] theorem finfo153_1 : finfo Try.prog 153 1 = some (1, false, 1) := by kernel_rfl
@[simp] theorem finfo153_2 : finfo Try.prog 153 2 = some (2, false, 1) := by kernel_rfl
@[simp] theorem finfo153_3 : finfo Try.prog 153 3 = some (3, false, 1) := by kernel_rfl
@[simp] theorem finfo153_4 : finfo Try.prog 153 4 = some (4, false, 1) := by kernel_rfl
@[simp] theorem bplaces153 : bplaces Try.prog 153 = some [(0, 1), (1, 1), (2, 1), (3, 1), (4, 1)] := by kernel_rfl
@[simp] theorem tsz155 : tsz Try.prog 155 = some (true, 5) := by kernel_rfl
@[simp] theorem tzero155 : tzero Try.prog 155 = some [.int .i64 0, .int .i64 0, .int .i64 0, .bool false, .bool false] := by kernel_rfl
@[simp] theorem finfo155_0 : finfo Try.prog 155 0 = some (0, false, 1) := by kernel_rfl
@[simp] theorem finfo155_1 : finfo Try.prog 155 1 = some (1, false, 1) := by kernel_rfl
@[simp] theorem finfo155_2 : finfo Try.prog 155 2 = some (2, false, 1) := by kernel_rfl
@[simp] theorem finfo155_3 : finfo Try.prog 155 3 = some (3, false, 1) := by kernel_rfl
@[simp] theorem finfo155_4 : finfo Try.prog 155 4 = some (4, false, 1) := by kernel_rfl
@[simp] theorem bplaces155 : bplaces Try.prog 155 = some [(0, 1), (1, 1), (2, 1), (3, 1), (4, 1)] := by kernel_rfl
@[simp] theorem tsz158 : tsz Try.prog 158 = some (true, 4) := by kernel_rfl
@[simp] theorem tzero158 : tzero Try.prog 158 = some [.pointer none, .pointer none, .pointer none, .string .empty] := by kernel_rfl
@[simp] theorem finfo158_0 : finfo Try.prog 158 0 = some (0, false, 1) := by kernel_rfl
@[simp] theorem finfo158_1 : finfo Try.prog 158 1 = some (1, false, 1) := by kernel_rfl
@[simp] theorem finfo158_2 : finfo Try.prog 158 2 = some (2, false, 1) := by kernel_rfl
@[simp] theorem finfo158_3 : finfo Try.prog 158 3 = some (3, false, 1) := by kernel_rfl
@[simp] theorem bplaces158 : bplaces Try.prog 158 = some [(0, 1), (1, 1), (2, 1), (3, 1)] := by kernel_rfl
@[simp] theorem tsz159 : tsz Try.prog 159 = some (true, 4) := by kernel_rfl
@[simp] theorem tzero159 : tzero Try.prog 159 = some [.pointer none, .pointer none, .pointer none, .string .empty] := by kernel_rfl
@[simp] theorem finfo159_0 : finfo Try.prog 159 0 = some (0, false, 1) := by kernel_rfl
@[simp] theorem finfo159_1 : finfo Try.prog 159 1 = some (1, false, 1) := by kernel_rfl
@[simp] theorem finfo159_2 : finfo Try.prog 159 2 = some (2, false, 1) := by kernel_rfl
@[simp] theorem finfo159_3 : finfo Try.prog 159 3 = some (3, false, 1) := by kernel_rfl
@[simp] theorem bplaces159 : bplaces Try.prog 159 = some [(0, 1), (1, 1), (2, 1), (3, 1)] := by kernel_rfl
@[simp] theorem tsz160 : tsz Try.prog 160 = some (true, 0) := by kernel_rfl
@[simp] theorem tzero160 : tzero Try.prog 160 = some [] := by kernel_rfl
@[simp] theorem tsz161 : tsz Try.prog 161 = some (true, 0) := by kernel_rfl
@[simp] theorem tzero161 : tzero Try.prog 161 = some [] := by kernel_rfl
@[simp] theorem bplaces161 : bplaces Try.prog 161 = some [(0, 0)] := by kernel_rfl
@[simp] theorem tsz162 : tsz Try.prog 162 = some (true, 0) := by kernel_rfl
@[simp] theorem tzero162 : tzero Try.prog 162 = some [] := by kernel_rfl
@[simp] theorem bplaces162 : bplaces Try.prog 162 = some [(0, 0)] := by kernel_rfl
@[simp] theorem tsz164 : tsz Try.prog 164 = some (false, 1) := by kernel_rfl
@[simp] theorem tzero164 : tzero Try.prog 164 = some [.int .u8 0] := by kernel_rfl
@[simp] theorem und164 : Try.prog.underlying 164 = some (.int .u8) := by kernel_rfl
@[simp] theorem tsz165 : tsz Try.prog 165 = some (false, 1) := by kernel_rfl
@[simp] theorem tzero165 : tzero Try.prog 165 = some [.int .u8 0] := by kernel_rfl
@[simp] theorem und165 : Try.prog.underlying 165 = some (.int .u8) := by kernel_rfl
@[simp] theorem tsz167 : tsz Try.prog 167 = some (false, 1) := by kernel_rfl
@[simp] theorem tzero167 : tzero Try.prog 167 = some [.pointer none] := by kernel_rfl
@[simp] theorem tsz168 : tsz Try.prog 168 = some (false, 1) := by kernel_rfl
@[simp] theorem tzero168 : tzero Try.prog 168 = some [.int .i32 0] := by kernel_rfl
@[simp] theorem und168 : Try.prog.underlying 168 = some (.int .i32) := by kernel_rfl
@[simp] theorem tsz169 : tsz Try.prog 169 = some (false, 1) := by kernel_rfl
@[simp] theorem tzero169 : tzero Try.prog 169 = some [.int .i32 0] := by kernel_rfl
@[simp] theorem und169 : Try.prog.underlying 169 = some (.int .i32) := by kernel_rfl
@[simp] theorem tsz170 : tsz Try.prog 170 = some (true, 11) := by kernel_rfl
@[simp] theorem tzero170 : tzero Try.prog 170 = some [.int .u64 0, .int .u64 0, .int .u32 0, .int .u8 0, .int .u8 0, .int .u8 0, .int .u8 0, .nilFunc, .pointer none, .int .i32 0, .int .i32 0] := by kernel_rfl
@[simp] theorem finfo170_0 : finfo Try.prog 170 0 = some (0, false, 1) := by kernel_rfl
@[simp] theorem finfo170_1 : finfo Try.prog 170 1 = some (1, false, 1) := by kernel_rfl
@[simp] theorem finfo170_2 : finfo Try.prog 170 2 = some (2, false, 1) := by kernel_rfl
@[simp] theorem finfo170_3 : finfo Try.prog 170 3 = some (3, false, 1) := by kernel_rfl
@[simp] theorem finfo170_4 : finfo Try.prog 170 4 = some (4, false, 1) := by kernel_rfl
@[simp] theorem finfo170_5 : finfo Try.prog 170 5 = some (5, false, 1) := by kernel_rfl
@[simp] theorem finfo170_6 : finfo Try.prog 170 6 = some (6, false, 1) := by kernel_rfl
@[simp] theorem finfo170_8 : finfo Try.prog 170 8 = some (8, false, 1) := by kernel_rfl
@[simp] theorem finfo170_9 : finfo Try.prog 170 9 = some (9, false, 1) := by kernel_rfl
@[simp] theorem finfo170_10 : finfo Try.prog 170 10 = some (10, false, 1) := by kernel_rfl
@[simp] theorem tsz171 : tsz Try.prog 171 = some (true, 11) := by kernel_rfl
@[simp] theorem tzero171 : tzero Try.prog 171 = some [.int .u64 0, .int .u64 0, .int .u32 0, .int .u8 0, .int .u8 0, .int .u8 0, .int .u8 0, .nilFunc, .pointer none, .int .i32 0, .int .i32 0] := by kernel_rfl
@[simp] theorem finfo171_0 : finfo Try.prog 171 0 = some (0, false, 1) := by kernel_rfl
@[simp] theorem finfo171_1 : finfo Try.prog 171 1 = some (1, false, 1) := by kernel_rfl
@[simp] theorem finfo171_2 : finfo Try.prog 171 2 = some (2, false, 1) := by kernel_rfl
@[simp] theorem finfo171_3 : finfo Try.prog 171 3 = some (3, false, 1) := by kernel_rfl
@[simp] theorem finfo171_4 : finfo Try.prog 171 4 = some (4, false, 1) := by kernel_rfl
@[simp] theorem finfo171_5 : finfo Try.prog 171 5 = some (5, false, 1) := by kernel_rfl
@[simp] theorem finfo171_6 : finfo Try.prog 171 6 = some (6, false, 1) := by kernel_rfl
@[simp] theorem finfo171_8 : finfo Try.prog 171 8 = some (8, false, 1) := by kernel_rfl
@[simp] theorem finfo171_9 : finfo Try.prog 171 9 = some (9, false, 1) := by kernel_rfl
@[simp] theorem finfo171_10 : finfo Try.prog 171 10 = some (10, false, 1) := by kernel_rfl
end Go.Proofs.Ytkkoenbmokbglaa.V
