/- What the value machine is told of the program: which functions may change rows, and the types' sizes and places. -/
import Derived.Test.YtnakhkfgheapoaaProg
import Derived.Test.YtnakhkfgheapoaaVM15
import Derived.Test.YtnakhkfgheapoaaVM20
import Derived.KernelRfl
namespace Go.Proofs.Ytnakhkfgheapoaa.V
open Go Go.VM Go.Proofs
noncomputable def C : Ctx := { P := Try.prog, mode := fun g => if [19, 39, 40, 45, 72, 74, 76, 100, 101, 105, 114, 122, 124, 135, 140, 152, 153, 154, 155, 156, 157, 159, 160, 166, 169, 170, 172].contains g then 2 else if [15, 17, 22, 23, 24, 25, 34, 36, 42, 43, 50, 51, 53, 55, 62, 63, 65, 75, 90, 95, 96, 102, 104, 112, 128, 129, 149].contains g then 1 else 0, ext := fun _ => none }
@[simp] theorem CP : C.P = Try.prog := rfl
theorem drawn : DrawOk C := drawOk_holds C (by kernel_rfl)
@[simp] theorem mode0 : C.mode 0 = 0 := rfl
@[simp] theorem mode1 : C.mode 1 = 0 := rfl
@[simp] theorem mode2 : C.mode 2 = 0 := rfl
@[simp] theorem mode3 : C.mode 3 = 0 := rfl
@[simp] theorem mode4 : C.mode 4 = 0 := rfl
@[simp] theorem mode5 : C.mode 5 = 0 := rfl
@[simp] theorem mode6 : C.mode 6 = 0 := rfl
@[simp] theorem mode7 : C.mode 7 = 0 := rfl
@[simp] theorem mode8 : C.mode 8 = 0 := rfl
@[simp] theorem mode9 : C.mode 9 = 0 := rfl
@[simp] theorem mode10 : C.mode 10 = 0 := rfl
@[simp] theorem mode11 : C.mode 11 = 0 := rfl
@[simp] theorem mode12 : C.mode 12 = 0 := rfl
@[simp] theorem mode13 : C.mode 13 = 0 := rfl
@[simp] theorem mode14 : C.mode 14 = 0 := rfl
@[simp] theorem mode15 : C.mode 15 = 1 := rfl
@[simp] theorem mode16 : C.mode 16 = 0 := rfl
@[simp] theorem mode17 : C.mode 17 = 1 := rfl
@[simp] theorem mode18 : C.mode 18 = 0 := rfl
@[simp] theorem mode19 : C.mode 19 = 2 := rfl
@[simp] theorem mode20 : C.mode 20 = 0 := rfl
@[simp] theorem mode21 : C.mode 21 = 0 := rfl
@[simp] theorem mode22 : C.mode 22 = 1 := rfl
@[simp] theorem mode23 : C.mode 23 = 1 := rfl
@[simp] theorem mode24 : C.mode 24 = 1 := rfl
@[simp] theorem mode25 : C.mode 25 = 1 := rfl
@[simp] theorem mode26 : C.mode 26 = 0 := rfl
@[simp] theorem mode27 : C.mode 27 = 0 := rfl
@[simp] theorem mode28 : C.mode 28 = 0 := rfl
@[simp] theorem mode29 : C.mode 29 = 0 := rfl
@[simp] theorem mode30 : C.mode 30 = 0 := rfl
@[simp] theorem mode31 : C.mode 31 = 0 := rfl
@[simp] theorem mode32 : C.mode 32 = 0 := rfl
@[simp] theorem mode33 : C.mode 33 = 0 := rfl
@[simp] theorem mode34 : C.mode 34 = 1 := rfl
@[simp] theorem mode35 : C.mode 35 = 0 := rfl
@[simp] theorem mode36 : C.mode 36 = 1 := rfl
@[simp] theorem mode37 : C.mode 37 = 0 := rfl
@[simp] theorem mode38 : C.mode 38 = 0 := rfl
@[simp] theorem mode39 : C.mode 39 = 2 := rfl
@[simp] theorem mode40 : C.mode 40 = 2 := rfl
@[simp] theorem mode41 : C.mode 41 = 0 := rfl
@[simp] theorem mode42 : C.mode 42 = 1 := rfl
@[simp] theorem mode43 : C.mode 43 = 1 := rfl
@[simp] theorem mode44 : C.mode 44 = 0 := rfl
@[simp] theorem mode45 : C.mode 45 = 2 := rfl
@[simp] theorem mode46 : C.mode 46 = 0 := rfl
@[simp] theorem mode47 : C.mode 47 = 0 := rfl
@[simp] theorem mode48 : C.mode 48 = 0 := rfl
@[simp] theorem mode49 : C.mode 49 = 0 := rfl
@[simp] theorem mode50 : C.mode 50 = 1 := rfl
@[simp] theorem mode51 : C.mode 51 = 1 := rfl
@[simp] theorem mode52 : C.mode 52 = 0 := rfl
@[simp] theorem mode53 : C.mode 53 = 1 := rfl
@[simp] theorem mode54 : C.mode 54 = 0 := rfl
@[simp] theorem mode55 : C.mode 55 = 1 := rfl
@[simp] theorem mode56 : C.mode 56 = 0 := rfl
@[simp] theorem mode57 : C.mode 57 = 0 := rfl
@[simp] theorem mode58 : C.mode 58 = 0 := rfl
@[simp] theorem mode59 : C.mode 59 = 0 := rfl
@[simp] theorem mode60 : C.mode 60 = 0 := rfl
@[simp] theorem mode61 : C.mode 61 = 0 := rfl
@[simp] theorem mode62 : C.mode 62 = 1 := rfl
@[simp] theorem mode63 : C.mode 63 = 1 := rfl
@[simp] theorem mode64 : C.mode 64 = 0 := rfl
@[simp] theorem mode65 : C.mode 65 = 1 := rfl
@[simp] theorem mode66 : C.mode 66 = 0 := rfl
@[simp] theorem mode67 : C.mode 67 = 0 := rfl
@[simp] theorem mode68 : C.mode 68 = 0 := rfl
@[simp] theorem mode69 : C.mode 69 = 0 := rfl
@[simp] theorem mode70 : C.mode 70 = 0 := rfl
@[simp] theorem mode71 : C.mode 71 = 0 := rfl
@[simp] theorem mode72 : C.mode 72 = 2 := rfl
@[simp] theorem mode73 : C.mode 73 = 0 := rfl
@[simp] theorem mode74 : C.mode 74 = 2 := rfl
@[simp] theorem mode75 : C.mode 75 = 1 := rfl
@[simp] theorem mode76 : C.mode 76 = 2 := rfl
@[simp] theorem mode77 : C.mode 77 = 0 := rfl
@[simp] theorem mode78 : C.mode 78 = 0 := rfl
@[simp] theorem mode79 : C.mode 79 = 0 := rfl
@[simp] theorem mode80 : C.mode 80 = 0 := rfl
@[simp] theorem mode81 : C.mode 81 = 0 := rfl
@[simp] theorem mode82 : C.mode 82 = 0 := rfl
@[simp] theorem mode83 : C.mode 83 = 0 := rfl
@[simp] theorem mode84 : C.mode 84 = 0 := rfl
@[simp] theorem mode85 : C.mode 85 = 0 := rfl
@[simp] theorem mode86 : C.mode 86 = 0 := rfl
@[simp] theorem mode87 : C.mode 87 = 0 := rfl
@[simp] theorem mode88 : C.mode 88 = 0 := rfl
@[simp] theorem mode89 : C.mode 89 = 0 := rfl
@[simp] theorem mode90 : C.mode 90 = 1 := rfl
@[simp] theorem mode91 : C.mode 91 = 0 := rfl
@[simp] theorem mode92 : C.mode 92 = 0 := rfl
@[simp] theorem mode93 : C.mode 93 = 0 := rfl
@[simp] theorem mode94 : C.mode 94 = 0 := rfl
@[simp] theorem mode95 : C.mode 95 = 1 := rfl
@[simp] theorem mode96 : C.mode 96 = 1 := rfl
@[simp] theorem mode97 : C.mode 97 = 0 := rfl
@[simp] theorem mode98 : C.mode 98 = 0 := rfl
@[simp] theorem mode99 : C.mode 99 = 0 := rfl
@[simp] theorem mode100 : C.mode 100 = 2 := rfl
@[simp] theorem mode101 : C.mode 101 = 2 := rfl
@[simp] theorem mode102 : C.mode 102 = 1 := rfl
@[simp] theorem mode103 : C.mode 103 = 0 := rfl
@[simp] theorem mode104 : C.mode 104 = 1 := rfl
@[simp] theorem mode105 : C.mode 105 = 2 := rfl
@[simp] theorem mode106 : C.mode 106 = 0 := rfl
@[simp] theorem mode107 : C.mode 107 = 0 := rfl
@[simp] theorem mode108 : C.mode 108 = 0 := rfl
@[simp] theorem mode109 : C.mode 109 = 0 := rfl
@[simp] theorem mode110 : C.mode 110 = 0 := rfl
@[simp] theorem mode111 : C.mode 111 = 0 := rfl
@[simp] theorem mode112 : C.mode 112 = 1 := rfl
@[simp] theorem mode113 : C.mode 113 = 0 := rfl
@[simp] theorem mode114 : C.mode 114 = 2 := rfl
@[simp] theorem mode115 : C.mode 115 = 0 := rfl
@[simp] theorem mode116 : C.mode 116 = 0 := rfl
@[simp] theorem mode117 : C.mode 117 = 0 := rfl
@[simp] theorem mode118 : C.mode 118 = 0 := rfl
@[simp] theorem mode119 : C.mode 119 = 0 := rfl
@[simp] theorem mode120 : C.mode 120 = 0 := rfl
@[simp] theorem mode121 : C.mode 121 = 0 := rfl
@[simp] theorem mode122 : C.mode 122 = 2 := rfl
@[simp] theorem mode123 : C.mode 123 = 0 := rfl
@[simp] theorem mode124 : C.mode 124 = 2 := rfl
@[simp] theorem mode125 : C.mode 125 = 0 := rfl
@[simp] theorem mode126 : C.mode 126 = 0 := rfl
@[simp] theorem mode127 : C.mode 127 = 0 := rfl
@[simp] theorem mode128 : C.mode 128 = 1 := rfl
@[simp] theorem mode129 : C.mode 129 = 1 := rfl
@[simp] theorem mode130 : C.mode 130 = 0 := rfl
@[simp] theorem mode131 : C.mode 131 = 0 := rfl
@[simp] theorem mode132 : C.mode 132 = 0 := rfl
@[simp] theorem mode133 : C.mode 133 = 0 := rfl
@[simp] theorem mode134 : C.mode 134 = 0 := rfl
@[simp] theorem mode135 : C.mode 135 = 2 := rfl
@[simp] theorem mode136 : C.mode 136 = 0 := rfl
@[simp] theorem mode137 : C.mode 137 = 0 := rfl
@[simp] theorem mode138 : C.mode 138 = 0 := rfl
@[simp] theorem mode139 : C.mode 139 = 0 := rfl
@[simp] theorem mode140 : C.mode 140 = 2 := rfl
@[simp] theorem mode141 : C.mode 141 = 0 := rfl
@[simp] theorem mode142 : C.mode 142 = 0 := rfl
@[simp] theorem mode143 : C.mode 143 = 0 := rfl
@[simp] theorem mode144 : C.mode 144 = 0 := rfl
@[simp] theorem mode145 : C.mode 145 = 0 := rfl
@[simp] theorem mode146 : C.mode 146 = 0 := rfl
@[simp] theorem mode147 : C.mode 147 = 0 := rfl
@[simp] theorem mode148 : C.mode 148 = 0 := rfl
@[simp] theorem mode149 : C.mode 149 = 1 := rfl
@[simp] theorem mode150 : C.mode 150 = 0 := rfl
@[simp] theorem mode151 : C.mode 151 = 0 := rfl
@[simp] theorem mode152 : C.mode 152 = 2 := rfl
@[simp] theorem mode153 : C.mode 153 = 2 := rfl
@[simp] theorem mode154 : C.mode 154 = 2 := rfl
@[simp] theorem mode155 : C.mode 155 = 2 := rfl
@[simp] theorem mode156 : C.mode 156 = 2 := rfl
@[simp] theorem mode157 : C.mode 157 = 2 := rfl
@[simp] theorem mode158 : C.mode 158 = 0 := rfl
@[simp] theorem mode159 : C.mode 159 = 2 := rfl
@[simp] theorem mode160 : C.mode 160 = 2 := rfl
@[simp] theorem mode161 : C.mode 161 = 0 := rfl
@[simp] theorem mode162 : C.mode 162 = 0 := rfl
@[simp] theorem mode163 : C.mode 163 = 0 := rfl
@[simp] theorem mode164 : C.mode 164 = 0 := rfl
@[simp] theorem mode165 : C.mode 165 = 0 := rfl
@[simp] theorem mode166 : C.mode 166 = 2 := rfl
@[simp] theorem mode167 : C.mode 167 = 0 := rfl
@[simp] theorem mode168 : C.mode 168 = 0 := rfl
@[simp] theorem mode169 : C.mode 169 = 2 := rfl
@[simp] theorem mode170 : C.mode 170 = 2 := rfl
@[simp] theorem mode171 : C.mode 171 = 0 := rfl
@[simp] theorem mode172 : C.mode 172 = 2 := rfl
@[simp] theorem mode173 : C.mode 173 = 0 := rfl
@[simp] theorem mode174 : C.mode 174 = 0 := rfl
@[simp] theorem mode175 : C.mode 175 = 0 := rfl
@[simp] theorem mode176 : C.mode 176 = 0 := rfl
@[simp] theorem mode177 : C.mode 177 = 0 := rfl
@[simp] theorem mode178 : C.mode 178 = 0 := rfl
@[simp] theorem mode179 : C.mode 179 = 0 := rfl
@[simp] theorem mode180 : C.mode 180 = 0 := rfl
@[simp] theorem mode181 : C.mode 181 = 0 := rfl
@[simp] theorem mode182 : C.mode 182 = 0 := rfl
@[simp] theorem mode183 : C.mode 183 = 0 := rfl
@[simp] theorem mode184 : C.mode 184 = 0 := rfl
@[simp] theorem mode185 : C.mode 185 = 0 := rfl
@[simp] theorem mode186 : C.mode 186 = 0 := rfl
@[simp] theorem mode187 : C.mode 187 = 0 := rfl
@[simp] theorem mode188 : C.mode 188 = 0 := rfl
@[simp] theorem tsz2 : tsz Try.prog 2 = some (false, 1) := by kernel_rfl
@[simp] theorem tzero2 : tzero Try.prog 2 = some [.int .i64 0] := by kernel_rfl
@[simp] theorem und2 : Try.prog.underlying 2 = some (.int .i64) := by kernel_rfl
@[simp] theorem tsz3 : tsz Try.prog 3 = some (false, 1) := by kernel_rfl
@[simp] theorem tzero3 : tzero Try.prog 3 = some [.int .i64 0] := by kernel_rfl
@[simp] theorem und3 : Try.prog.underlying 3 = some (.int .i64) := by kernel_rfl
@[simp] theorem tsz4 : tsz Try.prog 4 = some (false, 1) := by kernel_rfl
@[simp] theorem tzero4 : tzero Try.prog 4 = some [.bool false] := by kernel_rfl
@[simp] theorem und4 : Try.prog.underlying 4 = some .bool := by kernel_rfl
@[simp] theorem tsz5 : tsz Try.prog 5 = some (false, 1) := by kernel_rfl
@[simp] theorem tzero5 : tzero Try.prog 5 = some [.int .u8 0] := by kernel_rfl
@[simp] theorem und5 : Try.prog.underlying 5 = some (.int .u8) := by kernel_rfl
@[simp] theorem tsz6 : tsz Try.prog 6 = some (false, 1) := by kernel_rfl
@[simp] theorem tzero6 : tzero Try.prog 6 = some [.int .u8 0] := by kernel_rfl
@[simp] theorem und6 : Try.prog.underlying 6 = some (.int .u8) := by kernel_rfl
@[simp] theorem tsz7 : tsz Try.prog 7 = some (true, 4) := by kernel_rfl
@[simp] theorem tzero7 : tzero Try.prog 7 = some [.int .i64 0, .int .i64 0, .bool false, .int .u8 0] := by kernel_rfl
@[simp] theorem finfo7_0 : finfo Try.prog 7 0 = some (0, false, 1) := by kernel_rfl
@[simp] theorem finfo7_1 : finfo Try.prog 7 1 = some (1, false, 1) := by kernel_rfl
@[simp] theorem finfo7_2 : finfo Try.prog 7 2 = some (2, false, 1) := by kernel_rfl
@[simp] theorem finfo7_3 : finfo Try.prog 7 3 = some (3, false, 1) := by kernel_rfl
@[simp] theorem bplaces7 : bplaces Try.prog 7 = some [(0, 1), (1, 1), (2, 1), (3, 1)] := by kernel_rfl
@[simp] theorem tsz8 : tsz Try.prog 8 = some (true, 4) := by kernel_rfl
@[simp] theorem tzero8 : tzero Try.prog 8 = some [.int .i64 0, .int .i64 0, .bool false, .int .u8 0] := by kernel_rfl
@[simp] theorem finfo8_0 : finfo Try.prog 8 0 = some (0, false, 1) := by kernel_rfl
@[simp] theorem finfo8_1 : finfo Try.prog 8 1 = some (1, false, 1) := by kernel_rfl
@[simp] theorem finfo8_2 : finfo Try.prog 8 2 = some (2, false, 1) := by kernel_rfl
@[simp] theorem finfo8_3 : finfo Try.prog 8 3 = some (3, false, 1) := by kernel_rfl
@[simp] theorem bplaces8 : bplaces Try.prog 8 = some [(0, 1), (1, 1), (2, 1), (3, 1)] := by kernel_rfl
@[simp] theorem tsz9 : tsz Try.prog 9 = some (false, 1) := by kernel_rfl
@[simp] theorem tzero9 : tzero Try.prog 9 = some [.string .empty] := by kernel_rfl
@[simp] theorem isStr9 : isStr Try.prog 9 = true := by kernel_rfl
@[simp] theorem und9 : Try.prog.underlying 9 = some .string := by kernel_rfl
@[simp] theorem tsz10 : tsz Try.prog 10 = some (false, 1) := by kernel_rfl
@[simp] theorem tzero10 : tzero Try.prog 10 = some [.string .empty] := by kernel_rfl
@[simp] theorem isStr10 : isStr Try.prog 10 = true := by kernel_rfl
@[simp] theorem und10 : Try.prog.underlying 10 = some .string := by kernel_rfl
@[simp] theorem tsz11 : tsz Try.prog 11 = some (false, 1) := by kernel_rfl
@[simp] theorem tzero11 : tzero Try.prog 11 = some [.string .empty] := by kernel_rfl
@[simp] theorem isStr11 : isStr Try.prog 11 = true := by kernel_rfl
@[simp] theorem und11 : Try.prog.underlying 11 = some .string := by kernel_rfl
@[simp] theorem tsz12 : tsz Try.prog 12 = some (false, 1) := by kernel_rfl
@[simp] theorem tzero12 : tzero Try.prog 12 = some [.int .u64 0] := by kernel_rfl
@[simp] theorem und12 : Try.prog.underlying 12 = some (.int .u64) := by kernel_rfl
@[simp] theorem tsz13 : tsz Try.prog 13 = some (true, 2) := by kernel_rfl
@[simp] theorem tzero13 : tzero Try.prog 13 = some [.string .empty, .int .u64 0] := by kernel_rfl
@[simp] theorem finfo13_0 : finfo Try.prog 13 0 = some (0, false, 1) := by kernel_rfl
@[simp] theorem finfo13_1 : finfo Try.prog 13 1 = some (1, false, 1) := by kernel_rfl
@[simp] theorem bplaces13 : bplaces Try.prog 13 = some [(0, 1), (1, 1)] := by kernel_rfl
@[simp] theorem tsz14 : tsz Try.prog 14 = some (true, 2) := by kernel_rfl
@[simp] theorem tzero14 : tzero Try.prog 14 = some [.string .empty, .int .u64 0] := by kernel_rfl
@[simp] theorem finfo14_0 : finfo Try.prog 14 0 = some (0, false, 1) := by kernel_rfl
@[simp] theorem finfo14_1 : finfo Try.prog 14 1 = some (1, false, 1) := by kernel_rfl
@[simp] theorem bplaces14 : bplaces Try.prog 14 = some [(0, 1), (1, 1)] := by kernel_rfl
@[simp] theorem tsz15 : tsz Try.prog 15 = some (false, 1) := by kernel_rfl
@[simp] theorem tzero15 : tzero Try.prog 15 = some [.pointer none] := by kernel_rfl
@[simp] theorem tsz16 : tsz Try.prog 16 = some (false, 1) := by kernel_rfl
@[simp] theorem tzero16 : tzero Try.prog 16 = some [.pointer none] := by kernel_rfl
@[simp] theorem tsz17 : tsz Try.prog 17 = some (false, 1) := by kernel_rfl
@[simp] theorem tzero17 : tzero Try.prog 17 = some [.pointer none] := by kernel_rfl
@[simp] theorem tsz18 : tsz Try.prog 18 = some (true, 1) := by kernel_rfl
@[simp] theorem tzero18 : tzero Try.prog 18 = some [.pointer none] := by kernel_rfl
@[simp] theorem finfo18_0 : finfo Try.prog 18 0 = some (0, false, 1) := by kernel_rfl
@[simp] theorem bplaces18 : bplaces Try.prog 18 = some [(0, 1)] := by kernel_rfl
@[simp] theorem tsz19 : tsz Try.prog 19 = some (true, 1) := by kernel_rfl
@[simp] theorem tzero19 : tzero Try.prog 19 = some [.pointer none] := by kernel_rfl
@[simp] theorem finfo19_0 : finfo Try.prog 19 0 = some (0, false, 1) := by kernel_rfl
@[simp] theorem bplaces19 : bplaces Try.prog 19 = some [(0, 1)] := by kernel_rfl
@[simp] theorem tsz21 : tsz Try.prog 21 = some (false, 1) := by kernel_rfl
@[simp] theorem tzero21 : tzero Try.prog 21 = some [.int .i32 0] := by kernel_rfl
@[simp] theorem und21 : Try.prog.underlying 21 = some (.int .i32) := by kernel_rfl
@[simp] theorem tsz22 : tsz Try.prog 22 = some (false, 1) := by kernel_rfl
@[simp] theorem tzero22 : tzero Try.prog 22 = some [.slice none 0 0] := by kernel_rfl
@[simp] theorem eltp22 : eltp Try.prog 22 = some (3, 1) := by kernel_rfl
@[simp] theorem isSl22 : isSl Try.prog 22 = true := by kernel_rfl
@[simp] theorem tsz28 : tsz Try.prog 28 = some (false, 1) := by kernel_rfl
@[simp] theorem tzero28 : tzero Try.prog 28 = some [.slice none 0 0] := by kernel_rfl
@[simp] theorem eltp28 : eltp Try.prog 28 = some (5, 1) := by kernel_rfl
@[simp] theorem isSl28 : isSl Try.prog 28 = true := by kernel_rfl
@[simp] theorem tsz30 : tsz Try.prog 30 = some (true, 2) := by kernel_rfl
@[simp] theorem tzero30 : tzero Try.prog 30 = some [.int .i64 0, .int .i64 0] := by kernel_rfl
@[simp] theorem finfo30_0 : finfo Try.prog 30 0 = some (0, false, 1) := by kernel_rfl
@[simp] theorem finfo30_1 : finfo Try.prog 30 1 = some (1, false, 1) := by kernel_rfl
@[simp] theorem bplaces30 : bplaces Try.prog 30 = some [(0, 1), (1, 1)] := by kernel_rfl
@[simp] theorem tsz31 : tsz Try.prog 31 = some (true, 2) := by kernel_rfl
@[simp] theorem tzero31 : tzero Try.prog 31 = some [.int .i64 0, .int .i64 0] := by kernel_rfl
@[simp] theorem finfo31_0 : finfo Try.prog 31 0 = some (0, false, 1) := by kernel_rfl
@[simp] theorem finfo31_1 : finfo Try.prog 31 1 = some (1, false, 1) := by kernel_rfl
@[simp] theorem bplaces31 : bplaces Try.prog 31 = some [(0, 1), (1, 1)] := by kernel_rfl
@[simp] theorem tsz32 : tsz Try.prog 32 = some (true, 3) := by kernel_rfl
@[simp] theorem tzero32 : tzero Try.prog 32 = some [.int .i64 0, .int .i64 0, .slice none 0 0] := by kernel_rfl
@[simp] theorem finfo32_0 : finfo Try.prog 32 0 = some (0, true, 2) := by kernel_rfl
@[simp] theorem finfo32_1 : finfo Try.prog 32 1 = some (2, false, 1) := by kernel_rfl
@[simp] theorem bplaces32 : bplaces Try.prog 32 = some [(0, 2), (2, 1)] := by kernel_rfl
@[simp] theorem tsz33 : tsz Try.prog 33 = some (true, 3) := by kernel_rfl
@[simp] theorem tzero33 : tzero Try.prog 33 = some [.int .i64 0, .int .i64 0, .slice none 0 0] := by kernel_rfl
@[simp] theorem finfo33_0 : finfo Try.prog 33 0 = some (0, true, 2) := by kernel_rfl
@[simp] theorem finfo33_1 : finfo Try.prog 33 1 = some (2, false, 1) := by kernel_rfl
@[simp] theorem bplaces33 : bplaces Try.prog 33 = some [(0, 2), (2, 1)] := by kernel_rfl
@[simp] theorem tsz43 : tsz Try.prog 43 = some (true, 2) := by kernel_rfl
@[simp] theorem tzero43 : tzero Try.prog 43 = some [.int .i64 0, .int .i64 0] := by kernel_rfl
@[simp] theorem finfo43_0 : finfo Try.prog 43 0 = some (0, false, 1) := by kernel_rfl
@[simp] theorem finfo43_1 : finfo Try.prog 43 1 = some (1, false, 1) := by kernel_rfl
@[simp] theorem bplaces43 : bplaces Try.prog 43 = some [(0, 1), (1, 1)] := by kernel_rfl
@[simp] theorem tsz44 : tsz Try.prog 44 = some (true, 3) := by kernel_rfl
@[simp] theorem tzero44 : tzero Try.prog 44 = some [.int .i64 0, .int .i64 0, .slice none 0 0] := by kernel_rfl
@[simp] theorem finfo44_0 : finfo Try.prog 44 0 = some (0, true, 2) := by kernel_rfl
@[simp] theorem finfo44_1 : finfo Try.prog 44 1 = some (2, false, 1) := by kernel_rfl
@[simp] theorem bplaces44 : bplaces Try.prog 44 = some [(0, 2), (2, 1)] := by kernel_rfl
@[simp] theorem tsz45 : tsz Try.prog 45 = some (true, 3) := by kernel_rfl
@[simp] theorem tzero45 : tzero Try.prog 45 = some [.int .i64 0, .int .i64 0, .slice none 0 0] := by kernel_rfl
@[simp] theorem finfo45_0 : finfo Try.prog 45 0 = some (0, true, 2) := by kernel_rfl
@[simp] theorem finfo45_1 : finfo Try.prog 45 1 = some (2, false, 1) := by kernel_rfl
@[simp] theorem bplaces45 : bplaces Try.prog 45 = some [(0, 2), (2, 1)] := by kernel_rfl
@[simp] theorem tsz47 : tsz Try.prog 47 = some (true, 1) := by kernel_rfl
@[simp] theorem tzero47 : tzero Try.prog 47 = some [.slice none 0 0] := by kernel_rfl
@[simp] theorem finfo47_0 : finfo Try.prog 47 0 = some (0, false, 1) := by kernel_rfl
@[simp] theorem bplaces47 : bplaces Try.prog 47 = some [(0, 1)] := by kernel_rfl
@[simp] theorem tsz48 : tsz Try.prog 48 = some (true, 1) := by kernel_rfl
@[simp] theorem tzero48 : tzero Try.prog 48 = some [.slice none 0 0] := by kernel_rfl
@[simp] theorem finfo48_0 : finfo Try.prog 48 0 = some (0, false, 1) := by kernel_rfl
@[simp] theorem bplaces48 : bplaces Try.prog 48 = some [(0, 1)] := by kernel_rfl
@[simp] theorem tsz56 : tsz Try.prog 56 = some (true, 2) := by kernel_rfl
@[simp] theorem tzero56 : tzero Try.prog 56 = some [.slice none 0 0, .slice none 0 0] := by kernel_rfl
@[simp] theorem finfo56_0 : finfo Try.prog 56 0 = some (0, true, 1) := by kernel_rfl
@[simp] theorem finfo56_1 : finfo Try.prog 56 1 = some (1, true, 1) := by kernel_rfl
@[simp] theorem bplaces56 : bplaces Try.prog 56 = some [(0, 1), (1, 1)] := by kernel_rfl
@[simp] theorem tsz57 : tsz Try.prog 57 = some (true, 2) := by kernel_rfl
@[simp] theorem tzero57 : tzero Try.prog 57 = some [.slice none 0 0, .slice none 0 0] := by kernel_rfl
@[simp] theorem finfo57_0 : finfo Try.prog 57 0 = some (0, true, 1) := by kernel_rfl
@[simp] theorem finfo57_1 : finfo Try.prog 57 1 = some (1, true, 1) := by kernel_rfl
@[simp] theorem bplaces57 : bplaces Try.prog 57 = some [(0, 1), (1, 1)] := by kernel_rfl
@[simp] theorem tsz68 : tsz Try.prog 68 = some (true, 1) := by kernel_rfl
@[simp] theorem tzero68 : tzero Try.prog 68 = some [.slice none 0 0] := by kernel_rfl
@[simp] theorem finfo68_0 : finfo Try.prog 68 0 = some (0, false, 1) := by kernel_rfl
@[simp] theorem bplaces68 : bplaces Try.prog 68 = some [(0, 1)] := by kernel_rfl
@[simp] theorem tsz81 : tsz Try.prog 81 = some (false, 1) := by kernel_rfl
@[simp] theorem tzero81 : tzero Try.prog 81 = some [.pointer none] := by kernel_rfl
@[simp] theorem tsz98 : tsz Try.prog 98 = some (false, 1) := by kernel_rfl
@[simp] theorem tzero98 : tzero Try.prog 98 = some [.slice none 0 0] := by kernel_rfl
@[simp] theorem eltp98 : eltp Try.prog 98 = some (4, 1) := by kernel_rfl
@[simp] theorem isSl98 : isSl Try.prog 98 = true := by kernel_rfl
@[simp] theorem tsz105 : tsz Try.prog 105 = some (false, 1) := by kernel_rfl
@[simp] theorem tzero105 : tzero Try.prog 105 = some [.slice none 0 0] := by kernel_rfl
@[simp] theorem eltp105 : eltp Try.prog 105 = some (22, 1) := by kernel_rfl
@[simp] theorem isSl105 : isSl Try.prog 105 = true := by kernel_rfl
@[simp] theorem tsz107 : tsz Try.prog 107 = some (true, 3) := by kernel_rfl
@[simp] theorem tzero107 : tzero Try.prog 107 = some [.slice none 0 0, .int .i64 0, .int .i64 0] := by kernel_rfl
@[simp] theorem finfo107_0 : finfo Try.prog 107 0 = some (0, false, 1) := by kernel_rfl
@[simp] theorem finfo107_1 : finfo Try.prog 107 1 = some (1, false, 1) := by kernel_rfl
@[simp] theorem finfo107_2 : finfo Try.prog 107 2 = some (2, false, 1) := by kernel_rfl
@[simp] theorem bplaces107 : bplaces Try.prog 107 = some [(0, 1), (1, 1), (2, 1)] := by kernel_rfl
@[simp] theorem tsz108 : tsz Try.prog 108 = some (true, 3) := by kernel_rfl
@[simp] theorem tzero108 : tzero Try.prog 108 = some [.slice none 0 0, .int .i64 0, .int .i64 0] := by kernel_rfl
@[simp] theorem finfo108_0 : finfo Try.prog 108 0 = some (0, false, 1) := by kernel_rfl
@[simp] theorem finfo108_1 : finfo Try.prog 108 1 = some (1, false, 1) := by kernel_rfl
@[simp] theorem finfo108_2 : finfo Try.prog 108 2 = some (2, false, 1) := by kernel_rfl
@[simp] theorem bplaces108 : bplaces Try.prog 108 = some [(0, 1), (1, 1), (2, 1)] := by kernel_rfl
@[simp] theorem tsz110 : tsz Try.prog 110 = some (false, 1) := by kernel_rfl
@[simp] theorem tzero110 : tzero Try.prog 110 = some [.int .u64 0] := by kernel_rfl
@[simp] theorem und110 : Try.prog.underlying 110 = some (.int .u64) := by kernel_rfl
@[simp] theorem tsz119 : tsz Try.prog 119 = some (false, 1) := by kernel_rfl
@[simp] theorem tzero119 : tzero Try.prog 119 = some [.int .u32 0] := by kernel_rfl
@[simp] theorem und119 : Try.prog.underlying 119 = some (.int .u32) := by kernel_rfl
@[simp] theorem tsz122 : tsz Try.prog 122 = some (false, 1) := by kernel_rfl
@[simp] theorem tzero122 : tzero Try.prog 122 = some [.int .u64 0] := by kernel_rfl
@[simp] theorem und122 : Try.prog.underlying 122 = some (.int .u64) := by kernel_rfl
@[simp] theorem tsz126 : tsz Try.prog 126 = some (false, 1) := by kernel_rfl
@[simp] theorem tzero126 : tzero Try.prog 126 = some [.int .i64 0] := by kernel_rfl
@[simp] theorem und126 : Try.prog.underlying 126 = some (.int .i64) := by kernel_rfl
@[simp] theorem tsz134 : tsz Try.prog 134 = some (false, 1) := by kernel_rfl
@[simp] theorem tzero134 : tzero Try.prog 134 = some [.int .u64 0] := by kernel_rfl
@[simp] theorem und134 : Try.prog.underlying 134 = some (.int .u64) := by kernel_rfl
@[simp] theorem tsz138 : tsz Try.prog 138 = some (false, 1) := by kernel_rfl
@[simp] theorem tzero138 : tzero Try.prog 138 = some [.pointer none] := by kernel_rfl
@[simp] theorem tsz140 : tsz Try.prog 140 = some (false, 1) := by kernel_rfl
@[simp] theorem tzero140 : tzero Try.prog 140 = some [.pointer none] := by kernel_rfl
@[simp] theorem tsz144 : tsz Try.prog 144 = some (true, 4) := by kernel_rfl
@[simp] theorem tzero144 : tzero Try.prog 144 = some [.pointer none, .pointer none, .pointer none, .string .empty] := by kernel_rfl
@[simp] theorem finfo144_0 : finfo Try.prog 144 0 = some (0, false, 1) := by kernel_rfl
@[simp] theorem finfo144_1 : finfo Try.prog 144 1 = some (1, false, 1) := by kernel_rfl
@[simp] theorem finfo144_2 : finfo Try.prog 144 2 = some (2, false, 1) := by kernel_rfl
@[simp] theorem finfo144_3 : finfo Try.prog 144 3 = some (3, false, 1) := by kernel_rfl
@[simp] theorem bplaces144 : bplaces Try.prog 144 = some [(0, 1), (1, 1), (2, 1), (3, 1)] := by kernel_rfl
@[simp] theorem tsz145 : tsz Try.prog 145 = some (true, 4) := by kernel_rfl
@[simp] theorem tzero145 : tzero Try.prog 145 = some [.pointer none, .pointer none, .pointer none, .string .empty] := by kernel_rfl
@[simp] theorem finfo145_0 : finfo Try.prog 145 0 = some (0, false, 1) := by kernel_rfl
@[simp] theorem finfo145_1 : finfo Try.prog 145 1 = some (1, false, 1) := by kernel_rfl
@[simp] theorem finfo145_2 : finfo Try.prog 145 2 = some (2, false, 1) := by kernel_rfl
@[simp] theorem finfo145_3 : finfo Try.prog 145 3 = some (3, false, 1) := by kernel_rfl
@[simp] theorem bplaces145 : bplaces Try.prog 145 = some [(0, 1), (1, 1), (2, 1), (3, 1)] := by kernel_rfl
@[simp] theorem tsz146 : tsz Try.prog 146 = some (true, 0) := by kernel_rfl
@[simp] theorem tzero146 : tzero Try.prog 146 = some [] := by kernel_rfl
@[simp] theorem tsz147 : tsz Try.prog 147 = some (true, 0) := by kernel_rfl
@[simp] theorem tzero147 : tzero Try.prog 147 = some [] := by kernel_rfl
@[simp] theorem bplaces147 : bplaces Try.prog 147 = some [(0, 0)] := by kernel_rfl
@[simp] theorem tsz148 : tsz Try.prog 148 = some (true, 0) := by kernel_rfl
@[simp] theorem tzero148 : tzero Try.prog 148 = some [] := by kernel_rfl
@[simp] theorem bplaces148 : bplaces Try.prog 148 = some [(0, 0)] := by kernel_rfl
@[simp] theorem tsz150 : tsz Try.prog 150 = some (false, 1) := by kernel_rfl
@[simp] theorem tzero150 : tzero Try.prog 150 = some [.int .u8 0] := by kernel_rfl
@[simp] theorem und150 : Try.prog.underlying 150 = some (.int .u8) := by kernel_rfl
@[simp] theorem tsz151 : tsz Try.prog 151 = some (false, 1) := by kernel_rfl
@[simp] theorem tzero151 : tzero Try.prog 151 = some [.int .u8 0] := by kernel_rfl
@[simp] theorem und151 : Try.prog.underlying 151 = some (.int .u8) := by kernel_rfl
@[simp] theorem tsz153 : tsz Try.prog 153 = some (false, 1) := by kernel_rfl
@[simp] theorem tzero153 : tzero Try.prog 153 = some [.pointer none] := by kernel_rfl
@[simp] theorem tsz154 : tsz Try.prog 154 = some (false, 1) := by kernel_rfl
@[simp] theorem tzero154 : tzero Try.prog 154 = some [.int .i32 0] := by kernel_rfl
@[simp] theorem und154 : Try.prog.underlying 154 = some (.int .i32) := by kernel_rfl
@[simp] theorem tsz155 : tsz Try.prog 155 = some (false, 1) := by kernel_rfl
@[simp] theorem tzero155 : tzero Try.prog 155 = some [.int .i32 0] := by kernel_rfl
@[simp] theorem und155 : Try.prog.underlying 155 = some (.int .i32) := by kernel_rfl
@[simp] theorem tsz156 : tsz Try.prog 156 = some (true, 11) := by kernel_rfl
@[simp] theorem tzero156 : tzero Try.prog 156 = some [.int .u64 0, .int .u64 0, .int .u32 0, .int .u8 0, .int .u8 0, .int .u8 0, .int .u8 0, .nilFunc, .pointer none, .int .i32 0, .int .i32 0] := by kernel_rfl
@[simp] theorem finfo156_0 : finfo Try.prog 156 0 = some (0, false, 1) := by kernel_rfl
@[simp] theorem finfo156_1 : finfo Try.prog 156 1 = some (1, false, 1) := by kernel_rfl
@[simp] theorem finfo156_2 : finfo Try.prog 156 2 = some (2, false, 1) := by kernel_rfl
@[simp] theorem finfo156_3 : finfo Try.prog 156 3 = some (3, false, 1) := by kernel_rfl
@[simp] theorem finfo156_4 : finfo Try.prog 156 4 = some (4, false, 1) := by kernel_rfl
@[simp] theorem finfo156_5 : finfo Try.prog 156 5 = some (5, false, 1) := by kernel_rfl
@[simp] theorem finfo156_6 : finfo Try.prog 156 6 = some (6, false, 1) := by kernel_rfl
@[simp] theorem finfo156_8 : finfo Try.prog 156 8 = some (8, false, 1) := by kernel_rfl
@[simp] theorem finfo156_9 : finfo Try.prog 156 9 = some (9, false, 1) := by kernel_rfl
@[simp] theorem finfo156_10 : finfo Try.prog 156 10 = some (10, false, 1) := by kernel_rfl
@[simp] theorem tsz157 : tsz Try.prog 157 = some (true, 11) := by kernel_rfl
@[simp] theorem tzero157 : tzero Try.prog 157 = some [.int .u64 0, .int .u64 0, .int .u32 0, .int .u8 0, .int .u8 0, .int .u8 0, .int .u8 0, .nilFunc, .pointer none, .int .i32 0, .int .i32 0] := by kernel_rfl
@[simp] theorem finfo157_0 : finfo Try.prog 157 0 = some (0, false, 1) := by kernel_rfl
@[simp] theorem finfo157_1 : finfo Try.prog 157 1 = some (1, false, 1) := by kernel_rfl
@[simp] theorem finfo157_2 : finfo Try.prog 157 2 = some (2, false, 1) := by kernel_rfl
@[simp] theorem finfo157_3 : finfo Try.prog 157 3 = some (3, false, 1) := by kernel_rfl
@[simp] theorem finfo157_4 : finfo Try.prog 157 4 = some (4, false, 1) := by kernel_rfl
@[simp] theorem finfo157_5 : finfo Try.prog 157 5 = some (5, false, 1) := by kernel_rfl
@[simp] theorem finfo157_6 : finfo Try.prog 157 6 = some (6, false, 1) := by kernel_rfl
@[simp] theorem finfo157_8 : finfo Try.prog 157 8 = some (8, false, 1) := by kernel_rfl
@[simp] theorem finfo157_9 : finfo Try.prog 157 9 = some (9, false, 1) := by kernel_rfl
@[simp] theorem finfo157_10 : finfo Try.prog 157 10 = some (10, false, 1) := by kernel_rfl
end Go.Proofs.Ytnakhkfgheapoaa.V
