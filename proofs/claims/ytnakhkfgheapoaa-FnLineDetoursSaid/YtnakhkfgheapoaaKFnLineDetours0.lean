/- Texts of a proof, joined. -/
import Derived.Test.YtnakhkfgheapoaaProg
import Derived.KernelRfl
import Derived.Test.YtnakhkfgheapoaaKM0
import Derived.Test.YtnakhkfgheapoaaKM1
/- What the value machine is told of the program: which functions may change rows, and the types' sizes and places. -/
namespace Go.Proofs.Ytnakhkfgheapoaa.V
open Go Go.VM Go.Proofs
noncomputable def C : Ctx := { P := Try.prog, mode := fun g => if [19, 39, 40, 45, 72, 74, 76, 100, 101, 105, 113, 114, 122, 124, 135, 140, 152, 153, 154, 155, 156, 157, 159, 160, 166, 168, 169, 170, 172].contains g then 2 else if [15, 17, 22, 23, 24, 25, 34, 36, 42, 43, 50, 51, 53, 55, 62, 63, 65, 75, 90, 95, 96, 102, 104, 112, 128, 129, 149].contains g then 1 else 0, ext := fun _ => none }
@[simp] theorem CP : C.P = Try.prog := rfl
theorem drawn : DrawOk C := drawOk_holds C (by kernel_rfl)
@[simp] theorem mode0 : C.mode 0 = 0 := rfl
@[simp] theorem mode1 : C.mode 1 = 0 := rfl
@[simp] theorem mode2 : C.mode 2 = 0 := rfl
@[simp] theorem mode3 : C.mode 3 = 0 := rfl
@[simp] theorem mode4 : C.mode 4 = 0 := rfl
@[simp] theorem mode5 : C.mode 5 = 0 := rfl
@[simp] theorem mode6 : C.mode 6 = 0 := rfl
@[simp] theorem mode7 : C.mode 7 = 0 := rfl
@[simp] theorem mode8 : C.mode 8 = 0 := rfl
@[simp] theorem mode9 : C.mode 9 = 0 := rfl
@[simp] theorem mode10 : C.mode 10 = 0 := rfl
@[simp] theorem mode11 : C.mode 11 = 0 := rfl
@[simp] theorem mode12 : C.mode 12 = 0 := rfl
@[simp] theorem mode13 : C.mode 13 = 0 := rfl
@[simp] theorem mode14 : C.mode 14 = 0 := rfl
@[simp] theorem mode15 : C.mode 15 = 1 := rfl
@[simp] theorem mode16 : C.mode 16 = 0 := rfl
@[simp] theorem mode17 : C.mode 17 = 1 := rfl
@[simp] theorem mode18 : C.mode 18 = 0 := rfl
@[simp] theorem mode19 : C.mode 19 = 2 := rfl
@[simp] theorem mode20 : C.mode 20 = 0 := rfl
@[simp] theorem mode21 : C.mode 21 = 0 := rfl
@[simp] theorem mode22 : C.mode 22 = 1 := rfl
@[simp] theorem mode23 : C.mode 23 = 1 := rfl
@[simp] theorem mode24 : C.mode 24 = 1 := rfl
@[simp] theorem mode25 : C.mode 25 = 1 := rfl
@[simp] theorem mode26 : C.mode 26 = 0 := rfl
@[simp] theorem mode27 : C.mode 27 = 0 := rfl
@[simp] theorem mode28 : C.mode 28 = 0 := rfl
@[simp] theorem mode29 : C.mode 29 = 0 := rfl
@[simp] theorem mode30 : C.mode 30 = 0 := rfl
@[simp] theorem mode31 : C.mode 31 = 0 := rfl
@[simp] theorem mode32 : C.mode 32 = 0 := rfl
@[simp] theorem mode33 : C.mode 33 = 0 := rfl
@[simp] theorem mode34 : C.mode 34 = 1 := rfl
@[simp] theorem mode35 : C.mode 35 = 0 := rfl
@[simp] theorem mode36 : C.mode 36 = 1 := rfl
@[simp] theorem mode37 : C.mode 37 = 0 := rfl
@[simp] theorem mode38 : C.mode 38 = 0 := rfl
@[simp] theorem mode39 : C.mode 39 = 2 := rfl
@[simp] theorem mode40 : C.mode 40 = 2 := rfl
@[simp] theorem mode41 : C.mode 41 = 0 := rfl
@[simp] theorem mode42 : C.mode 42 = 1 := rfl
@[simp] theorem mode43 : C.mode 43 = 1 := rfl
@[simp] theorem mode44 : C.mode 44 = 0 := rfl
@[simp] theorem mode45 : C.mode 45 = 2 := rfl
@[simp] theorem mode46 : C.mode 46 = 0 := rfl
@[simp] theorem mode47 : C.mode 47 = 0 := rfl
@[simp] theorem mode48 : C.mode 48 = 0 := rfl
@[simp] theorem mode49 : C.mode 49 = 0 := rfl
@[simp] theorem mode50 : C.mode 50 = 1 := rfl
@[simp] theorem mode51 : C.mode 51 = 1 := rfl
@[simp] theorem mode52 : C.mode 52 = 0 := rfl
@[simp] theorem mode53 : C.mode 53 = 1 := rfl
@[simp] theorem mode54 : C.mode 54 = 0 := rfl
@[simp] theorem mode55 : C.mode 55 = 1 := rfl
@[simp] theorem mode56 : C.mode 56 = 0 := rfl
@[simp] theorem mode57 : C.mode 57 = 0 := rfl
@[simp] theorem mode58 : C.mode 58 = 0 := rfl
@[simp] theorem mode59 : C.mode 59 = 0 := rfl
@[simp] theorem mode60 : C.mode 60 = 0 := rfl
@[simp] theorem mode61 : C.mode 61 = 0 := rfl
@[simp] theorem mode62 : C.mode 62 = 1 := rfl
@[simp] theorem mode63 : C.mode 63 = 1 := rfl
@[simp] theorem mode64 : C.mode 64 = 0 := rfl
@[simp] theorem mode65 : C.mode 65 = 1 := rfl
@[simp] theorem mode66 : C.mode 66 = 0 := rfl
@[simp] theorem mode67 : C.mode 67 = 0 := rfl
@[simp] theorem mode68 : C.mode 68 = 0 := rfl
@[simp] theorem mode69 : C.mode 69 = 0 := rfl
@[simp] theorem mode70 : C.mode 70 = 0 := rfl
@[simp] theorem mode71 : C.mode 71 = 0 := rfl
@[simp] theorem mode72 : C.mode 72 = 2 := rfl
@[simp] theorem mode73 : C.mode 73 = 0 := rfl
@[simp] theorem mode74 : C.mode 74 = 2 := rfl
@[simp] theorem mode75 : C.mode 75 = 1 := rfl
@[simp] theorem mode76 : C.mode 76 = 2 := rfl
@[simp] theorem mode77 : C.mode 77 = 0 := rfl
@[simp] theorem mode78 : C.mode 78 = 0 := rfl
@[simp] theorem mode79 : C.mode 79 = 0 := rfl
@[simp] theorem mode80 : C.mode 80 = 0 := rfl
@[simp] theorem mode81 : C.mode 81 = 0 := rfl
@[simp] theorem mode82 : C.mode 82 = 0 := rfl
@[simp] theorem mode83 : C.mode 83 = 0 := rfl
@[simp] theorem mode84 : C.mode 84 = 0 := rfl
@[simp] theorem mode85 : C.mode 85 = 0 := rfl
@[simp] theorem mode86 : C.mode 86 = 0 := rfl
@[simp] theorem mode87 : C.mode 87 = 0 := rfl
@[simp] theorem mode88 : C.mode 88 = 0 := rfl
@[simp] theorem mode89 : C.mode 89 = 0 := rfl
@[simp] theorem mode90 : C.mode 90 = 1 := rfl
@[simp] theorem mode91 : C.mode 91 = 0 := rfl
@[simp] theorem mode92 : C.mode 92 = 0 := rfl
@[simp] theorem mode93 : C.mode 93 = 0 := rfl
@[simp] theorem mode94 : C.mode 94 = 0 := rfl
@[simp] theorem mode95 : C.mode 95 = 1 := rfl
@[simp] theorem mode96 : C.mode 96 = 1 := rfl
@[simp] theorem mode97 : C.mode 97 = 0 := rfl
@[simp] theorem mode98 : C.mode 98 = 0 := rfl
@[simp] theorem mode99 : C.mode 99 = 0 := rfl
@[simp] theorem mode100 : C.mode 100 = 2 := rfl
@[simp] theorem mode101 : C.mode 101 = 2 := rfl
@[simp] theorem mode102 : C.mode 102 = 1 := rfl
@[simp] theorem mode103 : C.mode 103 = 0 := rfl
@[simp] theorem mode104 : C.mode 104 = 1 := rfl
@[simp] theorem mode105 : C.mode 105 = 2 := rfl
@[simp] theorem mode106 : C.mode 106 = 0 := rfl
@[simp] theorem mode107 : C.mode 107 = 0 := rfl
@[simp] theorem mode108 : C.mode 108 = 0 := rfl
@[simp] theorem mode109 : C.mode 109 = 0 := rfl
@[simp] theorem mode110 : C.mode 110 = 0 := rfl
@[simp] theorem mode111 : C.mode 111 = 0 := rfl
@[simp] theorem mode112 : C.mode 112 = 1 := rfl
@[simp] theorem mode113 : C.mode 113 = 2 := rfl
@[simp] theorem mode114 : C.mode 114 = 2 := rfl
@[simp] theorem mode115 : C.mode 115 = 0 := rfl
@[simp] theorem mode116 : C.mode 116 = 0 := rfl
@[simp] theorem mode117 : C.mode 117 = 0 := rfl
@[simp] theorem mode118 : C.mode 118 = 0 := rfl
@[simp] theorem mode119 : C.mode 119 = 0 := rfl
@[simp] theorem mode120 : C.mode 120 = 0 := rfl
@[simp] theorem mode121 : C.mode 121 = 0 := rfl
@[simp] theorem mode122 : C.mode 122 = 2 := rfl
@[simp] theorem mode123 : C.mode 123 = 0 := rfl
@[simp] theorem mode124 : C.mode 124 = 2 := rfl
@[simp] theorem mode125 : C.mode 125 = 0 := rfl
@[simp] theorem mode126 : C.mode 126 = 0 := rfl
@[simp] theorem mode127 : C.mode 127 = 0 := rfl
@[simp] theorem mode128 : C.mode 128 = 1 := rfl
@[simp] theorem mode129 : C.mode 129 = 1 := rfl
@[simp] theorem mode130 : C.mode 130 = 0 := rfl
@[simp] theorem mode131 : C.mode 131 = 0 := rfl
@[simp] theorem mode132 : C.mode 132 = 0 := rfl
@[simp] theorem mode133 : C.mode 133 = 0 := rfl
@[simp] theorem mode134 : C.mode 134 = 0 := rfl
@[simp] theorem mode135 : C.mode 135 = 2 := rfl
@[simp] theorem mode136 : C.mode 136 = 0 := rfl
@[simp] theorem mode137 : C.mode 137 = 0 := rfl
@[simp] theorem mode138 : C.mode 138 = 0 := rfl
@[simp] theorem mode139 : C.mode 139 = 0 := rfl
@[simp] theorem mode140 : C.mode 140 = 2 := rfl
@[simp] theorem mode141 : C.mode 141 = 0 := rfl
@[simp] theorem mode142 : C.mode 142 = 0 := rfl
@[simp] theorem mode143 : C.mode 143 = 0 := rfl
@[simp] theorem mode144 : C.mode 144 = 0 := rfl
@[simp] theorem mode145 : C.mode 145 = 0 := rfl
@[simp] theorem mode146 : C.mode 146 = 0 := rfl
@[simp] theorem mode147 : C.mode 147 = 0 := rfl
@[simp] theorem mode148 : C.mode 148 = 0 := rfl
@[simp] theorem mode149 : C.mode 149 = 1 := rfl
@[simp] theorem mode150 : C.mode 150 = 0 := rfl
@[simp] theorem mode151 : C.mode 151 = 0 := rfl
@[simp] theorem mode152 : C.mode 152 = 2 := rfl
@[simp] theorem mode153 : C.mode 153 = 2 := rfl
@[simp] theorem mode154 : C.mode 154 = 2 := rfl
@[simp] theorem mode155 : C.mode 155 = 2 := rfl
@[simp] theorem mode156 : C.mode 156 = 2 := rfl
@[simp] theorem mode157 : C.mode 157 = 2 := rfl
@[simp] theorem mode158 : C.mode 158 = 0 := rfl
@[simp] theorem mode159 : C.mode 159 = 2 := rfl
@[simp] theorem mode160 : C.mode 160 = 2 := rfl
@[simp] theorem mode161 : C.mode 161 = 0 := rfl
@[simp] theorem mode162 : C.mode 162 = 0 := rfl
@[simp] theorem mode163 : C.mode 163 = 0 := rfl
@[simp] theorem mode164 : C.mode 164 = 0 := rfl
@[simp] theorem mode165 : C.mode 165 = 0 := rfl
@[simp] theorem mode166 : C.mode 166 = 2 := rfl
@[simp] theorem mode167 : C.mode 167 = 0 := rfl
@[simp] theorem mode168 : C.mode 168 = 2 := rfl
@[simp] theorem mode169 : C.mode 169 = 2 := rfl
@[simp] theorem mode170 : C.mode 170 = 2 := rfl
@[simp] theorem mode171 : C.mode 171 = 0 := rfl
@[simp] theorem mode172 : C.mode 172 = 2 := rfl
@[simp] theorem mode173 : C.mode 173 = 0 := rfl
@[simp] theorem mode174 : C.mode 174 = 0 := rfl
@[simp] theorem mode175 : C.mode 175 = 0 := rfl
@[simp] theorem mode176 : C.mode 176 = 0 := rfl
@[simp] theorem mode177 : C.mode 177 = 0 := rfl
@[simp] theorem mode178 : C.mode 178 = 0 := rfl
@[simp] theorem mode179 : C.mode 179 = 0 := rfl
@[simp] theorem mode180 : C.mode 180 = 0 := rfl
@[simp] theorem mode181 : C.mode 181 = 0 := rfl
@[simp] theorem mode182 : C.mode 182 = 0 := rfl
@[simp] theorem mode183 : C.mode 183 = 0 := rfl
@[simp] theorem mode184 : C.mode 184 = 0 := rfl
@[simp] theorem mode185 : C.mode 185 = 0 := rfl
@[simp] theorem mode186 : C.mode 186 = 0 := rfl
@[simp] theorem mode187 : C.mode 187 = 0 := rfl
@[simp] theorem mode188 : C.mode 188 = 0 := rfl
@[simp] theorem tsz2 : tsz Try.prog 2 = some (false, 1) := by kernel_rfl
@[simp] theorem tzero2 : tzero Try.prog 2 = some [.int .i64 0] := by kernel_rfl
@[simp] theorem und2 : Try.prog.underlying 2 = some (.int .i64) := by kernel_rfl
@[simp] theorem tsz3 : tsz Try.prog 3 = some (false, 1) := by kernel_rfl
@[simp] theorem tzero3 : tzero Try.prog 3 = some [.int .i64 0] := by kernel_rfl
@[simp] theorem und3 : Try.prog.underlying 3 = some (.int .i64) := by kernel_rfl
@[simp] theorem tsz4 : tsz Try.prog 4 = some (false, 1) := by kernel_rfl
@[simp] theorem tzero4 : tzero Try.prog 4 = some [.bool false] := by kernel_rfl
@[simp] theorem und4 : Try.prog.underlying 4 = some .bool := by kernel_rfl
@[simp] theorem tsz5 : tsz Try.prog 5 = some (false, 1) := by kernel_rfl
@[simp] theorem tzero5 : tzero Try.prog 5 = some [.int .u8 0] := by kernel_rfl
@[simp] theorem und5 : Try.prog.underlying 5 = some (.int .u8) := by kernel_rfl
@[simp] theorem tsz6 : tsz Try.prog 6 = some (false, 1) := by kernel_rfl
@[simp] theorem tzero6 : tzero Try.prog 6 = some [.int .u8 0] := by kernel_rfl
@[simp] theorem und6 : Try.prog.underlying 6 = some (.int .u8) := by kernel_rfl
@[simp] theorem tsz7 : tsz Try.prog 7 = some (true, 4) := by kernel_rfl
@[simp] theorem tzero7 : tzero Try.prog 7 = some [.int .i64 0, .int .i64 0, .bool false, .int .u8 0] := by kernel_rfl
@[simp] theorem finfo7_0 : finfo Try.prog 7 0 = some (0, false, 1) := by kernel_rfl
@[simp] theorem finfo7_1 : finfo Try.prog 7 1 = some (1, false, 1) := by kernel_rfl
@[simp] theorem finfo7_2 : finfo Try.prog 7 2 = some (2, false, 1) := by kernel_rfl
@[simp] theorem finfo7_3 : finfo Try.prog 7 3 = some (3, false, 1) := by kernel_rfl
@[simp] theorem bplaces7 : bplaces Try.prog 7 = some [(0, 1), (1, 1), (2, 1), (3, 1)] := by kernel_rfl
@[simp] theorem tsz8 : tsz Try.prog 8 = some (true, 4) := by kernel_rfl
@[simp] theorem tzero8 : tzero Try.prog 8 = some [.int .i64 0, .int .i64 0, .bool false, .int .u8 0] := by kernel_rfl
@[simp] theorem finfo8_0 : finfo Try.prog 8 0 = some (0, false, 1) := by kernel_rfl
@[simp] theorem finfo8_1 : finfo Try.prog 8 1 = some (1, false, 1) := by kernel_rfl
@[simp] theorem finfo8_2 : finfo Try.prog 8 2 = some (2, false, 1) := by kernel_rfl
@[simp] theorem finfo8_3 : finfo Try.prog 8 3 = some (3, false, 1) := by kernel_rfl
@[simp] theorem bplaces8 : bplaces Try.prog 8 = some [(0, 1), (1, 1), (2, 1), (3, 1)] := by kernel_rfl
@[simp] theorem tsz9 : tsz Try.prog 9 = some (false, 1) := by kernel_rfl
@[simp] theorem tzero9 : tzero Try.prog 9 = some [.string .empty] := by kernel_rfl
@[simp] theorem isStr9 : isStr Try.prog 9 = true := by kernel_rfl
@[simp] theorem und9 : Try.prog.underlying 9 = some .string := by kernel_rfl
@[simp] theorem tsz10 : tsz Try.prog 10 = some (false, 1) := by kernel_rfl
@[simp] theorem tzero10 : tzero Try.prog 10 = some [.string .empty] := by kernel_rfl
@[simp] theorem isStr10 : isStr Try.prog 10 = true := by kernel_rfl
@[simp] theorem und10 : Try.prog.underlying 10 = some .string := by kernel_rfl
@[simp] theorem tsz11 : tsz Try.prog 11 = some (false, 1) := by kernel_rfl
@[simp] theorem tzero11 : tzero Try.prog 11 = some [.string .empty] := by kernel_rfl
@[simp] theorem isStr11 : isStr Try.prog 11 = true := by kernel_rfl
@[simp] theorem und11 : Try.prog.underlying 11 = some .string := by kernel_rfl
@[simp] theorem tsz12 : tsz Try.prog 12 = some (false, 1) := by kernel_rfl
@[simp] theorem tzero12 : tzero Try.prog 12 = some [.int .u64 0] := by kernel_rfl
@[simp] theorem und12 : Try.prog.underlying 12 = some (.int .u64) := by kernel_rfl
@[simp] theorem tsz13 : tsz Try.prog 13 = some (true, 2) := by kernel_rfl
@[simp] theorem tzero13 : tzero Try.prog 13 = some [.string .empty, .int .u64 0] := by kernel_rfl
@[simp] theorem finfo13_0 : finfo Try.prog 13 0 = some (0, false, 1) := by kernel_rfl
@[simp] theorem finfo13_1 : finfo Try.prog 13 1 = some (1, false, 1) := by kernel_rfl
@[simp] theorem bplaces13 : bplaces Try.prog 13 = some [(0, 1), (1, 1)] := by kernel_rfl
@[simp] theorem tsz14 : tsz Try.prog 14 = some (true, 2) := by kernel_rfl
@[simp] theorem tzero14 : tzero Try.prog 14 = some [.string .empty, .int .u64 0] := by kernel_rfl
@[simp] theorem finfo14_0 : finfo Try.prog 14 0 = some (0, false, 1) := by kernel_rfl
@[simp] theorem finfo14_1 : finfo Try.prog 14 1 = some (1, false, 1) := by kernel_rfl
@[simp] theorem bplaces14 : bplaces Try.prog 14 = some [(0, 1), (1, 1)] := by kernel_rfl
@[simp] theorem tsz15 : tsz Try.prog 15 = some (false, 1) := by kernel_rfl
@[simp] theorem tzero15 : tzero Try.prog 15 = some [.pointer none] := by kernel_rfl
@[simp] theorem tsz16 : tsz Try.prog 16 = some (false, 1) := by kernel_rfl
@[simp] theorem tzero16 : tzero Try.prog 16 = some [.pointer none] := by kernel_rfl
@[simp] theorem tsz17 : tsz Try.prog 17 = some (false, 1) := by kernel_rfl
@[simp] theorem tzero17 : tzero Try.prog 17 = some [.pointer none] := by kernel_rfl
@[simp] theorem tsz18 : tsz Try.prog 18 = some (true, 1) := by kernel_rfl
@[simp] theorem tzero18 : tzero Try.prog 18 = some [.pointer none] := by kernel_rfl
@[simp] theorem finfo18_0 : finfo Try.prog 18 0 = some (0, false, 1) := by kernel_rfl
@[simp] theorem bplaces18 : bplaces Try.prog 18 = some [(0, 1)] := by kernel_rfl
@[simp] theorem tsz19 : tsz Try.prog 19 = some (true, 1) := by kernel_rfl
@[simp] theorem tzero19 : tzero Try.prog 19 = some [.pointer none] := by kernel_rfl
@[simp] theorem finfo19_0 : finfo Try.prog 19 0 = some (0, false, 1) := by kernel_rfl
@[simp] theorem bplaces19 : bplaces Try.prog 19 = some [(0, 1)] := by kernel_rfl
@[simp] theorem tsz21 : tsz Try.prog 21 = some (false, 1) := by kernel_rfl
@[simp] theorem tzero21 : tzero Try.prog 21 = some [.int .i32 0] := by kernel_rfl
@[simp] theorem und21 : Try.prog.underlying 21 = some (.int .i32) := by kernel_rfl
@[simp] theorem tsz22 : tsz Try.prog 22 = some (false, 1) := by kernel_rfl
@[simp] theorem tzero22 : tzero Try.prog 22 = some [.slice none 0 0] := by kernel_rfl
@[simp] theorem eltp22 : eltp Try.prog 22 = some (3, 1) := by kernel_rfl
@[simp] theorem isSl22 : isSl Try.prog 22 = true := by kernel_rfl
@[simp] theorem tsz28 : tsz Try.prog 28 = some (false, 1) := by kernel_rfl
@[simp] theorem tzero28 : tzero Try.prog 28 = some [.slice none 0 0] := by kernel_rfl
@[simp] theorem eltp28 : eltp Try.prog 28 = some (5, 1) := by kernel_rfl
@[simp] theorem isSl28 : isSl Try.prog 28 = true := by kernel_rfl
@[simp] theorem tsz30 : tsz Try.prog 30 = some (true, 2) := by kernel_rfl
@[simp] theorem tzero30 : tzero Try.prog 30 = some [.int .i64 0, .int .i64 0] := by kernel_rfl
@[simp] theorem finfo30_0 : finfo Try.prog 30 0 = some (0, false, 1) := by kernel_rfl
@[simp] theorem finfo30_1 : finfo Try.prog 30 1 = some (1, false, 1) := by kernel_rfl
@[simp] theorem bplaces30 : bplaces Try.prog 30 = some [(0, 1), (1, 1)] := by kernel_rfl
@[simp] theorem tsz31 : tsz Try.prog 31 = some (true, 2) := by kernel_rfl
@[simp] theorem tzero31 : tzero Try.prog 31 = some [.int .i64 0, .int .i64 0] := by kernel_rfl
@[simp] theorem finfo31_0 : finfo Try.prog 31 0 = some (0, false, 1) := by kernel_rfl
@[simp] theorem finfo31_1 : finfo Try.prog 31 1 = some (1, false, 1) := by kernel_rfl
@[simp] theorem bplaces31 : bplaces Try.prog 31 = some [(0, 1), (1, 1)] := by kernel_rfl
@[simp] theorem tsz32 : tsz Try.prog 32 = some (true, 3) := by kernel_rfl
@[simp] theorem tzero32 : tzero Try.prog 32 = some [.int .i64 0, .int .i64 0, .slice none 0 0] := by kernel_rfl
@[simp] theorem finfo32_0 : finfo Try.prog 32 0 = some (0, true, 2) := by kernel_rfl
@[simp] theorem finfo32_1 : finfo Try.prog 32 1 = some (2, false, 1) := by kernel_rfl
@[simp] theorem bplaces32 : bplaces Try.prog 32 = some [(0, 2), (2, 1)] := by kernel_rfl
@[simp] theorem tsz33 : tsz Try.prog 33 = some (true, 3) := by kernel_rfl
@[simp] theorem tzero33 : tzero Try.prog 33 = some [.int .i64 0, .int .i64 0, .slice none 0 0] := by kernel_rfl
@[simp] theorem finfo33_0 : finfo Try.prog 33 0 = some (0, true, 2) := by kernel_rfl
@[simp] theorem finfo33_1 : finfo Try.prog 33 1 = some (2, false, 1) := by kernel_rfl
@[simp] theorem bplaces33 : bplaces Try.prog 33 = some [(0, 2), (2, 1)] := by kernel_rfl
@[simp] theorem tsz43 : tsz Try.prog 43 = some (true, 2) := by kernel_rfl
@[simp] theorem tzero43 : tzero Try.prog 43 = some [.int .i64 0, .int .i64 0] := by kernel_rfl
@[simp] theorem finfo43_0 : finfo Try.prog 43 0 = some (0, false, 1) := by kernel_rfl
@[simp] theorem finfo43_1 : finfo Try.prog 43 1 = some (1, false, 1) := by kernel_rfl
@[simp] theorem bplaces43 : bplaces Try.prog 43 = some [(0, 1), (1, 1)] := by kernel_rfl
@[simp] theorem tsz44 : tsz Try.prog 44 = some (true, 3) := by kernel_rfl
@[simp] theorem tzero44 : tzero Try.prog 44 = some [.int .i64 0, .int .i64 0, .slice none 0 0] := by kernel_rfl
@[simp] theorem finfo44_0 : finfo Try.prog 44 0 = some (0, true, 2) := by kernel_rfl
@[simp] theorem finfo44_1 : finfo Try.prog 44 1 = some (2, false, 1) := by kernel_rfl
@[simp] theorem bplaces44 : bplaces Try.prog 44 = some [(0, 2), (2, 1)] := by kernel_rfl
@[simp] theorem tsz45 : tsz Try.prog 45 = some (true, 3) := by kernel_rfl
@[simp] theorem tzero45 : tzero Try.prog 45 = some [.int .i64 0, .int .i64 0, .slice none 0 0] := by kernel_rfl
@[simp] theorem finfo45_0 : finfo Try.prog 45 0 = some (0, true, 2) := by kernel_rfl
@[simp] theorem finfo45_1 : finfo Try.prog 45 1 = some (2, false, 1) := by kernel_rfl
@[simp] theorem bplaces45 : bplaces Try.prog 45 = some [(0, 2), (2, 1)] := by kernel_rfl
@[simp] theorem tsz47 : tsz Try.prog 47 = some (true, 1) := by kernel_rfl
@[simp] theorem tzero47 : tzero Try.prog 47 = some [.slice none 0 0] := by kernel_rfl
@[simp] theorem finfo47_0 : finfo Try.prog 47 0 = some (0, false, 1) := by kernel_rfl
@[simp] theorem bplaces47 : bplaces Try.prog 47 = some [(0, 1)] := by kernel_rfl
@[simp] theorem tsz48 : tsz Try.prog 48 = some (true, 1) := by kernel_rfl
@[simp] theorem tzero48 : tzero Try.prog 48 = some [.slice none 0 0] := by kernel_rfl
@[simp] theorem finfo48_0 : finfo Try.prog 48 0 = some (0, false, 1) := by kernel_rfl
@[simp] theorem bplaces48 : bplaces Try.prog 48 = some [(0, 1)] := by kernel_rfl
@[simp] theorem tsz56 : tsz Try.prog 56 = some (true, 2) := by kernel_rfl
@[simp] theorem tzero56 : tzero Try.prog 56 = some [.slice none 0 0, .slice none 0 0] := by kernel_rfl
@[simp] theorem finfo56_0 : finfo Try.prog 56 0 = some (0, true, 1) := by kernel_rfl
@[simp] theorem finfo56_1 : finfo Try.prog 56 1 = some (1, true, 1) := by kernel_rfl
@[simp] theorem bplaces56 : bplaces Try.prog 56 = some [(0, 1), (1, 1)] := by kernel_rfl
@[simp] theorem tsz57 : tsz Try.prog 57 = some (true, 2) := by kernel_rfl
@[simp] theorem tzero57 : tzero Try.prog 57 = some [.slice none 0 0, .slice none 0 0] := by kernel_rfl
@[simp] theorem finfo57_0 : finfo Try.prog 57 0 = some (0, true, 1) := by kernel_rfl
@[simp] theorem finfo57_1 : finfo Try.prog 57 1 = some (1, true, 1) := by kernel_rfl
@[simp] theorem bplaces57 : bplaces Try.prog 57 = some [(0, 1), (1, 1)] := by kernel_rfl
@[simp] theorem tsz68 : tsz Try.prog 68 = some (true, 1) := by kernel_rfl
@[simp] theorem tzero68 : tzero Try.prog 68 = some [.slice none 0 0] := by kernel_rfl
@[simp] theorem finfo68_0 : finfo Try.prog 68 0 = some (0, false, 1) := by kernel_rfl
@[simp] theorem bplaces68 : bplaces Try.prog 68 = some [(0, 1)] := by kernel_rfl
@[simp] theorem tsz81 : tsz Try.prog 81 = some (false, 1) := by kernel_rfl
@[simp] theorem tzero81 : tzero Try.prog 81 = some [.pointer none] := by kernel_rfl
@[simp] theorem tsz98 : tsz Try.prog 98 = some (false, 1) := by kernel_rfl
@[simp] theorem tzero98 : tzero Try.prog 98 = some [.slice none 0 0] := by kernel_rfl
@[simp] theorem eltp98 : eltp Try.prog 98 = some (4, 1) := by kernel_rfl
@[simp] theorem isSl98 : isSl Try.prog 98 = true := by kernel_rfl
@[simp] theorem tsz105 : tsz Try.prog 105 = some (false, 1) := by kernel_rfl
@[simp] theorem tzero105 : tzero Try.prog 105 = some [.slice none 0 0] := by kernel_rfl
@[simp] theorem eltp105 : eltp Try.prog 105 = some (22, 1) := by kernel_rfl
@[simp] theorem isSl105 : isSl Try.prog 105 = true := by kernel_rfl
@[simp] theorem tsz107 : tsz Try.prog 107 = some (true, 3) := by kernel_rfl
@[simp] theorem tzero107 : tzero Try.prog 107 = some [.slice none 0 0, .int .i64 0, .int .i64 0] := by kernel_rfl
@[simp] theorem finfo107_0 : finfo Try.prog 107 0 = some (0, false, 1) := by kernel_rfl
@[simp] theorem finfo107_1 : finfo Try.prog 107 1 = some (1, false, 1) := by kernel_rfl
@[simp] theorem finfo107_2 : finfo Try.prog 107 2 = some (2, false, 1) := by kernel_rfl
@[simp] theorem bplaces107 : bplaces Try.prog 107 = some [(0, 1), (1, 1), (2, 1)] := by kernel_rfl
@[simp] theorem tsz108 : tsz Try.prog 108 = some (true, 3) := by kernel_rfl
@[simp] theorem tzero108 : tzero Try.prog 108 = some [.slice none 0 0, .int .i64 0, .int .i64 0] := by kernel_rfl
@[simp] theorem finfo108_0 : finfo Try.prog 108 0 = some (0, false, 1) := by kernel_rfl
@[simp] theorem finfo108_1 : finfo Try.prog 108 1 = some (1, false, 1) := by kernel_rfl
@[simp] theorem finfo108_2 : finfo Try.prog 108 2 = some (2, false, 1) := by kernel_rfl
@[simp] theorem bplaces108 : bplaces Try.prog 108 = some [(0, 1), (1, 1), (2, 1)] := by kernel_rfl
@[simp] theorem tsz110 : tsz Try.prog 110 = some (false, 1) := by kernel_rfl
@[simp] theorem tzero110 : tzero Try.prog 110 = some [.int .u64 0] := by kernel_rfl
@[simp] theorem und110 : Try.prog.underlying 110 = some (.int .u64) := by kernel_rfl
@[simp] theorem tsz119 : tsz Try.prog 119 = some (false, 1) := by kernel_rfl
@[simp] theorem tzero119 : tzero Try.prog 119 = some [.int .u32 0] := by kernel_rfl
@[simp] theorem und119 : Try.prog.underlying 119 = some (.int .u32) := by kernel_rfl
@[simp] theorem tsz122 : tsz Try.prog 122 = some (false, 1) := by kernel_rfl
@[simp] theorem tzero122 : tzero Try.prog 122 = some [.int .u64 0] := by kernel_rfl
@[simp] theorem und122 : Try.prog.underlying 122 = some (.int .u64) := by kernel_rfl
@[simp] theorem tsz126 : tsz Try.prog 126 = some (false, 1) := by kernel_rfl
@[simp] theorem tzero126 : tzero Try.prog 126 = some [.int .i64 0] := by kernel_rfl
@[simp] theorem und126 : Try.prog.underlying 126 = some (.int .i64) := by kernel_rfl
@[simp] theorem tsz134 : tsz Try.prog 134 = some (false, 1) := by kernel_rfl
@[simp] theorem tzero134 : tzero Try.prog 134 = some [.int .u64 0] := by kernel_rfl
@[simp] theorem und134 : Try.prog.underlying 134 = some (.int .u64) := by kernel_rfl
@[simp] theorem tsz138 : tsz Try.prog 138 = some (false, 1) := by kernel_rfl
@[simp] theorem tzero138 : tzero Try.prog 138 = some [.pointer none] := by kernel_rfl
@[simp] theorem tsz140 : tsz Try.prog 140 = some (false, 1) := by kernel_rfl
@[simp] theorem tzero140 : tzero Try.prog 140 = some [.pointer none] := by kernel_rfl
@[simp] theorem tsz144 : tsz Try.prog 144 = some (true, 4) := by kernel_rfl
@[simp] theorem tzero144 : tzero Try.prog 144 = some [.pointer none, .pointer none, .pointer none, .string .empty] := by kernel_rfl
@[simp] theorem finfo144_0 : finfo Try.prog 144 0 = some (0, false, 1) := by kernel_rfl
@[simp] theorem finfo144_1 : finfo Try.prog 144 1 = some (1, false, 1) := by kernel_rfl
@[simp] theorem finfo144_2 : finfo Try.prog 144 2 = some (2, false, 1) := by kernel_rfl
@[simp] theorem finfo144_3 : finfo Try.prog 144 3 = some (3, false, 1) := by kernel_rfl
@[simp] theorem bplaces144 : bplaces Try.prog 144 = some [(0, 1), (1, 1), (2, 1), (3, 1)] := by kernel_rfl
@[simp] theorem tsz145 : tsz Try.prog 145 = some (true, 4) := by kernel_rfl
@[simp] theorem tzero145 : tzero Try.prog 145 = some [.pointer none, .pointer none, .pointer none, .string .empty] := by kernel_rfl
@[simp] theorem finfo145_0 : finfo Try.prog 145 0 = some (0, false, 1) := by kernel_rfl
@[simp] theorem finfo145_1 : finfo Try.prog 145 1 = some (1, false, 1) := by kernel_rfl
@[simp] theorem finfo145_2 : finfo Try.prog 145 2 = some (2, false, 1) := by kernel_rfl
@[simp] theorem finfo145_3 : finfo Try.prog 145 3 = some (3, false, 1) := by kernel_rfl
@[simp] theorem bplaces145 : bplaces Try.prog 145 = some [(0, 1), (1, 1), (2, 1), (3, 1)] := by kernel_rfl
@[simp] theorem tsz146 : tsz Try.prog 146 = some (true, 0) := by kernel_rfl
@[simp] theorem tzero146 : tzero Try.prog 146 = some [] := by kernel_rfl
@[simp] theorem tsz147 : tsz Try.prog 147 = some (true, 0) := by kernel_rfl
@[simp] theorem tzero147 : tzero Try.prog 147 = some [] := by kernel_rfl
@[simp] theorem bplaces147 : bplaces Try.prog 147 = some [(0, 0)] := by kernel_rfl
@[simp] theorem tsz148 : tsz Try.prog 148 = some (true, 0) := by kernel_rfl
@[simp] theorem tzero148 : tzero Try.prog 148 = some [] := by kernel_rfl
@[simp] theorem bplaces148 : bplaces Try.prog 148 = some [(0, 0)] := by kernel_rfl
@[simp] theorem tsz150 : tsz Try.prog 150 = some (false, 1) := by kernel_rfl
@[simp] theorem tzero150 : tzero Try.prog 150 = some [.int .u8 0] := by kernel_rfl
@[simp] theorem und150 : Try.prog.underlying 150 = some (.int .u8) := by kernel_rfl
@[simp] theorem tsz151 : tsz Try.prog 151 = some (false, 1) := by kernel_rfl
@[simp] theorem tzero151 : tzero Try.prog 151 = some [.int .u8 0] := by kernel_rfl
@[simp] theorem und151 : Try.prog.underlying 151 = some (.int .u8) := by kernel_rfl
@[simp] theorem tsz153 : tsz Try.prog 153 = some (false, 1) := by kernel_rfl
@[simp] theorem tzero153 : tzero Try.prog 153 = some [.pointer none] := by kernel_rfl
@[simp] theorem tsz154 : tsz Try.prog 154 = some (false, 1) := by kernel_rfl
@[simp] theorem tzero154 : tzero Try.prog 154 = some [.int .i32 0] := by kernel_rfl
@[simp] theorem und154 : Try.prog.underlying 154 = some (.int .i32) := by kernel_rfl
@[simp] theorem tsz155 : tsz Try.prog 155 = some (false, 1) := by kernel_rfl
@[simp] theorem tzero155 : tzero Try.prog 155 = some [.int .i32 0] := by kernel_rfl
@[simp] theorem und155 : Try.prog.underlying 155 = some (.int .i32) := by kernel_rfl
@[simp] theorem tsz156 : tsz Try.prog 156 = some (true, 11) := by kernel_rfl
@[simp] theorem tzero156 : tzero Try.prog 156 = some [.int .u64 0, .int .u64 0, .int .u32 0, .int .u8 0, .int .u8 0, .int .u8 0, .int .u8 0, .nilFunc, .pointer none, .int .i32 0, .int .i32 0] := by kernel_rfl
@[simp] theorem finfo156_0 : finfo Try.prog 156 0 = some (0, false, 1) := by kernel_rfl
@[simp] theorem finfo156_1 : finfo Try.prog 156 1 = some (1, false, 1) := by kernel_rfl
@[simp] theorem finfo156_2 : finfo Try.prog 156 2 = some (2, false, 1) := by kernel_rfl
@[simp] theorem finfo156_3 : finfo Try.prog 156 3 = some (3, false, 1) := by kernel_rfl
@[simp] theorem finfo156_4 : finfo Try.prog 156 4 = some (4, false, 1) := by kernel_rfl
@[simp] theorem finfo156_5 : finfo Try.prog 156 5 = some (5, false, 1) := by kernel_rfl
@[simp] theorem finfo156_6 : finfo Try.prog 156 6 = some (6, false, 1) := by kernel_rfl
@[simp] theorem finfo156_8 : finfo Try.prog 156 8 = some (8, false, 1) := by kernel_rfl
@[simp] theorem finfo156_9 : finfo Try.prog 156 9 = some (9, false, 1) := by kernel_rfl
@[simp] theorem finfo156_10 : finfo Try.prog 156 10 = some (10, false, 1) := by kernel_rfl
@[simp] theorem tsz157 : tsz Try.prog 157 = some (true, 11) := by kernel_rfl
@[simp] theorem tzero157 : tzero Try.prog 157 = some [.int .u64 0, .int .u64 0, .int .u32 0, .int .u8 0, .int .u8 0, .int .u8 0, .int .u8 0, .nilFunc, .pointer none, .int .i32 0, .int .i32 0] := by kernel_rfl
@[simp] theorem finfo157_0 : finfo Try.prog 157 0 = some (0, false, 1) := by kernel_rfl
@[simp] theorem finfo157_1 : finfo Try.prog 157 1 = some (1, false, 1) := by kernel_rfl
@[simp] theorem finfo157_2 : finfo Try.prog 157 2 = some (2, false, 1) := by kernel_rfl
@[simp] theorem finfo157_3 : finfo Try.prog 157 3 = some (3, false, 1) := by kernel_rfl
@[simp] theorem finfo157_4 : finfo Try.prog 157 4 = some (4, false, 1) := by kernel_rfl
@[simp] theorem finfo157_5 : finfo Try.prog 157 5 = some (5, false, 1) := by kernel_rfl
@[simp] theorem finfo157_6 : finfo Try.prog 157 6 = some (6, false, 1) := by kernel_rfl
@[simp] theorem finfo157_8 : finfo Try.prog 157 8 = some (8, false, 1) := by kernel_rfl
@[simp] theorem finfo157_9 : finfo Try.prog 157 9 = some (9, false, 1) := by kernel_rfl
@[simp] theorem finfo157_10 : finfo Try.prog 157 10 = some (10, false, 1) := by kernel_rfl
end Go.Proofs.Ytnakhkfgheapoaa.V
/-! The plain side: grids, meshes. -/
set_option linter.all false
namespace Go.Proofs.Ytnakhkfgheapoaa.V
open Go Go.VM
def rd (b : List Int) (j : Int) : Int := b.getD j.toNat 0
/-- a range, told as one word -/
def inR (lo n hi : Int) : Prop := lo ≤ n ∧ n ≤ hi
instance (lo n hi : Int) : Decidable (inR lo n hi) := inferInstanceAs (Decidable (_ ∧ _))
def okG (w h : Int) : Prop := (1 ≤ w ∧ w ≤ 4) ∧ 1 ≤ h ∧ h ≤ 4
instance (w h : Int) : Decidable (okG w h) := inferInstanceAs (Decidable (_ ∧ _))
def cnt (w h : Int) : Int := if okG w h then w * h else 0
def isN (w h n : Int) : Prop := 0 ≤ n ∧ n < cnt w h
instance (w h n : Int) : Decidable (isN w h n) := inferInstanceAs (Decidable (_ ∧ _))
def nodeAt (w h x y : Int) : Int := if okG w h ∧ (0 ≤ x ∧ x < w) ∧ 0 ≤ y ∧ y < h then y * w + x else -1
def next (w h n p : Int) : Int :=
  if isN w h n then
    (if p = 0 then nodeAt w h (n % w) (n / w - 1) else if p = 1 then nodeAt w h (n % w + 1) (n / w) else if p = 2 then nodeAt w h (n % w) (n / w + 1)
     else if p = 3 then nodeAt w h (n % w - 1) (n / w) else if p = 4 then n else -1)
  else -1
def leads (w h c : Int) : Prop := (0 ≤ c ∧ c < 4 * cnt w h) ∧ 0 ≤ next w h (c / 4) (c % 4)
instance (w h c : Int) : Decidable (leads w h c) := inferInstanceAs (Decidable (_ ∧ _))
def opp (p : Int) : Int := if p = 4 then 4 else if 0 ≤ p ∧ p ≤ 3 then (p + 2) % 4 else -1
def goodAt (w h : Int) (b : List Int) (j : Nat) : Prop := leads w h (b.getD j 0) ∧ (0 < j → b.getD (j - 1) 0 < b.getD j 0)
instance (w h : Int) (b : List Int) (j : Nat) : Decidable (goodAt w h b j) := inferInstanceAs (Decidable (_ ∧ _))
def meshOk (w h : Int) (b : List Int) : Prop := (∀ j, j < b.length → goodAt w h b j) ∧ okG w h
instance (w h : Int) (b : List Int) : Decidable (meshOk w h b) := inferInstanceAs (Decidable (_ ∧ _))
def has (w h : Int) (b : List Int) (c : Int) : Prop := leads w h c ∧ c ∉ b
instance (w h : Int) (b : List Int) (c : Int) : Decidable (has w h b c) := inferInstanceAs (Decidable (_ ∧ _))

theorem mul_small {w h : Int} (h1 : okG w h) : 1 ≤ w * h ∧ w * h ≤ 16 := by
  obtain ⟨⟨a1, a2⟩, b1, b2⟩ := h1
  have c1 : 1 * 1 ≤ w * h := Int.mul_le_mul a1 b1 (by omega) (by omega)
  have c2 : w * h ≤ 4 * 4 := Int.mul_le_mul a2 b2 (by omega) (by omega)
  omega
theorem cnt_range (w h : Int) : 0 ≤ cnt w h ∧ cnt w h ≤ 16 := by
  unfold cnt; split
  · rename_i h1; have := mul_small h1; omega
  · omega
theorem isN_ok {w h n : Int} (h1 : isN w h n) : okG w h ∧ 0 ≤ n ∧ n < w * h ∧ n < 16 := by
  obtain ⟨a, b⟩ := h1
  have := cnt_range w h
  unfold cnt at b; split at b
  · rename_i hg; have := mul_small hg; exact ⟨hg, a, b, by omega⟩
  · omega
theorem w64 {x : Int} (h1 : -9223372036854775808 ≤ x) (h2 : x ≤ 9223372036854775807) : IntKind.i64.wrap x = x := by rw [IntKind.wrap_i64]; omega
end Go.Proofs.Ytnakhkfgheapoaa.V
/-! What the functions on grids return. -/
set_option linter.all false
namespace Go.Proofs.Ytnakhkfgheapoaa.V
open Go Go.VM Go.Proofs
set_option maxRecDepth 10000
variable {frz : Nat} {H : Heap}
theorem inside_c (n lo hi : Int) : vcall C frz 83 [.int .i64 n, .int .i64 lo, .int .i64 hi] H = some (.bool (decide (inR lo n hi)), H) := by
  rw [vcall_go (fn := Try.f83) Try.func83 rfl (by kernel_rfl) rfl]
  simp
  repeat' (first | refine gd_dec _ _ ?_ ?_ | refine br_dec _ ?_ ?_) <;> intro h <;> simp [h, inR]
theorem l01In_c (n lo hi : Int) : vcall C frz 120 [.int .i64 n, .int .i64 lo, .int .i64 hi] H = some (.bool (decide (inR lo n hi)), H) := by
  rw [vcall_go (fn := Try.f120) Try.func120 rfl (by kernel_rfl) rfl]
  simp
  repeat' (first | refine gd_dec _ _ ?_ ?_ | refine br_dec _ ?_ ?_) <;> intro h <;> simp [h, inR]
theorem okG_of {w h : Int} (h1 : inR 1 w 4) (h2 : inR 1 h 4) : okG w h := ⟨h1, h2⟩
theorem gridOk_c (w h : Int) : vcall C frz 109 [.agg #[.int .i64 w, .int .i64 h]] H = some (.bool (decide (okG w h)), H) := by
  rw [vcall_go (fn := Try.f109) Try.func109 rfl (by kernel_rfl) rfl]
  simp [inside_c]
  refine gd_dec _ _ ?_ ?_ <;> intro h1 <;> simp [h1, inside_c]
  · have : okG w h ↔ inR 1 h 4 := ⟨fun g => g.2, fun g => ⟨h1, g⟩⟩
    simp [this]
  · exact fun g => h1 g.1
theorem sGridOk_c (w h : Int) : vcall C frz 132 [.agg #[.int .i64 w, .int .i64 h]] H = some (.bool (decide (okG w h)), H) := by
  rw [vcall_go (fn := Try.f132) Try.func132 rfl (by kernel_rfl) rfl]
  simp [l01In_c]
  refine gd_dec _ _ ?_ ?_ <;> intro h1 <;> simp [h1, l01In_c]
  · have : okG w h ↔ inR 1 h 4 := ⟨fun g => g.2, fun g => ⟨h1, g⟩⟩
    simp [this]
  · exact fun g => h1 g.1
theorem nodeCount_c (w h : Int) : vcall C frz 79 [.agg #[.int .i64 w, .int .i64 h]] H = some (.int .i64 (cnt w h), H) := by
  rw [vcall_go (fn := Try.f79) Try.func79 rfl (by kernel_rfl) rfl]
  simp [gridOk_c]
  refine br_dec _ ?_ ?_ <;> intro h1 <;> simp [h1, cnt]
  have := mul_small h1
  exact w64 (by omega) (by omega)
theorem sNodeCount_c (w h : Int) : vcall C frz 97 [.agg #[.int .i64 w, .int .i64 h]] H = some (.int .i64 (cnt w h), H) := by
  rw [vcall_go (fn := Try.f97) Try.func97 rfl (by kernel_rfl) rfl]
  simp [sGridOk_c]
  refine br_dec _ ?_ ?_ <;> intro h1 <;> simp [h1, cnt]
  have := mul_small h1
  exact w64 (by omega) (by omega)
theorem isN_inR (w h n : Int) : inR 0 n (IntKind.i64.wrap (cnt w h - 1)) ↔ isN w h n := by
  have := cnt_range w h
  rw [w64 (by omega) (by omega)]
  simp only [inR, isN]; omega
theorem isNode_c (w h n : Int) : vcall C frz 84 [.agg #[.int .i64 w, .int .i64 h], .int .i64 n] H = some (.bool (decide (isN w h n)), H) := by
  rw [vcall_go (fn := Try.f84) Try.func84 rfl (by kernel_rfl) rfl]
  simp [nodeCount_c, inside_c, isN_inR]
theorem l02Has_c (w h n : Int) : vcall C frz 89 [.agg #[.int .i64 w, .int .i64 h], .int .i64 n] H = some (.bool (decide (isN w h n)), H) := by
  rw [vcall_go (fn := Try.f89) Try.func89 rfl (by kernel_rfl) rfl]
  simp [sNodeCount_c, l01In_c, isN_inR]
end Go.Proofs.Ytnakhkfgheapoaa.V
/-! What the functions on grids return: places, neighbours, channels. -/
set_option linter.all false
namespace Go.Proofs.Ytnakhkfgheapoaa.V
open Go Go.VM Go.Proofs
set_option maxRecDepth 10000
variable {frz : Nat} {H : Heap}
theorem at_inR (w h x y : Int) (h1 : okG w h) : (inR 0 x (IntKind.i64.wrap (w - 1)) ↔ 0 ≤ x ∧ x < w) ∧ (inR 0 y (IntKind.i64.wrap (h - 1)) ↔ 0 ≤ y ∧ y < h) := by
  obtain ⟨⟨a1, a2⟩, b1, b2⟩ := h1
  rw [w64 (by omega) (by omega), w64 (by omega) (by omega)]
  simp only [inR]; omega
theorem at_val {w h x y : Int} (h1 : okG w h) (h2 : 0 ≤ x ∧ x < w) (h3 : 0 ≤ y ∧ y < h) : IntKind.i64.wrap (IntKind.i64.wrap (y * w) + x) = y * w + x := by
  have hm := mul_small h1
  obtain ⟨⟨a1, a2⟩, b1, b2⟩ := h1
  have c1 : 0 * 0 ≤ y * w := Int.mul_le_mul h3.1 (by omega) (by omega) (by omega)
  have c2 : y * w ≤ h * w := Int.mul_le_mul_of_nonneg_right (by omega) (by omega)
  rw [Int.mul_comm h w] at c2
  rw [w64 (x := y * w) (by omega) (by omega), w64 (by omega) (by omega)]
theorem nodeAt_c (w h x y : Int) : vcall C frz 147 [.agg #[.int .i64 w, .int .i64 h], .int .i64 x, .int .i64 y] H = some (.int .i64 (nodeAt w h x y), H) := by
  rw [vcall_go (fn := Try.f147) Try.func147 rfl (by kernel_rfl) rfl]
  simp [gridOk_c]
  refine gd_dec _ _ ?_ ?_ <;> intro h1 <;> simp [h1, inside_c, nodeAt]
  obtain ⟨e1, e2⟩ := at_inR w h x y h1
  simp only [e1, e2]
  refine gd_dec _ _ ?_ ?_ <;> intro h2 <;> simp [h2, inside_c]
  simp only [e2]
  refine br_dec _ ?_ ?_ <;> intro h3 <;> simp [h3]
  exact at_val h1 h2 h3
theorem sNodeAt_c (w h x y : Int) : vcall C frz 151 [.agg #[.int .i64 w, .int .i64 h], .int .i64 x, .int .i64 y] H = some (.int .i64 (nodeAt w h x y), H) := by
  rw [vcall_go (fn := Try.f151) Try.func151 rfl (by kernel_rfl) rfl]
  simp [sGridOk_c]
  refine gd_dec _ _ ?_ ?_ <;> intro h1 <;> simp [h1, l01In_c, nodeAt]
  obtain ⟨e1, e2⟩ := at_inR w h x y h1
  simp only [e1, e2]
  refine gd_dec _ _ ?_ ?_ <;> intro h2 <;> simp [h2, l01In_c]
  simp only [e2]
  refine br_dec _ ?_ ?_ <;> intro h3 <;> simp [h3]
  exact at_val h1 h2 h3
theorem nodeAt_range (w h x y : Int) : -1 ≤ nodeAt w h x y ∧ nodeAt w h x y < 16 := by
  unfold nodeAt
  split
  · rename_i h1
    obtain ⟨h1, h2, h3⟩ := h1
    have hm := mul_small h1
    obtain ⟨⟨a1, a2⟩, b1, b2⟩ := h1
    have c1 : 0 * 0 ≤ y * w := Int.mul_le_mul h3.1 (by omega) (by omega) (by omega)
    have c2 : y * w ≤ (h - 1) * w := Int.mul_le_mul_of_nonneg_right (by omega) (by omega)
    rw [Int.sub_mul, Int.mul_comm h w] at c2
    omega
  · omega
theorem tdiv_of {n w : Int} (h : 0 ≤ n) (h1 : 1 ≤ w) (h2 : n < 16) : IntKind.i64.wrap (n.tdiv w) = n / w := by
  rw [Int.tdiv_eq_ediv_of_nonneg h]
  have h3 := Int.ediv_le_self w h
  have h4 := Int.ediv_nonneg h (by omega : 0 ≤ w)
  exact w64 (by omega) (by omega)
theorem tmod_of {n w : Int} (h : 0 ≤ n) : n.tmod w = n % w := Int.tmod_eq_emod_of_nonneg h
theorem div_small {n w : Int} (h : 0 ≤ n) (h1 : 1 ≤ w) (h2 : n < 16) : 0 ≤ n / w ∧ n / w < 16 := ⟨Int.ediv_nonneg h (by omega), by have := Int.ediv_le_self w h; omega⟩
theorem mod_small {n w : Int} (h1 : 1 ≤ w) (h2 : w ≤ 4) : 0 ≤ n % w ∧ n % w < 4 := ⟨Int.emod_nonneg _ (by omega), by have := Int.emod_lt_of_pos n (by omega : 0 < w); omega⟩
theorem nextNode_c (w h n p : Int) : vcall C frz 127 [.agg #[.int .i64 w, .int .i64 h], .int .i64 n, .int .i64 p] H = some (.int .i64 (next w h n p), H) := by
  rw [vcall_go (fn := Try.f127) Try.func127 rfl (by kernel_rfl) rfl]
  simp [isNode_c]
  refine br_dec _ ?_ ?_ <;> intro h1 <;> simp [h1, next]
  obtain ⟨⟨⟨a1, a2⟩, b1, b2⟩, g2, g3, g4⟩ := isN_ok h1
  rw [go_draw (h := by kernel_rfl)]
  simp
  refine vneed_eq (by omega) ?_
  refine vneed_eq (by omega) ?_
  obtain ⟨d1, d2⟩ := div_small g2 a1 g4
  obtain ⟨m1, m2⟩ := mod_small (n := n) a1 a2
  rw [tdiv_of g2 a1 g4, tmod_of g2]
  refine br_dec _ ?_ ?_ <;> intro p0 <;> simp [p0, nodeAt_c]
  · rw [w64 (by omega) (by omega)]
  refine br_dec _ ?_ ?_ <;> intro p1 <;> simp [p1, nodeAt_c]
  · rw [w64 (by omega) (by omega)]
  refine br_dec _ ?_ ?_ <;> intro p2 <;> simp [p2, nodeAt_c]
  · rw [w64 (by omega) (by omega)]
  refine br_dec _ ?_ ?_ <;> intro p3 <;> simp [p3, nodeAt_c]
  · rw [w64 (by omega) (by omega)]
  refine br_dec _ ?_ ?_ <;> intro p4 <;> simp [p4, nodeAt_c]
theorem sNextNode_c (w h n p : Int) : vcall C frz 133 [.agg #[.int .i64 w, .int .i64 h], .int .i64 n, .int .i64 p] H = some (.int .i64 (next w h n p), H) := by
  rw [vcall_go (fn := Try.f133) Try.func133 rfl (by kernel_rfl) rfl]
  simp [l02Has_c]
  refine br_dec _ ?_ ?_ <;> intro h1 <;> simp [h1, next]
  obtain ⟨⟨⟨a1, a2⟩, b1, b2⟩, g2, g3, g4⟩ := isN_ok h1
  refine vneed_eq (by omega) ?_
  refine vneed_eq (by omega) ?_
  obtain ⟨d1, d2⟩ := div_small g2 a1 g4
  obtain ⟨m1, m2⟩ := mod_small (n := n) a1 a2
  rw [tdiv_of g2 a1 g4, tmod_of g2]
  refine br_dec _ ?_ ?_ <;> intro p0 <;> simp [p0, sNodeAt_c]
  · rw [w64 (by omega) (by omega)]
  refine br_dec _ ?_ ?_ <;> intro p1 <;> simp [p1, sNodeAt_c]
  · rw [w64 (by omega) (by omega)]
  refine br_dec _ ?_ ?_ <;> intro p2 <;> simp [p2, sNodeAt_c]
  · rw [w64 (by omega) (by omega)]
  refine br_dec _ ?_ ?_ <;> intro p3 <;> simp [p3, sNodeAt_c]
  · rw [w64 (by omega) (by omega)]
  refine br_dec _ ?_ ?_ <;> intro p4 <;> simp [p4, sNodeAt_c]
theorem next_range (w h n p : Int) : -1 ≤ next w h n p ∧ next w h n p < 16 := by
  unfold next
  split
  · rename_i h1
    have := isN_ok h1
    have a0 := nodeAt_range w h (n % w) (n / w - 1)
    have a1 := nodeAt_range w h (n % w + 1) (n / w)
    have a2 := nodeAt_range w h (n % w) (n / w + 1)
    have a3 := nodeAt_range w h (n % w - 1) (n / w)
    repeat' split
    all_goals omega
  · omega
theorem chan_inR (w h c : Int) : inR 0 c (IntKind.i64.wrap (IntKind.i64.wrap (4 * cnt w h) - 1)) ↔ 0 ≤ c ∧ c < 4 * cnt w h := by
  have := cnt_range w h
  rw [w64 (x := 4 * cnt w h) (by omega) (by omega), w64 (by omega) (by omega)]
  simp only [inR]; omega
theorem chan_div {w h c : Int} (h1 : 0 ≤ c ∧ c < 4 * cnt w h) : IntKind.i64.wrap (c.tdiv 4) = c / 4 ∧ c.tmod 4 = c % 4 := by
  have := cnt_range w h
  rw [Int.tdiv_eq_ediv_of_nonneg h1.1, Int.tmod_eq_emod_of_nonneg h1.1]
  exact ⟨w64 (by omega) (by omega), rfl⟩
theorem leads_c (w h c : Int) : vcall C frz 108 [.agg #[.int .i64 w, .int .i64 h], .int .i64 c] H = some (.bool (decide (leads w h c)), H) := by
  rw [vcall_go (fn := Try.f108) Try.func108 rfl (by kernel_rfl) rfl]
  simp [nodeCount_c, inside_c]
  refine gd_dec _ _ ?_ ?_ <;> intro h1 <;> simp [h1]
  · rw [chan_inR] at h1
    obtain ⟨e1, e2⟩ := chan_div h1
    simp [e1, e2, nextNode_c, leads, h1]
  · rw [chan_inR] at h1
    exact fun g => h1 g.1
theorem l03Leads_c (w h c : Int) : vcall C frz 123 [.agg #[.int .i64 w, .int .i64 h], .int .i64 c] H = some (.bool (decide (leads w h c)), H) := by
  rw [vcall_go (fn := Try.f123) Try.func123 rfl (by kernel_rfl) rfl]
  simp [sNodeCount_c, l01In_c]
  refine gd_dec _ _ ?_ ?_ <;> intro h1 <;> simp [h1]
  · rw [chan_inR] at h1
    obtain ⟨e1, e2⟩ := chan_div h1
    simp [e1, e2, sNextNode_c, leads, h1]
  · rw [chan_inR] at h1
    exact fun g => h1 g.1
end Go.Proofs.Ytnakhkfgheapoaa.V
/-! What the laws' own functions return: arguments copied, compared, counted. -/
set_option linter.all false
namespace Go.Proofs.Ytnakhkfgheapoaa.V
open Go Go.VM Go.Proofs
set_option maxRecDepth 10000
variable {frz : Nat} {H : Heap}
theorem getD_get (xs : List Int) (i : Nat) (h : i < xs.length) : xs.getD i 0 = xs[i] := by simp [List.getD_eq_getElem?_getD, h]
theorem szIntS_c (v : Value) (xs : List Int) (n : Int) (hI : IsI H v xs) (h0 : 0 ≤ n) (h1 : n ≤ 1048576) (h2 : xs.length ≤ 9223372036854775807) :
    vcall C frz 87 [v, .int .i64 n] H = some (.int .i64 (if n < xs.length then -1 else n - xs.length), H) := by
  rw [vcall_go (fn := Try.f87) Try.func87 rfl (by kernel_rfl) rfl]
  simp [hI.len]
  rw [w64 (by omega) (by omega)]
  refine br_dec _ ?_ ?_ <;> intro h <;> simp [h]
  · intro hh; omega
  · intro hh; omega
theorem toIntS_c (v : Value) (xs : List Int) (hI : IsI H v xs) (hb : xs.length ≤ 1073741824) :
   vcall C frz 16 [v] H = some (.slice (some ⟨H.length, 0, some 0⟩) xs.length 0, H ++ [⟨xs.map (.int .i64), 0, 3⟩]) := by
  rw [vcall_go (fn := Try.f16) Try.func16 rfl (by kernel_rfl) rfl]
  simp [hI.len]
  refine vneed_eq (by omega) ?_
  refine go_inv (fun n t H' => ∃ i : Nat, n = xs.length - i ∧ i ≤ xs.length ∧ t 0 = v ∧ t 3 = .slice (some ⟨H.length, 0, some 0⟩) xs.length 0 ∧ t 4 = .int .i64 i ∧
    H' = H ++ [⟨(xs.map (.int .i64)).take i ++ List.replicate (xs.length - i) (.int .i64 0), 0, 3⟩]) ?_ (n := xs.length) ⟨0, by simp⟩
  rintro n t H' ⟨i, rfl, hi, h0, h3, h4, rfl⟩ ih
  simp [h0, h3, h4, hI.lenA]
  refine br_dec _ ?_ ?_ <;> intro h
  · simp [h0, h3, h4, h, hI.idxA, hI.loadA, getD_get]
    refine vneed_eq (by omega) ?_
    refine ih (xs.length - (i + 1)) _ _ ⟨i + 1, rfl, by omega, by simp [h0], by simp [h3], ?_, ?_⟩ (by omega)
    · simp; rw [w64 (by omega) (by omega)]
    · rw [splice_fill' _ _ _ _ h]
  · have : i = xs.length := by omega
    subst this
    simp [h0, h3, h4, scrub_ints]
end Go.Proofs.Ytnakhkfgheapoaa.V
/-! What the laws' own functions return: meshes copied and compared. -/
set_option linter.all false
namespace Go.Proofs.Ytnakhkfgheapoaa.V
open Go Go.VM Go.Proofs
set_option maxRecDepth 10000
variable {frz : Nat} {H : Heap}
theorem eqIntS_c (a b : Value) (xs ys : List Int) (ha : IsI H a xs) (hb : IsI H b ys) (hl : xs.length ≤ 1073741824) :
   vcall C frz 18 [a, b] H = some (.bool (decide (xs = ys)), H) := by
  rw [vcall_go (fn := Try.f18) Try.func18 rfl (by kernel_rfl) rfl]
  simp [ha.len, hb.len]
  refine br_dec _ ?_ ?_ <;> intro h0 <;> simp [h0]
  · refine go_inv (fun n t H' => ∃ i : Nat, n = xs.length - i ∧ i ≤ xs.length ∧ t 0 = a ∧ t 1 = b ∧ t 5 = .int .i64 i ∧ H' = H ∧ xs.take i = ys.take i) ?_ (n := xs.length) ⟨0, by simp⟩
    rintro n t H' ⟨i, rfl, hi, h1, h2, h3, rfl, h4⟩ ih
    simp [h1, h2, h3, ha.len]
    refine br_dec _ ?_ ?_ <;> intro h
    · have h' : i < ys.length := by omega
      simp [h1, h2, h3, h]
      rw [go_draw (h := by kernel_rfl)]
      simp [h1, h2, h3, h, h', ha.idx, ha.load, hb.idx, hb.load, getD_get]
      refine br_dec _ ?_ ?_ <;> intro h5 <;> simp [h1, h2, h3, h5]
      · refine ih (xs.length - (i + 1)) _ _ ⟨i + 1, rfl, by omega, by simp [h1], by simp [h2], ?_, rfl, ?_⟩ (by omega)
        · simp; rw [w64 (by omega) (by omega)]
        · rw [List.take_succ_eq_append_getElem h, List.take_succ_eq_append_getElem h', h4]; simp [h5]
      · intro hh; subst hh; simp at h5
    · have : i = xs.length := by omega
      subst this
      simp [h1, h2, h3]
      rw [List.take_length, List.take_of_length_le (by omega)] at h4
      exact h4
  · intro hh; exact h0 (by rw [hh])
theorem toGrid_c (w h : Int) : vcall C frz 91 [.agg #[.int .i64 w, .int .i64 h]] H = some (.agg #[.int .i64 w, .int .i64 h], H) := by
  rw [vcall_go (fn := Try.f91) Try.func91 rfl (by kernel_rfl) rfl]
  simp
theorem szMesh_c (w h : Int) (v : Value) (xs : List Int) (n : Int) (hI : IsI H v xs) (h0 : 0 ≤ n) (h1 : n ≤ 1048576) (h2 : xs.length ≤ 9223372036854775807) :
    vcall C frz 33 [.agg #[.int .i64 w, .int .i64 h, v], .int .i64 n] H = some (.int .i64 (if n < xs.length then -1 else n - xs.length), H) := by
  rw [vcall_go (fn := Try.f33) Try.func33 rfl (by kernel_rfl) rfl]
  simp [szIntS_c _ _ _ (hI.app _) h0 h1 h2, hI.one', hI.cells]
  refine br_dec _ ?_ ?_ <;> intro h <;> simp [h]
  · intro hh; omega
theorem toMesh_c (w h : Int) (v : Value) (xs : List Int) (hI : IsI H v xs) (hb : xs.length ≤ 1073741824) :
   vcall C frz 35 [.agg #[.int .i64 w, .int .i64 h, v]] H = some (.agg #[.int .i64 w, .int .i64 h, .slice (some ⟨H.length, 0, some 0⟩) xs.length 0], H ++ [⟨xs.map (.int .i64), 0, 3⟩]) := by
  rw [vcall_go (fn := Try.f35) Try.func35 rfl (by kernel_rfl) rfl]
  simp [toGrid_c, toIntS_c _ _ (hI.app _) hb, hI.one', hI.cells]
theorem eqGrid_c (w h w' h' : Int) : vcall C frz 93 [.agg #[.int .i64 w, .int .i64 h], .agg #[.int .i64 w', .int .i64 h']] H = some (.bool (decide (w = w' ∧ h = h')), H) := by
  rw [vcall_go (fn := Try.f93) Try.func93 rfl (by kernel_rfl) rfl]
  simp
  refine br_dec _ ?_ ?_ <;> intro h0 <;> simp [h0]
  refine br_dec _ ?_ ?_ <;> intro h0 <;> simp [h0]
theorem eqMesh_c (w h w' h' : Int) (a b : Value) (xs ys : List Int) (ha : IsI H a xs) (hb : IsI H b ys) (hl : xs.length ≤ 1073741824) :
   vcall C frz 38 [.agg #[.int .i64 w, .int .i64 h, a], .agg #[.int .i64 w', .int .i64 h', b]] H = some (.bool (decide ((w = w' ∧ h = h') ∧ xs = ys)), H) := by
  rw [vcall_go (fn := Try.f38) Try.func38 rfl (by kernel_rfl) rfl]
  simp [eqGrid_c, ha.one', hb.one', ha.cells, hb.cells, -Bool.decide_and]
  refine br_dec _ ?_ ?_ <;> intro h0 <;> simp [h0, eqIntS_c _ _ _ _ (ha.app _) (hb.app _) hl]
  refine br_dec _ ?_ ?_ <;> intro h0 <;> simp [h0]
end Go.Proofs.Ytnakhkfgheapoaa.V
/-! slices.Concat on two slices of numbers. -/
set_option linter.all false
namespace Go.Proofs.Ytnakhkfgheapoaa.V
open Go Go.VM Go.Proofs
set_option maxRecDepth 10000
variable {frz : Nat} {H : Heap}
theorem wr0 : IntKind.i64.wrap 0 = 0 := by decide
theorem grow0_c : vcall C frz 121 [.slice none 0 0, .int .i64 0] H = some (.slice none 0 0, H) := by
  rw [vcall_go (fn := Try.f121) Try.func121 rfl (by kernel_rfl) rfl]
  simp [wr0]
theorem grow_c (n : Int) (h0 : 0 < n) (h1 : n ≤ 1073741824) :
   vcall C frz 121 [.slice none 0 0, .int .i64 n] H = some (.slice (some ⟨H.length, 0, some 0⟩) 0 0, H ++ [⟨[], 0, 3⟩]) := by
  rw [vcall_go (fn := Try.f121) Try.func121 rfl (by kernel_rfl) rfl]
  have e : IntKind.i64.wrap n = n := w64 (by omega) (by omega)
  simp [wr0, e, h0]
  refine br_dec _ ?_ ?_ <;> intro h2
  · omega
  simp [h2, wr0, e, h0]
  exact vneed_eq h1 (vneed_eq (by omega) rfl)
theorem concat_c (id : Nat) (x y : Value) (xs ys : List Int) (hr : H[id]? = some ⟨[x, y], 0, 22⟩) (hx : IsI H x xs) (hy : IsI H y ys) (hl : xs.length + ys.length ≤ 1073741824) :
   vcall C frz 73 [.slice (some ⟨id, 0, some 0⟩) 2 0] H = some (if xs ++ ys = [] then (.slice none 0 0, H) else (.slice (some ⟨H.length, 0, some 0⟩) (xs ++ ys).length 0, H ++ [⟨(xs ++ ys).map (.int .i64), 0, 3⟩])) := by
  rw [vcall_go (fn := Try.f73) Try.func73 rfl (by kernel_rfl) rfl]
  simp [VM.look, hr]
  have lk0 : ∀ o, VM.look H ⟨id, o, some 0⟩ = some ⟨[x, y], 0, 22⟩ := fun o => by simp [VM.look, hr]
  have lk : ∀ L o, VM.look (H ++ L) ⟨id, o, some 0⟩ = some ⟨[x, y], 0, 22⟩ := fun L o => by
    simp [VM.look, List.getElem?_append_left (List.getElem?_eq_some_iff.1 hr).1, hr]
  have e1 : IntKind.i64.wrap (xs.length : Int) = xs.length := w64 (by omega) (by omega)
  have e2 : IntKind.i64.wrap ((xs.length : Int) + ys.length) = xs.length + ys.length := w64 (by omega) (by omega)
  have n1 : ¬ (xs.length : Int) < 0 := by omega
  have n2 : ¬ (xs.length : Int) + ys.length < 0 := by omega
  have wr1 : IntKind.i64.wrap 1 = 1 := by decide
  have wr2 : IntKind.i64.wrap 2 = 2 := by decide
  rw [go_loop]
  simp [VM.look, hr, hx.len, hy.len, wr0, wr1, wr2, e1, n1]
  rw [go_again, go_loop]
  simp [VM.look, hr, hx.len, hy.len, wr0, wr1, wr2, e1, e2, n1, n2]
  rw [go_again, go_loop]
  simp [VM.look, hr, hx.len, hy.len, wr0, wr1, wr2, e1, e2, n1, n2]
  by_cases h0 : xs.length + ys.length = 0
  · obtain rfl : xs = [] := List.length_eq_zero_iff.1 (by omega)
    obtain rfl : ys = [] := List.length_eq_zero_iff.1 (by omega)
    simp [grow0_c, lk0]
    rw [go_loop]
    simp [lk0, hx.src, wr0, wr1]
    rw [go_again, go_loop]
    simp [lk0, hy.src, wr0, wr1, wr2]
    rw [go_again, go_loop]
    simp [lk0, wr0, wr1, wr2]
  · have hno : ¬ (xs = [] ∧ ys = []) := fun ⟨a, b⟩ => h0 (by rw [a, b]; rfl)
    simp [grow_c _ (show (0 : Int) < xs.length + ys.length by omega) (by omega), hno, lk]
    rw [go_loop]
    simp [lk, (hx.app _).src, wr0, wr1]
    by_cases hx0 : xs = []
    · have hy0 : ys ≠ [] := fun hh => hno ⟨hx0, hh⟩
      have hyl : ys.length ≤ 1073741824 := by omega
      simp [hx0]
      rw [go_again, go_loop]
      simp [lk, (hy.app _).src, wr0, wr1, wr2, hy0, hyl]
      rw [go_again, go_loop]
      simp [lk, wr0, wr1, wr2]
    · have hxl : xs.length ≤ 1073741824 := by omega
      simp [hx0, hxl]
      rw [go_again, go_loop]
      simp [lk, (hy.app _).src, wr0, wr1, wr2]
      by_cases hy0 : ys = []
      · simp [hy0]
        rw [go_again, go_loop]
        simp [lk, wr0, wr1, wr2]
      · simp [hy0, hl]
        rw [go_again, go_loop]
        simp [lk, wr0, wr1, wr2]
end Go.Proofs.Ytnakhkfgheapoaa.V
/-! What the functions on meshes return. -/
set_option linter.all false
namespace Go.Proofs.Ytnakhkfgheapoaa.V
open Go Go.VM Go.Proofs
set_option maxRecDepth 10000
variable {frz : Nat} {H : Heap}
theorem goodAt_bad {w h : Int} {b : List Int} {i : Nat} (h5 : i < b.length) (hg : ¬ goodAt w h b i) : ¬ meshOk w h b := fun hh => hg (hh.1 i h5)
theorem goodAt_succ {w h : Int} {b : List Int} {i : Nat} (hj : ∀ j < i, goodAt w h b j) (hg : goodAt w h b i) : ∀ j < i + 1, goodAt w h b j := fun j hh => by
  by_cases hji : j < i
  · exact hj j hji
  · have : j = i := by omega
    rw [this]; exact hg
theorem goodAt_iff {w h : Int} {b : List Int} {i : Nat} (h5 : i < b.length) : goodAt w h b i ↔ leads w h b[i] ∧ (0 < i → b[i - 1] < b[i]) := by
  unfold goodAt
  rw [getD_get _ _ h5]
  refine and_congr Iff.rfl ⟨fun g p => ?_, fun g p => ?_⟩
  · have := g p; rwa [getD_get _ _ (by omega)] at this
  · rw [getD_get _ _ (by omega)]; exact g p
theorem sMeshOk_c (w h : Int) (v : Value) (b : List Int) (hI : IsI H v b) (hl : b.length ≤ 1073741824) :
   vcall C frz 106 [.agg #[.int .i64 w, .int .i64 h, v]] H = some (.bool (decide (meshOk w h b)), H) := by
  rw [vcall_go (fn := Try.f106) Try.func106 rfl (by kernel_rfl) rfl]
  simp [hI.one', hI.cells, hI.lenA, sGridOk_c]
  refine br_dec _ ?_ ?_ <;> intro hg <;> simp [hg]
  · refine go_inv (fun n t H' => ∃ i : Nat, n = b.length - i ∧ i ≤ b.length ∧ t 1 = .pointer (some ⟨H.length, 0, some 0⟩) ∧ t 3 = .int .i64 i ∧
      H' = H ++ [⟨[.int .i64 w, .int .i64 h, v], 0, 33⟩] ∧ ∀ j < i, goodAt w h b j) ?_ (n := b.length) ⟨0, by simp⟩
    rintro n t H' ⟨i, rfl, hi, h1, h3, rfl, hj⟩ ih
    have next := fun (t' : Env) (e1 : t' 1 = .pointer (some ⟨H.length, 0, some 0⟩)) (e2 : t' 3 = .int .i64 (i + 1 : Nat)) (e3 : i < b.length) (e4 : goodAt w h b i) =>
      ih (b.length - (i + 1)) t' _ ⟨i + 1, rfl, by omega, e1, e2, rfl, goodAt_succ hj e4⟩ (by omega)
    simp [h1, h3, hI.lenA]
    refine br_dec _ ?_ ?_ <;> intro h5
    · simp [h1, h3, h5]
      rw [go_draw (h := by kernel_rfl)]
      simp [h1, h3, h5, hI.idxA, hI.loadA, getD_get, l03Leads_c]

      refine gd_dec _ _ ?_ ?_ <;> intro hL <;> simp [h1, h3, h5, hL]
      · refine gd_dec _ _ ?_ ?_ <;> intro h0
        · have e : IntKind.i64.wrap ((i : Int) - 1) = ((i - 1 : Nat) : Int) := by rw [w64 (by omega) (by omega)]; omega
          have e' : i - 1 < b.length := by omega
          simp [h1, h3, h5, h0, hL, hI.idxA, hI.loadA, getD_get, e, e']
          refine br_dec _ ?_ ?_ <;> intro h6
          · simp [h1, h3, h5, h0, hL, h6]
            refine goodAt_bad h5 ?_
            rw [goodAt_iff h5]
            exact fun hh => absurd (hh.2 h0) (by omega)
          · simp [h1, h3, h5, h0, hL, h6]
            refine next _ (by simp [h1]) ?_ h5 ((goodAt_iff h5).2 ⟨hL, fun _ => by omega⟩)
            simp; rw [w64 (by omega) (by omega)]
        · simp [h1, h3, h5, h0, hL]
          refine next _ (by simp [h1]) ?_ h5 ((goodAt_iff h5).2 ⟨hL, fun hh => absurd hh h0⟩)
          simp; rw [w64 (by omega) (by omega)]
      · refine goodAt_bad h5 ?_
        rw [goodAt_iff h5]
        exact fun hh => hL hh.1
    · have : i = b.length := by omega
      subst this
      simp [h1, h3]
      exact ⟨hj, hg⟩
  · exact fun hh => hg hh.2
theorem notin_succ {b : List Int} {c : Int} {i : Nat} (h : i < b.length) (h1 : c ∉ b.take i) (h2 : ¬ b[i] = c) : c ∉ b.take (i + 1) := by
  rw [List.take_succ_eq_append_getElem h]
  simp only [List.mem_append, List.mem_singleton, not_or]
  exact ⟨h1, fun hh => h2 hh.symm⟩
/-- the place of a number, or -1 -/
def place (b : List Int) (c : Int) : Int := if c ∈ b then b.idxOf c else -1
theorem place_range (b : List Int) (c : Int) : -1 ≤ place b c ∧ place b c < b.length ∧ (0 ≤ place b c ↔ c ∈ b) := by
  unfold place
  split
  · rename_i h
    have := List.idxOf_lt_length_iff.2 h
    refine ⟨by omega, by omega, ?_⟩
    simp [h]
  · rename_i h
    refine ⟨by omega, by omega, ?_⟩
    simp [h]
theorem place_at {b : List Int} {c : Int} {i : Nat} (h : i < b.length) (h1 : c ∉ b.take i) (h2 : b[i] = c) : place b c = i := by
  have hm : c ∈ b := h2 ▸ List.getElem_mem h
  unfold place
  rw [if_pos hm]
  have e : b = b.take i ++ b.drop i := (List.take_append_drop i b).symm
  have e2 : b.drop i = c :: b.drop (i + 1) := by rw [List.drop_eq_getElem_cons h, h2]
  rw [e, List.idxOf_append, if_neg h1, e2, List.idxOf_cons_self]
  simp; omega
theorem find_c (v : Value) (b : List Int) (c : Int) (hI : IsI H v b) (hl : b.length ≤ 1073741824) :
   vcall C frz 119 [v, .int .i64 c] H = some (.bool (decide (c ∈ b)), H) := by
  rw [vcall_go (fn := Try.f119) Try.func119 rfl (by kernel_rfl) rfl]
  simp [hI.len]
  refine go_inv (fun n t H' => ∃ i : Nat, n = b.length - i ∧ i ≤ b.length ∧ t 0 = v ∧ t 1 = .int .i64 c ∧ t 5 = .int .i64 i ∧ H' = H ∧ c ∉ b.take i) ?_ (n := b.length) ⟨0, by simp⟩
  rintro n t H' ⟨i, rfl, hi, h1, h2, h3, rfl, hj⟩ ih
  simp [h1, h2, h3, hI.len]
  refine br_dec _ ?_ ?_ <;> intro h5
  · simp [h1, h2, h3, h5, hI.idx, hI.load, getD_get]
    refine br_dec _ ?_ ?_ <;> intro h6 <;> simp [h1, h2, h3, h6]
    · rw [← h6]; exact List.getElem_mem h5
    · refine ih (b.length - (i + 1)) _ _ ⟨i + 1, rfl, by omega, by simp [h1], by simp [h2], ?_, rfl, notin_succ h5 hj h6⟩ (by omega)
      simp; rw [w64 (by omega) (by omega)]
  · have : i = b.length := by omega
    subst this
    simp [h1, h2, h3]
    rwa [List.take_length] at hj
theorem index_c (v : Value) (b : List Int) (c : Int) (hI : IsI H v b) (hl : b.length ≤ 1073741824) :
   vcall C frz 71 [v, .int .i64 c] H = some (.int .i64 (place b c), H) := by
  rw [vcall_go (fn := Try.f71) Try.func71 rfl (by kernel_rfl) rfl]
  simp [hI.len]
  refine go_inv (fun n t H' => ∃ i : Nat, n = b.length - i ∧ i ≤ b.length ∧ t 0 = v ∧ t 1 = .int .i64 c ∧ t 6 = v ∧ t 7 = .int .i64 b.length ∧ t 8 = .int .i64 i ∧ H' = H ∧ c ∉ b.take i) ?_ (n := b.length) ⟨0, by simp⟩
  rintro n t H' ⟨i, rfl, hi, h0, h1, h2, h3, h4, rfl, hj⟩ ih
  simp [h0, h1, h2, h3, h4, hI.len]
  refine br_dec _ ?_ ?_ <;> intro h5
  · simp [h0, h1, h2, h3, h4, h5, hI.idx, hI.load, getD_get]
    refine br_dec _ ?_ ?_ <;> intro h6 <;> simp [h0, h1, h2, h3, h4, h6]
    · rw [place_at (c := b[i]) h5 (by first | exact hj | (rw [h6]; exact hj) | (rw [← h6]; exact hj)) rfl]
    · refine ih (b.length - (i + 1)) _ _ ⟨i + 1, rfl, by omega, by simp [h0], by simp [h1], by simp [h2], by simp [h3], ?_, rfl, notin_succ h5 hj (by omega)⟩ (by omega)
      simp; rw [w64 (by omega) (by omega)]
  · have : i = b.length := by omega
    subst this
    simp [h0, h1, h2, h3]
    rw [List.take_length] at hj
    rw [place, if_neg hj]
theorem contains_c (v : Value) (b : List Int) (c : Int) (hI : IsI H v b) (hl : b.length ≤ 1073741824) :
   vcall C frz 82 [v, .int .i64 c] H = some (.bool (decide (c ∈ b)), H) := by
  rw [vcall_go (fn := Try.f82) Try.func82 rfl (by kernel_rfl) rfl]
  simp [index_c _ _ _ hI hl, place_range]
theorem l03Has_c (w h : Int) (v : Value) (b : List Int) (c : Int) (hI : IsI H v b) (hl : b.length ≤ 1073741824) :
   vcall C frz 107 [.agg #[.int .i64 w, .int .i64 h, v], .int .i64 c] H = some (.bool (decide (has w h b c)), H) := by
  rw [vcall_go (fn := Try.f107) Try.func107 rfl (by kernel_rfl) rfl]
  simp [hI.one', hI.cells, l03Leads_c]
  refine gd_dec _ _ ?_ ?_ <;> intro h1 <;> simp [h1, find_c _ _ _ (hI.app _) hl, has, -Bool.decide_and]
theorem l31Ok_c (w h : Int) (v : Value) (b : List Int) (r : Int) (hI : IsI H v b) (hl : b.length ≤ 1073741824) :
   vcall C frz 148 [.agg #[.int .i64 w, .int .i64 h, v], .int .i64 r] H = some (.bool (decide (meshOk w h b ∧ isN w h r)), H) := by
  rw [vcall_go (fn := Try.f148) Try.func148 rfl (by kernel_rfl) rfl]
  simp [hI.one', hI.cells, sMeshOk_c _ _ _ _ (hI.app _) hl]
  refine gd_dec _ _ ?_ ?_ <;> intro h1 <;> simp [h1, l02Has_c, -Bool.decide_and]
theorem endOf_c (w h : Int) (v : Value) (b : List Int) (c : Int) (hI : IsI H v b) (h0 : leads w h c) :
   vcall C frz 81 [.agg #[.int .i64 w, .int .i64 h, v], .int .i64 c] H = some (.int .i64 (next w h (c / 4) (c % 4)), H) := by
  rw [vcall_go (fn := Try.f81) Try.func81 rfl (by kernel_rfl) rfl]
  obtain ⟨e1, e2⟩ := chan_div h0.1
  simp [hI.one', hI.cells, e1, e2, nextNode_c]
theorem meshOk_c (w h : Int) (v : Value) (b : List Int) (hI : IsI H v b) (hl : b.length ≤ 1073741824) :
   vcall C frz 56 [.agg #[.int .i64 w, .int .i64 h, v]] H = some (.bool (decide (meshOk w h b)), H) := by
  rw [vcall_go (fn := Try.f56) Try.func56 rfl (by kernel_rfl) rfl]
  simp [hI.one', hI.cells, hI.lenA]
  refine go_inv (fun n t H' => ∃ i : Nat, n = b.length - i ∧ i ≤ b.length ∧ t 1 = .pointer (some ⟨H.length, 0, some 0⟩) ∧ t 6 = v ∧ t 7 = .int .i64 b.length ∧ t 8 = .int .i64 i ∧
      H' = H ++ [⟨[.int .i64 w, .int .i64 h, v], 0, 33⟩] ∧ ∀ j < i, goodAt w h b j) ?_ (n := b.length) ⟨0, by simp⟩
  rintro n t H' ⟨i, rfl, hi, h1, h2, h3, h4, rfl, hj⟩ ih
  have next := fun (t' : Env) (e1 : t' 1 = .pointer (some ⟨H.length, 0, some 0⟩)) (e2 : t' 6 = v) (e3 : t' 7 = .int .i64 b.length) (e4 : t' 8 = .int .i64 (i + 1 : Nat)) (e5 : i < b.length) (e6 : goodAt w h b i) =>
      ih (b.length - (i + 1)) t' _ ⟨i + 1, rfl, by omega, e1, e2, e3, e4, rfl, goodAt_succ hj e6⟩ (by omega)
  simp [h1, h2, h3, h4]
  refine br_dec _ ?_ ?_ <;> intro h5
  · simp [h1, h2, h3, h4, h5, hI.idxA, hI.loadA, getD_get, leads_c]
    refine gd_dec _ _ ?_ ?_ <;> intro hL <;> simp [h1, h2, h3, h4, h5, hL]
    · refine gd_dec _ _ ?_ ?_ <;> intro h0
      · have e : IntKind.i64.wrap ((i : Int) - 1) = ((i - 1 : Nat) : Int) := by rw [w64 (by omega) (by omega)]; omega
        have e' : i - 1 < b.length := by omega
        simp [h1, h2, h3, h4, h5, h0, hL, hI.idxA, hI.loadA, getD_get, e, e']
        refine br_dec _ ?_ ?_ <;> intro h6
        · simp [h1, h2, h3, h4, h5, h0, hL, h6]
          refine goodAt_bad h5 ?_
          rw [goodAt_iff h5]
          exact fun hh => absurd (hh.2 h0) (by omega)
        · simp [h1, h2, h3, h4, h5, h0, hL, h6]
          refine next _ (by simp [h1]) (by simp [h2]) (by simp [h3]) ?_ h5 ((goodAt_iff h5).2 ⟨hL, fun _ => by omega⟩)
          simp; rw [w64 (by omega) (by omega)]
      · simp [h1, h2, h3, h4, h5, h0, hL]
        refine next _ (by simp [h1]) (by simp [h2]) (by simp [h3]) ?_ h5 ((goodAt_iff h5).2 ⟨hL, fun hh => absurd hh h0⟩)
        simp; rw [w64 (by omega) (by omega)]
    · refine goodAt_bad h5 ?_
      rw [goodAt_iff h5]
      exact fun hh => hL hh.1
  · have : i = b.length := by omega
    subst this
    simp [h1, h2, h3, h4, gridOk_c]
    exact ⟨fun hg => ⟨hj, hg⟩, fun hh => hh.2⟩
theorem isRoot_c (w h : Int) (v : Value) (b : List Int) (r : Int) (hI : IsI H v b) (hl : b.length ≤ 1073741824) :
   vcall C frz 77 [.agg #[.int .i64 w, .int .i64 h, v], .int .i64 r] H = some (.bool (decide (meshOk w h b ∧ isN w h r)), H) := by
  rw [vcall_go (fn := Try.f77) Try.func77 rfl (by kernel_rfl) rfl]
  simp [hI.one', hI.cells, meshOk_c _ _ _ _ (hI.app _) hl]
  refine gd_dec _ _ ?_ ?_ <;> intro h1 <;> simp [h1, isNode_c, -Bool.decide_and]
theorem hasChannel_c (w h : Int) (v : Value) (b : List Int) (c : Int) (hI : IsI H v b) (hl : b.length ≤ 1073741824) :
   vcall C frz 57 [.agg #[.int .i64 w, .int .i64 h, v], .int .i64 c] H = some (.bool (decide (meshOk w h b ∧ has w h b c)), H) := by
  rw [vcall_go (fn := Try.f57) Try.func57 rfl (by kernel_rfl) rfl]
  simp [hI.one', hI.cells, meshOk_c _ _ _ _ (hI.app _) hl]
  refine gd_dec _ _ ?_ ?_ <;> intro h1 <;> simp [h1, leads_c, -Bool.decide_and]
  refine gd_dec _ _ ?_ ?_ <;> intro h2 <;> simp [h2, has, contains_c _ _ _ (hI.app _) hl, -Bool.decide_and]
end Go.Proofs.Ytnakhkfgheapoaa.V
/-! Tables: the plain walk. -/
set_option linter.all false
namespace Go.Proofs.Ytnakhkfgheapoaa.V
open Go Go.VM Go.Proofs
set_option maxRecDepth 10000
def portOf (w h : Int) (T : List Int) (a to : Int) : Int := rd T (a * cnt w h + to)
def stepOk (w h : Int) (b T : List Int) (a to : Int) : Prop := inR 0 (portOf w h T a to) 3 ∧ has w h b (4 * a + portOf w h T a to)
instance (w h : Int) (b T : List Int) (a to : Int) : Decidable (stepOk w h b T a to) := inferInstanceAs (Decidable (_ ∧ _))
def walkN (w h : Int) (b T : List Int) (to : Int) : Nat → Int → List Int → List Int
  | 0, a, out => if portOf w h T a to = 4 then (if a = to then out else []) else []
  | f + 1, a, out => if portOf w h T a to = 4 then (if a = to then out else []) else
      if stepOk w h b T a to then walkN w h b T to f (next w h a (portOf w h T a to)) (out ++ [4 * a + portOf w h T a to]) else []
/-- the walk of a table -/
def walk (w h : Int) (b T : List Int) (a to : Int) : List Int := walkN w h b T to (cnt w h).toNat a []
def tsized (w h : Int) (b T : List Int) : Prop := meshOk w h b ∧ (T.length : Int) = cnt w h * cnt w h
instance (w h : Int) (b T : List Int) : Decidable (tsized w h b T) := inferInstanceAs (Decidable (_ ∧ _))
def tableOk (w h : Int) (b T : List Int) : Prop := tsized w h b T ∧ ∀ a, a < (cnt w h).toNat → ∀ c, c < (cnt w h).toNat → (a = c → portOf w h T a a = 4) ∧ (a ≠ c → walk w h b T a c ≠ [])
instance (w h : Int) (b T : List Int) : Decidable (tableOk w h b T) := inferInstanceAs (Decidable (_ ∧ _))
theorem walkN_len (w h : Int) (b T : List Int) (to : Int) : ∀ f a out, (walkN w h b T to f a out).length ≤ out.length + f := by
  intro f
  induction f with
  | zero => intro a out; simp only [walkN]; repeat' split
            all_goals simp
  | succ f ih =>
    intro a out; simp only [walkN]; repeat' split
    · omega
    · simp
    · have := ih (next w h a (portOf w h T a to)) (out ++ [4 * a + portOf w h T a to])
      simp at this; omega
    · simp
theorem nodeAt_isN {w h x y : Int} (hx : 0 ≤ nodeAt w h x y) : isN w h (nodeAt w h x y) := by
  refine ⟨hx, ?_⟩
  unfold nodeAt at hx ⊢
  split
  · rename_i h1
    obtain ⟨h1, h2, h3⟩ := h1
    have hm := mul_small h1
    have c2 : y * w ≤ (h - 1) * w := Int.mul_le_mul_of_nonneg_right (by omega) (by have := h1.1.1; omega)
    rw [Int.sub_mul, Int.mul_comm h w] at c2
    rw [cnt, if_pos h1]
    omega
  · rename_i h1; rw [if_neg h1] at hx; omega
theorem next_isN {w h a p : Int} (hx : 0 ≤ next w h a p) : isN w h (next w h a p) := by
  unfold next at hx ⊢
  by_cases h1 : isN w h a
  · rw [if_pos h1] at hx ⊢
    by_cases p0 : p = 0
    · rw [if_pos p0] at hx ⊢; exact nodeAt_isN hx
    rw [if_neg p0] at hx ⊢
    by_cases p1 : p = 1
    · rw [if_pos p1] at hx ⊢; exact nodeAt_isN hx
    rw [if_neg p1] at hx ⊢
    by_cases p2 : p = 2
    · rw [if_pos p2] at hx ⊢; exact nodeAt_isN hx
    rw [if_neg p2] at hx ⊢
    by_cases p3 : p = 3
    · rw [if_pos p3] at hx ⊢; exact nodeAt_isN hx
    rw [if_neg p3] at hx ⊢
    by_cases p4 : p = 4
    · rw [if_pos p4] at hx ⊢; exact h1
    rw [if_neg p4] at hx; omega
  · rw [if_neg h1] at hx; omega
theorem step_next {w h a p : Int} {b : List Int} (h0 : inR 0 p 3) (h1 : has w h b (4 * a + p)) : (4 * a + p) / 4 = a ∧ (4 * a + p) % 4 = p ∧ isN w h (next w h a p) := by
  obtain ⟨h2, h3⟩ := h0
  have e1 : (4 * a + p) / 4 = a := by omega
  have e2 : (4 * a + p) % 4 = p := by omega
  refine ⟨e1, e2, next_isN ?_⟩
  have := h1.1.2
  rwa [e1, e2] at this
theorem at_small {w h a to : Int} (h1 : isN w h a) (h2 : isN w h to) : 0 ≤ a * cnt w h + to ∧ a * cnt w h + to < cnt w h * cnt w h ∧ a * cnt w h ≤ 256 ∧ 0 ≤ a * cnt w h := by
  have hc := cnt_range w h
  obtain ⟨a1, a2⟩ := h1
  obtain ⟨b1, b2⟩ := h2
  have c1 : 0 * 0 ≤ a * cnt w h := Int.mul_le_mul a1 hc.1 (by omega) (by omega)
  have c2 : a * cnt w h ≤ (cnt w h - 1) * cnt w h := Int.mul_le_mul_of_nonneg_right (by omega) hc.1
  rw [Int.sub_mul] at c2
  have c3 : cnt w h * cnt w h ≤ 16 * 16 := Int.mul_le_mul hc.2 hc.2 hc.1 (by omega)
  omega
theorem rd_get {T : List Int} {k : Int} (h0 : 0 ≤ k) (h1 : k < T.length) : T.getD k.toNat 0 = rd T k := rfl
end Go.Proofs.Ytnakhkfgheapoaa.V
/-! Trees: the plain side. -/
set_option linter.all false
namespace Go.Proofs.Ytnakhkfgheapoaa.V
open Go Go.VM
theorem rd_at {s : List Int} {j : Nat} (h : j < s.length) : rd s (j : Int) = s[j] := by simp [rd, List.getD_eq_getElem?_getD, h]
theorem rd_mem {s : List Int} {k : Int} (h0 : 0 ≤ k) (h1 : k < s.length) : rd s k ∈ s := by
  obtain ⟨i, rfl⟩ := Int.eq_ofNat_of_zero_le h0
  rw [rd_at (by omega)]; exact List.getElem_mem _
theorem meshOk_iff (w h : Int) (b : List Int) : meshOk w h b ↔ okG w h ∧ (∀ c ∈ b, leads w h c) ∧ b.Pairwise (· < ·) := by
  have e : ∀ j, j < b.length → b.getD j 0 = rd b (j : Int) := fun j _ => by simp [rd]
  constructor
  · rintro ⟨h1, h2⟩
    refine ⟨h2, fun c hc => ?_, ?_⟩
    · obtain ⟨j, hj, rfl⟩ := List.getElem_of_mem hc
      have := (h1 j hj).1
      rwa [getD_get _ _ hj] at this
    · rw [List.pairwise_iff_getElem]
      intro i j hi hj hij
      induction j with
      | zero => omega
      | succ j ih =>
        have := (h1 (j + 1) hj).2 (by omega)
        rw [getD_get _ _ hj, Nat.add_sub_cancel, getD_get _ _ (by omega)] at this
        by_cases h3 : i = j
        · subst h3; exact this
        · exact Int.lt_trans (ih (by omega) (by omega)) this
  · rintro ⟨h1, h2, h3⟩
    refine ⟨fun j hj => ⟨by rw [getD_get _ _ hj]; exact h2 _ (List.getElem_mem hj), fun h0 => ?_⟩, h1⟩
    rw [getD_get _ _ hj, getD_get _ _ (by omega)]
    exact List.pairwise_iff_getElem.1 h3 _ _ _ _ (by omega)
def endC (w h c : Int) : Int := next w h (c / 4) (c % 4)
def backC (w h c : Int) : Int := 4 * endC w h c + opp (c % 4)
def link (w h : Int) (b : List Int) (c : Int) : Prop := has w h b c ∧ has w h b (backC w h c)
instance (w h : Int) (b : List Int) (c : Int) : Decidable (link w h b c) := inferInstanceAs (Decidable (_ ∧ _))
theorem asc_length {n : Nat} : ∀ {b : List Int}, b.Pairwise (· < ·) → (∀ c ∈ b, 0 ≤ c ∧ c < (n : Int)) → b.length ≤ n := by
  intro b hb hc
  have key : ∀ (b : List Int) (lo : Int), b.Pairwise (· < ·) → (∀ c ∈ b, lo ≤ c ∧ c < (n : Int)) → 0 ≤ lo → (b.length : Int) ≤ max 0 (n - lo) := by
    intro b
    induction b with
    | nil => intro lo _ _ _; simp; omega
    | cons a l ih =>
      intro lo hp hm h0
      have h1 := hm a (by simp)
      have h2 := ih (a + 1) (List.pairwise_cons.1 hp).2 (fun c hc => ⟨by have := (List.pairwise_cons.1 hp).1 c hc; omega, (hm c (by simp [hc])).2⟩) (by omega)
      simp; omega
  have := key b 0 hb (fun c h => ⟨(hc c h).1, (hc c h).2⟩) (by omega)
  omega
def neg (s : List Int) : Nat := s.countP (· < 0)
theorem rd_set {s : List Int} {k x v : Int} (h0 : 0 ≤ k) (h1 : k < s.length) (hx : 0 ≤ x) : rd (s.set k.toNat v) x = if x = k then v else rd s x := by
  obtain ⟨i, rfl⟩ := Int.eq_ofNat_of_zero_le h0
  obtain ⟨j, rfl⟩ := Int.eq_ofNat_of_zero_le hx
  simp only [Int.toNat_natCast]
  by_cases hj : j < s.length
  · rw [rd_at (by simpa using hj), rd_at hj, List.getElem_set]
    by_cases e : i = j
    · subst e; simp
    · rw [if_neg e, if_neg (by omega)]
  · rw [if_neg (by omega)]
    simp [rd, hj]
theorem rd_neg_lt {s : List Int} {x : Int} (h0 : 0 ≤ x) (h : rd s x < 0) : x < s.length := by
  obtain ⟨j, rfl⟩ := Int.eq_ofNat_of_zero_le h0
  by_cases hj : j < s.length
  · omega
  · simp [rd, hj] at h
theorem neg_set {s : List Int} {k v : Int} (h0 : 0 ≤ k) (h1 : k < s.length) (h : rd s k < 0) (hv : 0 ≤ v) : neg (s.set k.toNat v) + 1 = neg s := by
  obtain ⟨i, rfl⟩ := Int.eq_ofNat_of_zero_le h0
  have hi : i < s.length := by omega
  rw [rd_at hi] at h
  unfold neg
  rw [Int.toNat_natCast, List.countP_set hi]
  have : 0 < s.countP (· < 0) := List.countP_pos_iff.2 ⟨_, List.getElem_mem hi, by simpa using h⟩
  rw [if_pos (by simpa using h), if_neg (by simp; omega)]
  omega
def vst (w h : Int) (b : List Int) (a d : Int) (x : List Int × List Int) (p : Nat) : List Int × List Int :=
  if link w h b (4 * a + p) ∧ rd x.1 (next w h a p) < 0 then (x.1.set (next w h a p).toNat d, x.2 ++ [next w h a p]) else x
def vis (w h : Int) (b : List Int) (a d : Int) (x : List Int × List Int) : List Int × List Int := (List.range 4).foldl (vst w h b a d) x
theorem link_next {w h : Int} {b : List Int} {a : Int} {p : Nat} (hp : p < 4) (h1 : link w h b (4 * a + p)) : isN w h a ∧ isN w h (next w h a p) ∧ endC w h (4 * a + p) = next w h a p := by
  obtain ⟨⟨⟨h2, h3⟩, _⟩, _⟩ := h1
  have e1 : (4 * a + (p : Int)) / 4 = a := by omega
  have e2 : (4 * a + (p : Int)) % 4 = p := by omega
  unfold endC
  rw [e1, e2] at h3 ⊢
  exact ⟨⟨by omega, by omega⟩, next_isN h3, rfl⟩
structure BExt (w h : Int) (d : Int) (x y : List Int × List Int) : Prop where
  len : y.1.length = x.1.length
  old : ∀ v, 0 ≤ v → 0 ≤ rd x.1 v → rd y.1 v = rd x.1 v
  new : ∀ v ∈ y.2, v ∈ x.2 ∨ (isN w h v ∧ rd y.1 v = d)
  sum : neg y.1 + y.2.length = neg x.1 + x.2.length
  pre : ∀ v ∈ x.2, v ∈ y.2
  low : (∀ v ∈ x.1, -1 ≤ v ∧ v ≤ d) → ∀ v ∈ y.1, -1 ≤ v ∧ v ≤ d
theorem BExt.rfl' {w h d : Int} {x : List Int × List Int} : BExt w h d x x := ⟨rfl, fun _ _ _ => rfl, fun _ h => .inl h, rfl, fun _ h => h, fun h => h⟩
theorem BExt.trans {w h d : Int} {x y z : List Int × List Int} (hd : 0 ≤ d) (a : BExt w h d x y) (b : BExt w h d y z) : BExt w h d x z where
  len := b.len.trans a.len
  old v h0 h1 := by
    have e := a.old v h0 h1
    rw [b.old v h0 (by omega), e]
  new v hv := by
    rcases b.new v hv with h1 | h1
    · rcases a.new v h1 with h2 | ⟨h2, h3⟩
      · exact .inl h2
      · exact .inr ⟨h2, by rw [b.old v h2.1 (by omega), h3]⟩
    · exact .inr h1
  sum := b.sum.trans a.sum
  pre v h := b.pre v (a.pre v h)
  low h := b.low (a.low h)
theorem vst_ext {w h : Int} {b : List Int} {a d : Int} {x : List Int × List Int} {p : Nat} (hp : p < 4) (hd : 0 ≤ d) : BExt w h d x (vst w h b a d x p) := by
  unfold vst
  by_cases hc : link w h b (4 * a + p) ∧ rd x.1 (next w h a p) < 0
  · rw [if_pos hc]
    obtain ⟨h1, h2, h3⟩ := link_next hp hc.1
    have h4 := rd_neg_lt h2.1 hc.2
    have := neg_set h2.1 h4 hc.2 hd
    refine ⟨by simp, fun v h0 h5 => ?_, fun v hv => ?_, by simp; omega, fun v hv => by simp [hv], fun hl v hv => ?_⟩
    · simp only
      rw [rd_set h2.1 h4 h0, if_neg (by intro e; subst e; omega)]
    · simp only [List.mem_append, List.mem_singleton] at hv
      rcases hv with hv | rfl
      · exact .inl hv
      · exact .inr ⟨h2, by simp only; rw [rd_set h2.1 h4 h2.1, if_pos rfl]⟩
    · rcases List.mem_or_eq_of_mem_set hv with h6 | rfl
      · exact hl v h6
      · omega
  · rw [if_neg hc]; exact BExt.rfl'
theorem foldl_ext {w h : Int} {b : List Int} {a d : Int} (hd : 0 ≤ d) : ∀ (l : List Nat) (x : List Int × List Int), (∀ p ∈ l, p < 4) → BExt w h d x (l.foldl (vst w h b a d) x)
  | [], x, _ => BExt.rfl'
  | p :: l, x, hp => (vst_ext (hp p (by simp)) hd).trans hd (foldl_ext hd l _ (fun q hq => hp q (by simp [hq])))
theorem vis_ext {w h : Int} {b : List Int} {a d : Int} (hd : 0 ≤ d) (x : List Int × List Int) : BExt w h d x (vis w h b a d x) := foldl_ext hd _ _ (by simp)
theorem vst_app {w h : Int} {b : List Int} {a d : Int} (s q q' : List Int) (p : Nat) : vst w h b a d (s, q ++ q') p = ((vst w h b a d (s, q') p).1, q ++ (vst w h b a d (s, q') p).2) := by
  unfold vst
  simp only
  split <;> simp
theorem foldl_app {w h : Int} {b : List Int} {a d : Int} (q : List Int) : ∀ (l : List Nat) (s q' : List Int), l.foldl (vst w h b a d) (s, q ++ q') = ((l.foldl (vst w h b a d) (s, q')).1, q ++ (l.foldl (vst w h b a d) (s, q')).2)
  | [], s, q' => rfl
  | p :: l, s, q' => by
    rw [List.foldl_cons, List.foldl_cons, vst_app]
    exact foldl_app q l _ _
theorem vis_app {w h : Int} {b : List Int} {a d : Int} (q s q' : List Int) : vis w h b a d (s, q ++ q') = ((vis w h b a d (s, q')).1, q ++ (vis w h b a d (s, q')).2) := foldl_app q _ _ _
inductive Run (w h : Int) (b : List Int) : List Int → List Int → List Int → Int → List Int → Prop
  | done (s : List Int) (d : Int) : Run w h b s [] [] d s
  | level {s : List Int} {x : Int} {nx : List Int} {d : Int} {r : List Int} : Run w h b s (x :: nx) [] (d + 1) r → Run w h b s [] (x :: nx) d r
  | node {s : List Int} {a : Int} {rest nx : List Int} {d : Int} {r : List Int} : Run w h b (vis w h b a d (s, nx)).1 rest (vis w h b a d (s, nx)).2 d r → Run w h b s (a :: rest) nx d r
structure Inv (w h : Int) (s rest nx : List Int) (d : Int) : Prop where
  len : (s.length : Int) = cnt w h
  fr : ∀ v ∈ rest, isN w h v ∧ rd s v = d - 1
  nw : ∀ v ∈ nx, isN w h v ∧ rd s v = d
  one : 1 ≤ d
  sum : d + neg s + nx.length ≤ cnt w h
  low : ∀ v ∈ s, -1 ≤ v ∧ v ≤ d
theorem Inv.level {w h : Int} {s nx : List Int} {x d : Int} (i : Inv w h s [] (x :: nx) d) : Inv w h s (x :: nx) [] (d + 1) :=
  ⟨i.len, fun v hv => ⟨(i.nw v hv).1, by have := (i.nw v hv).2; omega⟩, by simp, by have := i.one; omega, by have := i.sum; simp at this ⊢; omega, fun v hv => by have := i.low v hv; omega⟩
theorem Inv.node {w h : Int} {b s rest nx : List Int} {a d : Int} (i : Inv w h s (a :: rest) nx d) : Inv w h (vis w h b a d (s, nx)).1 rest (vis w h b a d (s, nx)).2 d := by
  have h1 := i.one
  have e := vis_ext (w := w) (h := h) (b := b) (a := a) (d := d) (by omega) (s, nx)
  refine ⟨by rw [e.len]; exact i.len, fun v hv => ?_, fun v hv => ?_, h1, ?_, e.low i.low⟩
  · obtain ⟨h2, h3⟩ := i.fr v (by simp [hv])
    exact ⟨h2, by rw [e.old v h2.1 (by simp only; omega)]; exact h3⟩
  · rcases e.new v hv with h2 | h2
    · obtain ⟨h3, h4⟩ := i.nw v h2
      exact ⟨h3, by rw [e.old v h3.1 (by simp only; omega)]; exact h4⟩
    · exact h2
  · have := e.sum; have := i.sum; simp only at *; omega
theorem run_ex {w h : Int} {b : List Int} : ∀ (m : Nat) (s rest nx : List Int) (d : Int), 3 * neg s + 2 * nx.length + rest.length ≤ m → Inv w h s rest nx d → ∃ r, Run w h b s rest nx d r := by
  intro m
  induction m with
  | zero =>
    intro s rest nx d hm i
    cases rest with
    | nil => cases nx with
      | nil => exact ⟨s, .done s d⟩
      | cons x nx => simp at hm
    | cons a rest => simp at hm
  | succ m ih =>
    intro s rest nx d hm i
    cases rest with
    | nil => cases nx with
      | nil => exact ⟨s, .done s d⟩
      | cons x nx =>
        obtain ⟨r, hr⟩ := ih s (x :: nx) [] (d + 1) (by simp at hm ⊢; omega) i.level
        exact ⟨r, .level hr⟩
    | cons a rest =>
      have e := (vis_ext (w := w) (h := h) (b := b) (a := a) (d := d) (by have := i.one; omega) (s, nx)).sum
      have e2 := (vis_ext (w := w) (h := h) (b := b) (a := a) (d := d) (by have := i.one; omega) (s, nx))
      have h1 : nx.length ≤ (vis w h b a d (s, nx)).2.length := by
        have := vis_app (w := w) (h := h) (b := b) (a := a) (d := d) nx s []
        rw [List.append_nil] at this; rw [this]; simp
      simp only at e
      obtain ⟨r, hr⟩ := ih (vis w h b a d (s, nx)).1 rest (vis w h b a d (s, nx)).2 d (by simp at hm; omega) i.node
      exact ⟨r, .node hr⟩
def start (w h root : Int) : List Int := (List.replicate (cnt w h).toNat (-1)).set root.toNat 0
theorem start_inv {w h root : Int} (hr : isN w h root) : Inv w h (start w h root) [root] [] 1 ∧ ((neg (start w h root) : Nat) : Int) + 1 = cnt w h := by
  have hc := cnt_range w h
  have hl : root < ((List.replicate (cnt w h).toNat (-1 : Int)).length : Int) := by have := hr.2; simp; omega
  have h0 : rd (List.replicate (cnt w h).toNat (-1 : Int)) root = -1 := by
    have := rd_mem hr.1 hl
    exact List.eq_of_mem_replicate this
  have h1 := neg_set (v := 0) hr.1 hl (by omega) (by omega)
  have h2 : neg (List.replicate (cnt w h).toNat (-1 : Int)) = (cnt w h).toNat := by unfold neg; simp [List.countP_replicate]
  rw [h2] at h1
  have h3 : ((neg (start w h root) : Nat) : Int) + 1 = cnt w h := by unfold start; omega
  refine ⟨⟨by unfold start; simp; omega, fun v hv => ?_, by simp, by omega, by simp; omega, fun v hv => ?_⟩, h3⟩
  · simp only [List.mem_singleton] at hv
    subst hv
    refine ⟨hr, ?_⟩
    unfold start; rw [rd_set hr.1 hl hr.1, if_pos rfl]; omega
  · rcases List.mem_or_eq_of_mem_set hv with h6 | rfl
    · have := List.eq_of_mem_replicate h6; omega
    · omega
theorem Run.inv {w h : Int} {b s rest nx : List Int} {d : Int} {r : List Int} (R : Run w h b s rest nx d r) : Inv w h s rest nx d → ∃ d', Inv w h r [] [] d' := by
  induction R with
  | done s d => exact fun i => ⟨d, i⟩
  | level _ ih => exact fun i => ih i.level
  | node _ ih => exact fun i => ih i.node
def rootOk (w h : Int) (b : List Int) (root : Int) : Prop := meshOk w h b ∧ isN w h root
instance (w h : Int) (b : List Int) (root : Int) : Decidable (rootOk w h b root) := inferInstanceAs (Decidable (_ ∧ _))
theorem run_start {w h : Int} (b : List Int) {root : Int} (hr : isN w h root) : ∃ r, Run w h b (start w h root) [root] [] 1 r := run_ex _ _ _ _ _ (Nat.le_refl _) (start_inv hr).1
noncomputable def depths (w h : Int) (b : List Int) (root : Int) : List Int := if H : rootOk w h b root then Classical.choose (run_start b H.2) else []
theorem depths_run {w h : Int} {b : List Int} {root : Int} (H : rootOk w h b root) : Run w h b (start w h root) [root] [] 1 (depths w h b root) := by
  unfold depths; rw [dif_pos H]; exact Classical.choose_spec (run_start b H.2)
theorem depths_no {w h : Int} {b : List Int} {root : Int} (H : ¬ rootOk w h b root) : depths w h b root = [] := dif_neg H
theorem depths_inv {w h : Int} {b : List Int} {root : Int} (H : rootOk w h b root) : (((depths w h b root).length : Nat) : Int) = cnt w h ∧ ∀ v ∈ depths w h b root, -1 ≤ v ∧ v ≤ 16 := by
  obtain ⟨d, i⟩ := (depths_run H).inv (start_inv H.2).1
  have hc := cnt_range w h
  refine ⟨i.len, fun v hv => ?_⟩
  have := i.low v hv; have := i.sum; omega
theorem depths_length (w h : Int) (b : List Int) (root : Int) : (depths w h b root).length ≤ 16 := by
  have hc := cnt_range w h
  by_cases H : rootOk w h b root
  · have := (depths_inv H).1; omega
  · rw [depths_no H]; simp
theorem depths_mem {w h : Int} {b : List Int} {root : Int} {v : Int} (hv : v ∈ depths w h b root) : -1 ≤ v ∧ v ≤ 16 := by
  by_cases H : rootOk w h b root
  · exact (depths_inv H).2 v hv
  · rw [depths_no H] at hv; simp at hv
theorem okG_isN {w h : Int} (h1 : okG w h) : isN w h 0 := by
  have := mul_small h1
  refine ⟨by omega, ?_⟩
  unfold cnt; rw [if_pos h1]; omega
def conn (w h : Int) (b : List Int) : Prop := meshOk w h b ∧ -1 ∉ depths w h b 0
noncomputable instance (w h : Int) (b : List Int) : Decidable (conn w h b) := inferInstanceAs (Decidable (_ ∧ _))
noncomputable def depthOf (w h : Int) (b : List Int) (root : Int) : Int := (depths w h b root).foldl max (-1)
noncomputable def better (w h : Int) (b : List Int) (best : Int) (root : Nat) : Int := if depthOf w h b (root : Int) < depthOf w h b best then (root : Int) else best
noncomputable def bestRoot (w h : Int) (b : List Int) : Int := if conn w h b then (List.range (cnt w h).toNat).foldl (better w h b) 0 else -1
theorem better_range {w h : Int} {b : List Int} {best : Int} {root : Nat} (h0 : 0 ≤ best) : 0 ≤ better w h b best root := by
  unfold better; split <;> omega
def toRoot (w h : Int) (b d : List Int) (i : Int) (p : Nat) : Prop := link w h b (4 * i + p) ∧ rd d (next w h i p) = rd d i - 1
instance (w h : Int) (b d : List Int) (i : Int) (p : Nat) : Decidable (toRoot w h b d i p) := inferInstanceAs (Decidable (_ ∧ _))
def par (w h : Int) (b d : List Int) (i : Int) : Int :=
  if rd d i > 0 then
    (if toRoot w h b d i 0 then next w h i (0 : Nat) else if toRoot w h b d i 1 then next w h i (1 : Nat) else if toRoot w h b d i 2 then next w h i (2 : Nat) else if toRoot w h b d i 3 then next w h i (3 : Nat) else -1)
  else -1
def pars (w h : Int) (b d : List Int) : List Int := (List.range d.length).map fun i : Nat => par w h b d (i : Int)
noncomputable def parents (w h : Int) (b : List Int) (root : Int) : List Int := pars w h b (depths w h b root)
theorem parents_length (w h : Int) (b : List Int) (root : Int) : (parents w h b root).length = (depths w h b root).length := by simp [parents, pars]
def Hi (d : Int) (x : List Int × List Int) : Prop := ∀ v ∈ x.1, v < d ∨ (v = d ∧ x.2 ≠ [])
theorem vst_hi {w h : Int} {b : List Int} {a d : Int} {x : List Int × List Int} {p : Nat} (hx : Hi d x) : Hi d (vst w h b a d x p) := by
  unfold vst
  split
  · intro v hv
    rcases List.mem_or_eq_of_mem_set hv with h6 | rfl
    · rcases hx v h6 with h7 | h7
      · exact .inl h7
      · exact .inr ⟨h7.1, by simp⟩
    · exact .inr ⟨rfl, by simp⟩
  · exact hx
theorem foldl_hi {w h : Int} {b : List Int} {a d : Int} : ∀ (l : List Nat) (x : List Int × List Int), Hi d x → Hi d (l.foldl (vst w h b a d) x)
  | [], x, hx => hx
  | p :: l, x, hx => foldl_hi l _ (vst_hi hx)
theorem Run.hi {w h : Int} {b s rest nx : List Int} {d : Int} {r : List Int} (R : Run w h b s rest nx d r) : Inv w h s rest nx d → Hi d (s, nx) → ∀ v ∈ r, v < cnt w h := by
  induction R with
  | done s d =>
    intro i hh v hv
    rcases hh v hv with h1 | h1
    · have := i.sum; simp at this; omega
    · exact absurd rfl h1.2
  | level _ ih =>
    exact fun i hh => ih i.level (fun v hv => by rcases hh v hv with h1 | h1 <;> exact .inl (by omega))
  | node _ ih => exact fun i hh => ih i.node (foldl_hi _ _ hh)
theorem depths_lt {w h : Int} {b : List Int} {root : Int} (H : rootOk w h b root) : ∀ v ∈ depths w h b root, v < cnt w h := by
  refine (depths_run H).hi (start_inv H.2).1 (fun v hv => ?_)
  have := (start_inv H.2).1.low v hv
  rcases List.mem_or_eq_of_mem_set hv with h6 | rfl
  · have := List.eq_of_mem_replicate h6; exact .inl (by omega)
  · exact .inl (by omega)
theorem par_cases (w h : Int) (b d : List Int) (i : Int) : par w h b d i = -1 ∨ ∃ p : Nat, p < 4 ∧ par w h b d i = next w h i p ∧ toRoot w h b d i p ∧ rd d i > 0 := by
  unfold par
  by_cases h0 : rd d i > 0
  · rw [if_pos h0]
    by_cases e0 : toRoot w h b d i 0
    · rw [if_pos e0]; exact .inr ⟨0, by omega, rfl, e0, h0⟩
    rw [if_neg e0]
    by_cases e1 : toRoot w h b d i 1
    · rw [if_pos e1]; exact .inr ⟨1, by omega, rfl, e1, h0⟩
    rw [if_neg e1]
    by_cases e2 : toRoot w h b d i 2
    · rw [if_pos e2]; exact .inr ⟨2, by omega, rfl, e2, h0⟩
    rw [if_neg e2]
    by_cases e3 : toRoot w h b d i 3
    · rw [if_pos e3]; exact .inr ⟨3, by omega, rfl, e3, h0⟩
    rw [if_neg e3]; exact .inl rfl
  · rw [if_neg h0]; exact .inl rfl
def Tree (t : List Int) (m : Int → Int) : Prop := ∀ i : Int, 0 ≤ i → i < t.length → m i < t.length ∧ (rd t i = -1 ∨ (0 ≤ rd t i ∧ rd t i < t.length ∧ 0 ≤ m (rd t i) ∧ m (rd t i) + 1 = m i))
theorem parents_tree {w h : Int} {b : List Int} {root : Int} (H : rootOk w h b root) : Tree (parents w h b root) (rd (depths w h b root)) := by
  have hl := parents_length w h b root
  obtain ⟨hc, _⟩ := depths_inv H
  intro i h0 h1
  have h2 : i < ((depths w h b root).length : Int) := by omega
  refine ⟨by have := depths_lt H _ (rd_mem h0 h2); omega, ?_⟩
  have e : rd (parents w h b root) i = par w h b (depths w h b root) i := by
    obtain ⟨j, rfl⟩ := Int.eq_ofNat_of_zero_le h0
    rw [rd_at (by omega)]; simp [parents, pars]
  rw [e]
  rcases par_cases w h b (depths w h b root) i with h3 | ⟨p, hp, h3, h4, h5⟩
  · exact .inl h3
  · obtain ⟨_, hn, _⟩ := link_next hp h4.1
    rw [h3]
    refine .inr ⟨hn.1, by have := hn.2; omega, ?_, ?_⟩
    · have := h4.2; omega
    · have := h4.2; omega

def inP (P : List Int) (a : Int) : Prop := 0 ≤ a ∧ a < P.length
instance (P : List Int) (a : Int) : Decidable (inP P a) := inferInstanceAs (Decidable (_ ∧ _))
@[simp] theorem inP_m1 (P : List Int) : inP P (-1) = False := by simp [inP]
def ancN (P : List Int) : Nat → Int → List Int → List Int
  | 0, a, out => if inP P a then [] else if a = -1 ∧ out ≠ [] then out else []
  | f + 1, a, out => if inP P a then ancN P f (rd P a) (out ++ [a]) else if a = -1 ∧ out ≠ [] then out else []
def anc (P : List Int) (a : Int) : List Int := ancN P P.length a []
theorem ancN_len (P : List Int) : ∀ f a out, (ancN P f a out).length ≤ out.length + f := by
  intro f
  induction f with
  | zero => intro a out; unfold ancN; repeat' split
            all_goals simp
  | succ f ih =>
    intro a out; unfold ancN; split
    · have := ih (rd P a) (out ++ [a]); simp at this; omega
    · split <;> simp
theorem anc_len (P : List Int) (a : Int) : (anc P a).length ≤ P.length := by have := ancN_len P P.length a []; simpa [anc] using this
theorem ancN_in (P : List Int) : ∀ f a out, (∀ x ∈ out, inP P x) → ∀ x ∈ ancN P f a out, inP P x := by
  intro f
  induction f with
  | zero => intro a out ho x hx; unfold ancN at hx; repeat' split at hx
            all_goals first | exact ho x hx | (simp at hx)
  | succ f ih =>
    intro a out ho x hx; unfold ancN at hx; split at hx
    · rename_i h1
      exact ih _ _ (fun y hy => by rcases List.mem_append.1 hy with hy | hy; exact ho y hy; rw [List.mem_singleton.1 hy]; exact h1) x hx
    · split at hx
      · exact ho x hx
      · simp at hx
theorem anc_in {P : List Int} {a x : Int} (h : x ∈ anc P a) : inP P x := ancN_in P P.length a [] (by simp) x h
def common (P : List Int) (a b : Int) : Int := ((anc P a).find? (fun x => decide (x ∈ anc P b))).getD (-1)
theorem common_no {P : List Int} {a b : Int} (h : ∀ x ∈ anc P a, x ∉ anc P b) : common P a b = -1 := by
  unfold common
  rw [List.find?_eq_none.2 (by simpa using h)]; rfl
theorem common_mem {P : List Int} {a b : Int} (h : 0 ≤ common P a b) : common P a b ∈ anc P a ∧ common P a b ∈ anc P b := by
  unfold common at h ⊢
  cases hf : (anc P a).find? (fun x => decide (x ∈ anc P b)) with
  | none => rw [hf] at h; simp at h
  | some u =>
    have h1 := List.mem_of_find?_eq_some hf
    have h2 := List.find?_some hf
    exact ⟨h1, by simpa using h2⟩
/-- the nodes of the way through the tree -/
def treeNodes (P : List Int) (a b : Int) : List Int :=
  if common P a b < 0 then [] else (anc P a).take ((anc P a).idxOf (common P a b) + 1) ++ ((anc P b).take ((anc P b).idxOf (common P a b))).reverse
theorem find_at {l : List Int} {q : Int → Bool} {j : Nat} (h : j < l.length) (hq : ∀ x ∈ l.take j, q x = false) (hx : q l[j] = true) : l.find? q = some l[j] := by
  have e : l = l.take j ++ (l[j] :: l.drop (j + 1)) := by rw [← List.drop_eq_getElem_cons h, List.take_append_drop]
  have e2 := congrArg (List.find? q) e
  rw [e2, List.find?_append, List.find?_eq_none.2 (by simpa using hq), List.find?_cons_of_pos hx]; rfl
def chain (t : List Int) : Nat → Int → List Int
  | 0, _ => []
  | k + 1, v => if inP t v then v :: chain t k (rd t v) else []
def Ends (t : List Int) : Nat → Int → Prop
  | 0, v => v = -1
  | k + 1, v => v = -1 ∨ (inP t v ∧ Ends t k (rd t v))
theorem Tree.ends {t : List Int} {m : Int → Int} (T : Tree t m) : ∀ (k : Nat) (v : Int), 0 ≤ v → v < t.length → m v < k → (0 ≤ m v ∨ 0 < k) → Ends t k v := by
  intro k
  induction k with
  | zero => intro v h0 h1 h2 h3; omega
  | succ k ih =>
    intro v h0 h1 h2 _
    refine .inr ⟨⟨h0, h1⟩, ?_⟩
    rcases (T v h0 h1).2 with h3 | ⟨h3, h4, h5, h6⟩
    · rw [h3]; cases k <;> simp [Ends]
    · exact ih _ h3 h4 (by omega) (.inl h5)
theorem ancN_chain {t : List Int} : ∀ (k : Nat) (v : Int) (out : List Int), Ends t k v → (out ≠ [] ∨ (0 ≤ v ∧ v < t.length)) → ancN t k v out = out ++ chain t k v := by
  intro k
  induction k with
  | zero =>
    intro v out he ho
    have he : v = -1 := he
    subst he
    have ho : out ≠ [] := ho.resolve_right (by omega)
    simp [ancN, chain, ho]
  | succ k ih =>
    intro v out he ho
    rcases he with rfl | ⟨h1, h2⟩
    · have ho : out ≠ [] := ho.resolve_right (by omega)
      simp [ancN, chain, ho]
    · simp only [ancN, chain]
      rw [if_pos h1, if_pos h1, ih _ _ h2 (.inl (by simp))]
      simp
theorem chain_any {t : List Int} : ∀ (k k' : Nat) (v : Int), Ends t k v → Ends t k' v → chain t k v = chain t k' v := by
  intro k
  induction k with
  | zero =>
    intro k' v h1 h2
    have h1 : v = -1 := h1
    subst h1
    cases k' with
    | zero => rfl
    | succ k' => simp [chain]
  | succ k ih =>
    intro k' v h1 h2
    cases k' with
    | zero => have h2 : v = -1 := h2
              subst h2; simp [chain]
    | succ k' =>
      rcases h1 with rfl | ⟨h1, h3⟩
      · simp [chain]
      · rcases h2 with rfl | ⟨_, h4⟩
        · simp at h1
        · simp only [chain]; rw [if_pos h1, if_pos h1, ih _ _ h3 h4]
theorem anc_cons {t : List Int} {m : Int → Int} (T : Tree t m) {v : Int} (h0 : 0 ≤ v) (h1 : v < t.length) : anc t v = v :: (if rd t v = -1 then [] else anc t (rd t v)) := by
  have hE : ∀ u : Int, 0 ≤ u → u < t.length → Ends t t.length u := fun u a b => T.ends t.length u a b (T u a b).1 (.inr (by omega))
  have e : ∀ u : Int, 0 ≤ u → u < t.length → anc t u = chain t t.length u := fun u a b => by
    have := ancN_chain t.length u [] (hE u a b) (.inr ⟨a, b⟩); simpa [anc] using this
  rw [e v h0 h1]
  obtain ⟨n, hn⟩ : ∃ n, t.length = n + 1 := ⟨t.length - 1, by omega⟩
  have h2 := hE v h0 h1
  rw [hn] at h2 ⊢
  rcases h2 with h2 | ⟨_, h3⟩
  · omega
  simp only [chain]
  rw [if_pos (show inP t v from ⟨h0, h1⟩)]
  rcases (T v h0 h1).2 with h4 | ⟨h4, h5, _, _⟩
  · rw [if_pos h4, h4]; cases n <;> simp [chain]
  · rw [if_neg (by omega), e _ h4 h5, chain_any n t.length _ h3 (hE _ h4 h5)]
theorem anc_suffix {t : List Int} {m : Int → Int} (T : Tree t m) : ∀ (n : Nat) (v : Int), 0 ≤ v → v < t.length → m v < n → ∀ u ∈ anc t v, (0 ≤ u ∧ u < t.length) ∧ ∃ l, anc t v = l ++ anc t u ∧ ∀ x ∈ l, m u < m x := by
  intro n
  induction n with
  | zero =>
    intro v h0 h1 h2 u hu
    rw [anc_cons T h0 h1] at hu ⊢
    rcases (T v h0 h1).2 with h4 | ⟨h4, h5, h6, h7⟩
    · rw [if_pos h4] at hu ⊢
      simp only [List.mem_singleton] at hu; subst hu
      refine ⟨⟨h0, h1⟩, [], ?_, by simp⟩
      rw [anc_cons T h0 h1, if_pos h4]; rfl
    · omega
  | succ n ih =>
    intro v h0 h1 h2 u hu
    rcases (T v h0 h1).2 with h4 | ⟨h4, h5, h6, h7⟩
    · have e := anc_cons T h0 h1
      rw [if_pos h4] at e
      rw [e] at hu
      simp only [List.mem_singleton] at hu; subst hu
      exact ⟨⟨h0, h1⟩, [], rfl, by simp⟩
    · have e := anc_cons T h0 h1
      rw [if_neg (by omega)] at e
      rw [e] at hu
      rcases List.mem_cons.1 hu with rfl | hu
      · exact ⟨⟨h0, h1⟩, [], rfl, by simp⟩
      · obtain ⟨hb, l, e1, hx⟩ := ih _ h4 h5 (by omega) u hu
        refine ⟨hb, v :: l, by rw [e, e1]; rfl, fun x hx' => ?_⟩
        have hle : m u ≤ m (rd t v) := by
          cases l with
          | nil =>
            have e2 := anc_cons T h4 h5
            have e3 := anc_cons T hb.1 hb.2
            rw [List.nil_append] at e1
            rw [e1, e3] at e2
            have := (List.cons.inj e2).1
            rw [this]; omega
          | cons y l =>
            have e2 := anc_cons T h4 h5
            rw [e1, List.cons_append] at e2
            have e4 := (List.cons.inj e2).1
            have := hx y (by simp)
            rw [e4] at this; omega
        rcases List.mem_cons.1 hx' with rfl | hx'
        · omega
        · exact hx x hx'

end Go.Proofs.Ytnakhkfgheapoaa.V
/-! Ancestors. -/
set_option linter.all false
namespace Go.Proofs.Ytnakhkfgheapoaa.V
open Go Go.VM Go.Proofs
set_option maxRecDepth 10000
variable {frz : Nat} {H : Heap}
theorem sAnc_c (v : Value) (P : List Int) (a : Int) (hI : IsI H v P) (hl : P.length ≤ 1073741823) :
   vcall C frz 70 [v, .int .i64 a] H = some (.slice (some ⟨H.length, 0, some 0⟩) (anc P a).length 0, H ++ [⟨(anc P a).map (.int .i64), 0, 3⟩]) := by
  rw [vcall_go (fn := Try.f70) Try.func70 rfl (by kernel_rfl) rfl]
  simp
  refine go_inv (fun n t H' => ∃ (o : List Int) (g : Nat) (x : Int) (G : Heap), n = P.length - o.length ∧ t 0 = v ∧ t 5 = .slice (some ⟨H.length, 0, some g⟩) o.length 0 ∧ t 6 = .int .i64 x ∧
    H' = H ++ ⟨o.map (.int .i64), g, 3⟩ :: G ∧ o.length ≤ P.length ∧ ancN P (P.length - o.length) x o = anc P a) ?_ (n := P.length) ⟨[], 0, a, [], by simp [anc]⟩
  rintro n t H' ⟨o, g, x, G, rfl, h0, h5, h6, rfl, ho, hw⟩ ih
  have hin : inR 0 x (IntKind.i64.wrap ((P.length : Int) - 1)) ↔ inP P x := by
    rw [w64 (by omega) (by omega)]; simp only [inR, inP]; omega
  simp [h0, h5, h6, hI.lenA, l01In_c, inside_c, hin]
  refine br_dec _ ?_ ?_ <;> intro hx
  · simp [h0, h5, h6, hI.lenA]
    refine br_dec _ ?_ ?_ <;> intro hf
    · have hz : anc P a = [] := by
        rw [← hw, show P.length - o.length = 0 by omega, ancN, if_pos hx]
      simp [h0, h5, h6, hz]
    · have q1 : ∀ L, vindexAddr Try.prog (H ++ L) 22 v (.int .i64 x) = some (elp v x.toNat) := fun L => hI.idxA (e := 3) (by simp) hx.1 hx.2
      have q2 : ∀ L, vload Try.prog (H ++ L) 3 (elp v x.toNat) = some (.int .i64 (rd P x)) := fun L => hI.loadA (by simp) (by have := hx.1; have := hx.2; omega)
      simp [h0, h5, h6]
      refine vneed_eq (by omega) ?_
      simp [h0, h5, h6, q1, q2]
      refine ih (P.length - (o.length + 1)) _ _ ⟨o ++ [x], g + 1, rd P x, _, by simp, by simp [h0], by simp, by simp, by simp; rfl, by simp; omega, ?_⟩ (by omega)
      rw [show P.length - o.length = (P.length - (o ++ [x]).length) + 1 by simp; omega, ancN, if_pos hx] at hw
      exact hw
  · have hz : anc P a = if x = -1 ∧ o ≠ [] then o else [] := by
      rw [← hw]; cases P.length - o.length <;> simp only [ancN, if_neg hx]
    simp [h0, h5, h6]
    refine gd_dec _ _ ?_ ?_ <;> intro h1
    · simp [h0, h5, h6, h1]
      by_cases ho0 : o = []
      · simp [h0, h5, h6, h1, ho0, hz]
      · have : o.length ≠ 0 := fun hh => ho0 (List.length_eq_zero_iff.1 hh)
        simp [h0, h5, h6, h1, ho0, hz]
    · simp [h0, h5, h6, h1, hz]
theorem anc_c (v : Value) (P : List Int) (a : Int) (hI : IsI H v P) (hl : P.length ≤ 1073741823) :
   vcall C frz 29 [v, .int .i64 a] H = some (if anc P a = [] then (.slice none 0 0, H) else (.slice (some ⟨H.length, 0, some 0⟩) (anc P a).length 0, H ++ [⟨(anc P a).map (.int .i64), 0, 3⟩])) := by
  rw [vcall_go (fn := Try.f29) Try.func29 rfl (by kernel_rfl) rfl]
  simp
  refine go_inv (fun n t H' => ∃ (o : List Int) (g : Nat) (x : Int) (G : Heap), n = P.length - o.length ∧ t 0 = v ∧ t 5 = .slice (some ⟨H.length, 0, some g⟩) o.length 0 ∧ t 6 = .int .i64 x ∧
    H' = H ++ ⟨o.map (.int .i64), g, 3⟩ :: G ∧ o.length ≤ P.length ∧ ancN P (P.length - o.length) x o = anc P a) ?_ (n := P.length) ⟨[], 0, a, [], by simp [anc]⟩
  rintro n t H' ⟨o, g, x, G, rfl, h0, h5, h6, rfl, ho, hw⟩ ih
  have hin : inR 0 x (IntKind.i64.wrap ((P.length : Int) - 1)) ↔ inP P x := by
    rw [w64 (by omega) (by omega)]; simp only [inR, inP]; omega
  simp [h0, h5, h6, hI.lenA, l01In_c, inside_c, hin]
  have hz : ¬ inP P x → anc P a = if x = -1 ∧ o ≠ [] then o else [] := fun hx => by
    rw [← hw]; cases P.length - o.length <;> simp only [ancN, if_neg hx]
  have hm : ¬ inP P (-1) := fun hh => by have := hh.1; omega
  refine gd_dec _ _ ?_ ?_ <;> intro h1
  · have hx : ¬ inP P x := h1 ▸ hm
    by_cases ho0 : o = []
    · have := hz hx
      simp [ho0] at this
      have hm' : ¬ inR 0 (-1) (IntKind.i64.wrap ((P.length : Int) - 1)) := fun hh => by have := hh.1; omega
      simp [h0, h5, h6, h1, ho0, hI.lenA, inside_c, hm', this]
    · have hol : o.length ≠ 0 := fun hh => ho0 (List.length_eq_zero_iff.1 hh)
      have := hz hx
      simp [h1, ho0] at this
      simp [h0, h5, h6, h1, ho0, this]
  · simp [h0, h5, h6, h1, hI.lenA, inside_c, hin]
    refine gd_dec _ _ ?_ ?_ <;> intro hx
    · simp [h0, h5, h6, hx, hI.lenA]
      refine br_dec _ ?_ ?_ <;> intro hf
      · have hz' : anc P a = [] := by
          rw [← hw, show P.length - o.length = 0 by omega, ancN, if_pos hx]
        simp [h0, h5, h6, hz']
      · have q1 : ∀ L, vindexAddr Try.prog (H ++ L) 22 v (.int .i64 x) = some (elp v x.toNat) := fun L => hI.idxA (e := 3) (by simp) hx.1 hx.2
        have q2 : ∀ L, vload Try.prog (H ++ L) 3 (elp v x.toNat) = some (.int .i64 (rd P x)) := fun L => hI.loadA (by simp) (by have := hx.1; have := hx.2; omega)
        simp [h0, h5, h6]
        refine vneed_eq (by omega) ?_
        simp [h0, h5, h6, q1, q2]
        refine ih (P.length - (o.length + 1)) _ _ ⟨o ++ [x], g + 1, rd P x, _, by simp, by simp [h0], by simp, by simp, by simp; rfl, by simp; omega, ?_⟩ (by omega)
        rw [show P.length - o.length = (P.length - (o ++ [x]).length) + 1 by simp; omega, ancN, if_pos hx] at hw
        exact hw
    · have := hz hx
      simp [h1] at this
      simp [h0, h5, h6, hx, this]
end Go.Proofs.Ytnakhkfgheapoaa.V
/-! CommonAncestor, Reverse; marks. -/
set_option linter.all false
namespace Go.Proofs.Ytnakhkfgheapoaa.V
open Go Go.VM Go.Proofs
set_option maxRecDepth 10000
variable {frz : Nat} {H : Heap}
theorem made_ret {xs : List Int} {r : Option (Value × Heap)} (h : r = some (if xs = [] then (.slice none 0 0, H) else (.slice (some ⟨H.length, 0, some 0⟩) xs.length 0, H ++ [⟨xs.map (.int .i64), 0, 3⟩]))) : wp r (Made Fl.int 3 H xs) := by
  subst h
  by_cases hx : xs = []
  · simp [hx]; exact ⟨[], by simp, .inl ⟨rfl, rfl⟩, by simp⟩
  · simp [hx]
    exact ⟨_, rfl, Ow.new0 rfl (cellsOf_int xs).symm (by simp) rfl, by simp⟩
theorem made_row {xs : List Int} {r : Option (Value × Heap)} (h : r = some (.slice (some ⟨H.length, 0, some 0⟩) xs.length 0, H ++ [⟨xs.map (.int .i64), 0, 3⟩])) : wp r (Made Fl.int 3 H xs) := by
  subst h
  simp
  exact ⟨_, rfl, Ow.new0 rfl (cellsOf_int xs).symm (by simp) rfl, by simp⟩
theorem anc_w (v : Value) (P : List Int) (a : Int) (hI : IsI H v P) (hl : P.length ≤ 1073741823) : wp (vcall C frz 29 [v, .int .i64 a] H) (Made Fl.int 3 H (anc P a)) := made_ret (anc_c v P a hI hl)
theorem sAnc_w (v : Value) (P : List Int) (a : Int) (hI : IsI H v P) (hl : P.length ≤ 1073741823) : wp (vcall C frz 70 [v, .int .i64 a] H) (Made Fl.int 3 H (anc P a)) := made_row (sAnc_c v P a hI hl)
theorem common_at {P : List Int} {a b : Int} {i : Nat} (h : i < (anc P a).length) (h1 : ∀ x ∈ (anc P a).take i, x ∉ anc P b) (h2 : (anc P a)[i] ∈ anc P b) : common P a b = (anc P a)[i] := by
  unfold common
  rw [find_at h (by simpa using h1) (by simpa using h2)]; rfl
theorem take_succ_no {xs : List Int} {p : Int → Prop} {i : Nat} (h : i < xs.length) (h1 : ∀ x ∈ xs.take i, p x) (h2 : p xs[i]) : ∀ x ∈ xs.take (i + 1), p x := by
  rw [List.take_succ_eq_append_getElem h]
  intro x hx
  rcases List.mem_append.1 hx with hx | hx
  · exact h1 x hx
  · rw [List.mem_singleton.1 hx]; exact h2
theorem common_w (v : Value) (P : List Int) (a b : Int) (hI : IsI H v P) (hl : P.length ≤ 1073741823) :
   wp (vcall C frz 26 [v, .int .i64 a, .int .i64 b] H) (fun r _ => r = .int .i64 (common P a b)) := by
  rw [vcall_go (fn := Try.f26) Try.func26 rfl (by kernel_rfl) rfl]
  simp
  refine wp_thn (anc_w v P b hI hl) ?_
  rintro vb _ ⟨L1, rfl, ob, nb⟩
  simp
  refine wp_thn (anc_w v P a (hI.app _) hl) ?_
  rintro va _ ⟨L2, rfl, oa, na⟩
  have ob := (ob.app (L := L2)).rd.isI
  have oa := oa.rd.isI
  have hla := anc_len P a
  have hlb := anc_len P b
  simp only [List.append_assoc] at oa ob
  simp [oa.len]
  refine wp_inv (fun n t H' => ∃ i : Nat, n = (anc P a).length - i ∧ i ≤ (anc P a).length ∧ t 7 = vb ∧ t 15 = va ∧ t 16 = .int .i64 (anc P a).length ∧ t 17 = .int .i64 i ∧ H' = H ++ (L1 ++ L2) ∧ ∀ x ∈ (anc P a).take i, x ∉ anc P b) ?_ (n := (anc P a).length) ⟨0, by simp⟩
  rintro n t H' ⟨i, rfl, hi, h7, h15, h16, h17, rfl, hj⟩ ih
  simp [h7, h15, h16, h17]
  refine wp_dec ?_ ?_ <;> intro h5
  · simp [h7, h15, h16, h17, h5, oa.idx, oa.load, getD_get, contains_c _ _ _ ob (by omega)]
    refine wp_dec ?_ ?_ <;> intro h6
    · simp [h7, h15, h16, h17, h5, h6]
      exact (common_at h5 hj h6).symm
    · simp [h7, h15, h16, h17, h5, h6]
      refine ih ((anc P a).length - (i + 1)) _ _ ⟨i + 1, rfl, by omega, by simp [h7], by simp [h15], by simp [h16], ?_, rfl, take_succ_no h5 hj h6⟩ (by omega)
      simp; rw [w64 (by omega) (by omega)]
  · have : i = (anc P a).length := by omega
    subst this
    simp
    rw [List.take_length] at hj
    rw [common_no hj]
theorem common_c (v : Value) (P : List Int) (a b : Int) (hI : IsI H v P) (hl : P.length ≤ 1073741823) : vcall C frz 26 [v, .int .i64 a, .int .i64 b] H = some (.int .i64 (common P a b), H) :=
  (common_w v P a b hI hl).exact (by simp) rfl
theorem sCommon_w (v : Value) (P : List Int) (a b : Int) (hI : IsI H v P) (hl : P.length ≤ 1073741823) :
   wp (vcall C frz 69 [v, .int .i64 a, .int .i64 b] H) (fun r _ => r = .int .i64 (common P a b)) := by
  rw [vcall_go (fn := Try.f69) Try.func69 rfl (by kernel_rfl) rfl]
  simp
  refine wp_thn (sAnc_w v P a hI hl) ?_
  rintro va _ ⟨L1, rfl, oa, na⟩
  simp
  refine wp_thn (sAnc_w v P b (hI.app _) hl) ?_
  rintro vb _ ⟨L2, rfl, ob, nb⟩
  have oa := (oa.app (L := L2)).rd.isI
  have ob := ob.rd.isI
  have hla := anc_len P a
  have hlb := anc_len P b
  simp only [List.append_assoc] at oa ob
  simp
  refine wp_inv (fun n t H' => ∃ i : Nat, n = (anc P a).length - i ∧ i ≤ (anc P a).length ∧ t 7 = va ∧ t 8 = vb ∧ t 9 = .int .i64 i ∧ H' = H ++ (L1 ++ L2) ∧ ∀ x ∈ (anc P a).take i, x ∉ anc P b) ?_ (n := (anc P a).length) ⟨0, by simp⟩
  rintro n t H' ⟨i, rfl, hi, h7, h8, h9, rfl, hj⟩ ih
  simp [h7, h8, h9, oa.len]
  refine wp_dec ?_ ?_ <;> intro h5
  · simp [h7, h8, h9, h5, oa.idx, oa.load, getD_get, find_c _ _ _ ob (by omega)]
    refine wp_dec ?_ ?_ <;> intro h6
    · simp [h7, h8, h9, h5, h6, oa.idx, oa.load, getD_get]
      exact (common_at h5 hj h6).symm
    · simp [h7, h8, h9, h5, h6]
      refine ih ((anc P a).length - (i + 1)) _ _ ⟨i + 1, rfl, by omega, by simp [h7], by simp [h8], ?_, rfl, take_succ_no h5 hj h6⟩ (by omega)
      simp; rw [w64 (by omega) (by omega)]
  · have : i = (anc P a).length := by omega
    subst this
    simp
    rw [List.take_length] at hj
    rw [common_no hj]
theorem sCommon_c (v : Value) (P : List Int) (a b : Int) (hI : IsI H v P) (hl : P.length ≤ 1073741823) : vcall C frz 69 [v, .int .i64 a, .int .i64 b] H = some (.int .i64 (common P a b), H) :=
  (sCommon_w v P a b hI hl).exact (by simp) rfl

/-- xs, of which the first i and the last i are exchanged -/
def flip (xs : List Int) (i : Nat) : List Int := (List.range xs.length).map fun j => if j < i ∨ xs.length - i ≤ j then rd xs ((xs.length - 1 - j : Nat) : Int) else rd xs (j : Int)
theorem flip_len (xs : List Int) (i : Nat) : (flip xs i).length = xs.length := by simp [flip]
theorem flip_get (xs : List Int) (i j : Nat) (h : j < xs.length) : (flip xs i)[j]'(by rw [flip_len]; exact h) = if j < i ∨ xs.length - i ≤ j then xs[xs.length - 1 - j] else xs[j] := by
  simp only [flip, List.getElem_map, List.getElem_range]
  split
  · rw [rd_at (by omega)]
  · rw [rd_at h]
theorem flip_zero (xs : List Int) : flip xs 0 = xs := by
  apply List.ext_getElem (flip_len _ _)
  intro j h1 h2
  rw [flip_get _ _ _ h2, if_neg (by omega)]
theorem flip_end (xs : List Int) (i : Nat) (h : xs.length ≤ 2 * i + 1) : flip xs i = xs.reverse := by
  apply List.ext_getElem (by rw [flip_len, List.length_reverse])
  intro j h1 h2
  rw [flip_get _ _ _ (by simpa using h2), List.getElem_reverse]
  split
  · rfl
  · congr 1; rw [List.length_reverse] at h2; omega
theorem flip_succ (xs : List Int) (i : Nat) (h : 2 * i + 1 < xs.length) : ((flip xs i).set i ((flip xs i)[xs.length - 1 - i]'(by rw [flip_len]; omega))).set (xs.length - 1 - i) ((flip xs i)[i]'(by rw [flip_len]; omega)) = flip xs (i + 1) := by
  apply List.ext_getElem (by simp [flip_len])
  intro j h1 h2
  rw [flip_len] at h2
  rw [List.getElem_set, List.getElem_set, flip_get _ _ _ h2, flip_get _ _ _ (by omega), flip_get _ _ _ (by omega), flip_get _ _ _ h2]
  by_cases e1 : xs.length - 1 - i = j
  · subst e1
    rw [if_pos rfl, if_neg (by omega), if_pos (by omega)]
    congr 1; omega
  · by_cases e2 : i = j
    · subst e2
      rw [if_neg e1, if_pos rfl, if_neg (by omega), if_pos (by omega)]
    · rw [if_neg e1, if_neg e2]
      by_cases e3 : j < i ∨ xs.length - i ≤ j
      · rw [if_pos e3, if_pos (by omega)]
      · rw [if_neg e3, if_neg (by omega)]
theorem reverse_w (v : Value) (xs : List Int) (e : TypeId) (h : Ow Fl.int e H v xs) (hl : xs.length ≤ 1073741824) (hf : ∀ i ∈ ids v, frz ≤ i) :
   wp (vcall C frz 72 [v] H) (fun _ H' => Ow Fl.int e H' v xs.reverse ∧ Chg H H' (ids v) ∧ H'.length = H.length) := by
  rw [vcall_go (fn := Try.f72) Try.func72 rfl (by kernel_rfl) rfl]
  simp [h.rd.len]
  refine wp_inv (fun n t H' => ∃ i : Nat, n = xs.length - i ∧ i ≤ xs.length ∧ t 0 = v ∧ t 2 = .int .i64 i ∧ t 3 = .int .i64 (xs.length - 1 - i) ∧ 2 * i ≤ xs.length + 1 ∧ Ow Fl.int e H' v (flip xs i) ∧ Chg H H' (ids v) ∧ H'.length = H.length) ?_ (n := xs.length)
    ⟨0, by simp, by omega, by simp, by simp, by simp; exact w64 (by omega) (by omega), by omega, by rw [flip_zero]; exact h, Chg.refl _, rfl⟩
  rintro n t H' ⟨i, rfl, hi, h0, h2, h3, h2i, o, c, l⟩ ih
  simp [h0, h2, h3]
  refine wp_dec ?_ ?_ <;> intro h5
  · have i1 := o.rd.isI
    have fl := flip_len xs i
    have e1 : ((xs.length : Int) - 1 - i).toNat = xs.length - 1 - i := by omega
    have e2 : ((xs.length : Int) - 1 - i) = ((xs.length - 1 - i : Nat) : Int) := by omega
    rw [e2] at h3
    simp [h0, h2, h3, h5]
    rw [go_draw (h := by kernel_rfl)]
    have p1 : i < (flip xs i).length := by omega
    have p2 : xs.length - 1 - i < (flip xs i).length := by omega
    simp [h0, h2, h3, h5, i1.idx, i1.load, p1, p2, getD_get]
    obtain ⟨H1, s1, o1, c1, l1⟩ := o.put1 (P := Try.prog) (frz := frz) rfl (et := 3) (ag := false) (by simp) p1 (x := .int .i64 ((flip xs i)[xs.length - 1 - i])) rfl rfl rfl hf
    have i2 := o1.rd.isI
    have p3 : xs.length - 1 - i < ((flip xs i).set i (flip xs i)[xs.length - 1 - i]).length := by simp; omega
    obtain ⟨H2, s2, o2, c2, l2⟩ := o1.put1 (P := Try.prog) (frz := frz) rfl (et := 3) (ag := false) (by simp) p3 (x := .int .i64 ((flip xs i)[i])) rfl rfl rfl hf
    simp [s1, h0, h2, h3, i2.idx, p2, s2]
    refine ih (xs.length - (i + 1)) _ _ ⟨i + 1, rfl, by omega, by simp [h0], ?_, ?_, by omega, ?_, c.trans (c1.trans c2), by omega⟩ (by omega)
    · simp; rw [w64 (by omega) (by omega)]
    · simp; rw [w64 (by omega) (by omega)]; omega
    · rw [flip_succ xs i (by omega)] at o2; exact o2
  · simp
    exact ⟨by rw [← flip_end xs i (by omega)]; exact o, c, l⟩
/-- marks -/
def marks (k : Int) (n : Nat) : List Int := (List.range n).map fun i : Nat => k + (i : Int)
@[simp] theorem marks_len (k : Int) (n : Nat) : (marks k n).length = n := by simp [marks]
theorem marks_succ (k : Int) (n : Nat) : marks k (n + 1) = marks k n ++ [k + n] := by simp [marks, List.range_succ]
theorem marks_get (k : Int) (n i : Nat) (h : i < n) : (marks k n)[i]'(by simpa using h) = k + i := by simp [marks]
theorem marks_set (k : Int) (xs : List Int) (i : Nat) (h : i < xs.length) : (marks k i ++ xs.drop i).set i (k + i) = marks k (i + 1) ++ xs.drop (i + 1) := by
  rw [List.set_append_right _ _ (by simp), marks_len, Nat.sub_self, List.drop_eq_getElem_cons h, List.set_cons_zero, marks_succ]; simp
theorem markIntS_w (v : Value) (xs : List Int) (e : TypeId) (k : Int) (h : Ow Fl.int e H v xs) (hl : xs.length ≤ 1073741824) (hk : 0 ≤ k ∧ k ≤ 4611686018427387904) (hf : ∀ i ∈ ids v, frz ≤ i) :
   wp (vcall C frz 19 [v, .int .i64 k] H) (fun r H' => r = .int .i64 (k + xs.length) ∧ Ow Fl.int e H' v (marks k xs.length) ∧ Chg H H' (ids v) ∧ H'.length = H.length) := by
  rw [vcall_go (fn := Try.f19) Try.func19 rfl (by kernel_rfl) rfl]
  simp
  refine wp_inv (fun n t H' => ∃ i : Nat, n = xs.length - i ∧ i ≤ xs.length ∧ t 0 = v ∧ t 1 = .int .i64 (k + i) ∧ t 5 = .int .i64 i ∧ Ow Fl.int e H' v (marks k i ++ xs.drop i) ∧ Chg H H' (ids v) ∧ H'.length = H.length) ?_ (n := xs.length)
    ⟨0, by simp, by omega, by simp, by simp, by simp, by simpa [marks] using h, Chg.refl _, rfl⟩
  rintro n t H' ⟨i, rfl, hi, h0, h1, h5, o, c, l⟩ ih
  have hlen : (marks k i ++ xs.drop i).length = xs.length := by simp; omega
  simp [h0, h1, h5, o.rd.len, hlen]
  have e1 : (i : Int) + ((xs.length - i : Nat) : Int) = xs.length := by omega
  refine wp_dec ?_ ?_ <;> intro h6
  · have i1 := o.rd.isI
    have p1 : i < (marks k i ++ xs.drop i).length := by omega
    obtain ⟨H1, s1, o1, c1, l1⟩ := o.put1 (P := Try.prog) (frz := frz) rfl (et := 3) (ag := false) (by simp) p1 (x := .int .i64 (k + i)) rfl rfl rfl hf
    have q1 := i1.idx (P := Try.prog) (ty := 22) (e := 3) (by simp) (i := (i : Int)) (by omega) (by omega)
    simp only [Int.toNat_natCast] at q1
    simp [h0, h1, h5, q1, s1]
    refine ih (xs.length - (i + 1)) _ _ ⟨i + 1, rfl, by omega, by simp [h0], ?_, ?_, ?_, c.trans c1, by omega⟩ (by omega)
    · simp; rw [w64 (by omega) (by omega)]; omega
    · simp; rw [w64 (by omega) (by omega)]
    · rw [marks_set _ _ _ (by omega)] at o1; exact o1
  · have : i = xs.length := by omega
    subst this
    simp [h0, h1, h5]
    exact ⟨by simpa using o, c, l⟩
theorem heldIntS_c (v : Value) (n : Nat) (k : Int) (h : IsI H v (marks k n)) (hl : n ≤ 1073741824) (hk : 0 ≤ k ∧ k ≤ 4611686018427387904) :
   vcall C frz 20 [v, .int .i64 k] H = some (.int .i64 (k + n), H) := by
  rw [vcall_go (fn := Try.f20) Try.func20 rfl (by kernel_rfl) rfl]
  simp
  refine go_inv (fun m t H' => ∃ i : Nat, m = n - i ∧ i ≤ n ∧ t 0 = v ∧ t 1 = .int .i64 (k + i) ∧ t 5 = .int .i64 i ∧ H' = H) ?_ (n := n) ⟨0, by simp⟩
  rintro m t H' ⟨i, rfl, hi, h0, h1, h5, rfl⟩ ih
  simp [h0, h1, h5, h.len]
  refine br_dec _ ?_ ?_ <;> intro h6
  · have q1 := h.idx (P := Try.prog) (ty := 22) (e := 3) (by simp) (i := (i : Int)) (by omega) (by simpa using h6)
    have q2 := h.load (P := Try.prog) (e := 3) (by simp) (j := i) (by simpa using h6)
    rw [getD_get _ _ (by simpa using h6), marks_get _ _ _ h6] at q2
    simp only [Int.toNat_natCast] at q1
    simp [h0, h1, h5, h6, q1, q2]
    refine ih (n - (i + 1)) _ _ ⟨i + 1, rfl, by omega, by simp [h0], ?_, ?_, rfl⟩ (by omega)
    · simp; rw [w64 (by omega) (by omega)]; omega
    · simp; rw [w64 (by omega) (by omega)]
  · have : i = n := by omega
    subst this
    simp [h0, h1, h5]
end Go.Proofs.Ytnakhkfgheapoaa.V
/-! Links. -/
set_option linter.all false
namespace Go.Proofs.Ytnakhkfgheapoaa.V
open Go Go.VM Go.Proofs
set_option maxRecDepth 10000
variable {frz : Nat} {H : Heap}
theorem opposite_c (p : Int) : vcall C frz 146 [.int .i64 p] H = some (.int .i64 (opp p), H) := by
  rw [vcall_go (fn := Try.f146) Try.func146 rfl (by kernel_rfl) rfl]
  simp
  refine br_dec _ ?_ ?_ <;> intro h1 <;> simp [h1, opp, inside_c]
  refine br_dec _ ?_ ?_ <;> intro h2
  · obtain ⟨h3, h4⟩ := h2
    simp [h3, h4]
    rw [w64 (by omega) (by omega), Int.tmod_eq_emod_of_nonneg (by omega)]
  · have h3 : ¬ (0 ≤ p ∧ p ≤ 3) := h2
    simp [h3]
theorem sOpposite_c (p : Int) : vcall C frz 165 [.int .i64 p] H = some (.int .i64 (opp p), H) := by
  rw [vcall_go (fn := Try.f165) Try.func165 rfl (by kernel_rfl) rfl]
  simp
  refine br_dec _ ?_ ?_ <;> intro h1 <;> simp [h1, opp, l01In_c]
  refine br_dec _ ?_ ?_ <;> intro h2
  · obtain ⟨h3, h4⟩ := h2
    simp [h3, h4]
    rw [w64 (by omega) (by omega), Int.tmod_eq_emod_of_nonneg (by omega)]
  · have h3 : ¬ (0 ≤ p ∧ p ≤ 3) := h2
    simp [h3]
theorem opp_range (p : Int) : -1 ≤ opp p ∧ opp p ≤ 4 := by unfold opp; split <;> (try split) <;> omega
theorem endC_range (w h c : Int) : -1 ≤ endC w h c ∧ endC w h c < 16 := next_range _ _ _ _
theorem leads_lt {w h c : Int} (h1 : leads w h c) : 0 ≤ c ∧ c < 64 := by have := cnt_range w h; have := h1.1; omega
theorem back_w64 {w h c : Int} : IntKind.i64.wrap (4 * endC w h c) = 4 * endC w h c ∧ IntKind.i64.wrap (4 * endC w h c + opp (c % 4)) = backC w h c := by
  have h1 := endC_range w h c
  have h2 := opp_range (c % 4)
  exact ⟨w64 (by omega) (by omega), by unfold backC; exact w64 (by omega) (by omega)⟩
theorem back_c (w h : Int) (v : Value) (b : List Int) (c : Int) (hI : IsI H v b) (h0 : leads w h c) :
   vcall C frz 126 [.agg #[.int .i64 w, .int .i64 h, v], .int .i64 c] H = some (.int .i64 (backC w h c), H) := by
  rw [vcall_go (fn := Try.f126) Try.func126 rfl (by kernel_rfl) rfl]
  obtain ⟨e1, e2⟩ := chan_div h0.1
  obtain ⟨e3, e4⟩ := back_w64 (w := w) (h := h) (c := c)
  have e5 : next w h (c / 4) (c % 4) = endC w h c := rfl
  simp [hI.one', hI.cells, endOf_c _ _ _ _ _ (hI.app _) h0, e2, opposite_c, e3, e4, e5]
theorem isLink_c (w h : Int) (v : Value) (b : List Int) (c : Int) (hI : IsI H v b) (hl : b.length ≤ 1073741824) :
   vcall C frz 80 [.agg #[.int .i64 w, .int .i64 h, v], .int .i64 c] H = some (.bool (decide (meshOk w h b ∧ link w h b c)), H) := by
  rw [vcall_go (fn := Try.f80) Try.func80 rfl (by kernel_rfl) rfl]
  simp [hI.one', hI.cells]
  rw [go_draw (h := by kernel_rfl)]
  simp [hI.one', hI.cells, hasChannel_c _ _ _ _ _ (hI.app _) hl, -Bool.decide_and]
  refine gd_dec _ _ ?_ ?_ <;> intro h1
  · simp [h1, hI.one', hI.cells, back_c _ _ _ _ _ (hI.app _) h1.2.1, hasChannel_c _ _ _ _ _ (hI.app _) hl, link]
  · have h2 : ¬ (meshOk w h b ∧ link w h b c) := fun hh => h1 ⟨hh.1, hh.2.1⟩
    simp [h1]
    exact fun a b => h2 ⟨a, b⟩
theorem l31Link_c (w h : Int) (v : Value) (b : List Int) (c : Int) (hI : IsI H v b) (hl : b.length ≤ 1073741824) :
   vcall C frz 150 [.agg #[.int .i64 w, .int .i64 h, v], .int .i64 c] H = some (.bool (decide (link w h b c)), H) := by
  rw [vcall_go (fn := Try.f150) Try.func150 rfl (by kernel_rfl) rfl]
  simp [hI.one', hI.cells, l03Has_c _ _ _ _ _ (hI.app _) hl, -Bool.decide_and]
  refine br_dec _ ?_ ?_ <;> intro h1
  · obtain ⟨e1, e2⟩ := chan_div h1.1.1
    obtain ⟨e3, e4⟩ := back_w64 (w := w) (h := h) (c := c)
    have e5 : next w h (c / 4) (c % 4) = endC w h c := rfl
    simp
    rw [go_draw (h := by kernel_rfl)]
    simp [h1, hI.one', hI.cells, e1, e2, sNextNode_c, sOpposite_c, e3, e4, e5, l03Has_c _ _ _ _ _ (hI.app _) hl, link]
  · simp [link, h1]
end Go.Proofs.Ytnakhkfgheapoaa.V
/-! slices.Repeat of one number. -/
set_option linter.all false
namespace Go.Proofs.Ytnakhkfgheapoaa.V
open Go Go.VM Go.Proofs
set_option maxRecDepth 10000
variable {frz : Nat} {H : Heap}
theorem u64w {x : Int} (h1 : 0 ≤ x) (h2 : x ≤ 18446744073709551615) : IntKind.u64.wrap x = x := by
  have : IntKind.u64.wrap x = x % 18446744073709551616 := by
    simp [IntKind.wrap, IntKind.bits, IntKind.signed]
  rw [this]; omega
theorem iand_mask (m : Nat) (h : m < 4294967296) : iand .u64 (m : Int) 4294967295 = m := by
  have := bits_and m 4294967295 (by omega) (by omega) .u64 rfl
  have e : ((4294967295 : Nat) : Int) = 4294967295 := rfl
  rw [e] at this
  unfold iand
  rw [this, show (4294967295 : Nat) = 2 ^ 32 - 1 from rfl, Nat.and_two_pow_sub_one_eq_mod, u64w (by omega) (by omega)]
  omega
theorem ishr32 (m : Nat) (h : m < 4294967296) : ishr .u64 (m : Int) 32 = 0 := by
  have := ishr_nat .u64 m 32 (by decide)
  have e : ((32 : Nat) : Int) = 32 := rfl
  rw [e] at this
  rw [this]; omega
theorem mul64_c (n : Nat) (h : n < 4294967296) : vcall C frz 145 [.int .u64 1, .int .u64 n] H = some (.tuple #[.int .u64 0, .int .u64 n], H) := by
  rw [vcall_go (fn := Try.f145) Try.func145 rfl (by kernel_rfl) rfl]
  have a1 := iand_mask 1 (by omega)
  have a0 := iand_mask 0 (by omega)
  have s1 := ishr32 1 (by omega)
  have s0 := ishr32 0 (by omega)
  have an := iand_mask n h
  have sn := ishr32 n h
  simp only [Int.natCast_zero, Int.natCast_one] at a1 a0 s1 s0
  have w0 : IntKind.u64.wrap 0 = 0 := by decide
  have wn : IntKind.u64.wrap (n : Int) = n := u64w (by omega) (by omega)
  simp [a1, s1, an, sn, wn, w0, a0, s0]
theorem mul_c (n : Nat) (h : n < 4294967296) : vcall C frz 125 [.int .u64 1, .int .u64 n] H = some (.tuple #[.int .u64 0, .int .u64 n], H) := by
  rw [vcall_go (fn := Try.f125) Try.func125 rfl (by kernel_rfl) rfl]
  simp [mul64_c n h]
theorem splice_rep (c z : Value) (k m : Nat) (j : Nat) (h : j ≤ m) : VM.splice (List.replicate k c ++ List.replicate m z) k (List.replicate j c) = List.replicate (k + j) c ++ List.replicate (m - j) z := by
  unfold VM.splice
  rw [List.take_left' (by simp), List.drop_append, List.drop_of_length_le (by simp)]
  simp only [List.length_replicate, Nat.add_sub_cancel_left, List.nil_append, List.drop_replicate]
  rw [List.replicate_append_replicate]
theorem repeat_c (id : Nat) (c : Int) (n : Nat) (hr : H[id]? = some ⟨[.int .i64 c], 0, 3⟩) (h1 : 1 ≤ n) (h2 : n ≤ 536870912) :
   vcall C frz 78 [.slice (some ⟨id, 0, some 0⟩) 1 0, .int .i64 n] H = some (.slice (some ⟨H.length, 0, some 0⟩) n 0, H ++ [⟨List.replicate n (.int .i64 c), 0, 3⟩]) := by
  rw [vcall_go (fn := Try.f78) Try.func78 rfl (by kernel_rfl) rfl]
  have e0 : ¬ (n : Int) < 0 := by omega
  have e1 : IntKind.u64.wrap (n : Int) = n := u64w (by omega) (by omega)
  have e2 : IntKind.u64.wrap 1 = 1 := by decide
  have e3 : IntKind.i64.wrap (n : Int) = n := w64 (by omega) (by omega)
  have e4 : ¬ (9223372036854775807 : Int) < n := by omega
  simp [VM.look, hr, e0, e1, e2, e3, e4, mul_c n (by omega)]
  refine vneed_eq (by omega) ?_
  have lk : ∀ L, (H ++ L)[id]? = some ⟨[.int .i64 c], 0, 3⟩ := fun L => by rw [List.getElem?_append_left (List.getElem?_eq_some_iff.1 hr).1, hr]
  have er : VM.splice (List.replicate n (Value.int .i64 0)) 0 [.int .i64 c] = List.replicate 1 (.int .i64 c) ++ List.replicate (n - 1) (.int .i64 0) := by
    have := splice_rep (.int .i64 c) (.int .i64 0) 0 n 1 h1
    simpa using this
  have m1 : Nat.min 1 n = 1 := Nat.min_eq_left h1
  simp [VM.look, lk, m1, er]
  refine go_inv (fun m t H' => ∃ k : Nat, m = n - k ∧ 1 ≤ k ∧ k ≤ n ∧ t 7 = .slice (some ⟨H.length, 0, some 0⟩) n 0 ∧ t 8 = .int .i64 k ∧ H' = H ++ [⟨List.replicate k (.int .i64 c) ++ List.replicate (n - k) (.int .i64 0), 0, 3⟩]) ?_ (n := n - 1) ⟨1, by simp [e3]; exact h1⟩
  rintro m t H' ⟨k, rfl, hk1, hk, h7, h8, rfl⟩ ih
  simp [h7, h8]
  refine br_dec _ ?_ ?_ <;> intro hkn
  · simp [h7, h8]
    rw [go_draw (h := by kernel_rfl)]
    simp [h7, h8]
    have hmin : k.min (n - k) = min k (n - k) := rfl
    have hrep := splice_rep (.int .i64 c) (.int .i64 0) k (n - k) (min k (n - k)) (Nat.min_le_right _ _)
    have hones : ones (List.replicate k (Value.int .i64 c)) = true := by simp [ones, VM.one]
    refine vneed_eq hk (vneed_eq hk (vneed_eq hones ?_))
    refine ih (n - (k + min k (n - k))) _ _ ⟨k + min k (n - k), rfl, by omega, by omega, by simp [h7], ?_, ?_⟩ (by omega)
    · simp [hmin]; rw [w64 (by omega) (by omega)]
    · rw [hrep]; congr 3; congr 1; congr 1; omega
  · have : k = n := by omega
    subst this
    simp [h7, h8]
end Go.Proofs.Ytnakhkfgheapoaa.V
/-! TreeNodes. -/
set_option linter.all false
namespace Go.Proofs.Ytnakhkfgheapoaa.V
open Go Go.VM Go.Proofs
set_option maxRecDepth 10000
variable {frz : Nat} {H : Heap}
theorem made_base {α : Type} {D : Fl α} {e : TypeId} {L H' : Heap} {xs : List α} {r : Value} (h : Made D e (H ++ L) xs r H') : Made D e H xs r H' := by
  obtain ⟨M, rfl, o, n⟩ := h
  exact ⟨L ++ M, by simp, by simpa using o, fun i hi => by have := n i hi; simp at this; omega⟩
theorem idx_get {y : List Int} {c : Int} (h : c ∈ y) : y[y.idxOf c]'(List.idxOf_lt_length_iff.2 h) = c := by
  have := List.findIdx_getElem (p := (· == c)) (xs := y) (w := List.idxOf_lt_length_iff.2 h)
  simpa using this
theorem idx_ne {y : List Int} {c : Int} {j : Nat} (h : j < y.idxOf c) (h' : j < y.length) : y[j] ≠ c := by
  have := List.not_of_lt_findIdx (p := (· == c)) (xs := y) h
  simpa using this
theorem idx_at {y : List Int} {c : Int} {j : Nat} (h : j < y.length) (h1 : y[j] = c) : y.idxOf c ≤ j := by
  by_cases hj : j < y.idxOf c
  · exact absurd h1 (idx_ne hj h)
  · omega
theorem swapI {A B : Heap} {v : Value} {xs : List Int} {r : Row} (r' : Row) (h : IsI (A ++ r :: B) v xs) (hn : ∀ i ∈ ids v, A.length + 1 ≤ i) : IsI (A ++ r' :: B) v xs :=
  (h.rd.frame fun i hi => by
    have := hn i hi
    obtain ⟨k, rfl⟩ : ∃ k, i = A.length + (k + 1) := ⟨i - A.length - 1, by omega⟩
    simp).isI
theorem treeNodes_w (v : Value) (P : List Int) (a b : Int) (hI : IsI H v P) (hl : P.length ≤ 536870911) :
   wp (vcall C frz 17 [v, .int .i64 a, .int .i64 b] H) (Made Fl.int 3 H (treeNodes P a b)) := by
  rw [vcall_go (fn := Try.f17) Try.func17 rfl (by kernel_rfl) rfl]
  simp [common_c _ _ _ _ hI (by omega)]
  refine wp_dec ?_ ?_ <;> intro h0
  · simp [treeNodes, h0]
    exact ⟨[], by simp, .inl ⟨rfl, rfl⟩, by simp⟩
  · simp
    refine wp_thn (anc_w v P a hI (by omega)) ?_
    rintro va _ ⟨L1, rfl, oa, na⟩
    simp
    refine wp_thn (anc_w v P b (hI.app _) (by omega)) ?_
    rintro vb _ ⟨L2, rfl, ob, nb⟩
    have ltA := oa.lt
    have oa := oa.app (L := L2)
    have hla := anc_len P a
    have hlb := anc_len P b
    simp only [List.append_assoc] at oa ob
    obtain ⟨ma, mb⟩ := common_mem (P := P) (a := a) (b := b) (by omega)
    have ia := List.idxOf_lt_length_iff.2 ma
    have ib := List.idxOf_lt_length_iff.2 mb
    simp
    rw [go_draw (h := by kernel_rfl)]
    have e1 : IntKind.i64.wrap (((anc P a).idxOf (common P a b) : Int) + 1) = (((anc P a).idxOf (common P a b) + 1 : Nat) : Int) := by rw [w64 (by omega) (by omega)]; omega
    obtain ⟨va', s1, oa', ida⟩ := oa.slice (P := Try.prog) (ty := 22) (by simp) (lo := none) (hi := some (.int .i64 (((anc P a).idxOf (common P a b) + 1 : Nat) : Int))) (l := 0) (u := (anc P a).idxOf (common P a b) + 1) rfl rfl (by omega) (by omega)
    obtain ⟨vb', s2, ob', idb⟩ := ob.slice (P := Try.prog) (ty := 22) (by simp) (lo := none) (hi := some (.int .i64 ((anc P b).idxOf (common P a b) : Int))) (l := 0) (u := (anc P b).idxOf (common P a b)) rfl rfl (by omega) (by omega)
    rw [List.drop_zero, Nat.sub_zero] at oa' ob'
    have e0 : place (anc P a) (common P a b) = ((anc P a).idxOf (common P a b) : Int) := if_pos ma
    have e00 : place (anc P b) (common P a b) = ((anc P b).idxOf (common P a b) : Int) := if_pos mb
    rw [e1.symm] at s1
    simp [index_c _ _ _ oa.rd.isI (by omega), e0]
    simp only [s1]
    simp [index_c _ _ _ ob.rd.isI (by omega), e00]
    simp only [s2]
    simp
    rw [ida.symm] at na ltA
    rw [idb.symm] at nb
    refine wp_thn (reverse_w vb' _ 3 ob' (by simp; omega) (fun i hi => by have := nb i hi; simp at this; omega)) ?_
    rintro _ H3 ⟨ob3, c3, l3⟩
    have oa3 := oa'.chg c3 (fun i hi hh => by have h1 := ltA i hi; have h2 := nb i hh; omega)
    obtain ⟨M, rfl⟩ : ∃ M, H3 = H ++ M := ((Chg.app (H := H) (L := L1 ++ L2) []).trans' c3 (fun i hi => .inr (by have := nb i hi; simp at this; omega))).ex (by simp)
    simp
    simp [oa3.rd.one', oa3.rd.cells, ob3.rd.one', ob3.rd.cells]
    refine wp_thn (Q' := Made Fl.int 3 H (treeNodes P a b)) ?_ ?_
    · refine (made_ret (H := H ++ (M ++ [⟨[va', vb'], 0, 22⟩])) (concat_c (H := H ++ (M ++ [⟨[va', vb'], 0, 22⟩])) (H.length + M.length) va' vb' ((anc P a).take ((anc P a).idxOf (common P a b) + 1)) ((anc P b).take ((anc P b).idxOf (common P a b))).reverse (by simp) ?_ ?_ (by simp; omega))).mono ?_
      · have := oa3.rd.isI.app [⟨[va', vb'], 0, 22⟩]; simpa using this
      · have := ob3.rd.isI.app [⟨[va', vb'], 0, 22⟩]; simpa using this
      · intro r H4 h4
        rw [treeNodes, if_neg h0]
        exact made_base h4
    · intro r H4 h4
      simp
      exact h4
end Go.Proofs.Ytnakhkfgheapoaa.V
/-! TreeDepths. -/
set_option linter.all false
namespace Go.Proofs.Ytnakhkfgheapoaa.V
open Go Go.VM Go.Proofs
set_option maxRecDepth 10000
variable {frz : Nat} {H : Heap}
theorem rowget {xs : List Int} {x : Int} (h0 : 0 ≤ x) (h1 : x < xs.length) : (xs.map (Value.int .i64))[x.toNat]? = some (.int .i64 (rd xs x)) := by
  obtain ⟨i, rfl⟩ := Int.eq_ofNat_of_zero_le h0
  rw [rd_at (by omega)]; simp
theorem rd_nat {xs : List Int} {x : Int} (h0 : 0 ≤ x) (h1 : x < xs.length) : xs[x.toNat]'(by omega) = rd xs x := by
  obtain ⟨i, rfl⟩ := Int.eq_ofNat_of_zero_le h0
  rw [rd_at (by omega)]; rfl
theorem rowset {xs : List Int} {x c : Int} (h0 : 0 ≤ x) (h1 : x < xs.length) : VM.splice (xs.map (Value.int .i64)) x.toNat [.int .i64 c] = (xs.set x.toNat c).map (.int .i64) := by
  unfold VM.splice
  rw [List.set_eq_take_append_cons_drop, if_pos (by omega)]
  simp
theorem wr1 : IntKind.i64.wrap 1 = 1 := by decide
theorem run_next {w h : Int} {b s rest nx r : List Int} {d : Int} (R : Run w h b s rest nx d r) (i : Inv w h s rest nx d) : (rest = [] ∧ nx = [] ∧ s = r) ∨
    ∃ a rest' nx' d', rest ++ nx = a :: (rest' ++ nx') ∧ Inv w h s (a :: rest') nx' d' ∧ Run w h b (vis w h b a d' (s, nx')).1 rest' (vis w h b a d' (s, nx')).2 d' r := by
  cases R with
  | done => exact .inl ⟨rfl, rfl, rfl⟩
  | level R =>
    cases R with
    | node R => exact .inr ⟨_, _, [], _, by simp, i.level, R⟩
  | node R => exact .inr ⟨_, _, _, _, by simp, i, R⟩
theorem treeDepths_w (w h : Int) (v : Value) (b : List Int) (root : Int) (hI : IsI H v b) (hl : b.length ≤ 1073741824) :
   wp (vcall C frz 24 [.agg #[.int .i64 w, .int .i64 h, v], .int .i64 root] H) (Made Fl.int 3 H (depths w h b root)) := by
  rw [vcall_go (fn := Try.f24) Try.func24 rfl (by kernel_rfl) rfl]
  have one := And.intro hI.one' hI.cells
  simp [one, isRoot_c _ _ _ _ _ (hI.app _) hl, -Bool.decide_and]
  refine wp_dec ?_ ?_ <;> intro hR
  · have R := depths_run hR
    have hc := cnt_range w h
    obtain ⟨hm, hr⟩ := hR
    obtain ⟨i0, hq0⟩ := start_inv hr
    obtain ⟨r0, r1⟩ := hr
    have hn1 : 1 ≤ (cnt w h).toNat := by omega
    have ecn : ((cnt w h).toNat : Int) = cnt w h := by omega
    have rep := fun F L (hr : (H ++ ⟨[.int .i64 w, .int .i64 h, v], 0, 33⟩ :: L)[H.length + 1]? = some ⟨[.int .i64 (-1)], 0, 3⟩) => repeat_c (frz := F) (H := H ++ ⟨[.int .i64 w, .int .i64 h, v], 0, 33⟩ :: L) (H.length + 1) (-1) (cnt w h).toNat hr hn1 (by omega)
    rw [ecn] at rep
    simp [one, nodeCount_c]
    rw [rep _ _ (by simp)]
    have er : List.replicate (cnt w h).toNat (Value.int .i64 (-1)) = (List.replicate (cnt w h).toNat (-1 : Int)).map (.int .i64) := by simp
    have es := rowset (xs := List.replicate (cnt w h).toNat (-1 : Int)) (c := 0) r0 (by simp; omega)
    rw [er]
    simp only [thn_some]
    have hrl : root < ((cnt w h).toNat : Int) := by omega
    simp [r0, r1, hrl, -List.map_replicate, es, -List.map_set]
    refine wp_need (by omega) (wp_need (by omega) ?_)
    have est : (List.replicate (cnt w h).toNat (-1 : Int)).set root.toNat 0 = start w h root := rfl
    rw [est]
    have hlm : b.length ≤ 1073741824 := hl
    refine wp_inv (fun n t H' => ∃ (s don rest nx q : List Int) (d : Int) (g : Nat) (G : Heap), n = (cnt w h).toNat - don.length ∧ q = don ++ (rest ++ nx) ∧
      t 2 = .pointer (some ⟨H.length, 0, some 0⟩) ∧ t 5 = .slice (some ⟨H.length + 2, 0, some 0⟩) s.length 0 ∧ t 6 = .slice (some ⟨H.length + 3, 0, some g⟩) q.length 0 ∧ t 7 = .int .i64 don.length ∧
      H' = H ++ ⟨[.int .i64 w, .int .i64 h, v], 0, 33⟩ :: ⟨[.int .i64 (-1)], 0, 3⟩ :: ⟨s.map (.int .i64), 0, 3⟩ :: ⟨q.map (.int .i64), g, 3⟩ :: G ∧
      Run w h b s rest nx d (depths w h b root) ∧ Inv w h s rest nx d ∧ ((don.length + rest.length + nx.length + neg s : Nat) : Int) = cnt w h) ?_
      (n := (cnt w h).toNat) ⟨start w h root, [], [root], [], [root], 1, 0, [], by simp, by simp, by simp, by simp [start], by simp, by simp, by simp, R, i0, by simp; omega⟩
    clear R i0 hq0 rep
    rintro n t H' ⟨s, don, rest, nx, q, d, g, G, rfl, hqe, h2, h5, h6, h7, rfl, R, i, hq⟩ ih
    have hql := congrArg List.length hqe
    simp at hql
    simp [h2, h5, h6, h7]
    rcases run_next R i with ⟨rfl, rfl, rfl⟩ | ⟨a, rest', nx', d', hcat, i', R'⟩
    · have hlt : ¬ don.length < q.length := by simp at hql; omega
      simp [h2, h5, h6, h7, hlt]
      exact ⟨_, rfl, Ow.new (k := 2) rfl (cellsOf_int _).symm (by simp) rfl, by simp⟩
    · have hlc := congrArg List.length hcat
      simp at hlc
      have hlt : don.length < q.length := by omega
      have hget : q[don.length]? = some a := by rw [hqe, hcat]; simp
      have hgv : q[don.length] = a := by have := List.getElem?_eq_getElem hlt; rw [hget] at this; exact (Option.some.inj this).symm
      obtain ⟨ha, hda⟩ := i'.fr a (by simp)
      have ha1 := (isN_ok ha)
      have h1d := i'.one
      have hsd := i'.sum
      simp [h2, h5, h6, h7, hlt, hgv]
      refine wp_inv (fun n t H' => ∃ (x : List Int × List Int) (p g : Nat) (G : Heap), n = 4 - p ∧ p ≤ 4 ∧ x = (List.range p).foldl (vst w h b a d') (s, q) ∧ BExt w h d' (s, q) x ∧
        t 2 = .pointer (some ⟨H.length, 0, some 0⟩) ∧ t 5 = .slice (some ⟨H.length + 2, 0, some 0⟩) x.1.length 0 ∧ t 6 = .slice (some ⟨H.length + 3, 0, some g⟩) x.2.length 0 ∧ t 7 = .int .i64 don.length ∧
        t 8 = .int .i64 a ∧ t 9 = .int .i64 p ∧
        H' = H ++ ⟨[.int .i64 w, .int .i64 h, v], 0, 33⟩ :: ⟨[.int .i64 (-1)], 0, 3⟩ :: ⟨x.1.map (.int .i64), 0, 3⟩ :: ⟨x.2.map (.int .i64), g, 3⟩ :: G) ?_
        (n := 4) ⟨(s, q), 0, g, G, by simp, by simp, by simp, BExt.rfl', by simp [h2], by simp [h5], by simp [h6], by simp [h7], by simp, by simp, by simp⟩
      clear h2 h5 h6 h7
      rintro n t H' ⟨x, p, g, G, rfl, hp, hx, E, h2, h5, h6, h7, h8, h9, rfl⟩ ih2
      have hlen : (x.1.length : Int) = cnt w h := by rw [E.len]; exact i.len
      have hxq : x.2.length ≤ 16 := by have := E.sum; simp at this; omega
      simp [h2, h5, h6, h7, h8, h9]
      refine wp_dec ?_ ?_ <;> intro hp4
      · have hp4' : p < 4 := by omega
        have e1 : IntKind.i64.wrap (4 * a) = 4 * a := w64 (by omega) (by omega)
        have e2 : IntKind.i64.wrap (4 * a + p) = 4 * a + p := w64 (by omega) (by omega)
        have nxt := fun (x' : List Int × List Int) (t' : Env) (g' : Nat) (G' H' : Heap) (hH : H' = H ++ ⟨[.int .i64 w, .int .i64 h, v], 0, 33⟩ :: ⟨[.int .i64 (-1)], 0, 3⟩ :: ⟨x'.1.map (.int .i64), 0, 3⟩ :: ⟨x'.2.map (.int .i64), g', 3⟩ :: G') (hx' : x' = vst w h b a d' x p) (k2 : t' 2 = .pointer (some ⟨H.length, 0, some 0⟩)) (k5 : t' 5 = .slice (some ⟨H.length + 2, 0, some 0⟩) x'.1.length 0) (k6 : t' 6 = .slice (some ⟨H.length + 3, 0, some g'⟩) x'.2.length 0) (k7 : t' 7 = .int .i64 don.length) (k8 : t' 8 = .int .i64 a) (k9 : t' 9 = .int .i64 (p + 1 : Nat)) =>
          ih2 (4 - (p + 1)) t' H'
            ⟨x', p + 1, g', G', rfl, by omega, by rw [List.range_succ, List.foldl_append, ← hx]; exact hx', by rw [hx']; exact E.trans (by omega) (vst_ext hp4' (by omega)), k2, k5, k6, k7, k8, k9, hH⟩ (by omega)
        have w9 : IntKind.i64.wrap ((p : Int) + 1) = ((p + 1 : Nat) : Int) := by rw [w64 (by omega) (by omega)]; omega
        simp [h2, h5, h6, h7, h8, h9, one, e1, e2, isLink_c _ _ _ _ _ (hI.app _) hl, hm]
        refine wp_dec ?_ ?_ <;> intro hlk
        · obtain ⟨_, hn, he⟩ := link_next hp4' hlk
          have hend := fun F L => (congrArg (fun z => some (Value.int .i64 z, H ++ L)) he) ▸ endOf_c (frz := F) w h v b (4 * a + (p : Int)) (hI.app L) hlk.1.1
          have hn1 := hn.1
          have hn2 : next w h a p < (x.1.length : Int) := by have := hn.2; omega
          have hg := rowget (xs := x.1) hn1 hn2
          have hr1 := rd_nat hn1 hn2
          have hra : rd x.1 a = d' - 1 := by rw [E.old a ha.1 (show 0 ≤ rd s a by omega)]; exact hda
          have ha2 : a < (x.1.length : Int) := by have := ha.2; omega
          have hr2 := rd_nat ha.1 ha2
          simp [h2, h5, h6, h7, h8, h9, one, e1, e2, hend, hn1, hn2, hr1]
          refine wp_dec ?_ ?_ <;> intro hz
          · have hset := rowset (c := d') hn1 hn2
            have ev : vst w h b a d' x p = (x.1.set (next w h a p).toNat d', x.2 ++ [next w h a p]) := by unfold vst; rw [if_pos ⟨hlk, hz⟩]
            have wd : IntKind.i64.wrap d' = d' := w64 (by omega) (by omega)
            have ha0 := ha.1
            simp [h2, h5, h6, h7, h8, h9, hn1, hn2, ha0, ha2, hr2, hra, wd]
            refine wp_need (by omega) (wp_need (by omega) ?_)
            rw [hset]
            refine nxt (x.1.set (next w h a p).toNat d', x.2 ++ [next w h a p]) _ (g + 1) (G ++ [⟨[.int .i64 (next w h a p)], 0, 3⟩]) _ (by simp) ev.symm (by simp [h2]) (by simp [h5]) (by simp) (by simp [h7]) (by simp [h8]) (by simp [w9])
          · simp [h2, h5, h6, h7, h8, h9, hz]
            have ev : x = vst w h b a d' x p := by unfold vst; rw [if_neg (fun hh => hz hh.2)]
            refine nxt x _ g G _ (by simp) ev (by simp [h2]) (by simp [h5]) (by simp [h6]) (by simp [h7]) (by simp [h8]) (by simp [w9])
        · simp [h2, h5, h6, h7, h8, h9, hlk]
          have ev : x = vst w h b a d' x p := by unfold vst; rw [if_neg (fun hh => hlk hh.1)]
          refine nxt x _ g G _ (by simp) ev (by simp [h2]) (by simp [h5]) (by simp [h6]) (by simp [h7]) (by simp [h8]) (by simp [w9])
      · have : p = 4 := by omega
        subst this
        have e2 : x = ((vis w h b a d' (s, nx')).1, (don ++ a :: rest') ++ (vis w h b a d' (s, nx')).2) := by
          rw [hx, hqe, hcat]; exact vis_app (don ++ a :: rest') s nx' |> fun hh => by simpa [vis] using hh
        simp [h2, h5, h6, h7, h8, h9]
        have hs1 := (vis_ext (w := w) (h := h) (b := b) (a := a) (d := d') (by omega) (s, nx')).sum
        simp only at hs1
        refine ih ((cnt w h).toNat - (don ++ [a]).length) _ _ ⟨(vis w h b a d' (s, nx')).1, don ++ [a], rest', (vis w h b a d' (s, nx')).2, x.2, d', g, G, rfl, ?_, by simp [h2], ?_, by simp [h6], ?_, ?_, R', i'.node, ?_⟩ (by simp; omega)
        · rw [e2]; simp
        · simp [h5, e2]
        · simp; rw [w64 (by omega) (by omega)]
        · rw [e2]
        · simp; omega
  · rw [depths_no hR]
    simp
    exact ⟨_, rfl, .inl ⟨rfl, rfl⟩, by simp⟩
end Go.Proofs.Ytnakhkfgheapoaa.V
/-! TreeDepths of the reference. -/
set_option linter.all false
namespace Go.Proofs.Ytnakhkfgheapoaa.V
open Go Go.VM Go.Proofs
set_option maxRecDepth 10000
variable {frz : Nat} {H : Heap}
theorem run_level {w h : Int} {b s nx r : List Int} {d : Int} (R : Run w h b s [] nx d r) (i : Inv w h s [] nx d) : (nx = [] ∧ s = r) ∨ (Run w h b s nx [] (d + 1) r ∧ Inv w h s nx [] (d + 1)) := by
  cases R with
  | done => exact .inl ⟨rfl, rfl⟩
  | level R => exact .inr ⟨R, i.level⟩
theorem run_node {w h : Int} {b s rest nx r : List Int} {a d : Int} (R : Run w h b s (a :: rest) nx d r) : Run w h b (vis w h b a d (s, nx)).1 rest (vis w h b a d (s, nx)).2 d r := by
  cases R with
  | node R => exact R
theorem l31Depths_w (w h : Int) (v : Value) (b : List Int) (root : Int) (hI : IsI H v b) (hl : b.length ≤ 1073741824) (hR : rootOk w h b root) :
   wp (vcall C frz 149 [.agg #[.int .i64 w, .int .i64 h, v], .int .i64 root] H) (Made Fl.int 3 H (depths w h b root)) := by
  rw [vcall_go (fn := Try.f149) Try.func149 rfl (by kernel_rfl) rfl]
  have one := And.intro hI.one' hI.cells
  have R := depths_run hR
  have hc := cnt_range w h
  obtain ⟨hm, hr⟩ := hR
  obtain ⟨i0, hq0⟩ := start_inv hr
  obtain ⟨r0, r1⟩ := hr
  simp [one]
  refine wp_inv (fun n t H' => ∃ (i : Nat) (G : Heap), n = (cnt w h).toNat - i ∧ i ≤ (cnt w h).toNat ∧ t 1 = .int .i64 root ∧ t 2 = .pointer (some ⟨H.length, 0, some 0⟩) ∧ t 5 = .slice (some ⟨H.length + 1, 0, some i⟩) i 0 ∧ t 6 = .int .i64 i ∧
    H' = H ++ ⟨[.int .i64 w, .int .i64 h, v], 0, 33⟩ :: ⟨(List.replicate i (-1 : Int)).map (.int .i64), i, 3⟩ :: G) ?_ (n := (cnt w h).toNat) ⟨0, [], by simp⟩
  rintro n t H' ⟨i, G, rfl, hi, h1, h2, h5, h6, rfl⟩ ih
  simp [h1, h2, h5, h6, one, sNodeCount_c, -List.map_replicate]
  refine wp_dec ?_ ?_ <;> intro hic
  · simp [h1, h2, h5, h6, one, -List.map_replicate]
    refine wp_need (by omega) ?_
    refine ih ((cnt w h).toNat - (i + 1)) _ _ ⟨i + 1, G ++ [⟨[.int .i64 (-1)], 0, 3⟩], rfl, by omega, by simp [h1], by simp [h2], by simp, ?_, ?_⟩ (by omega)
    · simp; rw [w64 (by omega) (by omega)]
    · simp [List.replicate_succ', -List.map_replicate]
  · have : i = (cnt w h).toNat := by omega
    subst this
    have es := rowset (xs := List.replicate (cnt w h).toNat (-1 : Int)) (c := 0) r0 (by simp; omega)
    have hrl : root < ((cnt w h).toNat : Int) := by omega
    have est : (List.replicate (cnt w h).toNat (-1 : Int)).set root.toNat 0 = start w h root := rfl
    simp [h1, h2, h5, h6, one, r0, r1, hrl, -List.map_replicate, es, -List.map_set, est]
    refine wp_need (by omega) (wp_need (by omega) ?_)
    clear ih h1 h6
    generalize hg0 : (cnt w h).toNat = g0
    have hcg : (cnt w h) = (g0 : Int) := by omega
    refine wp_inv (fun n t H' => ∃ (s fr : List Int) (d : Int) (vf : Value) (L : Heap), n = g0 + 2 - d.toNat ∧ 1 ≤ d ∧ d ≤ g0 + 1 ∧ s.length = g0 ∧ fr.length ≤ 16 ∧
      t 2 = .pointer (some ⟨H.length, 0, some 0⟩) ∧ t 5 = .slice (some ⟨H.length + 1, 0, some g0⟩) s.length 0 ∧ t 7 = vf ∧ t 8 = .int .i64 d ∧
      H' = H ++ ⟨[.int .i64 w, .int .i64 h, v], 0, 33⟩ :: ⟨s.map (.int .i64), g0, 3⟩ :: L ∧
      (∀ r1 L', IsI (H ++ ⟨[.int .i64 w, .int .i64 h, v], 0, 33⟩ :: r1 :: (L ++ L')) vf fr) ∧
      ((fr = [] ∧ s = depths w h b root) ∨ (Run w h b s fr [] d (depths w h b root) ∧ Inv w h s fr [] d))) ?_
      (n := g0 + 1) ⟨start w h root, [root], 1, _, G ++ [⟨[.int .i64 root], 0, 3⟩], by simp, by omega, by omega, by simp [start, hg0], by simp, by simp [h2], by simp [start, hg0, h5], rfl, by simp, by simp, ?_, .inr ⟨R, i0⟩⟩
    · clear R i0 hq0
      rintro n t H' ⟨s, fr, d, vf, L, rfl, hd1, hd2, hsl, hfl, h2, h5, h7, h8, rfl, fF, hRI⟩ ih
      have lenF := fun r1 L' => (fF r1 L').len (P := Try.prog) (ty := 22) (by simp)
      have lenF0 := fun r1 => lenF r1 []
      simp only [List.append_nil] at lenF0
      simp [h2, h5, h7, h8, lenF, lenF0]
      refine wp_dec ?_ ?_ <;> intro hf0
      · rcases hRI with ⟨rfl, _⟩ | ⟨R, i⟩
        · simp at hf0
        simp [h2, h5, h7, h8]
        -- the nodes of the front
        refine wp_inv (fun n t H' => ∃ (s don rest nx : List Int) (g : Nat) (G : Heap), n = fr.length - don.length ∧ fr = don ++ rest ∧ s.length = g0 ∧
          t 2 = .pointer (some ⟨H.length, 0, some 0⟩) ∧ t 5 = .slice (some ⟨H.length + 1, 0, some g0⟩) s.length 0 ∧ t 7 = vf ∧ t 8 = .int .i64 d ∧ t 9 = .slice (some ⟨H.length + (L.length + 1 + 1), 0, some g⟩) nx.length 0 ∧ t 10 = .int .i64 don.length ∧
          H' = H ++ ⟨[.int .i64 w, .int .i64 h, v], 0, 33⟩ :: ⟨s.map (.int .i64), g0, 3⟩ :: (L ++ ⟨nx.map (.int .i64), g, 3⟩ :: G) ∧
          Run w h b s rest nx d (depths w h b root) ∧ Inv w h s rest nx d) ?_ (n := fr.length) ⟨s, [], fr, [], 0, [], by simp, by simp, hsl, by simp [h2], by simp [h5], by simp [h7], by simp [h8], by simp, by simp, by simp, R, i⟩
        clear R i h2 h5 h7 h8 hsl
        rintro n t H' ⟨s, don, rest, nx, g, G, rfl, hfe, hsl, h2, h5, h7, h8, h9, h10, rfl, R, i⟩ ih2
        simp [h2, h5, h7, h8, h9, h10, lenF]
        have hlf := congrArg List.length hfe
        simp at hlf
        have h1d := i.one
        have hsd := i.sum
        refine wp_dec ?_ ?_ <;> intro hdl
        · obtain ⟨a, rest', rfl⟩ : ∃ a rest', rest = a :: rest' := by
            cases rest with
            | nil => simp at hlf; omega
            | cons a l => exact ⟨a, l, rfl⟩
          obtain ⟨ha, hda⟩ := i.fr a (by simp)
          have ha1 := isN_ok ha
          have hgv : fr[don.length] = a := by subst hfe; simp
          have xF := fun r1 L' => (fF r1 L').idx (P := Try.prog) (ty := 22) (e := 3) (by simp) (i := (don.length : Int)) (by omega) (by omega)
          have dF := fun r1 L' => ((fF r1 L').load (P := Try.prog) (e := 3) (by simp) hdl).trans (by rw [getD_get _ _ hdl, hgv])
          simp only [Int.toNat_natCast] at xF
          simp [h2, h5, h7, h8, h9, h10]
          refine wp_inv (fun n t H' => ∃ (x : List Int × List Int) (p g : Nat) (G : Heap), n = 4 - p ∧ p ≤ 4 ∧ x = (List.range p).foldl (vst w h b a d) (s, nx) ∧ BExt w h d (s, nx) x ∧
            t 2 = .pointer (some ⟨H.length, 0, some 0⟩) ∧ t 5 = .slice (some ⟨H.length + 1, 0, some g0⟩) x.1.length 0 ∧ t 7 = vf ∧ t 8 = .int .i64 d ∧ t 9 = .slice (some ⟨H.length + (L.length + 1 + 1), 0, some g⟩) x.2.length 0 ∧ t 10 = .int .i64 don.length ∧ t 11 = .int .i64 p ∧
            H' = H ++ ⟨[.int .i64 w, .int .i64 h, v], 0, 33⟩ :: ⟨x.1.map (.int .i64), g0, 3⟩ :: (L ++ ⟨x.2.map (.int .i64), g, 3⟩ :: G)) ?_
            (n := 4) ⟨(s, nx), 0, g, G, by simp, by simp, by simp, BExt.rfl', by simp [h2], by simp [h5], by simp [h7], by simp [h8], by simp [h9], by simp [h10], by simp, by simp⟩
          clear h2 h5 h7 h8 h9 h10
          rintro n t H' ⟨x, p, g, G, rfl, hp, hx, E, h2, h5, h7, h8, h9, h10, h11, rfl⟩ ih3
          have hlen : (x.1.length : Int) = cnt w h := by rw [E.len]; exact i.len
          have hxq : x.2.length ≤ 16 := by have := E.sum; simp at this; omega
          simp [h2, h5, h7, h8, h9, h10, h11]
          refine wp_dec ?_ ?_ <;> intro hp4
          · have hp4' : p < 4 := by omega
            have e1 : IntKind.i64.wrap (4 * a) = 4 * a := w64 (by omega) (by omega)
            have e2 : IntKind.i64.wrap (4 * a + p) = 4 * a + p := w64 (by omega) (by omega)
            have nxt := fun (x' : List Int × List Int) (t' : Env) (g' : Nat) (G' H' : Heap) (hH : H' = H ++ ⟨[.int .i64 w, .int .i64 h, v], 0, 33⟩ :: ⟨x'.1.map (.int .i64), g0, 3⟩ :: (L ++ ⟨x'.2.map (.int .i64), g', 3⟩ :: G')) (hx' : x' = vst w h b a d x p) (k2 : t' 2 = .pointer (some ⟨H.length, 0, some 0⟩)) (k5 : t' 5 = .slice (some ⟨H.length + 1, 0, some g0⟩) x'.1.length 0) (k7 : t' 7 = vf) (k8 : t' 8 = .int .i64 d) (k9 : t' 9 = .slice (some ⟨H.length + (L.length + 1 + 1), 0, some g'⟩) x'.2.length 0) (k10 : t' 10 = .int .i64 don.length) (k11 : t' 11 = .int .i64 (p + 1 : Nat)) =>
              ih3 (4 - (p + 1)) t' H' ⟨x', p + 1, g', G', rfl, by omega, by rw [List.range_succ, List.foldl_append, ← hx]; exact hx', by rw [hx']; exact E.trans (by omega) (vst_ext hp4' (by omega)), k2, k5, k7, k8, k9, k10, k11, hH⟩ (by omega)
            have w11 : IntKind.i64.wrap ((p : Int) + 1) = ((p + 1 : Nat) : Int) := by rw [w64 (by omega) (by omega)]; omega
            simp [h2, h5, h7, h8, h9, h10, h11, one]
            rw [go_draw (h := by kernel_rfl)]
            simp [h2, h5, h7, h8, h9, h10, h11, one, xF, dF, e1, e2, l31Link_c _ _ _ _ _ (hI.app _) hl]
            refine wp_dec ?_ ?_ <;> intro hlk
            · obtain ⟨_, hn, he⟩ := link_next hp4' hlk
              have hn1 := hn.1
              have hn2 : next w h a p < (x.1.length : Int) := by have := hn.2; omega
              have hr1 := rd_nat hn1 hn2
              simp [h2, h5, h7, h8, h9, h10, h11, one]
              rw [go_draw (h := by kernel_rfl)]
              simp [h2, h5, h7, h8, h9, h10, h11, one, xF, dF, sNextNode_c, hn1, hn2, hr1]
              refine wp_dec ?_ ?_ <;> intro hz
              · have hset := rowset (c := d) hn1 hn2
                have ev : vst w h b a d x p = (x.1.set (next w h a p).toNat d, x.2 ++ [next w h a p]) := by unfold vst; rw [if_pos ⟨hlk, hz⟩]
                simp [h2, h5, h7, h8, h9, h10, h11, hn1, hn2]
                refine wp_need (by omega) (wp_need (by omega) ?_)
                rw [hset]
                refine nxt (x.1.set (next w h a p).toNat d, x.2 ++ [next w h a p]) _ (g + 1) (G ++ [⟨[.int .i64 (next w h a p)], 0, 3⟩]) _ (by simp) ev.symm (by simp [h2]) (by simp [h5]) (by simp [h7]) (by simp [h8]) (by simp) (by simp [h10]) (by simp [w11])
              · simp [h2, h5, h7, h8, h9, h10, h11, hz]
                have ev : x = vst w h b a d x p := by unfold vst; rw [if_neg (fun hh => hz hh.2)]
                refine nxt x _ g G _ (by simp) ev (by simp [h2]) (by simp [h5]) (by simp [h7]) (by simp [h8]) (by simp [h9]) (by simp [h10]) (by simp [w11])
            · simp [h2, h5, h7, h8, h9, h10, h11, hlk]
              have ev : x = vst w h b a d x p := by unfold vst; rw [if_neg (fun hh => hlk hh.1)]
              refine nxt x _ g G _ (by simp) ev (by simp [h2]) (by simp [h5]) (by simp [h7]) (by simp [h8]) (by simp [h9]) (by simp [h10]) (by simp [w11])
          · have : p = 4 := by omega
            subst this
            have e2 : x = vis w h b a d (s, nx) := hx
            simp [h2, h5, h7, h8, h9, h10, h11]
            refine ih2 (fr.length - (don ++ [a]).length) _ _ ⟨(vis w h b a d (s, nx)).1, don ++ [a], rest', (vis w h b a d (s, nx)).2, g, G, rfl, by rw [hfe]; simp, by rw [← e2]; omega, by simp [h2], by simp [h5, e2], by simp [h7], by simp [h8], by simp [h9, e2], ?_, by rw [e2], run_node R, i.node⟩ (by simp; omega)
            simp; rw [w64 (by omega) (by omega)]
        · obtain rfl : rest = [] := by
            cases rest with
            | nil => rfl
            | cons a l => simp at hlf; omega
          simp [h2, h5, h7, h8, h9, h10]
          have wd : IntKind.i64.wrap (d + 1) = d + 1 := w64 (by omega) (by omega)
          refine ih (g0 + 2 - (d + 1).toNat) _ _ ⟨s, nx, d + 1, _, L ++ ⟨nx.map (.int .i64), g, 3⟩ :: G, rfl, by omega, by omega, hsl, by omega, by simp [h2], by simp [h5], rfl, by simp [wd], by simp, ?_, ?_⟩ (by omega)
          · intro r1 L'
            simp
            exact IsI.at (k := L.length + 1 + 1) (by simp; rfl)
          · rcases run_level R i with ⟨rfl, rfl⟩ | hh
            · exact .inl ⟨rfl, rfl⟩
            · exact .inr hh
      · have hs : s = depths w h b root := by
          rcases hRI with ⟨_, hs⟩ | ⟨R, i⟩
          · exact hs
          · obtain rfl : fr = [] := by
              cases fr with
              | nil => rfl
              | cons a l => simp at hf0
            rcases run_level R i with ⟨_, hh⟩ | ⟨R2, i2⟩
            · exact hh
            · cases R with
              | done => rfl
        subst hs
        simp [h2, h5, h7, h8]
        exact ⟨_, rfl, Ow.new (k := 1) rfl (cellsOf_int _).symm (by simp) rfl, by simp⟩
    · intro r1 L'
      simp
      exact IsI.at (xs := [root]) (k := G.length + 1 + 1) (e := 3) (by simp)
theorem sTreeDepths_w (w h : Int) (v : Value) (b : List Int) (root : Int) (hI : IsI H v b) (hl : b.length ≤ 1073741824) :
   wp (vcall C frz 128 [.agg #[.int .i64 w, .int .i64 h, v], .int .i64 root] H) (Made Fl.int 3 H (depths w h b root)) := by
  rw [vcall_go (fn := Try.f128) Try.func128 rfl (by kernel_rfl) rfl]
  have one := And.intro hI.one' hI.cells
  simp [one, l31Ok_c _ _ _ _ _ (hI.app _) hl, -Bool.decide_and]
  refine wp_dec ?_ ?_ <;> intro hR
  · simp [one]
    refine wp_thn (l31Depths_w w h v b root (hI.app _) hl hR) ?_
    intro r H' k
    simp
    exact made_base k
  · rw [depths_no hR]
    simp
    exact ⟨_, rfl, Ow.new (D := Fl.int) (e := 3) (k := 1) (g := 0) (cs := []) rfl rfl rfl rfl, by simp⟩
end Go.Proofs.Ytnakhkfgheapoaa.V
/-! TreeParents, IsConnected, DepthOfTree, BestRoot. -/
set_option linter.all false
namespace Go.Proofs.Ytnakhkfgheapoaa.V
open Go Go.VM Go.Proofs
set_option maxRecDepth 10000
variable {frz : Nat} {H : Heap}
/-- the parent that j ports, from the last one on, tell -/
def pF (w h : Int) (b d : List Int) (i : Int) : Nat → Int
  | 0 => -1
  | j + 1 => if toRoot w h b d i (3 - j) then next w h i (3 - j : Nat) else pF w h b d i j
theorem pF_par {w h : Int} {b d : List Int} {i : Int} (h0 : rd d i > 0) : pF w h b d i 4 = par w h b d i := by
  simp only [par, pF, if_pos h0]
theorem wrm1 : IntKind.i64.wrap (-1) = -1 := by decide
theorem treeParents_w (w h : Int) (v : Value) (b : List Int) (root : Int) (hI : IsI H v b) (hl : b.length ≤ 1073741824) :
   wp (vcall C frz 25 [.agg #[.int .i64 w, .int .i64 h, v], .int .i64 root] H) (Made Fl.int 3 H (parents w h b root)) := by
  rw [vcall_go (fn := Try.f25) Try.func25 rfl (by kernel_rfl) rfl]
  have one := And.intro hI.one' hI.cells
  have hc := cnt_range w h
  simp [one]
  refine wp_thn (treeDepths_w w h v b root (hI.app _) hl) ?_
  rintro vd _ ⟨L, rfl, od, nd⟩
  have od := od.rd.isI
  simp only [List.append_assoc, List.singleton_append] at od
  have hdl := depths_length w h b root
  have dm := fun v (hv : v ∈ depths w h b root) => depths_mem hv
  have dv : (depths w h b root) ≠ [] → rootOk w h b root ∧ ((depths w h b root).length : Int) = cnt w h := fun hne => by
    by_cases hR : rootOk w h b root
    · exact ⟨hR, (depths_inv hR).1⟩
    · exact absurd (depths_no hR) hne
  unfold parents pars
  generalize depths w h b root = D at *
  have fD := fun L' => od.app L'
  simp only [List.append_assoc, List.cons_append, List.nil_append] at fD
  have lD := fun L' => (fD L').len (P := Try.prog) (ty := 22) (by simp)
  simp [lD]
  refine wp_inv (fun n t H' => ∃ (i g : Nat) (G : Heap) (o : List Int), n = D.length - i ∧ i ≤ D.length ∧ o = (List.range i).map (fun i : Nat => par w h b D (i : Int)) ∧
    t 2 = .pointer (some ⟨H.length, 0, some 0⟩) ∧ t 5 = vd ∧ t 6 = .slice (some ⟨H.length + (L.length + 1), 0, some g⟩) o.length 0 ∧ t 16 = vd ∧ t 17 = .int .i64 D.length ∧ t 18 = .int .i64 i ∧
    H' = H ++ ⟨[.int .i64 w, .int .i64 h, v], 0, 33⟩ :: (L ++ ⟨o.map (.int .i64), g, 3⟩ :: G)) ?_ (n := D.length) ⟨0, 0, [], [], by simp⟩
  rintro n t H' ⟨i, g, G, o, rfl, hi, ho, h2, h5, h6, h16, h17, h18, rfl⟩ ih
  simp [h2, h5, h6, h16, h17, h18]
  have hol : o.length = i := by rw [ho]; simp
  refine wp_dec ?_ ?_ <;> intro hid
  · obtain ⟨⟨hm, hr⟩, hlc⟩ := dv (fun hh => by rw [hh] at hid; simp at hid)
    have hid' : i < D.length := by omega
    have xD := fun L' => (fD L').idx (P := Try.prog) (ty := 22) (e := 3) (by simp) (i := (i : Int)) (by omega) (by omega)
    have rD := fun L' => ((fD L').load (P := Try.prog) (e := 3) (by simp) hid').trans (by rw [getD_get _ _ hid', ← rd_at hid'])
    simp only [Int.toNat_natCast] at xD
    have hd := dm _ (rd_mem (s := D) (k := (i : Int)) (by omega) (by omega))
    have w3 : IntKind.i64.wrap (rd D i - 1) = rd D i - 1 := w64 (by omega) (by omega)
    simp [h2, h5, h6, h16, h17, h18, xD, rD]
    refine wp_inv (fun n t H' => ∃ (j : Nat), n = 4 - j ∧ j ≤ 4 ∧ (rd D i > 0 ∨ j = 0) ∧
      t 2 = .pointer (some ⟨H.length, 0, some 0⟩) ∧ t 5 = vd ∧ t 6 = .slice (some ⟨H.length + (L.length + 1), 0, some g⟩) o.length 0 ∧ t 16 = vd ∧ t 17 = .int .i64 D.length ∧ t 18 = .int .i64 i ∧
      t 7 = .int .i64 i ∧ t 8 = .int .i64 (rd D i) ∧ t 9 = .int .i64 (pF w h b D i j) ∧ t 10 = .int .i64 (3 - j : Int) ∧
      H' = H ++ ⟨[.int .i64 w, .int .i64 h, v], 0, 33⟩ :: (L ++ ⟨o.map (.int .i64), g, 3⟩ :: G)) ?_ (n := 4) ⟨0, by simp [h2, h5, h6, h16, h17, h18, pF]⟩
    clear h2 h5 h6 h16 h17 h18
    rintro n t H' ⟨j, rfl, hj, hpos, h2, h5, h6, h16, h17, h18, h7, h8, h9, h10, rfl⟩ ih2
    simp [h2, h5, h6, h16, h17, h18, h7, h8, h9, h10]
    refine wpg_dec ?_ ?_ <;> intro hj3
    · have hj4 : j < 4 := by omega
      simp [h2, h5, h6, h16, h17, h18, h7, h8, h9, h10, hj3]
      refine wp_dec ?_ ?_ <;> intro hp0
      · have ep : (3 - (j : Int)) = ((3 - j : Nat) : Int) := by omega
        have hp4 : 3 - j < 4 := by omega
        have e1 : IntKind.i64.wrap (4 * (i : Int)) = 4 * i := w64 (by omega) (by omega)
        have e2 : IntKind.i64.wrap (4 * (i : Int) + (3 - j : Nat)) = 4 * i + (3 - j : Nat) := w64 (by omega) (by omega)
        have nxt := fun (t' : Env) (k2 : t' 2 = .pointer (some ⟨H.length, 0, some 0⟩)) (k5 : t' 5 = vd) (k6 : t' 6 = .slice (some ⟨H.length + (L.length + 1), 0, some g⟩) o.length 0) (k16 : t' 16 = vd) (k17 : t' 17 = .int .i64 D.length) (k18 : t' 18 = .int .i64 i) (k7 : t' 7 = .int .i64 i) (k8 : t' 8 = .int .i64 (rd D i)) (k9 : t' 9 = .int .i64 (pF w h b D i (j + 1))) (k10 : t' 10 = .int .i64 (IntKind.i64.wrap (((3 - j : Nat) : Int) - 1))) =>
          ih2 (4 - (j + 1)) t' (H ++ ⟨[.int .i64 w, .int .i64 h, v], 0, 33⟩ :: (L ++ ⟨o.map (.int .i64), g, 3⟩ :: G)) ⟨j + 1, rfl, by omega, .inl hp0, k2, k5, k6, k16, k17, k18, k7, k8, k9, by rw [k10, w64 (by omega) (by omega)]; congr 1; omega, rfl⟩ (by omega)
        rw [ep] at h10
        simp [h2, h5, h6, h16, h17, h18, h7, h8, h9, h10, e1, e2, one, isLink_c _ _ _ _ _ (hI.app _) hl, hm]
        refine wpg_dec ?_ ?_ <;> intro hlk
        · obtain ⟨_, hn, he⟩ := link_next hp4 hlk
          have hend := fun F L => (congrArg (fun z => some (Value.int .i64 z, H ++ L)) he) ▸ endOf_c (frz := F) w h v b (4 * (i : Int) + (3 - j : Nat)) (hI.app L) hlk.1.1
          have xE := fun L' => (fD L').idx (P := Try.prog) (ty := 22) (e := 3) (by simp) hn.1 (by have := hn.2; omega)
          have rE := fun L' => ((fD L').load (P := Try.prog) (e := 3) (by simp) (j := (next w h i (3 - j : Nat)).toNat) (by have := hn.1; have := hn.2; omega))
          have rE' : D.getD (next w h i (3 - j : Nat)).toNat 0 = rd D (next w h i (3 - j : Nat)) := rfl
          rw [rE'] at rE
          simp [h2, h5, h6, h16, h17, h18, h7, h8, h9, h10, e1, e2, one, hlk, hend, xE, rE, w3]
          refine wp_dec ?_ ?_ <;> intro hdd
          · simp [h2, h5, h6, h16, h17, h18, h7, h8, h9, h10, e1, e2, one, hlk, hend]
            refine nxt _ (by simp [h2]) (by simp [h5]) (by simp [h6]) (by simp [h16]) (by simp [h17]) (by simp [h18]) (by simp [h7]) (by simp [h8]) ?_ (by simp [h10])
            simp [pF, toRoot, hlk, hdd]
          · simp [h2, h5, h6, h16, h17, h18, h7, h8, h9, h10, hdd]
            refine nxt _ (by simp [h2]) (by simp [h5]) (by simp [h6]) (by simp [h16]) (by simp [h17]) (by simp [h18]) (by simp [h7]) (by simp [h8]) ?_ (by simp [h10])
            simp [pF, toRoot, hdd, h9]
        · simp [h2, h5, h6, h16, h17, h18, h7, h8, h9, h10, hlk]
          refine nxt _ (by simp [h2]) (by simp [h5]) (by simp [h6]) (by simp [h16]) (by simp [h17]) (by simp [h18]) (by simp [h7]) (by simp [h8]) ?_ (by simp [h10])
          simp [pF, toRoot, hlk, h9]
      · have hj0 : j = 0 := by omega
        subst hj0
        have he : pF w h b D i 0 = par w h b D i := by unfold par; rw [if_neg hp0]; rfl
        rw [he] at h9
        simp [h2, h5, h6, h16, h17, h18, h7, h8, h9, h10, hp0]
        refine wp_need (by omega) ?_
        refine ih (D.length - (i + 1)) _ _ ⟨i + 1, g + 1, G ++ [⟨[.int .i64 (par w h b D i)], 0, 3⟩], o ++ [par w h b D i], rfl, by omega, by rw [List.range_succ, List.map_append, ← ho]; rfl, by simp [h2], by simp [h5], by simp, by simp [h16], by simp [h17], ?_, by simp⟩ (by omega)
        simp; rw [w64 (by omega) (by omega)]
    · have hj4 : j = 4 := by omega
      subst hj4
      have he : pF w h b D i 4 = par w h b D i := pF_par (by omega)
      rw [he] at h9
      simp [h2, h5, h6, h16, h17, h18, h7, h8, h9, h10]
      refine wp_need (by omega) ?_
      refine ih (D.length - (i + 1)) _ _ ⟨i + 1, g + 1, G ++ [⟨[.int .i64 (par w h b D i)], 0, 3⟩], o ++ [par w h b D i], rfl, by omega, by rw [List.range_succ, List.map_append, ← ho]; rfl, by simp [h2], by simp [h5], by simp, by simp [h16], by simp [h17], ?_, by simp⟩ (by omega)
      simp; rw [w64 (by omega) (by omega)]
  · have : i = D.length := by omega
    subst this
    simp [h2, h5, h6, h16, h17, h18]
    rw [← ho]
    exact ⟨_, rfl, Ow.new (k := L.length + 1) (by simp) (cellsOf_int _).symm (by simp) rfl, by simp⟩
end Go.Proofs.Ytnakhkfgheapoaa.V
/-! TreeParents of the reference. -/
set_option linter.all false
namespace Go.Proofs.Ytnakhkfgheapoaa.V
open Go Go.VM Go.Proofs
set_option maxRecDepth 10000
variable {frz : Nat} {H : Heap}
theorem par_at {w h : Int} {b d : List Int} {i : Int} {p : Nat} (hp : p < 4) (h0 : rd d i > 0) (h1 : ∀ q < p, ¬ toRoot w h b d i q) (h2 : toRoot w h b d i p) : par w h b d i = next w h i p := by
  unfold par
  rw [if_pos h0]
  have : p = 0 ∨ p = 1 ∨ p = 2 ∨ p = 3 := by omega
  rcases this with rfl | rfl | rfl | rfl
  · rw [if_pos h2]
  · rw [if_neg (h1 0 (by omega)), if_pos h2]
  · rw [if_neg (h1 0 (by omega)), if_neg (h1 1 (by omega)), if_pos h2]
  · rw [if_neg (h1 0 (by omega)), if_neg (h1 1 (by omega)), if_neg (h1 2 (by omega)), if_pos h2]
theorem par_none {w h : Int} {b d : List Int} {i : Int} (h1 : rd d i > 0 → ∀ q < 4, ¬ toRoot w h b d i q) : par w h b d i = -1 := by
  unfold par
  by_cases h0 : rd d i > 0
  · have h1 := h1 h0
    rw [if_pos h0, if_neg (h1 0 (by omega)), if_neg (h1 1 (by omega)), if_neg (h1 2 (by omega)), if_neg (h1 3 (by omega))]
  · rw [if_neg h0]
theorem sTreeParents_w (w h : Int) (v : Value) (b : List Int) (root : Int) (hI : IsI H v b) (hl : b.length ≤ 1073741824) :
   wp (vcall C frz 129 [.agg #[.int .i64 w, .int .i64 h, v], .int .i64 root] H) (Made Fl.int 3 H (parents w h b root)) := by
  rw [vcall_go (fn := Try.f129) Try.func129 rfl (by kernel_rfl) rfl]
  have one := And.intro hI.one' hI.cells
  have hc := cnt_range w h
  simp [one, l31Ok_c _ _ _ _ _ (hI.app _) hl, -Bool.decide_and]
  refine wp_dec ?_ ?_ <;> intro hR
  · have hR' : rootOk w h b root := hR
    simp [one]
    refine wp_thn (l31Depths_w w h v b root (hI.app _) hl hR') ?_
    rintro vd _ ⟨L, rfl, od, nd⟩
    have od := od.rd.isI
    simp only [List.append_assoc, List.cons_append, List.nil_append] at od
    have hdl := depths_length w h b root
    have dm := fun v (hv : v ∈ depths w h b root) => depths_mem hv
    have hlc := (depths_inv hR').1
    have hm := hR.1
    unfold parents pars
    generalize depths w h b root = D at *
    have fD := fun (r : Row) (L' : Heap) => (swapI (A := H ++ [⟨[.int .i64 w, .int .i64 h, v], 0, 33⟩]) (B := L) (r := ⟨[], 0, 3⟩) r (by simpa using od) (fun i hi => by have := nd i hi; simp at this ⊢; omega)).app L'
    simp only [List.append_assoc, List.cons_append, List.nil_append] at fD
    have lD := fun r L' => (fD r L').len (P := Try.prog) (ty := 22) (by simp)
    simp
    refine wp_inv (fun n t H' => ∃ (i g : Nat) (G : Heap) (o : List Int), n = D.length - i ∧ i ≤ D.length ∧ o = (List.range i).map (fun i : Nat => par w h b D (i : Int)) ∧
      t 2 = .pointer (some ⟨H.length, 0, some 0⟩) ∧ t 5 = .slice (some ⟨H.length + 1, 0, some g⟩) o.length 0 ∧ t 6 = vd ∧ t 7 = .int .i64 i ∧
      H' = H ++ ⟨[.int .i64 w, .int .i64 h, v], 0, 33⟩ :: ⟨o.map (.int .i64), g, 3⟩ :: (L ++ G)) ?_ (n := D.length) ⟨0, 0, [], [], by simp⟩
    rintro n t H' ⟨i, g, G, o, rfl, hi, ho, h2, h5, h6, h7, rfl⟩ ih
    simp [h2, h5, h6, h7, lD]
    have hol : o.length = i := by rw [ho]; simp
    refine wp_dec ?_ ?_ <;> intro hid
    · have hid' : i < D.length := by omega
      have xD := fun r L' => (fD r L').idx (P := Try.prog) (ty := 22) (e := 3) (by simp) (i := (i : Int)) (by omega) (by omega)
      have rD := fun r L' => ((fD r L').load (P := Try.prog) (e := 3) (by simp) hid').trans (by rw [getD_get _ _ hid', ← rd_at hid'])
      simp only [Int.toNat_natCast] at xD
      have hd := dm _ (rd_mem (s := D) (k := (i : Int)) (by omega) (by omega))
      have w3 : IntKind.i64.wrap (rd D i - 1) = rd D i - 1 := w64 (by omega) (by omega)
      simp [h2, h5, h6, h7]
      refine wp_inv (fun n t H' => ∃ (p : Nat) (x : Int), n = 4 - p ∧ p ≤ 4 ∧ ((x = par w h b D i ∧ 0 ≤ x) ∨ (x = -1 ∧ (0 < p → rd D i > 0) ∧ ∀ q < p, ¬ toRoot w h b D i q)) ∧
        t 2 = .pointer (some ⟨H.length, 0, some 0⟩) ∧ t 5 = .slice (some ⟨H.length + 1, 0, some g⟩) o.length 0 ∧ t 6 = vd ∧ t 7 = .int .i64 i ∧ t 8 = .int .i64 x ∧ t 9 = .int .i64 p ∧
        H' = H ++ ⟨[.int .i64 w, .int .i64 h, v], 0, 33⟩ :: ⟨o.map (.int .i64), g, 3⟩ :: (L ++ G)) ?_ (n := 4) ⟨0, -1, by simp [h2, h5, h6, h7]⟩
      clear h2 h5 h6 h7
      rintro n t H' ⟨p, x, rfl, hp, hx, h2, h5, h6, h7, h8, h9, rfl⟩ ih2
      simp [h2, h5, h6, h7, h8, h9]
      refine wpg_dec ?_ ?_ <;> intro hp4
      · have hp4' : p < 4 := by omega
        simp [h2, h5, h6, h7, h8, h9, hp4]
        refine wpg_dec ?_ ?_ <;> intro hx0
        · obtain ⟨rfl, hpo, hno⟩ : x = -1 ∧ (0 < p → rd D i > 0) ∧ ∀ q < p, ¬ toRoot w h b D i q := by
            rcases hx with hx | hx
            · omega
            · exact hx
          simp [h2, h5, h6, h7, h8, h9, hp4, hx0, xD, rD]
          refine wp_dec ?_ ?_ <;> intro hd0
          · have e1 : IntKind.i64.wrap (4 * (i : Int)) = 4 * i := w64 (by omega) (by omega)
            have e2 : IntKind.i64.wrap (4 * (i : Int) + p) = 4 * i + p := w64 (by omega) (by omega)
            simp [h2, h5, h6, h7, h8, h9, e1, e2, one, l31Link_c _ _ _ _ _ (hI.app _) hl]
            refine wp_dec ?_ ?_ <;> intro hlk
            · obtain ⟨_, hn, he⟩ := link_next hp4' hlk
              have xE := fun r L' => (fD r L').idx (P := Try.prog) (ty := 22) (e := 3) (by simp) hn.1 (by have := hn.2; omega)
              have rE := fun r L' => ((fD r L').load (P := Try.prog) (e := 3) (by simp) (j := (next w h i p).toNat) (by have := hn.1; have := hn.2; omega))
              have rE' : D.getD (next w h i p).toNat 0 = rd D (next w h i p) := rfl
              rw [rE'] at rE
              simp [h2, h5, h6, h7, h8, h9, one, sNextNode_c]
              rw [go_draw (h := by kernel_rfl)]
              simp [h2, h5, h6, h7, h8, h9, one, xE, rE, xD, rD, w3]
              refine wp_dec ?_ ?_ <;> intro hdd
              · simp [h2, h5, h6, h7, h8, h9]
                refine ih2 (4 - (p + 1)) _ _ ⟨p + 1, next w h i p, rfl, by omega, .inl ⟨(par_at hp4' hd0 hno ⟨hlk, hdd⟩).symm, hn.1⟩, by simp [h2], by simp [h5], by simp [h6], by simp [h7], by simp, ?_, rfl⟩ (by omega)
                simp; rw [w64 (by omega) (by omega)]
              · simp [h2, h5, h6, h7, h8, h9, hdd]
                refine ih2 (4 - (p + 1)) _ _ ⟨p + 1, -1, rfl, by omega, .inr ⟨rfl, fun _ => hd0, fun q hq => ?_⟩, by simp [h2], by simp [h5], by simp [h6], by simp [h7], by simp [h8], ?_, rfl⟩ (by omega)
                · by_cases hqp : q < p
                  · exact hno q hqp
                  · have : q = p := by omega
                    subst this; exact fun hh => hdd hh.2
                · simp; rw [w64 (by omega) (by omega)]
            · simp [h2, h5, h6, h7, h8, h9, hlk]
              refine ih2 (4 - (p + 1)) _ _ ⟨p + 1, -1, rfl, by omega, .inr ⟨rfl, fun _ => hd0, fun q hq => ?_⟩, by simp [h2], by simp [h5], by simp [h6], by simp [h7], by simp [h8], ?_, rfl⟩ (by omega)
              · by_cases hqp : q < p
                · exact hno q hqp
                · have : q = p := by omega
                  subst this; exact fun hh => hlk hh.1
              · simp; rw [w64 (by omega) (by omega)]
          · have hxe : (-1 : Int) = par w h b D i := (par_none (fun hh => absurd hh hd0)).symm
            simp [h2, h5, h6, h7, h8, h9, hd0]
            refine wp_need (by omega) ?_
            refine ih (D.length - (i + 1)) _ _ ⟨i + 1, g + 1, G ++ [⟨[.int .i64 (-1)], 0, 3⟩], o ++ [-1], rfl, by omega, by rw [List.range_succ, List.map_append, ← ho, hxe]; rfl, by simp [h2], by simp, by simp [h6], ?_, by simp⟩ (by omega)
            simp; rw [w64 (by omega) (by omega)]
        · have hxe : x = par w h b D i := by
            rcases hx with hx | hx
            · exact hx.1
            · omega
          simp [h2, h5, h6, h7, h8, h9, hp4, hx0]
          refine wp_need (by omega) ?_
          refine ih (D.length - (i + 1)) _ _ ⟨i + 1, g + 1, G ++ [⟨[.int .i64 x], 0, 3⟩], o ++ [x], rfl, by omega, by rw [List.range_succ, List.map_append, ← ho, hxe]; rfl, by simp [h2], by simp, by simp [h6], ?_, by simp⟩ (by omega)
          simp; rw [w64 (by omega) (by omega)]
      · have hp4' : p = 4 := by omega
        have hxe : x = par w h b D i := by
          rcases hx with hx | ⟨rfl, hpo, hno⟩
          · exact hx.1
          · exact (par_none (fun _ q hq => hno q (by omega))).symm
        simp [h2, h5, h6, h7, h8, h9, hp4]
        refine wp_need (by omega) ?_
        refine ih (D.length - (i + 1)) _ _ ⟨i + 1, g + 1, G ++ [⟨[.int .i64 x], 0, 3⟩], o ++ [x], rfl, by omega, by rw [List.range_succ, List.map_append, ← ho, hxe]; rfl, by simp [h2], by simp, by simp [h6], ?_, by simp⟩ (by omega)
        simp; rw [w64 (by omega) (by omega)]
    · have : i = D.length := by omega
      subst this
      simp [h2, h5, h6, h7]
      rw [← ho]
      exact ⟨_, rfl, Ow.new (k := 1) (by simp) (cellsOf_int _).symm (by simp) rfl, by simp⟩
  · have : depths w h b root = [] := depths_no hR
    unfold parents pars
    rw [this]
    simp
    exact ⟨_, rfl, Ow.new (D := Fl.int) (e := 3) (k := 1) (g := 0) (cs := []) rfl rfl rfl rfl, by simp⟩
end Go.Proofs.Ytnakhkfgheapoaa.V
/-! IsConnected, DepthOfTree, BestRoot. -/
set_option linter.all false
namespace Go.Proofs.Ytnakhkfgheapoaa.V
open Go Go.VM Go.Proofs
set_option maxRecDepth 10000
variable {frz : Nat} {H : Heap}
theorem ite_max (a b : Int) : (if a < b then b else a) = max a b := by omega
theorem foldl_max_take {xs : List Int} {a : Int} {i : Nat} (h : i < xs.length) : (xs.take (i + 1)).foldl max a = max ((xs.take i).foldl max a) xs[i] := by
  rw [List.take_succ_eq_append_getElem h, List.foldl_append]; rfl
theorem max_c (v : Value) (xs : List Int) (hI : IsI H v xs) (h0 : 0 < xs.length) (hl : xs.length ≤ 1073741824) (hm : ∀ x ∈ xs, -1 ≤ x) :
   vcall C frz 86 [v] H = some (.int .i64 (xs.foldl max (-1)), H) := by
  rw [vcall_go (fn := Try.f86) Try.func86 rfl (by kernel_rfl) rfl]
  have q0 := hI.idx (P := Try.prog) (ty := 22) (e := 3) (by simp) (i := 0) (by omega) (by omega)
  have r0 := (hI.load (P := Try.prog) (e := 3) (by simp) h0).trans (by rw [getD_get _ _ h0])
  have n0 : ¬ (xs.length : Int) < 1 := by omega
  have e0 : xs ≠ [] := fun hh => by rw [hh] at h0; simp at h0
  simp [hI.len, e0, n0, q0, r0]
  refine go_inv (fun n t H' => ∃ i : Nat, n = xs.length - i ∧ 1 ≤ i ∧ i ≤ xs.length ∧ t 0 = v ∧ t 3 = .int .i64 ((xs.take i).foldl max (-1)) ∧ t 4 = .int .i64 i ∧ H' = H) ?_ (n := xs.length - 1) ⟨1, rfl, by omega, by omega, by simp, ?_, by simp, rfl⟩
  · rintro n t H' ⟨i, rfl, h1, hi, k0, k3, k4, rfl⟩ ih
    simp [k0, k3, k4, hI.len]
    refine br_dec _ ?_ ?_ <;> intro h5
    · have q1 := hI.idx (P := Try.prog) (ty := 22) (e := 3) (by simp) (i := (i : Int)) (by omega) (by omega)
      have r1 := (hI.load (P := Try.prog) (e := 3) (by simp) h5).trans (by rw [getD_get _ _ h5])
      simp only [Int.toNat_natCast] at q1
      simp [k0, k3, k4, q1, r1]
      refine ih (xs.length - (i + 1)) _ _ ⟨i + 1, rfl, by omega, by omega, by simp [k0], ?_, ?_, rfl⟩ (by omega)
      · simp [foldl_max_take h5, ite_max]
      · simp; rw [w64 (by omega) (by omega)]
    · have : i = xs.length := by omega
      subst this
      simp [k0, k3, k4]
  · have := hm _ (List.getElem_mem h0)
    rw [show (1 : Nat) = 0 + 1 from rfl, foldl_max_take h0]
    simp; omega
theorem depthOfTree_c (w h : Int) (v : Value) (b : List Int) (root : Int) (hI : IsI H v b) (hl : b.length ≤ 1073741824) :
   vcall C frz 31 [.agg #[.int .i64 w, .int .i64 h, v], .int .i64 root] H = some (.int .i64 (depthOf w h b root), H) := by
  refine wp.exact (by simp) ?_ rfl
  rw [vcall_go (fn := Try.f31) Try.func31 rfl (by kernel_rfl) rfl]
  have one := And.intro hI.one' hI.cells
  simp [one, isRoot_c _ _ _ _ _ (hI.app _) hl, -Bool.decide_and]
  refine wp_dec ?_ ?_ <;> intro hR
  · simp [one]
    refine wp_thn (treeDepths_w w h v b root (hI.app _) hl) ?_
    rintro vd _ ⟨L, rfl, od, nd⟩
    have hc := cnt_range w h
    have i := depths_inv hR
    have hn := isN_ok hR.2
    have hp := hR.2.2
    have hq := hR.2.1
    have od := od.rd.isI
    simp only [List.append_assoc, List.singleton_append] at od
    simp [max_c _ _ od (by omega) (by omega) (fun x hx => (i.2 x hx).1), depthOf]
  · have hd : depths w h b root = [] := depths_no hR
    simp [depthOf, hd]
theorem sDepthOfTree_c (w h : Int) (v : Value) (b : List Int) (root : Int) (hI : IsI H v b) (hl : b.length ≤ 1073741824) :
   vcall C frz 131 [.agg #[.int .i64 w, .int .i64 h, v], .int .i64 root] H = some (.int .i64 (depthOf w h b root), H) := by
  refine wp.exact (by simp) ?_ rfl
  rw [vcall_go (fn := Try.f131) Try.func131 rfl (by kernel_rfl) rfl]
  have one := And.intro hI.one' hI.cells
  simp [one]
  refine wp_thn (sTreeDepths_w w h v b root (hI.app _) hl) ?_
  rintro vd _ ⟨L, rfl, od, nd⟩
  have hl16 := depths_length w h b root
  unfold depthOf
  generalize depths w h b root = xs at *
  have od := od.rd.isI
  simp only [List.append_assoc, List.singleton_append] at od
  simp
  refine wp_inv (fun n t H' => ∃ i : Nat, n = xs.length - i ∧ i ≤ xs.length ∧ t 5 = vd ∧ t 6 = .int .i64 ((xs.take i).foldl max (-1)) ∧ t 7 = .int .i64 i ∧ H' = H ++ ⟨[.int .i64 w, .int .i64 h, v], 0, 33⟩ :: L) ?_ (n := xs.length) ⟨0, by simp⟩
  rintro n t H' ⟨i, rfl, hi, k5, k6, k7, rfl⟩ ih
  simp [k5, k6, k7, od.len]
  refine wp_dec ?_ ?_ <;> intro h5
  · have q1 := od.idx (P := Try.prog) (ty := 22) (e := 3) (by simp) (i := (i : Int)) (by omega) (by omega)
    have r1 := (od.load (P := Try.prog) (e := 3) (by simp) h5).trans (by rw [getD_get _ _ h5])
    simp only [Int.toNat_natCast] at q1
    simp [k5, k6, k7, q1, r1]
    refine ih (xs.length - (i + 1)) _ _ ⟨i + 1, rfl, by omega, by simp [k5], ?_, ?_, rfl⟩ (by omega)
    · simp [foldl_max_take h5, ite_max]
    · simp; rw [w64 (by omega) (by omega)]
  · have : i = xs.length := by omega
    subst this
    simp [k5, k6, k7]
theorem isConnected_c (w h : Int) (v : Value) (b : List Int) (hI : IsI H v b) (hl : b.length ≤ 1073741824) :
   vcall C frz 32 [.agg #[.int .i64 w, .int .i64 h, v]] H = some (.bool (decide (conn w h b)), H) := by
  refine wp.exact (by simp) ?_ rfl
  rw [vcall_go (fn := Try.f32) Try.func32 rfl (by kernel_rfl) rfl]
  have one := And.intro hI.one' hI.cells
  simp [one, meshOk_c _ _ _ _ (hI.app _) hl]
  refine wpg_dec ?_ ?_ <;> intro hm
  · simp [one, hm]
    refine wp_thn (treeDepths_w w h v b 0 (hI.app _) hl) ?_
    rintro vd _ ⟨L, rfl, od, nd⟩
    have hl16 := depths_length w h b 0
    have od := od.rd.isI
    simp only [List.append_assoc, List.singleton_append] at od
    simp [hm, contains_c _ _ _ od (by omega), conn]
  · simp [conn, hm]
theorem sIsConnected_c (w h : Int) (v : Value) (b : List Int) (hI : IsI H v b) (hl : b.length ≤ 1073741824) :
   vcall C frz 88 [.agg #[.int .i64 w, .int .i64 h, v]] H = some (.bool (decide (conn w h b)), H) := by
  refine wp.exact (by simp) ?_ rfl
  rw [vcall_go (fn := Try.f88) Try.func88 rfl (by kernel_rfl) rfl]
  have one := And.intro hI.one' hI.cells
  simp [one]
  refine wp_thn (sTreeDepths_w w h v b 0 (hI.app _) hl) ?_
  rintro vd _ ⟨L, rfl, od, nd⟩
  have hl16 := depths_length w h b 0
  have key : conn w h b ↔ (0 < (depths w h b 0).length ∧ ∀ x ∈ depths w h b 0, ¬ x < 0) := by
    constructor
    · rintro ⟨hm, hn⟩
      have hr := okG_isN hm.2
      have i := depths_inv (root := 0) ⟨hm, hr⟩
      have := hr.2
      refine ⟨by omega, fun x hx hlt => hn ?_⟩
      have := (i.2 x hx).1
      rwa [show x = -1 by omega] at hx
    · rintro ⟨h0, hn⟩
      have hR : rootOk w h b 0 := by
        by_cases hR : rootOk w h b 0
        · exact hR
        · rw [depths_no hR] at h0; simp at h0
      exact ⟨hR.1, fun hh => hn _ hh (by omega)⟩
  simp only [key]
  generalize depths w h b 0 = xs at *
  have od := od.rd.isI
  simp only [List.append_assoc, List.singleton_append] at od
  simp
  refine wp_inv (fun n t H' => ∃ i : Nat, n = xs.length - i ∧ i ≤ xs.length ∧ t 3 = vd ∧ t 4 = .int .i64 i ∧ H' = H ++ ⟨[.int .i64 w, .int .i64 h, v], 0, 33⟩ :: L ∧ ∀ x ∈ xs.take i, ¬ x < 0) ?_ (n := xs.length) ⟨0, by simp⟩
  rintro n t H' ⟨i, rfl, hi, k3, k4, rfl, hk⟩ ih
  simp [k3, k4, od.len]
  refine wp_dec ?_ ?_ <;> intro h5
  · have q1 := od.idx (P := Try.prog) (ty := 22) (e := 3) (by simp) (i := (i : Int)) (by omega) (by omega)
    have r1 := (od.load (P := Try.prog) (e := 3) (by simp) h5).trans (by rw [getD_get _ _ h5])
    simp only [Int.toNat_natCast] at q1
    simp [k3, k4, q1, r1]
    refine wp_dec ?_ ?_ <;> intro h6
    · simp [k3, k4, h6]
      exact fun _ => ⟨_, List.getElem_mem h5, h6⟩
    · simp [k3, k4, h6]
      refine ih (xs.length - (i + 1)) _ _ ⟨i + 1, rfl, by omega, by simp [k3], ?_, rfl, take_succ_no h5 hk h6⟩ (by omega)
      simp; rw [w64 (by omega) (by omega)]
  · have : i = xs.length := by omega
    subst this
    rw [List.take_length] at hk
    simp [k3, k4, od.len]
    by_cases h0 : xs = []
    · simp [h0]
    · have : 0 < xs.length := List.length_pos_iff.2 h0
      simp [this, h0]; exact fun x hx => by have := hk x hx; omega
theorem best_range {w h : Int} {b : List Int} (n : Nat) : 0 ≤ (List.range n).foldl (better w h b) 0 := by
  induction n with
  | zero => simp
  | succ n ih => rw [List.range_succ, List.foldl_append]; exact better_range ih
theorem bestRoot_c (w h : Int) (v : Value) (b : List Int) (hI : IsI H v b) (hl : b.length ≤ 1073741824) :
   vcall C frz 49 [.agg #[.int .i64 w, .int .i64 h, v]] H = some (.int .i64 (bestRoot w h b), H) := by
  refine wp.exact (by simp) ?_ rfl
  rw [vcall_go (fn := Try.f49) Try.func49 rfl (by kernel_rfl) rfl]
  have one := And.intro hI.one' hI.cells
  have hc := cnt_range w h
  simp [one, isConnected_c _ _ _ _ (hI.app _) hl]
  refine wp_dec ?_ ?_ <;> intro hcn
  · simp [one, nodeCount_c]
    refine wp_inv (fun n t H' => ∃ i : Nat, n = (cnt w h).toNat - i ∧ i ≤ (cnt w h).toNat ∧ t 1 = .pointer (some ⟨H.length, 0, some 0⟩) ∧ t 3 = .int .i64 ((List.range i).foldl (better w h b) 0) ∧ t 10 = .int .i64 (cnt w h) ∧ t 11 = .int .i64 i ∧ H' = H ++ [⟨[.int .i64 w, .int .i64 h, v], 0, 33⟩]) ?_ (n := (cnt w h).toNat) ⟨0, by simp⟩
    rintro n t H' ⟨i, rfl, hi, k1, k3, k10, k11, rfl⟩ ih
    simp [k1, k3, k10, k11]
    refine wp_dec ?_ ?_ <;> intro h5
    · simp [k1, k3, k10, k11]
      rw [go_draw (h := by kernel_rfl)]
      simp [k1, k3, k10, k11, one, depthOfTree_c _ _ _ _ _ (hI.app _) hl]
      have e : (List.range (i + 1)).foldl (better w h b) 0 = better w h b ((List.range i).foldl (better w h b) 0) i := by rw [List.range_succ, List.foldl_append]; rfl
      refine wp_dec ?_ ?_ <;> intro h6
      · simp [k1, k3, k10, k11, h6]
        refine ih ((cnt w h).toNat - (i + 1)) _ _ ⟨i + 1, rfl, by omega, by simp [k1], ?_, by simp [k10], ?_, rfl⟩ (by omega)
        · simp [e, better, h6]
        · simp; rw [w64 (by omega) (by omega)]
      · simp [k1, k3, k10, k11, h6]
        refine ih ((cnt w h).toNat - (i + 1)) _ _ ⟨i + 1, rfl, by omega, by simp [k1], ?_, by simp [k10], ?_, rfl⟩ (by omega)
        · simp [e, better, h6, k3]
        · simp; rw [w64 (by omega) (by omega)]
    · have : i = (cnt w h).toNat := by omega
      subst this
      simp [k1, k3, k10, k11, bestRoot, hcn]
  · simp [bestRoot, hcn]
theorem sBestRoot_c (w h : Int) (v : Value) (b : List Int) (hI : IsI H v b) (hl : b.length ≤ 1073741824) :
   vcall C frz 94 [.agg #[.int .i64 w, .int .i64 h, v]] H = some (.int .i64 (bestRoot w h b), H) := by
  refine wp.exact (by simp) ?_ rfl
  rw [vcall_go (fn := Try.f94) Try.func94 rfl (by kernel_rfl) rfl]
  have one := And.intro hI.one' hI.cells
  have hc := cnt_range w h
  simp [one, sIsConnected_c _ _ _ _ (hI.app _) hl]
  refine wp_inv (fun n t H' => ∃ (i : Nat) (best least : Int), n = (cnt w h).toNat - i ∧ i ≤ (cnt w h).toNat ∧ t 1 = .pointer (some ⟨H.length, 0, some 0⟩) ∧ t 3 = .int .i64 best ∧ t 4 = .int .i64 least ∧ t 5 = .bool (decide (conn w h b)) ∧ t 6 = .int .i64 i ∧ H' = H ++ [⟨[.int .i64 w, .int .i64 h, v], 0, 33⟩] ∧
    ((i = 0 ∧ best = -1) ∨ (conn w h b ∧ 0 < i ∧ best = (List.range i).foldl (better w h b) 0 ∧ least = depthOf w h b best))) ?_ (n := (cnt w h).toNat) ⟨0, -1, 0, by simp⟩
  rintro n t H' ⟨i, best, least, rfl, hi, k1, k3, k4, k5, k6, rfl, hb⟩ ih
  have e : (List.range (i + 1)).foldl (better w h b) 0 = better w h b ((List.range i).foldl (better w h b) 0) i := by rw [List.range_succ, List.foldl_append]; rfl
  simp [k1, k3, k4, k5, k6, one, sNodeCount_c]
  refine wpg_dec ?_ ?_ <;> intro h5
  · simp [k1, k3, k4, k5, k6, h5]
    refine wp_dec ?_ ?_ <;> intro hcn
    · simp [k1, k3, k4, k5, k6, one, sDepthOfTree_c _ _ _ _ _ (hI.app _) hl]
      refine wpg_dec ?_ ?_ <;> intro h7
      · have hi0 : i = 0 := by
          rcases hb with hb | ⟨_, h0, hbe, _⟩
          · exact hb.1
          · have := best_range (w := w) (h := h) (b := b) i; omega
        subst hi0
        simp [k1, k3, k4, k5, k6, h7]
        refine ih ((cnt w h).toNat - 1) _ _ ⟨1, 0, depthOf w h b 0, rfl, by omega, by simp [k1], by simp, by simp, by simp [k5], ?_, rfl, .inr ⟨hcn, by omega, by simp [better], rfl⟩⟩ (by omega)
        simp [wr1]
      · obtain ⟨_, h0, hbe, hle⟩ : conn w h b ∧ 0 < i ∧ best = (List.range i).foldl (better w h b) 0 ∧ least = depthOf w h b best := by
          rcases hb with hb | hb
          · omega
          · exact hb
        simp [k1, k3, k4, k5, k6, h7]
        refine wp_dec ?_ ?_ <;> intro h8
        · simp [k1, k3, k4, k5, k6, h8]
          refine ih ((cnt w h).toNat - (i + 1)) _ _ ⟨i + 1, i, depthOf w h b i, rfl, by omega, by simp [k1], by simp, by simp, by simp [k5], ?_, rfl, .inr ⟨hcn, by omega, ?_, rfl⟩⟩ (by omega)
          · simp; rw [w64 (by omega) (by omega)]
          · rw [e, ← hbe, better, if_pos (by omega)]
        · simp [k1, k3, k4, k5, k6, h8]
          refine ih ((cnt w h).toNat - (i + 1)) _ _ ⟨i + 1, best, least, rfl, by omega, by simp [k1], by simp [k3], by simp [k4], by simp [k5], ?_, rfl, .inr ⟨hcn, by omega, ?_, hle⟩⟩ (by omega)
          · simp; rw [w64 (by omega) (by omega)]
          · rw [e, ← hbe, better, if_neg (by omega)]
    · have hb1 : best = -1 := by
        rcases hb with hb | hb
        · exact hb.2
        · exact absurd hb.1 hcn
      simp [k1, k3, k4, k5, k6, hb1, bestRoot, hcn]
  · have : i = (cnt w h).toNat := by omega
    simp [k1, k3, k4, k5, k6, h5]
    rcases hb with ⟨h0, hb⟩ | ⟨hcn, h0, hb, _⟩
    · have hcn : ¬ conn w h b := fun hh => by
        have := (okG_isN hh.1.2).2
        omega
      simp [hb, bestRoot, hcn]
    · simp [hb, bestRoot, hcn, this]
end Go.Proofs.Ytnakhkfgheapoaa.V
/-! Draws: the cursor, grids, meshes. -/
set_option linter.all false
namespace Go.Proofs.Ytnakhkfgheapoaa.V
open Go Go.VM Go.Proofs
set_option maxRecDepth 10000
variable {frz : Nat} {H H' : Heap} {vb : Value} {code : List Int} {r : Nat}
theorem iand255 (a : Int) : 0 ≤ iand .i64 a 255 ∧ iand .i64 a 255 < 256 := by
  unfold iand
  have h1 : (BitVec.ofInt IntKind.i64.bits a &&& BitVec.ofInt IntKind.i64.bits 255).toNat ≤ 255 := by
    rw [BitVec.toNat_and]
    exact Nat.le_trans Nat.and_le_right (by decide)
  rw [w64 (by omega) (by omega)]
  omega
/-- a cursor -/
def Cur (H : Heap) (r : Nat) (vb : Value) (code : List Int) : Prop :=
  ∃ (i : Nat) (h : Int), i ≤ code.length ∧ H[r]? = some ⟨[vb, .int .i64 i, .int .i64 h], 0, 108⟩ ∧ Rd Fl.u8 H vb code ∧ r ∉ ids vb ∧ code.length ≤ 1073741824
theorem Cur.lt (h : Cur H r vb code) : r < H.length := by obtain ⟨_, _, _, h2, _⟩ := h; exact box_lt h2
theorem Cur.chg {is : List Nat} (h : Cur H r vb code) (c : Chg H H' is) (k : r ∉ is) (k' : ∀ i ∈ ids vb, i ∉ is) : Cur H' r vb code := by
  obtain ⟨i, x, h1, h2, h3, h4, h5⟩ := h
  exact ⟨i, x, h1, box_chg h2 c k, h3.chg c k', h4, h5⟩
theorem l01New_w (vb : Value) (code : List Int) (hb : Rd Fl.u8 H vb code) (hl : code.length ≤ 1073741824) :
   wp (vcall C frz 75 [vb] H) (fun u H' => ∃ r, u = .pointer (some ⟨r, 0, some 0⟩) ∧ H.length ≤ r ∧ Cur H' r vb code ∧ Chg H H' []) := by
  rw [vcall_go (fn := Try.f75) Try.func75 rfl (by kernel_rfl) rfl]
  simp [hb.len]
  refine wp_joino (F := ?F) (k := ?k) (o := ?o) (Q := ?Q) (fun t H' => H' = H ∧ t 0 = vb ∧ ∃ h, t 3 = .int .i64 h) ?main ?rest
  case main =>
    intro rest
    refine wp_inv (fun n t H' => ∃ i : Nat, n = code.length - i ∧ i ≤ code.length ∧ t 0 = vb ∧ t 4 = .int .i64 i ∧ (∃ h, t 3 = .int .i64 h) ∧ H = H') ?_ (n := code.length)
      ⟨0, rfl, by omega, by simp, by simp, ⟨_, by simp; rfl⟩, rfl⟩
    rintro n t _ ⟨i, rfl, hi, t0, t4, ⟨h, t3⟩, rfl⟩ ih
    simp [t0, t3, t4, hb.len]
    refine wpg_dec ?_ ?_ <;> intro g1
    · simp [t0, t3, t4, g1]
      refine wp_dec ?_ ?_ <;> intro g2
      · have q1 := hb.idx (P := Try.prog) (ty := 28) (e := 5) (by simp) (i := (i : Int)) (by omega) (by omega)
        have r1 := hb.cell1 (P := Try.prog) (e := 5) rfl (by simp) g1
        simp at q1 r1
        simp [t0, t3, t4, q1, r1]
        refine ih (code.length - (i + 1)) _ _ ⟨i + 1, rfl, by omega, by simp [t0], ?_, ⟨_, by simp; rfl⟩, rfl⟩ (by omega)
        simp; rw [w64 (by omega) (by omega)]
      · simp [t0, t3, t4, -go_exit_blk]
        refine rest _ _ ?_
        exact ⟨rfl, by simp [t0], h, by simp [t3]⟩
    · simp [t0, t3, t4, g1, -go_exit_blk]
      refine rest _ _ ?_
      exact ⟨rfl, by simp [t0], h, by simp [t3]⟩
  case rest =>
    rintro t H' ⟨hH, t0, h, t3⟩
    rw [hH]
    simp [t0, t3, hb.one', hb.cells]
    exact ⟨⟨0, h, by omega, by simp, hb.app, fun hh => by have := hb.lt _ hh; omega, hl⟩, Chg.app _⟩
theorem l01Byte_w (c : Cur H r vb code) (hf : frz ≤ r) : wp (vcall C frz 124 [.pointer (some ⟨r, 0, some 0⟩)] H) (fun u H' => (∃ x : Nat, u = .int .i64 x ∧ x < 256) ∧ Chg H H' [r] ∧ Cur H' r vb code) := by
  obtain ⟨i, h, hi, hr, hb, hn, hl⟩ := c
  have lt := box_lt hr
  rw [vcall_go (fn := Try.f124) Try.func124 rfl (by kernel_rfl) rfl]
  simp [vnil, VM.look, hr, hf]
  generalize IntKind.i64.wrap (IntKind.i64.wrap (h * 6364136223846793005) + 1442695040888963407) = h1
  have hr1 := set_get (r' := ⟨[vb, .int .i64 i, .int .i64 h1], 0, 108⟩) hr
  have c1 : Chg H (H.set r ⟨[vb, .int .i64 i, .int .i64 h1], 0, 108⟩) [r] := chg_set _ _
  generalize H.set r ⟨[vb, .int .i64 i, .int .i64 h1], 0, 108⟩ = H1 at *
  have hb1 := hb.chg c1 (fun j hj hh => by have := List.mem_singleton.1 hh; subst this; exact hn hj)
  rw [go_draw (h := by kernel_rfl)]
  simp [vnil, VM.look, hr1]
  obtain ⟨x, hx⟩ : ∃ x : Nat, iand .i64 (ixor .i64 (ishr .i64 h1 33) (ishr .i64 h1 45)) 255 = x := ⟨_, (Int.toNat_of_nonneg (iand255 _).1).symm⟩
  have hx2 := (iand255 (ixor .i64 (ishr .i64 h1 33) (ishr .i64 h1 45))).2
  rw [hx] at hx2
  simp [hx]
  rw [go_draw (h := by kernel_rfl)]
  simp [vnil, VM.look, hr1, hb1.len]
  refine wp_dec ?_ ?_ <;> intro g1
  · have q1 := hb1.idx (P := Try.prog) (ty := 28) (e := 5) (by simp) (i := (i : Int)) (by omega) (by omega)
    have r1 := hb1.cell1 (P := Try.prog) (e := 5) rfl (by simp) g1
    simp at q1 r1
    simp
    rw [go_draw (h := by kernel_rfl)]
    have e1 : IntKind.i64.wrap ((i : Int) + 1) = ((i + 1 : Nat) : Int) := by rw [w64 (by omega) (by omega)]; omega
    simp only [vnil, VM.look, hr1, q1, r1]
    simp [vnil, VM.look, hr1, q1, r1, hf]
    generalize hz : IntKind.i64.wrap ((x : Int) + IntKind.i64.wrap code[i]) = z
    obtain ⟨y, hy⟩ : ∃ y : Nat, iand .i64 z 255 = y := ⟨_, (Int.toNat_of_nonneg (iand255 _).1).symm⟩
    have hy2 := (iand255 z).2
    rw [hy] at hy2
    rw [hy, e1]
    have hr2 := set_get (r' := ⟨[vb, .int .i64 (i + 1 : Nat), .int .i64 h1], 0, 108⟩) hr1
    have c2 : Chg H1 (H1.set r ⟨[vb, .int .i64 (i + 1 : Nat), .int .i64 h1], 0, 108⟩) [r] := chg_set _ _
    exact ⟨⟨y, rfl, by omega⟩, c1.trans c2, i + 1, h1, by omega, hr2, hb1.chg c2 (fun j hj hh => by have := List.mem_singleton.1 hh; subst this; exact hn hj), hn, hl⟩
  · simp
    exact ⟨⟨x, rfl, by omega⟩, c1, i, h1, hi, hr1, hb1, hn, hl⟩
theorem tmod_lt' {x n : Nat} (hn : 0 < n) : (x : Int).tmod (n : Int) = ((x % n : Nat) : Int) := by rw [Int.tmod_eq_emod_of_nonneg (by omega)]; rfl
theorem l01Below_w (c : Cur H r vb code) (hf : frz ≤ r) (n : Nat) (hn : 0 < n) (hn2 : n < 2147483648) : wp (vcall C frz 76 [.pointer (some ⟨r, 0, some 0⟩), .int .i64 n] H) (fun u H' => (∃ x : Nat, u = .int .i64 x ∧ x < n) ∧ Chg H H' [r] ∧ Cur H' r vb code) := by
  have hn0 : ¬ (n : Int) ≤ 0 := by omega
  have hn1 : ¬ n = 0 := by omega
  rw [vcall_go (fn := Try.f76) Try.func76 rfl (by kernel_rfl) rfl]
  simp [hn0, hn1]
  refine wp_dec ?_ ?_ <;> intro g1
  · simp
    refine wp_thn (l01Byte_w c hf) ?_
    rintro _ H1 ⟨⟨x, rfl, hx⟩, c1, d1⟩
    have hm : x % n < n := Nat.mod_lt _ hn
    have e1 : IntKind.i64.wrap ((x % n : Nat) : Int) = ((x % n : Nat) : Int) := w64 (by omega) (by omega)
    simp [hn1, tmod_lt' hn, e1]
    exact ⟨⟨x % n, by simp, hm⟩, c1, d1⟩
  · simp
    refine wp_thn (l01Byte_w c hf) ?_
    rintro _ H1 ⟨⟨x, rfl, hx⟩, c1, d1⟩
    simp
    refine wp_thn (l01Byte_w d1 hf) ?_
    rintro _ H2 ⟨⟨y, rfl, hy⟩, c2, d2⟩
    simp
    refine wp_thn (l01Byte_w d2 hf) ?_
    rintro _ H3 ⟨⟨z, rfl, hz⟩, c3, d3⟩
    simp
    refine wp_thn (l01Byte_w d3 hf) ?_
    rintro _ H4 ⟨⟨w, rfl, hw⟩, c4, d4⟩
    obtain ⟨q, hq⟩ : ∃ q : Nat, q = x * 16777216 + y * 65536 + z * 256 + w := ⟨_, rfl⟩
    have e1 : IntKind.i64.wrap (IntKind.i64.wrap (IntKind.i64.wrap (IntKind.i64.wrap ((x : Int) * 16777216) + IntKind.i64.wrap ((y : Int) * 65536)) + IntKind.i64.wrap ((z : Int) * 256)) + (w : Int)) = (q : Int) := by
      rw [w64 (x := (x : Int) * 16777216) (by omega) (by omega), w64 (x := (y : Int) * 65536) (by omega) (by omega), w64 (x := (z : Int) * 256) (by omega) (by omega), w64 (x := (x : Int) * 16777216 + (y : Int) * 65536) (by omega) (by omega), w64 (x := (x : Int) * 16777216 + (y : Int) * 65536 + (z : Int) * 256) (by omega) (by omega), w64 (by omega) (by omega)]
      omega
    have hm : q % n < n := Nat.mod_lt _ hn
    have e2 : IntKind.i64.wrap ((q % n : Nat) : Int) = ((q % n : Nat) : Int) := w64 (by omega) (by omega)
    simp [hn1, e1, tmod_lt' hn, e2]
    exact ⟨⟨q % n, by simp, hm⟩, c1.trans (c2.trans (c3.trans c4)), d4⟩
theorem l01Once_w (c : Cur H r vb code) (hf : frz ≤ r) (n : Nat) (hn : 0 < n) (hn2 : n < 2147483648) : wp (vcall C frz 122 [.pointer (some ⟨r, 0, some 0⟩), .int .i64 n] H) (fun u H' => (∃ b : Bool, u = .bool b) ∧ Chg H H' [r] ∧ Cur H' r vb code) := by
  rw [vcall_go (fn := Try.f122) Try.func122 rfl (by kernel_rfl) rfl]
  simp
  refine wp_thn (l01Below_w c hf n hn hn2) ?_
  rintro _ H1 ⟨⟨x, rfl, hx⟩, c1, d1⟩
  simp
  exact ⟨by omega, c1, d1⟩
theorem l01PickInt_w (c : Cur H r vb code) (hf : frz ≤ r) (v : Value) (xs : List Int) (hI : IsI H v xs) (hv : r ∉ ids v) (h0 : 0 < xs.length) (hl : xs.length < 2147483648) :
   wp (vcall C frz 140 [.pointer (some ⟨r, 0, some 0⟩), v] H) (fun u H' => (∃ x, u = .int .i64 x ∧ x ∈ xs) ∧ Chg H H' [r] ∧ Cur H' r vb code) := by
  rw [vcall_go (fn := Try.f140) Try.func140 rfl (by kernel_rfl) rfl]
  simp [hI.len]
  refine wp_thn (l01Below_w c hf xs.length h0 hl) ?_
  rintro _ H1 ⟨⟨x, rfl, hx⟩, c1, d1⟩
  have hI1 := (hI.rd.chg c1 (fun i hi hh => by have := List.mem_singleton.1 hh; subst this; exact hv hi)).isI
  have q1 := hI1.idx (P := Try.prog) (ty := 22) (e := 3) (by simp) (i := (x : Int)) (by omega) (by omega)
  have r1 := (hI1.load (P := Try.prog) (e := 3) (by simp) hx).trans (by rw [getD_get _ _ hx])
  simp only [Int.toNat_natCast] at q1
  simp [q1, r1]
  exact ⟨c1, d1⟩
theorem l02Grid_w (c : Cur H r vb code) (hf : frz ≤ r) : wp (vcall C frz 114 [.pointer (some ⟨r, 0, some 0⟩)] H) (fun u H' => (∃ w h, u = .agg #[.int .i64 w, .int .i64 h] ∧ okG w h) ∧ Chg H H' [r] ∧ Cur H' r vb code) := by
  have lt := c.lt
  have nb : ∀ (L : Heap), Cur (H ++ L) r vb code := fun L => by
    obtain ⟨i, x, h1, h2, h3, h4, h5⟩ := c
    exact ⟨i, x, h1, get_app' h2 L, h3.app, h4, h5⟩
  rw [vcall_go (fn := Try.f114) Try.func114 rfl (by kernel_rfl) rfl]
  simp
  have i1 := IsI.at (H := H) (L := [⟨[.int .i64 0, .int .i64 0], 0, 31⟩, ⟨[.int .i64 1, .int .i64 2, .int .i64 2, .int .i64 3, .int .i64 3, .int .i64 4], 0, 3⟩]) (k := 1) (xs := [1, 2, 2, 3, 3, 4]) rfl
  refine wp_thn (l01PickInt_w (nb _) hf _ [1, 2, 2, 3, 3, 4] i1 (by simp; omega) (by simp) (by simp)) ?_
  rintro _ H1 ⟨⟨w, rfl, hw⟩, c1, d1⟩
  have cH : Chg H H1 [r] := (Chg.app [r]).trans c1
  have l0 := cH.1
  have b0 : H1[H.length]? = some ⟨[.int .i64 0, .int .i64 0], 0, 31⟩ := box_chg (by simp) c1 (by simp; omega)
  have lt1 := d1.lt
  have nb1 : ∀ (L : Heap), Cur (H1 ++ L) r vb code := fun L => by
    obtain ⟨i, x, h1, h2, h3, h4, h5⟩ := d1
    exact ⟨i, x, h1, get_app' h2 L, h3.app, h4, h5⟩
  simp
  have i2 := IsI.at0 (H := H1) (L := [⟨[.int .i64 1, .int .i64 2, .int .i64 2, .int .i64 3, .int .i64 3, .int .i64 4], 0, 3⟩]) (xs := [1, 2, 2, 3, 3, 4]) rfl
  refine wp_thn (l01PickInt_w (nb1 _) hf _ [1, 2, 2, 3, 3, 4] i2 (by simp; omega) (by simp) (by simp)) ?_
  rintro _ H2 ⟨⟨h, rfl, hh⟩, c2, d2⟩
  have b2 : H2[H.length]? = some ⟨[.int .i64 0, .int .i64 0], 0, 31⟩ := box_chg (get_app' b0 _) c2 (by simp; omega)
  have g2 := set_get (r' := ⟨[.int .i64 w, .int .i64 h], 0, 31⟩) b2
  have hF : frz ≤ H.length := by omega
  simp [VM.look, b2, g2, hF]
  have hwr : 1 ≤ w ∧ w ≤ 4 := by simp at hw; omega
  have hhr : 1 ≤ h ∧ h ≤ 4 := by simp at hh; omega
  have c3 : Chg H2 (H2.set H.length ⟨[.int .i64 w, .int .i64 h], 0, 31⟩) [H.length] := chg_set _ _
  refine ⟨⟨w, h, ⟨rfl, rfl⟩, hwr, hhr⟩, (cH.trans ((Chg.app [r]).trans c2)).trans' c3 (fun i hi => .inr (by simp at hi; omega)), ?_⟩
  obtain ⟨i, x, h1, h2, h3, h4, h5⟩ := d2
  have vlt := fun i (hi : i ∈ ids vb) => (show i < H.length by obtain ⟨_, _, _, _, k3, _⟩ := c; exact k3.lt i hi)
  exact ⟨i, x, h1, box_chg h2 c3 (by simp; omega), h3.chg c3 (fun j hj hh => by have := vlt j hj; simp at hh; omega), h4, h5⟩
theorem Cur.app (c : Cur H r vb code) (L : Heap) : Cur (H ++ L) r vb code := by
  obtain ⟨i, x, h1, h2, h3, h4, h5⟩ := c
  exact ⟨i, x, h1, get_app' h2 L, h3.app, h4, h5⟩
theorem Cur.vlt (c : Cur H r vb code) : ∀ i ∈ ids vb, i < H.length := by
  obtain ⟨_, _, _, _, k3, _⟩ := c; exact k3.lt
/-- a mesh that has been drawn -/
def MeshD' (H : Heap) (is : List Nat) (u : Value) (H' : Heap) : Prop := ∃ v w h b, u = .agg #[.int .i64 w, .int .i64 h, v] ∧ meshOk w h b ∧ Ow Fl.int 3 H' v b ∧ (∀ i ∈ ids v, H.length ≤ i) ∧ Chg H H' is
theorem l03Mesh_w (c : Cur H r vb code) (hf : frz ≤ r) : wp (vcall C frz 74 [.pointer (some ⟨r, 0, some 0⟩)] H) (fun u H' => MeshD' H [r] u H' ∧ Cur H' r vb code) := by
  have lt := c.lt
  have hF : frz ≤ H.length := by omega
  rw [vcall_go (fn := Try.f74) Try.func74 rfl (by kernel_rfl) rfl]
  simp
  refine wp_thn (l02Grid_w (c.app _) hf) ?_
  rintro _ H1 ⟨⟨w, h, rfl, hg⟩, c1, d1⟩
  have cH : Chg H H1 [r] := (Chg.app [r]).trans c1
  have l0 := cH.1
  have lt1 := d1.lt
  have b0 : H1[H.length]? = some ⟨[.int .i64 0, .int .i64 0, .slice none 0 0], 0, 33⟩ := box_chg (by simp) c1 (by simp; omega)
  have l1 := box_lt b0
  simp [VM.look, hF, Nat.le_trans hF l0]
  refine wp_thn (l01Once_w (d1.app _) hf 3 (by decide) (by decide)) ?_
  rintro _ H2 ⟨⟨bb, rfl⟩, c2, d2⟩
  have b2 : H2[H.length]? = some ⟨[.int .i64 0, .int .i64 0, .slice none 0 0], 0, 33⟩ := box_chg (get_app' b0 _) c2 (by simp; omega)
  have b3 : H2[H1.length]? = some ⟨[.int .i64 w, .int .i64 h, .slice none 0 0], 0, 33⟩ := box_chg (by simp) c2 (by simp; omega)
  have cH2 : Chg H H2 [r] := cH.trans ((Chg.app [r]).trans c2)
  have vlt := c.vlt
  have hne : H1.length ≠ H.length := by omega
  simp
  -- what is handed back
  have fin : ∀ (H' : Heap) (v : Value) (b : List Int), H'[H.length]? = some ⟨[.int .i64 0, .int .i64 0, .slice none 0 0], 0, 33⟩ → Cur H' r vb code → Ow Fl.int 3 H' v b → (∀ i ∈ ids v, H.length + 1 ≤ i) → Chg H H' [r] → meshOk w h b →
      MeshD' H [r] (.agg #[.int .i64 w, .int .i64 h, v]) (H'.set H.length ⟨[.int .i64 w, .int .i64 h, v], 0, 33⟩) ∧ Cur (H'.set H.length ⟨[.int .i64 w, .int .i64 h, v], 0, 33⟩) r vb code := by
    intro H' v b q1 q2 q3 q4 q5 q6
    refine ⟨⟨v, w, h, b, rfl, q6, q3.chg (chg_set _ _) (fun i hi hh => by have := q4 i hi; simp at hh; omega), fun i hi => by have := q4 i hi; omega, q5.trans' (chg_set _ _) (fun i hi => .inr (by simp at hi; omega))⟩, ?_⟩
    exact q2.chg (chg_set _ _) (by simp; omega) (fun i hi hh => by have := vlt i hi; simp at hh; omega)
  refine wp_bool ?_ ?_ <;> intro g1
  · simp
    refine wp_joino (F := ?F) (k := ?k) (o := ?o) (Q := ?Q) (fun t H' => t 2 = .pointer (some ⟨H.length, 0, some 0⟩) ∧ t 3 = .pointer (some ⟨H1.length, 0, some 0⟩) ∧ ∃ v b, H'[H.length]? = some ⟨[.int .i64 0, .int .i64 0, .slice none 0 0], 0, 33⟩ ∧
       H'[H1.length]? = some ⟨[.int .i64 w, .int .i64 h, v], 0, 33⟩ ∧ Cur H' r vb code ∧ Ow Fl.int 3 H' v b ∧ (∀ i ∈ ids v, H.length + 1 ≤ i ∧ i ≠ H1.length) ∧ Chg H H' [r] ∧ meshOk w h b) ?main ?rest
    case main =>
      intro rest
      obtain ⟨N, hN⟩ : ∃ N : Nat, cnt w h = N := ⟨(cnt w h).toNat, by have := cnt_range w h; omega⟩
      have hN2 : N ≤ 16 := by have := cnt_range w h; omega
      have nc := fun F L => (sNodeCount_c (frz := F) (H := L) w h).trans (by rw [hN])
      have e4 : IntKind.i64.wrap (4 * (N : Int)) = 4 * (N : Int) := w64 (by omega) (by omega)
      refine wp_inv (fun n t H' => ∃ (i : Nat) (v : Value) (b : List Int), n = 4 * N - i ∧ i ≤ 4 * N ∧ t 0 = .pointer (some ⟨r, 0, some 0⟩) ∧ t 2 = .pointer (some ⟨H.length, 0, some 0⟩) ∧ t 3 = .pointer (some ⟨H1.length, 0, some 0⟩) ∧ t 4 = .int .i64 i ∧
         H'[H.length]? = some ⟨[.int .i64 0, .int .i64 0, .slice none 0 0], 0, 33⟩ ∧
         H'[H1.length]? = some ⟨[.int .i64 w, .int .i64 h, v], 0, 33⟩ ∧ Cur H' r vb code ∧ Ow Fl.int 3 H' v b ∧ (∀ i ∈ ids v, H.length + 1 ≤ i ∧ i ≠ H1.length) ∧ Chg H H' [r] ∧ meshOk w h b ∧ b.length ≤ i ∧ ∀ x ∈ b, x < i) ?_ (n := 4 * N)
        ⟨0, .slice none 0 0, [], rfl, by omega, by simp, by simp, by simp, by simp, b2, b3, d2, .inl ⟨rfl, rfl⟩, by simp, cH2, ⟨by simp, hg⟩, by simp, by simp⟩
      rintro n t H' ⟨i, v, b, rfl, hi, t0, t2, t3, t4, b2, b3, d2, o, nv, ch, hm, hbl, hbi⟩ ih
      have k3 := box_lt b3
      have ltd := d2.lt
      have one := And.intro o.rd.one' o.rd.cells
      have lo := o.lt
      simp [t0, t2, t3, t4, VM.look, b3, nc, e4]
      refine wp_dec ?_ ?_ <;> intro g2
      · have hi2 : i < 4 * N := by omega
        simp [t0, t2, t3, t4, VM.look, b3, l03Leads_c]
        refine wpg_dec ?_ ?_ <;> intro g3
        · simp [t0, t2, t3, t4, g3]
          refine wp_thn (l01Once_w d2 hf 9 (by decide) (by decide)) ?_
          rintro _ H3 ⟨⟨b9, rfl⟩, c3, d3⟩
          have s2 := box_chg b2 c3 (by simp; omega)
          have s3 := box_chg b3 c3 (by simp; omega)
          have o3 := o.chg c3 (fun j hj hh => by have := nv j hj; simp at hh; omega)
          have ch3 := ch.trans c3
          simp
          refine wp_bool ?_ ?_ <;> intro g4
          · obtain ⟨v', H4, hap, o4, c4, n4⟩ := o3.push (P := Try.prog) (frz := frz) (ty := 22) (a := (i : Int)) (by simp) rfl (by omega) (fun j hj => by have := nv j hj; omega)
            simp only [Fl.int_f] at hap
            have p3 : H4[H1.length]? = some ⟨[.int .i64 w, .int .i64 h, v], 0, 33⟩ := box_chg s3 c4 (fun hh => (nv _ hh).2 rfl)
            have p2 : H4[H.length]? = some ⟨[.int .i64 0, .int .i64 0, .slice none 0 0], 0, 33⟩ := box_chg s2 c4 (fun hh => by have := nv _ hh; omega)
            have c5 : Chg H4 (H4.set H1.length ⟨[.int .i64 w, .int .i64 h, v'], 0, 33⟩) [H1.length] := chg_set _ _
            have p4 := set_get (r' := ⟨[.int .i64 w, .int .i64 h, v'], 0, 33⟩) p3
            have k4 := box_lt s3
            have nv' : ∀ j ∈ ids v', H.length + 1 ≤ j ∧ j ≠ H1.length := fun j hj => by
              rcases n4 j hj with h1 | h1
              · exact nv j h1
              · omega
            have one4 := And.intro o4.rd.one' o4.rd.cells
            have d4 := d3.chg c4 (fun hh => by have := nv _ hh; omega) (fun j hj hh => by have := nv _ hh; have := vlt j hj; omega)
            have d5 := d4.chg c5 (by simp; omega) (fun j hj hh => by have := vlt j hj; simp at hh; omega)
            have hfr : frz ≤ H1.length := by omega
            have hm' : meshOk w h (b ++ [(i : Int)]) := by
              obtain ⟨m1, m2, m3⟩ := (meshOk_iff w h b).1 hm
              refine (meshOk_iff w h _).2 ⟨m1, fun x hx => ?_, ?_⟩
              · rcases List.mem_append.1 hx with hx | hx
                · exact m2 x hx
                · rw [List.mem_singleton.1 hx]; exact g3
              · rw [List.pairwise_append]
                exact ⟨m3, by simp, fun x hx y hy => by rw [List.mem_singleton.1 hy]; exact hbi x hx⟩
            simp [t0, t2, t3, t4, VM.look, s3, one, hap, p3, one4, hfr]
            refine ih (4 * N - (i + 1)) _ _ ⟨i + 1, v', b ++ [(i : Int)], rfl, by omega, by simp [t0], by simp [t2], by simp [t3], ?_, box_chg p2 c5 (by simp; omega), p4, d5, o4.chg c5 (fun j hj hh => (nv' j hj).2 (List.mem_singleton.1 hh)), nv', (ch3.trans' c4 (fun j hj => .inr (by have := nv j hj; omega))).trans' c5 (fun j hj => .inr (by simp at hj; omega)), hm', by simp; omega, fun x hx => ?_⟩ (by omega)
            · simp; rw [w64 (by omega) (by omega)]
            · rcases List.mem_append.1 hx with hx | hx
              · have := hbi x hx; omega
              · rw [List.mem_singleton.1 hx]; omega
          · simp [t0, t2, t3, t4]
            refine ih (4 * N - (i + 1)) _ _ ⟨i + 1, v, b, rfl, by omega, by simp [t0], by simp [t2], by simp [t3], ?_, s2, s3, d3, o3, nv, ch3, hm, by omega, fun x hx => by have := hbi x hx; omega⟩ (by omega)
            simp; rw [w64 (by omega) (by omega)]
        · simp [t0, t2, t3, t4, g3]
          refine ih (4 * N - (i + 1)) _ _ ⟨i + 1, v, b, rfl, by omega, by simp [t0], by simp [t2], by simp [t3], ?_, b2, b3, d2, o, nv, ch, hm, by omega, fun x hx => by have := hbi x hx; omega⟩ (by omega)
          simp; rw [w64 (by omega) (by omega)]
      · simp [t0, t2, t3, t4, -go_exit_blk]
        refine rest _ _ ?_
        exact ⟨by simp [t2], by simp [t3], v, b, b2, b3, d2, o, nv, ch, hm⟩
    case rest =>
      rintro t H' ⟨t2, t3, v, b, b2, b3, d2, o, nv, ch, hm⟩
      have g2 := set_get (r' := ⟨[.int .i64 w, .int .i64 h, v], 0, 33⟩) b2
      have one := And.intro o.rd.one' o.rd.cells
      simp [t2, t3, VM.look, b3, b2, g2, hF, one]
      exact fin H' v b b2 d2 o (fun i hi => (nv i hi).1) ch hm
  · have g2 := set_get (r' := ⟨[.int .i64 w, .int .i64 h, .slice none 0 0], 0, 33⟩) b2
    simp [VM.look, b3, b2, g2, hF]
    exact fin H2 _ [] b2 d2 (.inl ⟨rfl, rfl⟩) (by simp) cH2 ⟨by simp, hg⟩
theorem drawMesh_w (vb : Value) (code : List Int) (hb : Rd Fl.u8 H vb code) (hl : code.length ≤ 1073741824) : wp (vcall C frz 22 [vb] H) (fun u H' => MeshD' H [] u H') := by
  rw [vcall_go (fn := Try.f22) Try.func22 rfl (by kernel_rfl) rfl]
  simp
  refine wp_thn (l01New_w vb code hb.app hl) ?_
  rintro _ H1 ⟨r, rfl, hr, c1, ch1⟩
  have cH : Chg H H1 [] := (Chg.app []).trans ch1
  have b1 : H1[H.length]? = some ⟨[.int .i64 0, .int .i64 0, .slice none 0 0], 0, 33⟩ := box_chg (by simp) ch1 (by simp)
  simp at hr
  simp
  refine wp_thn (l03Mesh_w c1 (by omega)) ?_
  rintro _ H2 ⟨⟨v, w, h, b, rfl, hm, o, nv, c2⟩, d2⟩
  have b2 := box_chg b1 c2 (by simp; omega)
  have g2 := set_get (r' := ⟨[.int .i64 w, .int .i64 h, v], 0, 33⟩) b2
  have one := And.intro o.rd.one' o.rd.cells
  have l1 := cH.1
  have k1 := box_lt b1
  simp [VM.look, b2, g2, one]
  exact ⟨v, w, h, b, rfl, hm, o.chg (chg_set _ _) (fun i hi hh => by have := nv i hi; simp at hh; omega), fun i hi => by have := nv i hi; omega, (cH.trans' c2 (fun i hi => .inr (by simp at hi; omega))).trans' (chg_set _ _) (fun i hi => .inr (by simp at hi; omega))⟩
theorem drawPlaces_w (vb : Value) (code : List Int) (hb : Rd Fl.u8 H vb code) (hl : code.length ≤ 1073741824) :
   wp (vcall C frz 23 [vb] H) (fun u H' => ∃ xs : List Int, Ow Fl.int 3 H' u xs ∧ xs.length = 12 ∧ (∀ x ∈ xs, 0 ≤ x ∧ x < 10000) ∧ (∀ i ∈ ids u, H.length ≤ i) ∧ Chg H H' []) := by
  rw [vcall_go (fn := Try.f23) Try.func23 rfl (by kernel_rfl) rfl]
  simp
  refine wp_thn (l01New_w vb code hb hl) ?_
  rintro _ H1 ⟨r, rfl, hr, c1, ch1⟩
  have lt1 := c1.lt
  have vlt := hb.lt
  simp
  refine wp_inv (fun n t H' => ∃ (i : Nat) (u : Value) (xs : List Int), n = 12 - i ∧ i ≤ 12 ∧ t 3 = .pointer (some ⟨r, 0, some 0⟩) ∧ t 4 = u ∧ t 5 = .int .i64 i ∧ Cur H' r vb code ∧ Ow Fl.int 3 H' u xs ∧ xs.length = i ∧ (∀ x ∈ xs, 0 ≤ x ∧ x < 10000) ∧ (∀ j ∈ ids u, H.length ≤ j ∧ j ≠ r) ∧ Chg H H' []) ?_ (n := 12)
    ⟨0, .slice (some ⟨H1.length, 0, some 0⟩) 0 0, [], rfl, by omega, by simp, by simp, by simp, c1.app _, Ow.new0 (D := Fl.int) (xs := []) rfl rfl rfl rfl, rfl, by simp, by have := ch1.1; simp; omega, ch1.trans (Chg.app [])⟩
  rintro n t H' ⟨i, u, xs, rfl, hi, t3, t4, t5, c, o, hx, hr2, nu, ch⟩ ih
  simp [t3, t4, t5]
  refine wp_dec ?_ ?_ <;> intro g1
  · simp [t3, t4, t5]
    have bl := l01Below_w (frz := H.length) c hr 10000 (by decide) (by decide)
    refine wp_thn (by simpa using bl) ?_
    rintro _ H2 ⟨⟨x, rfl, hx2⟩, c2, d2⟩
    have o2 := o.chg c2 (fun j hj hh => (nu j hj).2 (List.mem_singleton.1 hh))
    obtain ⟨u', H3, hap, o3, c3, n3⟩ := o2.push (P := Try.prog) (frz := H.length) (ty := 22) (a := (x : Int)) (by simp) rfl (by omega) (fun j hj => (nu j hj).1)
    simp only [Fl.int_f] at hap
    have l2 := ch.1
    have l3 := c2.1
    have ltr := d2.lt
    simp [t3, t4, t5, hap]
    refine ih (12 - (i + 1)) _ _ ⟨i + 1, u', xs ++ [(x : Int)], rfl, by omega, by simp [t3], by simp, ?_, d2.chg c3 (fun hh => (nu _ hh).2 rfl) (fun j hj hh => by have := (nu j hh).1; have := vlt j hj; omega), o3, by simp [hx], fun y hy => ?_, fun j hj => ?_, (ch.trans' c2 (fun j hj => .inr (by simp at hj; omega))).trans' c3 (fun j hj => .inr ((nu j hj).1))⟩ (by omega)
    · simp; rw [w64 (by omega) (by omega)]
    · rcases List.mem_append.1 hy with hy | hy
      · exact hr2 y hy
      · rw [List.mem_singleton.1 hy]; omega
    · rcases n3 j hj with h1 | h1
      · exact nu j h1
      · omega
  · simp [t4]
    exact ⟨xs, o, by omega, hr2, fun j hj => (nu j hj).1, ch⟩
theorem big_c (v : Value) (code : List Int) (hb : Rd Fl.u8 H v code) : vcall C frz 21 [v] H = some (.bool (decide ((1048576 : Int) < code.length)), H) := by
  rw [vcall_go (fn := Try.f21) Try.func21 rfl (by kernel_rfl) rfl]
  simp [hb.len]
end Go.Proofs.Ytnakhkfgheapoaa.V
/-! Draws: bytes of an argument. -/
set_option linter.all false
namespace Go.Proofs.Ytnakhkfgheapoaa.V
open Go Go.VM Go.Proofs
theorem cellsOf_u8 : ∀ xs : List Int, cellsOf Fl.u8 xs = xs.map (.int .u8)
  | [] => rfl
  | a :: l => by rw [cellsOf_cons, cellsOf_u8 l]; rfl
theorem IsS_bytes {H : Heap} {v : Value} {xs : List Int} (h : IsS (Kn.int .u8) H v xs) : Rd Fl.u8 H v xs := by
  rcases h with h | ⟨id, off, r, h1, h2, h3, h4⟩
  · exact .inl h
  · have hs : (Kn.int .u8).sz = 1 := rfl
    rw [hs] at h3 h4
    have e0 : cellsOf Fl.u8 xs = xs.map (.int .u8) := cellsOf_u8 xs
    refine .inr ⟨id, off, r, h1, h2, ?_, by simpa using h3⟩
    rw [e0]
    refine List.ext_getElem? fun j => ?_
    by_cases hj : j < xs.length
    · have := h4 j xs[j] (by simp [hj])
      have e : (r.cells.drop (off + j * 1)).take 1 = [.int .u8 xs[j]] := this
      have e2 := congrArg (·[0]?) e
      simp at e2
      rw [List.getElem?_take, if_pos (by simpa using hj), List.getElem?_drop]
      simp [e2, hj]
    · rw [List.getElem?_take, if_neg (by simpa using hj), List.getElem?_eq_none (by rw [List.length_map]; omega)]
end Go.Proofs.Ytnakhkfgheapoaa.V
/-! TreeNodes of the reference. -/
set_option linter.all false
namespace Go.Proofs.Ytnakhkfgheapoaa.V
open Go Go.VM Go.Proofs
set_option maxRecDepth 10000
variable {frz : Nat} {H : Heap}
theorem sTreeNodes_w (v : Value) (P : List Int) (a b : Int) (hI : IsI H v P) (hl : P.length ≤ 268435456) :
   wp (vcall C frz 15 [v, .int .i64 a, .int .i64 b] H) (Made Fl.int 3 H (treeNodes P a b)) := by
  rw [vcall_go (fn := Try.f15) Try.func15 rfl (by kernel_rfl) rfl]
  simp [sCommon_c _ _ _ _ (hI.app _) (show P.length ≤ 1073741823 by omega)]
  refine wp_dec ?_ ?_ <;> intro h0
  · simp [treeNodes, h0]
    exact ⟨_, rfl, Ow.new0 rfl rfl rfl rfl, by simp⟩
  · simp
    have hm : P.length ≤ 1073741823 := by omega
    refine wp_thn (sAnc_w v P a (hI.app _) hm) ?_
    rintro va _ ⟨L1, rfl, oa, na⟩
    simp
    refine wp_thn (sAnc_w v P b (hI.app _) hm) ?_
    rintro vb _ ⟨L2, rfl, ob, nb⟩
    have hla := anc_len P a
    have hlb := anc_len P b
    have oa := oa.rd.isI.app L2
    have ob := ob.rd.isI
    simp only [List.append_assoc, List.singleton_append, List.length_append, List.length_cons, List.length_nil, List.cons_append, List.nil_append] at oa ob na nb
    obtain ⟨ma, mb⟩ := common_mem (P := P) (a := a) (b := b) (by omega)
    have fa := fun (r : Row) (G : Heap) => (swapI r oa (fun i hi => na i hi)).app G
    have fb := fun (r : Row) (G : Heap) => (swapI r ob (fun i hi => by have := nb i hi; omega)).app G
    simp only [List.append_assoc, List.cons_append, List.nil_append] at fa fb
    clear oa ob na nb
    generalize hA : anc P a = A at *
    generalize hB : anc P b = B at *
    generalize hT : common P a b = top at *
    have ia := List.idxOf_lt_length_iff.2 ma
    have ib := List.idxOf_lt_length_iff.2 mb
    have ga := (getD_get _ _ ia).trans (idx_get ma)
    have gb := (getD_get _ _ ib).trans (idx_get mb)
    have na : ∀ j (h : j < A.length), A[j] = top → A.idxOf top ≤ j := fun j h => idx_at h
    have nb : ∀ j (h : j < B.length), (B[j] = top → B.idxOf top ≤ j) ∧ (j < B.idxOf top → B[j] ≠ top) := fun j h => ⟨idx_at h, fun h1 => idx_ne h1 h⟩
    have tn : treeNodes P a b = A.take (A.idxOf top + 1) ++ (B.take (B.idxOf top)).reverse := by rw [treeNodes, hT, hA, hB, if_neg h0]
    rw [tn]
    clear tn hA hB hT hI
    generalize hka : A.idxOf top = ka at *
    generalize hkb : B.idxOf top = kb at *
    have la := fun (r : Row) (G : Heap) => (fa r G).len (P := Try.prog) (ty := 22) (by simp)
    have lb := fun (r : Row) (G : Heap) => (fb r G).len (P := Try.prog) (ty := 22) (by simp)
    have xa := fun (r : Row) (G : Heap) (i : Nat) (hi : i < A.length) => (fa r G).idx (P := Try.prog) (ty := 22) (e := 3) (by simp) (i := (i : Int)) (by omega) (by omega)
    have xb := fun (r : Row) (G : Heap) (i : Nat) (hi : i < B.length) => (fb r G).idx (P := Try.prog) (ty := 22) (e := 3) (by simp) (i := (i : Int)) (by omega) (by omega)
    have da := fun (r : Row) (G : Heap) (i : Nat) (hi : i < A.length) => ((fa r G).load (P := Try.prog) (e := 3) (by simp) hi).trans (by rw [getD_get _ _ hi])
    have db := fun (r : Row) (G : Heap) (i : Nat) (hi : i < B.length) => ((fb r G).load (P := Try.prog) (e := 3) (by simp) hi).trans (by rw [getD_get _ _ hi])
    simp only [Int.toNat_natCast] at xa xb
    simp
    -- the way up
    refine wp_inv (fun n t H' => ∃ (i g : Nat) (G : Heap) (o : List Int), n = ka - i ∧ i ≤ ka ∧ o = A.take i ∧ t 7 = .slice (some ⟨H.length, 0, some g⟩) o.length 0 ∧ t 8 = .int .i64 top ∧ t 9 = va ∧ t 10 = vb ∧ t 11 = .int .i64 i ∧
      H' = H ++ ⟨o.map (.int .i64), g, 3⟩ :: (L1 ++ (L2 ++ G))) ?_ (n := ka) ⟨0, 0, [], [], by simp⟩
    rintro n t H' ⟨i, g, G, o, rfl, hi, ho, h7, h8, h9, h10, h11, rfl⟩ ih
    have hil : i < A.length := by omega
    have hol : o.length = i := by rw [ho]; simp; omega
    have q1 := fun r G => xa r G i hil
    have q2 := fun r G => da r G i hil
    simp [h7, h8, h9, h10, h11, q1, q2]
    refine wp_dec ?_ ?_ <;> intro h6
    · have hik : i = ka := by
        have := na _ hil h6
        omega
      subst hik
      simp [h7, h8, h9, h10, h11]
      refine wp_need (by omega) ?_
      simp [h7, h8, h9, h10, h11, lb]
      have e1 : IntKind.i64.wrap ((B.length : Int) - 1) = (B.length : Int) - 1 := w64 (by omega) (by omega)
      have et : A.take (i + 1) = A.take i ++ [top] := by rw [List.take_succ_eq_append_getElem hil, h6]
      -- the way down
      refine wp_inv (fun n t H' => ∃ (j g : Nat) (G : Heap) (o : List Int), n = j ∧ j ≤ B.length ∧ o = A.take (i + 1) ++ ((B.take kb).drop j).reverse ∧ t 7 = .slice (some ⟨H.length, 0, some g⟩) o.length 0 ∧ t 8 = .int .i64 top ∧ t 10 = vb ∧ t 12 = .int .i64 (j - 1 : Int) ∧
        H' = H ++ ⟨o.map (.int .i64), g, 3⟩ :: (L1 ++ (L2 ++ G))) ?_ (n := B.length) ⟨B.length, g + 1, G ++ [⟨[.int .i64 top], 0, 3⟩], _, rfl, by omega, rfl, ?_, by simp [h8], by simp [h10], by simp [e1], ?_⟩
      · clear h7 h8 h9 h10 h11 ih
        clear ho hol
        rintro n t H' ⟨j, g, G, o, rfl, hj, ho, h7, h8, h10, h12, rfl⟩ ih
        simp [h7, h8, h10, h12]
        refine wp_dec ?_ ?_ <;> intro hj0
        · obtain ⟨j', rfl⟩ : ∃ j', n = j' + 1 := ⟨n - 1, by omega⟩
          have ej : (((j' + 1 : Nat) : Int) - 1) = j' := by omega
          rw [ej] at h12
          simp [h7, h8, h10, h12]
          refine wp_inv (fun m t H' => ∃ (k : Nat), m = j' + 1 - k ∧ k ≤ j' + 1 ∧ t 7 = .slice (some ⟨H.length, 0, some g⟩) o.length 0 ∧ t 8 = .int .i64 top ∧ t 10 = vb ∧ t 12 = .int .i64 j' ∧ t 13 = .bool (decide (k ≤ kb)) ∧ t 14 = .int .i64 k ∧
            H' = H ++ ⟨o.map (.int .i64), g, 3⟩ :: (L1 ++ (L2 ++ G))) ?_ (n := j' + 1) ⟨0, by simp [h7, h8, h10, h12]⟩
          clear h7 h8 h10 h12
          rintro m t H' ⟨k, rfl, hk, h7, h8, h10, h12, h13, h14, rfl⟩ ih2
          simp [h7, h8, h10, h12, h13, h14]
          refine wp_dec ?_ ?_ <;> intro hkj
          · have hkl : k < B.length := by omega
            have q1 := fun r G => xb r G k hkl
            have q2 := fun r G => db r G k hkl
            simp [h7, h8, h10, h12, h13, h14]
            refine wpg_dec ?_ ?_ <;> intro hkb
            · simp [h7, h8, h10, h12, h13, h14, hkb, q1, q2]
              refine ih2 (j' + 1 - (k + 1)) _ _ ⟨k + 1, rfl, by omega, by simp [h7], by simp [h8], by simp [h10], by simp [h12], ?_, ?_, by simp⟩ (by omega)
              · have e : (k + 1 ≤ kb) ↔ ¬ B[k] = top := ⟨fun hh => (nb k hkl).2 (by omega), fun hh => by
                  by_cases hlt : k + 1 ≤ kb
                  · exact hlt
                  · have : kb = k := by omega
                    subst this; rw [getD_get _ _ hkl] at gb; exact absurd gb hh⟩
                simp [e]
              · simp; rw [w64 (by omega) (by omega)]
            · simp [h7, h8, h10, h12, h13, h14, hkb]
              refine ih2 (j' + 1 - (k + 1)) _ _ ⟨k + 1, rfl, by omega, by simp [h7], by simp [h8], by simp [h10], by simp [h12], ?_, ?_, by simp⟩ (by omega)
              · have e : ¬ (k + 1 ≤ kb) := by omega
                simp [e]
              · simp; rw [w64 (by omega) (by omega)]
          · have : k = j' + 1 := by omega
            subst this
            simp [h7, h8, h10, h12, h13, h14]
            refine wp_dec ?_ ?_ <;> intro hkb
            · have hjl : j' < B.length := by omega
              have q1 := fun r G => xb r G j' hjl
              have q2 := fun r G => db r G j' hjl
              have hol : o.length ≤ 536870912 := by rw [ho]; simp; omega
              simp [h7, h8, h10, h12, h13, h14, hkb, q1, q2]
              refine wp_need (by omega) ?_
              refine ih j' _ _ ⟨j', g + 1, G ++ [⟨[.int .i64 B[j']], 0, 3⟩], o ++ [B[j']], rfl, by omega, ?_, by simp, by simp [h8], by simp [h10], ?_, by simp⟩ (by omega)
              · rw [ho, List.append_assoc]
                congr 1
                rw [List.drop_eq_getElem_cons (i := j') (by simp; omega)]
                simp
              · simp; rw [w64 (by omega) (by omega)]
            · simp [h7, h8, h10, h12, h13, h14, hkb]
              refine ih j' _ _ ⟨j', g, G, o, rfl, by omega, ?_, by simp [h7], by simp [h8], by simp [h10], ?_, by simp⟩ (by omega)
              · rw [ho]
                congr 2
                rw [List.drop_of_length_le (by simp; omega), List.drop_of_length_le (by simp; omega)]
              · simp; rw [w64 (by omega) (by omega)]
        · have : n = 0 := by omega
          subst this
          simp [h7, h8, h10, h12]
          rw [List.drop_zero] at ho
          rw [← ho]
          exact ⟨_, rfl, Ow.new0 rfl (cellsOf_int o).symm (by simp) rfl, by simp⟩
      · simp [et, ← ho]; omega
      · simp [et, ← ho]; omega
    · have hik : i ≠ ka := fun hh => h6 (by subst hh; rwa [getD_get _ _ hil] at ga)
      simp [h7, h8, h9, h10, h11, q1, q2]
      refine wp_need (by omega) ?_
      refine ih (ka - (i + 1)) _ _ ⟨i + 1, g + 1, G ++ [⟨[.int .i64 A[i]], 0, 3⟩], o ++ [A[i]], rfl, by omega, ?_, by simp, by simp [h8], by simp [h9], by simp [h10], ?_, by simp⟩ (by omega)
      · rw [List.take_succ_eq_append_getElem hil, ho]
      · simp; rw [w64 (by omega) (by omega)]
end Go.Proofs.Ytnakhkfgheapoaa.V
/-! The laws' own functions: numbers, meshes, tables. -/
set_option linter.all false
namespace Go.Proofs.Ytnakhkfgheapoaa.V
open Go Go.VM Go.Proofs
set_option maxRecDepth 10000
variable {frz : Nat} {H : Heap}
def big : Nat := 1073741824
abbrev dIntS : Dt Value (List Int) := dFlat Fl.int 3 1073741824
/-- what a marking function leaves, told by what its reader says of it -/
def Marks {V A : Type} (B : Int) (T : Dt V A) (held : Nat) (H : Heap) (v : V) (a : A) (k : Int) (r : Value) (H' : Heap) : Prop :=
  ∃ (n : Int) (a' : A), r = .int .i64 (k + n) ∧ (0 ≤ n ∧ n ≤ B) ∧ T.val v a' = T.val v a ∧ T.Ow H' v a' ∧ Chg H H' (T.ids v) ∧
    ∀ F H2, T.Ow H2 v a' → vcall C F held [T.val v a', .int .i64 k] H2 = some (.int .i64 (k + n), H2)
theorem toIntS_w (v : Value) (xs : List Int) (hI : IsI H v xs) (hb : xs.length ≤ 1073741824) : wp (vcall C frz 16 [v] H) (dIntS.Made H xs) := by
  rw [toIntS_c v xs hI hb]
  simp
  exact ⟨_, rfl, ⟨Ow.new0 rfl (cellsOf_int xs).symm (by simp) rfl, hb⟩, Chg.app _, by simp [dFlat], ids_nodup (.slice (some ⟨H.length, 0, some 0⟩) xs.length 0)⟩
theorem eqIntS_d {a b : Value} {xs ys : List Int} (ha : dIntS.Ow H a xs) (hb : dIntS.Ow H b ys) : vcall C frz 18 [a, b] H = some (.bool (decide (xs = ys)), H) :=
  eqIntS_c a b xs ys ha.1.rd.isI hb.1.rd.isI ha.2
theorem markIntS_d {v : Value} {xs : List Int} {k : Int} (h : dIntS.Ow H v xs) (hd : (dIntS.ids v).Nodup) (hk : 0 ≤ k ∧ k ≤ 4611686018427387904) (hf : ∀ i ∈ dIntS.ids v, frz ≤ i) :
    wp (vcall C frz 19 [v, .int .i64 k] H) (Marks 1073741824 dIntS 20 H v xs k) := by
  refine (markIntS_w v xs _ k h.1 h.2 hk hf).mono ?_
  rintro r H' ⟨rfl, o, c, l⟩
  have := h.2
  refine ⟨xs.length, marks k xs.length, rfl, by omega, rfl, ⟨o, by simpa using h.2⟩, c, fun F H2 h2 => ?_⟩
  exact heldIntS_c v xs.length k h2.1.rd.isI h.2 hk
-- meshes
abbrev MeshD := Int × Int × List Int
def dMesh : Dt Value MeshD where
  val v a := .agg #[.int .i64 a.1, .int .i64 a.2.1, v]
  Ow H v a := dIntS.Ow H v a.2.2
  ids := VM.ids
  frame h k := dIntS.frame h k
  lt h := dIntS.lt h
theorem dMesh_val (v : Value) (a : MeshD) : dMesh.val v a = .agg #[.int .i64 a.1, .int .i64 a.2.1, v] := rfl
theorem dMesh_one {v : Value} {a : MeshD} (h : dMesh.Ow H v a) : VM.one v = true ∧ v.cells = #[v] := ⟨h.1.rd.one', h.1.rd.cells⟩
theorem dIntS_one {v : Value} {a : List Int} (h : dIntS.Ow H v a) : VM.one v = true ∧ v.cells = #[v] := ⟨h.1.rd.one', h.1.rd.cells⟩
theorem dIntS_val (v : Value) (a : List Int) : dIntS.val v a = v := rfl
theorem toMesh_w (w h : Int) (v : Value) (b : List Int) (hI : IsI H v b) (hb : b.length ≤ 1073741824) : wp (vcall C frz 35 [.agg #[.int .i64 w, .int .i64 h, v]] H) (dMesh.Made H (w, h, b)) := by
  rw [toMesh_c w h v b hI hb]
  simp
  exact ⟨_, rfl, ⟨Ow.new0 rfl (cellsOf_int b).symm (by simp) rfl, hb⟩, Chg.app _, by simp [dMesh], ids_nodup (.slice (some ⟨H.length, 0, some 0⟩) b.length 0)⟩
theorem eqMesh_d {a b : Value} {x y : MeshD} (ha : dMesh.Ow H a x) (hb : dMesh.Ow H b y) : vcall C frz 38 [dMesh.val a x, dMesh.val b y] H = some (.bool (decide (x = y)), H) := by
  obtain ⟨w, h, b1⟩ := x; obtain ⟨w', h', b2⟩ := y
  rw [dMesh_val, dMesh_val]
  have := eqMesh_c (frz := frz) w h w' h' a b b1 b2 ha.1.rd.isI hb.1.rd.isI ha.2
  rw [this]
  congr 3
  simp [and_assoc]
theorem markMesh_d {v : Value} {a : MeshD} {k : Int} (h : dMesh.Ow H v a) (hd : (dMesh.ids v).Nodup) (hk : 0 ≤ k ∧ k ≤ 4611686018427387904) (hf : ∀ i ∈ dMesh.ids v, frz ≤ i) :
    wp (vcall C frz 39 [dMesh.val v a, .int .i64 k] H) (Marks 1073741824 dMesh 52 H v a k) := by
  obtain ⟨w, g, b⟩ := a
  rw [vcall_go (fn := Try.f39) Try.func39 rfl (by kernel_rfl) rfl]
  rw [dMesh_val]
  have one := dMesh_one h
  simp [one]
  refine wp_thn (markIntS_d (Dt.app h) hd hk hf) ?_
  rintro _ H' ⟨n, a', rfl, hn, _, o, c, he⟩
  simp
  refine ⟨n, (w, g, a'), rfl, hn, rfl, o, (Chg.app _).trans c, fun F H2 h2 => ?_⟩
  rw [vcall_go (fn := Try.f52) Try.func52 rfl (by kernel_rfl) rfl]
  rw [dMesh_val]
  have he' := fun F => he F _ (Dt.app (L := [⟨[.int .i64 w, .int .i64 g, v], 0, 33⟩]) h2)
  simp only [dIntS_val] at he'
  have e0 : ¬ k + n < 0 := by omega
  simp [one, he', e0]
-- tables
def dTable : Dt Value (List Int) where
  val v _ := .agg #[v]
  Ow H v a := dIntS.Ow H v a
  ids := VM.ids
  frame h k := dIntS.frame h k
  lt h := dIntS.lt h
theorem dTable_val (v : Value) (a : List Int) : dTable.val v a = .agg #[v] := rfl
theorem dTable_one {v : Value} {a : List Int} (h : dTable.Ow H v a) : VM.one v = true ∧ v.cells = #[v] := ⟨h.1.rd.one', h.1.rd.cells⟩
theorem szTable_c (v : Value) (xs : List Int) (n : Int) (hI : IsI H v xs) (h0 : 0 ≤ n) (h1 : n ≤ 1048576) (h2 : xs.length ≤ 9223372036854775807) :
    vcall C frz 58 [.agg #[v], .int .i64 n] H = some (.int .i64 (if n < xs.length then -1 else n - xs.length), H) := by
  rw [vcall_go (fn := Try.f58) Try.func58 rfl (by kernel_rfl) rfl]
  simp [szIntS_c _ _ _ (hI.app _) h0 h1 h2, hI.one', hI.cells]
  refine br_dec _ ?_ ?_ <;> intro h <;> simp [h]
  · intro hh; omega
theorem toTable_w (v : Value) (xs : List Int) (hI : IsI H v xs) (hb : xs.length ≤ 1073741824) :
   wp (vcall C frz 60 [.agg #[v]] H) (dTable.Made H xs) := by
  rw [vcall_go (fn := Try.f60) Try.func60 rfl (by kernel_rfl) rfl]
  simp [toIntS_c _ _ (hI.app _) hb, hI.one', hI.cells]
  exact ⟨_, rfl, ⟨Ow.new0 rfl (cellsOf_int xs).symm (by simp) rfl, hb⟩, Chg.app _, by simp [dTable], ids_nodup (.slice (some ⟨H.length, 0, some 0⟩) xs.length 0)⟩
theorem eqTable_d {a b : Value} {x y : List Int} (ha : dTable.Ow H a x) (hb : dTable.Ow H b y) : vcall C frz 37 [dTable.val a x, dTable.val b y] H = some (.bool (decide (x = y)), H) := by
  rw [dTable_val, dTable_val]
  rw [vcall_go (fn := Try.f37) Try.func37 rfl (by kernel_rfl) rfl]
  simp [dTable_one ha, dTable_one hb, eqIntS_c _ _ _ _ (ha.1.rd.isI.app _) (hb.1.rd.isI.app _) ha.2]
  refine br_dec _ ?_ ?_ <;> intro h0 <;> simp [h0]
theorem markTable_d {v : Value} {a : List Int} {k : Int} (h : dTable.Ow H v a) (hd : (dTable.ids v).Nodup) (hk : 0 ≤ k ∧ k ≤ 4611686018427387904) (hf : ∀ i ∈ dTable.ids v, frz ≤ i) :
    wp (vcall C frz 40 [dTable.val v a, .int .i64 k] H) (Marks 1073741824 dTable 41 H v a k) := by
  rw [vcall_go (fn := Try.f40) Try.func40 rfl (by kernel_rfl) rfl]
  rw [dTable_val]
  have one := dTable_one h
  simp [one]
  refine wp_thn (markIntS_d (Dt.app h) hd hk hf) ?_
  rintro _ H' ⟨n, a', rfl, hn, _, o, c, he⟩
  simp
  refine ⟨n, a', rfl, hn, rfl, o, (Chg.app _).trans c, fun F H2 h2 => ?_⟩
  rw [vcall_go (fn := Try.f41) Try.func41 rfl (by kernel_rfl) rfl]
  rw [dTable_val]
  have he' := fun F => he F _ (Dt.app (L := [⟨[v], 0, 48⟩]) h2)
  simp only [dIntS_val] at he'
  have e0 : ¬ k + n < 0 := by omega
  simp [one, he', e0]
end Go.Proofs.Ytnakhkfgheapoaa.V
/-! TreeNodes as contracts on data. -/
set_option linter.all false
namespace Go.Proofs.Ytnakhkfgheapoaa.V
open Go Go.VM Go.Proofs
variable {frz : Nat} {H : Heap}
theorem made_d {α : Type} {D : Fl α} {e : TypeId} {n : Nat} {xs : List α} {r : Value} {H' : Heap} (h : Made D e H xs r H') (hl : xs.length ≤ n) : (dFlat D e n).Made H xs r H' := by
  obtain ⟨L, rfl, o, k⟩ := h
  exact ⟨r, rfl, ⟨o, hl⟩, Chg.app _, k, ids_nodup r⟩
theorem treeNodes_len (P : List Int) (a b : Int) : (treeNodes P a b).length ≤ P.length + P.length := by
  have h1 := anc_len P a
  have h2 := anc_len P b
  unfold treeNodes
  split
  · simp
  · simp; omega
theorem treeNodes_d {v : Value} {P : List Int} {a b : Int} (h : dIntS.Ow H v P) (hl : P.length ≤ 268435456) : wp (vcall C frz 17 [v, .int .i64 a, .int .i64 b] H) (dIntS.Made H (treeNodes P a b)) :=
  (treeNodes_w v P a b h.1.rd.isI (by omega)).mono fun _ _ k => made_d k (by have := treeNodes_len P a b; omega)
theorem sTreeNodes_d {v : Value} {P : List Int} {a b : Int} (h : dIntS.Ow H v P) (hl : P.length ≤ 268435456) : wp (vcall C frz 15 [v, .int .i64 a, .int .i64 b] H) (dIntS.Made H (treeNodes P a b)) :=
  (sTreeNodes_w v P a b h.1.rd.isI (by omega)).mono fun _ _ k => made_d k (by have := treeNodes_len P a b; omega)
end Go.Proofs.Ytnakhkfgheapoaa.V
