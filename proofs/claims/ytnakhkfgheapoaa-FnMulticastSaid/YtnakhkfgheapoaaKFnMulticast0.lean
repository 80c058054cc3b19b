/- Texts of a proof, joined. -/
import Derived.Test.YtnakhkfgheapoaaProg
import Derived.KernelRfl
import Derived.Test.YtnakhkfgheapoaaKM0
import Derived.Test.YtnakhkfgheapoaaKM1
/- What the value machine is told of the program: which functions may change rows, and the types' sizes and places. -/
namespace Go.Proofs.Ytnakhkfgheapoaa.V
open Go Go.VM Go.Proofs
noncomputable def C : Ctx := { P := Try.prog, mode := fun g => if [19, 39, 40, 45, 72, 74, 76, 100, 101, 105, 113, 114, 122, 124, 135, 140, 152, 153, 154, 155, 156, 157, 159, 160, 166, 168, 169, 170, 172].contains g then 2 else if [15, 17, 22, 23, 24, 25, 34, 36, 42, 43, 50, 51, 53, 55, 62, 63, 65, 75, 90, 95, 96, 102, 104, 112, 128, 129, 149].contains g then 1 else 0, ext := fun _ => none }
@[simp] theorem CP : C.P = Try.prog := rfl
theorem drawn : DrawOk C := drawOk_holds C (by kernel_rfl)
@[simp] theorem mode0 : C.mode 0 = 0 := rfl
@[simp] theorem mode1 : C.mode 1 = 0 := rfl
@[simp] theorem mode2 : C.mode 2 = 0 := rfl
@[simp] theorem mode3 : C.mode 3 = 0 := rfl
@[simp] theorem mode4 : C.mode 4 = 0 := rfl
@[simp] theorem mode5 : C.mode 5 = 0 := rfl
@[simp] theorem mode6 : C.mode 6 = 0 := rfl
@[simp] theorem mode7 : C.mode 7 = 0 := rfl
@[simp] theorem mode8 : C.mode 8 = 0 := rfl
@[simp] theorem mode9 : C.mode 9 = 0 := rfl
@[simp] theorem mode10 : C.mode 10 = 0 := rfl
@[simp] theorem mode11 : C.mode 11 = 0 := rfl
@[simp] theorem mode12 : C.mode 12 = 0 := rfl
@[simp] theorem mode13 : C.mode 13 = 0 := rfl
@[simp] theorem mode14 : C.mode 14 = 0 := rfl
@[simp] theorem mode15 : C.mode 15 = 1 := rfl
@[simp] theorem mode16 : C.mode 16 = 0 := rfl
@[simp] theorem mode17 : C.mode 17 = 1 := rfl
@[simp] theorem mode18 : C.mode 18 = 0 := rfl
@[simp] theorem mode19 : C.mode 19 = 2 := rfl
@[simp] theorem mode20 : C.mode 20 = 0 := rfl
@[simp] theorem mode21 : C.mode 21 = 0 := rfl
@[simp] theorem mode22 : C.mode 22 = 1 := rfl
@[simp] theorem mode23 : C.mode 23 = 1 := rfl
@[simp] theorem mode24 : C.mode 24 = 1 := rfl
@[simp] theorem mode25 : C.mode 25 = 1 := rfl
@[simp] theorem mode26 : C.mode 26 = 0 := rfl
@[simp] theorem mode27 : C.mode 27 = 0 := rfl
@[simp] theorem mode28 : C.mode 28 = 0 := rfl
@[simp] theorem mode29 : C.mode 29 = 0 := rfl
@[simp] theorem mode30 : C.mode 30 = 0 := rfl
@[simp] theorem mode31 : C.mode 31 = 0 := rfl
@[simp] theorem mode32 : C.mode 32 = 0 := rfl
@[simp] theorem mode33 : C.mode 33 = 0 := rfl
@[simp] theorem mode34 : C.mode 34 = 1 := rfl
@[simp] theorem mode35 : C.mode 35 = 0 := rfl
@[simp] theorem mode36 : C.mode 36 = 1 := rfl
@[simp] theorem mode37 : C.mode 37 = 0 := rfl
@[simp] theorem mode38 : C.mode 38 = 0 := rfl
@[simp] theorem mode39 : C.mode 39 = 2 := rfl
@[simp] theorem mode40 : C.mode 40 = 2 := rfl
@[simp] theorem mode41 : C.mode 41 = 0 := rfl
@[simp] theorem mode42 : C.mode 42 = 1 := rfl
@[simp] theorem mode43 : C.mode 43 = 1 := rfl
@[simp] theorem mode44 : C.mode 44 = 0 := rfl
@[simp] theorem mode45 : C.mode 45 = 2 := rfl
@[simp] theorem mode46 : C.mode 46 = 0 := rfl
@[simp] theorem mode47 : C.mode 47 = 0 := rfl
@[simp] theorem mode48 : C.mode 48 = 0 := rfl
@[simp] theorem mode49 : C.mode 49 = 0 := rfl
@[simp] theorem mode50 : C.mode 50 = 1 := rfl
@[simp] theorem mode51 : C.mode 51 = 1 := rfl
@[simp] theorem mode52 : C.mode 52 = 0 := rfl
@[simp] theorem mode53 : C.mode 53 = 1 := rfl
@[simp] theorem mode54 : C.mode 54 = 0 := rfl
@[simp] theorem mode55 : C.mode 55 = 1 := rfl
@[simp] theorem mode56 : C.mode 56 = 0 := rfl
@[simp] theorem mode57 : C.mode 57 = 0 := rfl
@[simp] theorem mode58 : C.mode 58 = 0 := rfl
@[simp] theorem mode59 : C.mode 59 = 0 := rfl
@[simp] theorem mode60 : C.mode 60 = 0 := rfl
@[simp] theorem mode61 : C.mode 61 = 0 := rfl
@[simp] theorem mode62 : C.mode 62 = 1 := rfl
@[simp] theorem mode63 : C.mode 63 = 1 := rfl
@[simp] theorem mode64 : C.mode 64 = 0 := rfl
@[simp] theorem mode65 : C.mode 65 = 1 := rfl
@[simp] theorem mode66 : C.mode 66 = 0 := rfl
@[simp] theorem mode67 : C.mode 67 = 0 := rfl
@[simp] theorem mode68 : C.mode 68 = 0 := rfl
@[simp] theorem mode69 : C.mode 69 = 0 := rfl
@[simp] theorem mode70 : C.mode 70 = 0 := rfl
@[simp] theorem mode71 : C.mode 71 = 0 := rfl
@[simp] theorem mode72 : C.mode 72 = 2 := rfl
@[simp] theorem mode73 : C.mode 73 = 0 := rfl
@[simp] theorem mode74 : C.mode 74 = 2 := rfl
@[simp] theorem mode75 : C.mode 75 = 1 := rfl
@[simp] theorem mode76 : C.mode 76 = 2 := rfl
@[simp] theorem mode77 : C.mode 77 = 0 := rfl
@[simp] theorem mode78 : C.mode 78 = 0 := rfl
@[simp] theorem mode79 : C.mode 79 = 0 := rfl
@[simp] theorem mode80 : C.mode 80 = 0 := rfl
@[simp] theorem mode81 : C.mode 81 = 0 := rfl
@[simp] theorem mode82 : C.mode 82 = 0 := rfl
@[simp] theorem mode83 : C.mode 83 = 0 := rfl
@[simp] theorem mode84 : C.mode 84 = 0 := rfl
@[simp] theorem mode85 : C.mode 85 = 0 := rfl
@[simp] theorem mode86 : C.mode 86 = 0 := rfl
@[simp] theorem mode87 : C.mode 87 = 0 := rfl
@[simp] theorem mode88 : C.mode 88 = 0 := rfl
@[simp] theorem mode89 : C.mode 89 = 0 := rfl
@[simp] theorem mode90 : C.mode 90 = 1 := rfl
@[simp] theorem mode91 : C.mode 91 = 0 := rfl
@[simp] theorem mode92 : C.mode 92 = 0 := rfl
@[simp] theorem mode93 : C.mode 93 = 0 := rfl
@[simp] theorem mode94 : C.mode 94 = 0 := rfl
@[simp] theorem mode95 : C.mode 95 = 1 := rfl
@[simp] theorem mode96 : C.mode 96 = 1 := rfl
@[simp] theorem mode97 : C.mode 97 = 0 := rfl
@[simp] theorem mode98 : C.mode 98 = 0 := rfl
@[simp] theorem mode99 : C.mode 99 = 0 := rfl
@[simp] theorem mode100 : C.mode 100 = 2 := rfl
@[simp] theorem mode101 : C.mode 101 = 2 := rfl
@[simp] theorem mode102 : C.mode 102 = 1 := rfl
@[simp] theorem mode103 : C.mode 103 = 0 := rfl
@[simp] theorem mode104 : C.mode 104 = 1 := rfl
@[simp] theorem mode105 : C.mode 105 = 2 := rfl
@[simp] theorem mode106 : C.mode 106 = 0 := rfl
@[simp] theorem mode107 : C.mode 107 = 0 := rfl
@[simp] theorem mode108 : C.mode 108 = 0 := rfl
@[simp] theorem mode109 : C.mode 109 = 0 := rfl
@[simp] theorem mode110 : C.mode 110 = 0 := rfl
@[simp] theorem mode111 : C.mode 111 = 0 := rfl
@[simp] theorem mode112 : C.mode 112 = 1 := rfl
@[simp] theorem mode113 : C.mode 113 = 2 := rfl
@[simp] theorem mode114 : C.mode 114 = 2 := rfl
@[simp] theorem mode115 : C.mode 115 = 0 := rfl
@[simp] theorem mode116 : C.mode 116 = 0 := rfl
@[simp] theorem mode117 : C.mode 117 = 0 := rfl
@[simp] theorem mode118 : C.mode 118 = 0 := rfl
@[simp] theorem mode119 : C.mode 119 = 0 := rfl
@[simp] theorem mode120 : C.mode 120 = 0 := rfl
@[simp] theorem mode121 : C.mode 121 = 0 := rfl
@[simp] theorem mode122 : C.mode 122 = 2 := rfl
@[simp] theorem mode123 : C.mode 123 = 0 := rfl
@[simp] theorem mode124 : C.mode 124 = 2 := rfl
@[simp] theorem mode125 : C.mode 125 = 0 := rfl
@[simp] theorem mode126 : C.mode 126 = 0 := rfl
@[simp] theorem mode127 : C.mode 127 = 0 := rfl
@[simp] theorem mode128 : C.mode 128 = 1 := rfl
@[simp] theorem mode129 : C.mode 129 = 1 := rfl
@[simp] theorem mode130 : C.mode 130 = 0 := rfl
@[simp] theorem mode131 : C.mode 131 = 0 := rfl
@[simp] theorem mode132 : C.mode 132 = 0 := rfl
@[simp] theorem mode133 : C.mode 133 = 0 := rfl
@[simp] theorem mode134 : C.mode 134 = 0 := rfl
@[simp] theorem mode135 : C.mode 135 = 2 := rfl
@[simp] theorem mode136 : C.mode 136 = 0 := rfl
@[simp] theorem mode137 : C.mode 137 = 0 := rfl
@[simp] theorem mode138 : C.mode 138 = 0 := rfl
@[simp] theorem mode139 : C.mode 139 = 0 := rfl
@[simp] theorem mode140 : C.mode 140 = 2 := rfl
@[simp] theorem mode141 : C.mode 141 = 0 := rfl
@[simp] theorem mode142 : C.mode 142 = 0 := rfl
@[simp] theorem mode143 : C.mode 143 = 0 := rfl
@[simp] theorem mode144 : C.mode 144 = 0 := rfl
@[simp] theorem mode145 : C.mode 145 = 0 := rfl
@[simp] theorem mode146 : C.mode 146 = 0 := rfl
@[simp] theorem mode147 : C.mode 147 = 0 := rfl
@[simp] theorem mode148 : C.mode 148 = 0 := rfl
@[simp] theorem mode149 : C.mode 149 = 1 := rfl
@[simp] theorem mode150 : C.mode 150 = 0 := rfl
@[simp] theorem mode151 : C.mode 151 = 0 := rfl
@[simp] theorem mode152 : C.mode 152 = 2 := rfl
@[simp] theorem mode153 : C.mode 153 = 2 := rfl
@[simp] theorem mode154 : C.mode 154 = 2 := rfl
@[simp] theorem mode155 : C.mode 155 = 2 := rfl
@[simp] theorem mode156 : C.mode 156 = 2 := rfl
@[simp] theorem mode157 : C.mode 157 = 2 := rfl
@[simp] theorem mode158 : C.mode 158 = 0 := rfl
@[simp] theorem mode159 : C.mode 159 = 2 := rfl
@[simp] theorem mode160 : C.mode 160 = 2 := rfl
@[simp] theorem mode161 : C.mode 161 = 0 := rfl
@[simp] theorem mode162 : C.mode 162 = 0 := rfl
@[simp] theorem mode163 : C.mode 163 = 0 := rfl
@[simp] theorem mode164 : C.mode 164 = 0 := rfl
@[simp] theorem mode165 : C.mode 165 = 0 := rfl
@[simp] theorem mode166 : C.mode 166 = 2 := rfl
@[simp] theorem mode167 : C.mode 167 = 0 := rfl
@[simp] theorem mode168 : C.mode 168 = 2 := rfl
@[simp] theorem mode169 : C.mode 169 = 2 := rfl
@[simp] theorem mode170 : C.mode 170 = 2 := rfl
@[simp] theorem mode171 : C.mode 171 = 0 := rfl
@[simp] theorem mode172 : C.mode 172 = 2 := rfl
@[simp] theorem mode173 : C.mode 173 = 0 := rfl
@[simp] theorem mode174 : C.mode 174 = 0 := rfl
@[simp] theorem mode175 : C.mode 175 = 0 := rfl
@[simp] theorem mode176 : C.mode 176 = 0 := rfl
@[simp] theorem mode177 : C.mode 177 = 0 := rfl
@[simp] theorem mode178 : C.mode 178 = 0 := rfl
@[simp] theorem mode179 : C.mode 179 = 0 := rfl
@[simp] theorem mode180 : C.mode 180 = 0 := rfl
@[simp] theorem mode181 : C.mode 181 = 0 := rfl
@[simp] theorem mode182 : C.mode 182 = 0 := rfl
@[simp] theorem mode183 : C.mode 183 = 0 := rfl
@[simp] theorem mode184 : C.mode 184 = 0 := rfl
@[simp] theorem mode185 : C.mode 185 = 0 := rfl
@[simp] theorem mode186 : C.mode 186 = 0 := rfl
@[simp] theorem mode187 : C.mode 187 = 0 := rfl
@[simp] theorem mode188 : C.mode 188 = 0 := rfl
@[simp] theorem tsz2 : tsz Try.prog 2 = some (false, 1) := by kernel_rfl
@[simp] theorem tzero2 : tzero Try.prog 2 = some [.int .i64 0] := by kernel_rfl
@[simp] theorem und2 : Try.prog.underlying 2 = some (.int .i64) := by kernel_rfl
@[simp] theorem tsz3 : tsz Try.prog 3 = some (false, 1) := by kernel_rfl
@[simp] theorem tzero3 : tzero Try.prog 3 = some [.int .i64 0] := by kernel_rfl
@[simp] theorem und3 : Try.prog.underlying 3 = some (.int .i64) := by kernel_rfl
@[simp] theorem tsz4 : tsz Try.prog 4 = some (false, 1) := by kernel_rfl
@[simp] theorem tzero4 : tzero Try.prog 4 = some [.bool false] := by kernel_rfl
@[simp] theorem und4 : Try.prog.underlying 4 = some .bool := by kernel_rfl
@[simp] theorem tsz5 : tsz Try.prog 5 = some (false, 1) := by kernel_rfl
@[simp] theorem tzero5 : tzero Try.prog 5 = some [.int .u8 0] := by kernel_rfl
@[simp] theorem und5 : Try.prog.underlying 5 = some (.int .u8) := by kernel_rfl
@[simp] theorem tsz6 : tsz Try.prog 6 = some (false, 1) := by kernel_rfl
@[simp] theorem tzero6 : tzero Try.prog 6 = some [.int .u8 0] := by kernel_rfl
@[simp] theorem und6 : Try.prog.underlying 6 = some (.int .u8) := by kernel_rfl
@[simp] theorem tsz7 : tsz Try.prog 7 = some (true, 4) := by kernel_rfl
@[simp] theorem tzero7 : tzero Try.prog 7 = some [.int .i64 0, .int .i64 0, .bool false, .int .u8 0] := by kernel_rfl
@[simp] theorem finfo7_0 : finfo Try.prog 7 0 = some (0, false, 1) := by kernel_rfl
@[simp] theorem finfo7_1 : finfo Try.prog 7 1 = some (1, false, 1) := by kernel_rfl
@[simp] theorem finfo7_2 : finfo Try.prog 7 2 = some (2, false, 1) := by kernel_rfl
@[simp] theorem finfo7_3 : finfo Try.prog 7 3 = some (3, false, 1) := by kernel_rfl
@[simp] theorem bplaces7 : bplaces Try.prog 7 = some [(0, 1), (1, 1), (2, 1), (3, 1)] := by kernel_rfl
@[simp] theorem tsz8 : tsz Try.prog 8 = some (true, 4) := by kernel_rfl
@[simp] theorem tzero8 : tzero Try.prog 8 = some [.int .i64 0, .int .i64 0, .bool false, .int .u8 0] := by kernel_rfl
@[simp] theorem finfo8_0 : finfo Try.prog 8 0 = some (0, false, 1) := by kernel_rfl
@[simp] theorem finfo8_1 : finfo Try.prog 8 1 = some (1, false, 1) := by kernel_rfl
@[simp] theorem finfo8_2 : finfo Try.prog 8 2 = some (2, false, 1) := by kernel_rfl
@[simp] theorem finfo8_3 : finfo Try.prog 8 3 = some (3, false, 1) := by kernel_rfl
@[simp] theorem bplaces8 : bplaces Try.prog 8 = some [(0, 1), (1, 1), (2, 1), (3, 1)] := by kernel_rfl
@[simp] theorem tsz9 : tsz Try.prog 9 = some (false, 1) := by kernel_rfl
@[simp] theorem tzero9 : tzero Try.prog 9 = some [.string .empty] := by kernel_rfl
@[simp] theorem isStr9 : isStr Try.prog 9 = true := by kernel_rfl
@[simp] theorem und9 : Try.prog.underlying 9 = some .string := by kernel_rfl
@[simp] theorem tsz10 : tsz Try.prog 10 = some (false, 1) := by kernel_rfl
@[simp] theorem tzero10 : tzero Try.prog 10 = some [.string .empty] := by kernel_rfl
@[simp] theorem isStr10 : isStr Try.prog 10 = true := by kernel_rfl
@[simp] theorem und10 : Try.prog.underlying 10 = some .string := by kernel_rfl
@[simp] theorem tsz11 : tsz Try.prog 11 = some (false, 1) := by kernel_rfl
@[simp] theorem tzero11 : tzero Try.prog 11 = some [.string .empty] := by kernel_rfl
@[simp] theorem isStr11 : isStr Try.prog 11 = true := by kernel_rfl
@[simp] theorem und11 : Try.prog.underlying 11 = some .string := by kernel_rfl
@[simp] theorem tsz12 : tsz Try.prog 12 = some (false, 1) := by kernel_rfl
@[simp] theorem tzero12 : tzero Try.prog 12 = some [.int .u64 0] := by kernel_rfl
@[simp] theorem und12 : Try.prog.underlying 12 = some (.int .u64) := by kernel_rfl
@[simp] theorem tsz13 : tsz Try.prog 13 = some (true, 2) := by kernel_rfl
@[simp] theorem tzero13 : tzero Try.prog 13 = some [.string .empty, .int .u64 0] := by kernel_rfl
@[simp] theorem finfo13_0 : finfo Try.prog 13 0 = some (0, false, 1) := by kernel_rfl
@[simp] theorem finfo13_1 : finfo Try.prog 13 1 = some (1, false, 1) := by kernel_rfl
@[simp] theorem bplaces13 : bplaces Try.prog 13 = some [(0, 1), (1, 1)] := by kernel_rfl
@[simp] theorem tsz14 : tsz Try.prog 14 = some (true, 2) := by kernel_rfl
@[simp] theorem tzero14 : tzero Try.prog 14 = some [.string .empty, .int .u64 0] := by kernel_rfl
@[simp] theorem finfo14_0 : finfo Try.prog 14 0 = some (0, false, 1) := by kernel_rfl
@[simp] theorem finfo14_1 : finfo Try.prog 14 1 = some (1, false, 1) := by kernel_rfl
@[simp] theorem bplaces14 : bplaces Try.prog 14 = some [(0, 1), (1, 1)] := by kernel_rfl
@[simp] theorem tsz15 : tsz Try.prog 15 = some (false, 1) := by kernel_rfl
@[simp] theorem tzero15 : tzero Try.prog 15 = some [.pointer none] := by kernel_rfl
@[simp] theorem tsz16 : tsz Try.prog 16 = some (false, 1) := by kernel_rfl
@[simp] theorem tzero16 : tzero Try.prog 16 = some [.pointer none] := by kernel_rfl
@[simp] theorem tsz17 : tsz Try.prog 17 = some (false, 1) := by kernel_rfl
@[simp] theorem tzero17 : tzero Try.prog 17 = some [.pointer none] := by kernel_rfl
@[simp] theorem tsz18 : tsz Try.prog 18 = some (true, 1) := by kernel_rfl
@[simp] theorem tzero18 : tzero Try.prog 18 = some [.pointer none] := by kernel_rfl
@[simp] theorem finfo18_0 : finfo Try.prog 18 0 = some (0, false, 1) := by kernel_rfl
@[simp] theorem bplaces18 : bplaces Try.prog 18 = some [(0, 1)] := by kernel_rfl
@[simp] theorem tsz19 : tsz Try.prog 19 = some (true, 1) := by kernel_rfl
@[simp] theorem tzero19 : tzero Try.prog 19 = some [.pointer none] := by kernel_rfl
@[simp] theorem finfo19_0 : finfo Try.prog 19 0 = some (0, false, 1) := by kernel_rfl
@[simp] theorem bplaces19 : bplaces Try.prog 19 = some [(0, 1)] := by kernel_rfl
@[simp] theorem tsz21 : tsz Try.prog 21 = some (false, 1) := by kernel_rfl
@[simp] theorem tzero21 : tzero Try.prog 21 = some [.int .i32 0] := by kernel_rfl
@[simp] theorem und21 : Try.prog.underlying 21 = some (.int .i32) := by kernel_rfl
@[simp] theorem tsz22 : tsz Try.prog 22 = some (false, 1) := by kernel_rfl
@[simp] theorem tzero22 : tzero Try.prog 22 = some [.slice none 0 0] := by kernel_rfl
@[simp] theorem eltp22 : eltp Try.prog 22 = some (3, 1) := by kernel_rfl
@[simp] theorem isSl22 : isSl Try.prog 22 = true := by kernel_rfl
@[simp] theorem tsz28 : tsz Try.prog 28 = some (false, 1) := by kernel_rfl
@[simp] theorem tzero28 : tzero Try.prog 28 = some [.slice none 0 0] := by kernel_rfl
@[simp] theorem eltp28 : eltp Try.prog 28 = some (5, 1) := by kernel_rfl
@[simp] theorem isSl28 : isSl Try.prog 28 = true := by kernel_rfl
@[simp] theorem tsz30 : tsz Try.prog 30 = some (true, 2) := by kernel_rfl
@[simp] theorem tzero30 : tzero Try.prog 30 = some [.int .i64 0, .int .i64 0] := by kernel_rfl
@[simp] theorem finfo30_0 : finfo Try.prog 30 0 = some (0, false, 1) := by kernel_rfl
@[simp] theorem finfo30_1 : finfo Try.prog 30 1 = some (1, false, 1) := by kernel_rfl
@[simp] theorem bplaces30 : bplaces Try.prog 30 = some [(0, 1), (1, 1)] := by kernel_rfl
@[simp] theorem tsz31 : tsz Try.prog 31 = some (true, 2) := by kernel_rfl
@[simp] theorem tzero31 : tzero Try.prog 31 = some [.int .i64 0, .int .i64 0] := by kernel_rfl
@[simp] theorem finfo31_0 : finfo Try.prog 31 0 = some (0, false, 1) := by kernel_rfl
@[simp] theorem finfo31_1 : finfo Try.prog 31 1 = some (1, false, 1) := by kernel_rfl
@[simp] theorem bplaces31 : bplaces Try.prog 31 = some [(0, 1), (1, 1)] := by kernel_rfl
@[simp] theorem tsz32 : tsz Try.prog 32 = some (true, 3) := by kernel_rfl
@[simp] theorem tzero32 : tzero Try.prog 32 = some [.int .i64 0, .int .i64 0, .slice none 0 0] := by kernel_rfl
@[simp] theorem finfo32_0 : finfo Try.prog 32 0 = some (0, true, 2) := by kernel_rfl
@[simp] theorem finfo32_1 : finfo Try.prog 32 1 = some (2, false, 1) := by kernel_rfl
@[simp] theorem bplaces32 : bplaces Try.prog 32 = some [(0, 2), (2, 1)] := by kernel_rfl
@[simp] theorem tsz33 : tsz Try.prog 33 = some (true, 3) := by kernel_rfl
@[simp] theorem tzero33 : tzero Try.prog 33 = some [.int .i64 0, .int .i64 0, .slice none 0 0] := by kernel_rfl
@[simp] theorem finfo33_0 : finfo Try.prog 33 0 = some (0, true, 2) := by kernel_rfl
@[simp] theorem finfo33_1 : finfo Try.prog 33 1 = some (2, false, 1) := by kernel_rfl
@[simp] theorem bplaces33 : bplaces Try.prog 33 = some [(0, 2), (2, 1)] := by kernel_rfl
@[simp] theorem tsz43 : tsz Try.prog 43 = some (true, 2) := by kernel_rfl
@[simp] theorem tzero43 : tzero Try.prog 43 = some [.int .i64 0, .int .i64 0] := by kernel_rfl
@[simp] theorem finfo43_0 : finfo Try.prog 43 0 = some (0, false, 1) := by kernel_rfl
@[simp] theorem finfo43_1 : finfo Try.prog 43 1 = some (1, false, 1) := by kernel_rfl
@[simp] theorem bplaces43 : bplaces Try.prog 43 = some [(0, 1), (1, 1)] := by kernel_rfl
@[simp] theorem tsz44 : tsz Try.prog 44 = some (true, 3) := by kernel_rfl
@[simp] theorem tzero44 : tzero Try.prog 44 = some [.int .i64 0, .int .i64 0, .slice none 0 0] := by kernel_rfl
@[simp] theorem finfo44_0 : finfo Try.prog 44 0 = some (0, true, 2) := by kernel_rfl
@[simp] theorem finfo44_1 : finfo Try.prog 44 1 = some (2, false, 1) := by kernel_rfl
@[simp] theorem bplaces44 : bplaces Try.prog 44 = some [(0, 2), (2, 1)] := by kernel_rfl
@[simp] theorem tsz45 : tsz Try.prog 45 = some (true, 3) := by kernel_rfl
@[simp] theorem tzero45 : tzero Try.prog 45 = some [.int .i64 0, .int .i64 0, .slice none 0 0] := by kernel_rfl
@[simp] theorem finfo45_0 : finfo Try.prog 45 0 = some (0, true, 2) := by kernel_rfl
@[simp] theorem finfo45_1 : finfo Try.prog 45 1 = some (2, false, 1) := by kernel_rfl
@[simp] theorem bplaces45 : bplaces Try.prog 45 = some [(0, 2), (2, 1)] := by kernel_rfl
@[simp] theorem tsz47 : tsz Try.prog 47 = some (true, 1) := by kernel_rfl
@[simp] theorem tzero47 : tzero Try.prog 47 = some [.slice none 0 0] := by kernel_rfl
@[simp] theorem finfo47_0 : finfo Try.prog 47 0 = some (0, false, 1) := by kernel_rfl
@[simp] theorem bplaces47 : bplaces Try.prog 47 = some [(0, 1)] := by kernel_rfl
@[simp] theorem tsz48 : tsz Try.prog 48 = some (true, 1) := by kernel_rfl
@[simp] theorem tzero48 : tzero Try.prog 48 = some [.slice none 0 0] := by kernel_rfl
@[simp] theorem finfo48_0 : finfo Try.prog 48 0 = some (0, false, 1) := by kernel_rfl
@[simp] theorem bplaces48 : bplaces Try.prog 48 = some [(0, 1)] := by kernel_rfl
@[simp] theorem tsz56 : tsz Try.prog 56 = some (true, 2) := by kernel_rfl
@[simp] theorem tzero56 : tzero Try.prog 56 = some [.slice none 0 0, .slice none 0 0] := by kernel_rfl
@[simp] theorem finfo56_0 : finfo Try.prog 56 0 = some (0, true, 1) := by kernel_rfl
@[simp] theorem finfo56_1 : finfo Try.prog 56 1 = some (1, true, 1) := by kernel_rfl
@[simp] theorem bplaces56 : bplaces Try.prog 56 = some [(0, 1), (1, 1)] := by kernel_rfl
@[simp] theorem tsz57 : tsz Try.prog 57 = some (true, 2) := by kernel_rfl
@[simp] theorem tzero57 : tzero Try.prog 57 = some [.slice none 0 0, .slice none 0 0] := by kernel_rfl
@[simp] theorem finfo57_0 : finfo Try.prog 57 0 = some (0, true, 1) := by kernel_rfl
@[simp] theorem finfo57_1 : finfo Try.prog 57 1 = some (1, true, 1) := by kernel_rfl
@[simp] theorem bplaces57 : bplaces Try.prog 57 = some [(0, 1), (1, 1)] := by kernel_rfl
@[simp] theorem tsz68 : tsz Try.prog 68 = some (true, 1) := by kernel_rfl
@[simp] theorem tzero68 : tzero Try.prog 68 = some [.slice none 0 0] := by kernel_rfl
@[simp] theorem finfo68_0 : finfo Try.prog 68 0 = some (0, false, 1) := by kernel_rfl
@[simp] theorem bplaces68 : bplaces Try.prog 68 = some [(0, 1)] := by kernel_rfl
@[simp] theorem tsz81 : tsz Try.prog 81 = some (false, 1) := by kernel_rfl
@[simp] theorem tzero81 : tzero Try.prog 81 = some [.pointer none] := by kernel_rfl
@[simp] theorem tsz98 : tsz Try.prog 98 = some (false, 1) := by kernel_rfl
@[simp] theorem tzero98 : tzero Try.prog 98 = some [.slice none 0 0] := by kernel_rfl
@[simp] theorem eltp98 : eltp Try.prog 98 = some (4, 1) := by kernel_rfl
@[simp] theorem isSl98 : isSl Try.prog 98 = true := by kernel_rfl
@[simp] theorem tsz105 : tsz Try.prog 105 = some (false, 1) := by kernel_rfl
@[simp] theorem tzero105 : tzero Try.prog 105 = some [.slice none 0 0] := by kernel_rfl
@[simp] theorem eltp105 : eltp Try.prog 105 = some (22, 1) := by kernel_rfl
@[simp] theorem isSl105 : isSl Try.prog 105 = true := by kernel_rfl
@[simp] theorem tsz107 : tsz Try.prog 107 = some (true, 3) := by kernel_rfl
@[simp] theorem tzero107 : tzero Try.prog 107 = some [.slice none 0 0, .int .i64 0, .int .i64 0] := by kernel_rfl
@[simp] theorem finfo107_0 : finfo Try.prog 107 0 = some (0, false, 1) := by kernel_rfl
@[simp] theorem finfo107_1 : finfo Try.prog 107 1 = some (1, false, 1) := by kernel_rfl
@[simp] theorem finfo107_2 : finfo Try.prog 107 2 = some (2, false, 1) := by kernel_rfl
@[simp] theorem bplaces107 : bplaces Try.prog 107 = some [(0, 1), (1, 1), (2, 1)] := by kernel_rfl
@[simp] theorem tsz108 : tsz Try.prog 108 = some (true, 3) := by kernel_rfl
@[simp] theorem tzero108 : tzero Try.prog 108 = some [.slice none 0 0, .int .i64 0, .int .i64 0] := by kernel_rfl
@[simp] theorem finfo108_0 : finfo Try.prog 108 0 = some (0, false, 1) := by kernel_rfl
@[simp] theorem finfo108_1 : finfo Try.prog 108 1 = some (1, false, 1) := by kernel_rfl
@[simp] theorem finfo108_2 : finfo Try.prog 108 2 = some (2, false, 1) := by kernel_rfl
@[simp] theorem bplaces108 : bplaces Try.prog 108 = some [(0, 1), (1, 1), (2, 1)] := by kernel_rfl
@[simp] theorem tsz110 : tsz Try.prog 110 = some (false, 1) := by kernel_rfl
@[simp] theorem tzero110 : tzero Try.prog 110 = some [.int .u64 0] := by kernel_rfl
@[simp] theorem und110 : Try.prog.underlying 110 = some (.int .u64) := by kernel_rfl
@[simp] theorem tsz119 : tsz Try.prog 119 = some (false, 1) := by kernel_rfl
@[simp] theorem tzero119 : tzero Try.prog 119 = some [.int .u32 0] := by kernel_rfl
@[simp] theorem und119 : Try.prog.underlying 119 = some (.int .u32) := by kernel_rfl
@[simp] theorem tsz122 : tsz Try.prog 122 = some (false, 1) := by kernel_rfl
@[simp] theorem tzero122 : tzero Try.prog 122 = some [.int .u64 0] := by kernel_rfl
@[simp] theorem und122 : Try.prog.underlying 122 = some (.int .u64) := by kernel_rfl
@[simp] theorem tsz126 : tsz Try.prog 126 = some (false, 1) := by kernel_rfl
@[simp] theorem tzero126 : tzero Try.prog 126 = some [.int .i64 0] := by kernel_rfl
@[simp] theorem und126 : Try.prog.underlying 126 = some (.int .i64) := by kernel_rfl
@[simp] theorem tsz134 : tsz Try.prog 134 = some (false, 1) := by kernel_rfl
@[simp] theorem tzero134 : tzero Try.prog 134 = some [.int .u64 0] := by kernel_rfl
@[simp] theorem und134 : Try.prog.underlying 134 = some (.int .u64) := by kernel_rfl
@[simp] theorem tsz138 : tsz Try.prog 138 = some (false, 1) := by kernel_rfl
@[simp] theorem tzero138 : tzero Try.prog 138 = some [.pointer none] := by kernel_rfl
@[simp] theorem tsz140 : tsz Try.prog 140 = some (false, 1) := by kernel_rfl
@[simp] theorem tzero140 : tzero Try.prog 140 = some [.pointer none] := by kernel_rfl
@[simp] theorem tsz144 : tsz Try.prog 144 = some (true, 4) := by kernel_rfl
@[simp] theorem tzero144 : tzero Try.prog 144 = some [.pointer none, .pointer none, .pointer none, .string .empty] := by kernel_rfl
@[simp] theorem finfo144_0 : finfo Try.prog 144 0 = some (0, false, 1) := by kernel_rfl
@[simp] theorem finfo144_1 : finfo Try.prog 144 1 = some (1, false, 1) := by kernel_rfl
@[simp] theorem finfo144_2 : finfo Try.prog 144 2 = some (2, false, 1) := by kernel_rfl
@[simp] theorem finfo144_3 : finfo Try.prog 144 3 = some (3, false, 1) := by kernel_rfl
@[simp] theorem bplaces144 : bplaces Try.prog 144 = some [(0, 1), (1, 1), (2, 1), (3, 1)] := by kernel_rfl
@[simp] theorem tsz145 : tsz Try.prog 145 = some (true, 4) := by kernel_rfl
@[simp] theorem tzero145 : tzero Try.prog 145 = some [.pointer none, .pointer none, .pointer none, .string .empty] := by kernel_rfl
@[simp] theorem finfo145_0 : finfo Try.prog 145 0 = some (0, false, 1) := by kernel_rfl
@[simp] theorem finfo145_1 : finfo Try.prog 145 1 = some (1, false, 1) := by kernel_rfl
@[simp] theorem finfo145_2 : finfo Try.prog 145 2 = some (2, false, 1) := by kernel_rfl
@[simp] theorem finfo145_3 : finfo Try.prog 145 3 = some (3, false, 1) := by kernel_rfl
@[simp] theorem bplaces145 : bplaces Try.prog 145 = some [(0, 1), (1, 1), (2, 1), (3, 1)] := by kernel_rfl
@[simp] theorem tsz146 : tsz Try.prog 146 = some (true, 0) := by kernel_rfl
@[simp] theorem tzero146 : tzero Try.prog 146 = some [] := by kernel_rfl
@[simp] theorem tsz147 : tsz Try.prog 147 = some (true, 0) := by kernel_rfl
@[simp] theorem tzero147 : tzero Try.prog 147 = some [] := by kernel_rfl
@[simp] theorem bplaces147 : bplaces Try.prog 147 = some [(0, 0)] := by kernel_rfl
@[simp] theorem tsz148 : tsz Try.prog 148 = some (true, 0) := by kernel_rfl
@[simp] theorem tzero148 : tzero Try.prog 148 = some [] := by kernel_rfl
@[simp] theorem bplaces148 : bplaces Try.prog 148 = some [(0, 0)] := by kernel_rfl
@[simp] theorem tsz150 : tsz Try.prog 150 = some (false, 1) := by kernel_rfl
@[simp] theorem tzero150 : tzero Try.prog 150 = some [.int .u8 0] := by kernel_rfl
@[simp] theorem und150 : Try.prog.underlying 150 = some (.int .u8) := by kernel_rfl
@[simp] theorem tsz151 : tsz Try.prog 151 = some (false, 1) := by kernel_rfl
@[simp] theorem tzero151 : tzero Try.prog 151 = some [.int .u8 0] := by kernel_rfl
@[simp] theorem und151 : Try.prog.underlying 151 = some (.int .u8) := by kernel_rfl
@[simp] theorem tsz153 : tsz Try.prog 153 = some (false, 1) := by kernel_rfl
@[simp] theorem tzero153 : tzero Try.prog 153 = some [.pointer none] := by kernel_rfl
@[simp] theorem tsz154 : tsz Try.prog 154 = some (false, 1) := by kernel_rfl
@[simp] theorem tzero154 : tzero Try.prog 154 = some [.int .i32 0] := by kernel_rfl
@[simp] theorem und154 : Try.prog.underlying 154 = some (.int .i32) := by kernel_rfl
@[simp] theorem tsz155 : tsz Try.prog 155 = some (false, 1) := by kernel_rfl
@[simp] theorem tzero155 : tzero Try.prog 155 = some [.int .i32 0] := by kernel_rfl
@[simp] theorem und155 : Try.prog.underlying 155 = some (.int .i32) := by kernel_rfl
@[simp] theorem tsz156 : tsz Try.prog 156 = some (true, 11) := by kernel_rfl
@[simp] theorem tzero156 : tzero Try.prog 156 = some [.int .u64 0, .int .u64 0, .int .u32 0, .int .u8 0, .int .u8 0, .int .u8 0, .int .u8 0, .nilFunc, .pointer none, .int .i32 0, .int .i32 0] := by kernel_rfl
@[simp] theorem finfo156_0 : finfo Try.prog 156 0 = some (0, false, 1) := by kernel_rfl
@[simp] theorem finfo156_1 : finfo Try.prog 156 1 = some (1, false, 1) := by kernel_rfl
@[simp] theorem finfo156_2 : finfo Try.prog 156 2 = some (2, false, 1) := by kernel_rfl
@[simp] theorem finfo156_3 : finfo Try.prog 156 3 = some (3, false, 1) := by kernel_rfl
@[simp] theorem finfo156_4 : finfo Try.prog 156 4 = some (4, false, 1) := by kernel_rfl
@[simp] theorem finfo156_5 : finfo Try.prog 156 5 = some (5, false, 1) := by kernel_rfl
@[simp] theorem finfo156_6 : finfo Try.prog 156 6 = some (6, false, 1) := by kernel_rfl
@[simp] theorem finfo156_8 : finfo Try.prog 156 8 = some (8, false, 1) := by kernel_rfl
@[simp] theorem finfo156_9 : finfo Try.prog 156 9 = some (9, false, 1) := by kernel_rfl
@[simp] theorem finfo156_10 : finfo Try.prog 156 10 = some (10, false, 1) := by kernel_rfl
@[simp] theorem tsz157 : tsz Try.prog 157 = some (true, 11) := by kernel_rfl
@[simp] theorem tzero157 : tzero Try.prog 157 = some [.int .u64 0, .int .u64 0, .int .u32 0, .int .u8 0, .int .u8 0, .int .u8 0, .int .u8 0, .nilFunc, .pointer none, .int .i32 0, .int .i32 0] := by kernel_rfl
@[simp] theorem finfo157_0 : finfo Try.prog 157 0 = some (0, false, 1) := by kernel_rfl
@[simp] theorem finfo157_1 : finfo Try.prog 157 1 = some (1, false, 1) := by kernel_rfl
@[simp] theorem finfo157_2 : finfo Try.prog 157 2 = some (2, false, 1) := by kernel_rfl
@[simp] theorem finfo157_3 : finfo Try.prog 157 3 = some (3, false, 1) := by kernel_rfl
@[simp] theorem finfo157_4 : finfo Try.prog 157 4 = some (4, false, 1) := by kernel_rfl
@[simp] theorem finfo157_5 : finfo Try.prog 157 5 = some (5, false, 1) := by kernel_rfl
@[simp] theorem finfo157_6 : finfo Try.prog 157 6 = some (6, false, 1) := by kernel_rfl
@[simp] theorem finfo157_8 : finfo Try.prog 157 8 = some (8, false, 1) := by kernel_rfl
@[simp] theorem finfo157_9 : finfo Try.prog 157 9 = some (9, false, 1) := by kernel_rfl
@[simp] theorem finfo157_10 : finfo Try.prog 157 10 = some (10, false, 1) := by kernel_rfl
end Go.Proofs.Ytnakhkfgheapoaa.V
/-! The plain side: grids, meshes. -/
set_option linter.all false
namespace Go.Proofs.Ytnakhkfgheapoaa.V
open Go Go.VM
def rd (b : List Int) (j : Int) : Int := b.getD j.toNat 0
/-- a range, told as one word -/
def inR (lo n hi : Int) : Prop := lo ≤ n ∧ n ≤ hi
instance (lo n hi : Int) : Decidable (inR lo n hi) := inferInstanceAs (Decidable (_ ∧ _))
def okG (w h : Int) : Prop := (1 ≤ w ∧ w ≤ 4) ∧ 1 ≤ h ∧ h ≤ 4
instance (w h : Int) : Decidable (okG w h) := inferInstanceAs (Decidable (_ ∧ _))
def cnt (w h : Int) : Int := if okG w h then w * h else 0
def isN (w h n : Int) : Prop := 0 ≤ n ∧ n < cnt w h
instance (w h n : Int) : Decidable (isN w h n) := inferInstanceAs (Decidable (_ ∧ _))
def nodeAt (w h x y : Int) : Int := if okG w h ∧ (0 ≤ x ∧ x < w) ∧ 0 ≤ y ∧ y < h then y * w + x else -1
def next (w h n p : Int) : Int :=
  if isN w h n then
    (if p = 0 then nodeAt w h (n % w) (n / w - 1) else if p = 1 then nodeAt w h (n % w + 1) (n / w) else if p = 2 then nodeAt w h (n % w) (n / w + 1)
     else if p = 3 then nodeAt w h (n % w - 1) (n / w) else if p = 4 then n else -1)
  else -1
def leads (w h c : Int) : Prop := (0 ≤ c ∧ c < 4 * cnt w h) ∧ 0 ≤ next w h (c / 4) (c % 4)
instance (w h c : Int) : Decidable (leads w h c) := inferInstanceAs (Decidable (_ ∧ _))
def opp (p : Int) : Int := if p = 4 then 4 else if 0 ≤ p ∧ p ≤ 3 then (p + 2) % 4 else -1
def goodAt (w h : Int) (b : List Int) (j : Nat) : Prop := leads w h (b.getD j 0) ∧ (0 < j → b.getD (j - 1) 0 < b.getD j 0)
instance (w h : Int) (b : List Int) (j : Nat) : Decidable (goodAt w h b j) := inferInstanceAs (Decidable (_ ∧ _))
def meshOk (w h : Int) (b : List Int) : Prop := (∀ j, j < b.length → goodAt w h b j) ∧ okG w h
instance (w h : Int) (b : List Int) : Decidable (meshOk w h b) := inferInstanceAs (Decidable (_ ∧ _))
def has (w h : Int) (b : List Int) (c : Int) : Prop := leads w h c ∧ c ∉ b
instance (w h : Int) (b : List Int) (c : Int) : Decidable (has w h b c) := inferInstanceAs (Decidable (_ ∧ _))

theorem mul_small {w h : Int} (h1 : okG w h) : 1 ≤ w * h ∧ w * h ≤ 16 := by
  obtain ⟨⟨a1, a2⟩, b1, b2⟩ := h1
  have c1 : 1 * 1 ≤ w * h := Int.mul_le_mul a1 b1 (by omega) (by omega)
  have c2 : w * h ≤ 4 * 4 := Int.mul_le_mul a2 b2 (by omega) (by omega)
  omega
theorem cnt_range (w h : Int) : 0 ≤ cnt w h ∧ cnt w h ≤ 16 := by
  unfold cnt; split
  · rename_i h1; have := mul_small h1; omega
  · omega
theorem isN_ok {w h n : Int} (h1 : isN w h n) : okG w h ∧ 0 ≤ n ∧ n < w * h ∧ n < 16 := by
  obtain ⟨a, b⟩ := h1
  have := cnt_range w h
  unfold cnt at b; split at b
  · rename_i hg; have := mul_small hg; exact ⟨hg, a, b, by omega⟩
  · omega
theorem w64 {x : Int} (h1 : -9223372036854775808 ≤ x) (h2 : x ≤ 9223372036854775807) : IntKind.i64.wrap x = x := by rw [IntKind.wrap_i64]; omega
end Go.Proofs.Ytnakhkfgheapoaa.V
/-! What the functions on grids return. -/
set_option linter.all false
namespace Go.Proofs.Ytnakhkfgheapoaa.V
open Go Go.VM Go.Proofs
set_option maxRecDepth 10000
variable {frz : Nat} {H : Heap}
theorem inside_c (n lo hi : Int) : vcall C frz 83 [.int .i64 n, .int .i64 lo, .int .i64 hi] H = some (.bool (decide (inR lo n hi)), H) := by
  rw [vcall_go (fn := Try.f83) Try.func83 rfl (by kernel_rfl) rfl]
  simp
  repeat' (first | refine gd_dec _ _ ?_ ?_ | refine br_dec _ ?_ ?_) <;> intro h <;> simp [h, inR]
theorem l01In_c (n lo hi : Int) : vcall C frz 120 [.int .i64 n, .int .i64 lo, .int .i64 hi] H = some (.bool (decide (inR lo n hi)), H) := by
  rw [vcall_go (fn := Try.f120) Try.func120 rfl (by kernel_rfl) rfl]
  simp
  repeat' (first | refine gd_dec _ _ ?_ ?_ | refine br_dec _ ?_ ?_) <;> intro h <;> simp [h, inR]
theorem okG_of {w h : Int} (h1 : inR 1 w 4) (h2 : inR 1 h 4) : okG w h := ⟨h1, h2⟩
theorem gridOk_c (w h : Int) : vcall C frz 109 [.agg #[.int .i64 w, .int .i64 h]] H = some (.bool (decide (okG w h)), H) := by
  rw [vcall_go (fn := Try.f109) Try.func109 rfl (by kernel_rfl) rfl]
  simp [inside_c]
  refine gd_dec _ _ ?_ ?_ <;> intro h1 <;> simp [h1, inside_c]
  · have : okG w h ↔ inR 1 h 4 := ⟨fun g => g.2, fun g => ⟨h1, g⟩⟩
    simp [this]
  · exact fun g => h1 g.1
theorem sGridOk_c (w h : Int) : vcall C frz 132 [.agg #[.int .i64 w, .int .i64 h]] H = some (.bool (decide (okG w h)), H) := by
  rw [vcall_go (fn := Try.f132) Try.func132 rfl (by kernel_rfl) rfl]
  simp [l01In_c]
  refine gd_dec _ _ ?_ ?_ <;> intro h1 <;> simp [h1, l01In_c]
  · have : okG w h ↔ inR 1 h 4 := ⟨fun g => g.2, fun g => ⟨h1, g⟩⟩
    simp [this]
  · exact fun g => h1 g.1
theorem nodeCount_c (w h : Int) : vcall C frz 79 [.agg #[.int .i64 w, .int .i64 h]] H = some (.int .i64 (cnt w h), H) := by
  rw [vcall_go (fn := Try.f79) Try.func79 rfl (by kernel_rfl) rfl]
  simp [gridOk_c]
  refine br_dec _ ?_ ?_ <;> intro h1 <;> simp [h1, cnt]
  have := mul_small h1
  exact w64 (by omega) (by omega)
theorem sNodeCount_c (w h : Int) : vcall C frz 97 [.agg #[.int .i64 w, .int .i64 h]] H = some (.int .i64 (cnt w h), H) := by
  rw [vcall_go (fn := Try.f97) Try.func97 rfl (by kernel_rfl) rfl]
  simp [sGridOk_c]
  refine br_dec _ ?_ ?_ <;> intro h1 <;> simp [h1, cnt]
  have := mul_small h1
  exact w64 (by omega) (by omega)
theorem isN_inR (w h n : Int) : inR 0 n (IntKind.i64.wrap (cnt w h - 1)) ↔ isN w h n := by
  have := cnt_range w h
  rw [w64 (by omega) (by omega)]
  simp only [inR, isN]; omega
theorem isNode_c (w h n : Int) : vcall C frz 84 [.agg #[.int .i64 w, .int .i64 h], .int .i64 n] H = some (.bool (decide (isN w h n)), H) := by
  rw [vcall_go (fn := Try.f84) Try.func84 rfl (by kernel_rfl) rfl]
  simp [nodeCount_c, inside_c, isN_inR]
theorem l02Has_c (w h n : Int) : vcall C frz 89 [.agg #[.int .i64 w, .int .i64 h], .int .i64 n] H = some (.bool (decide (isN w h n)), H) := by
  rw [vcall_go (fn := Try.f89) Try.func89 rfl (by kernel_rfl) rfl]
  simp [sNodeCount_c, l01In_c, isN_inR]
end Go.Proofs.Ytnakhkfgheapoaa.V
/-! What the functions on grids return: places, neighbours, channels. -/
set_option linter.all false
namespace Go.Proofs.Ytnakhkfgheapoaa.V
open Go Go.VM Go.Proofs
set_option maxRecDepth 10000
variable {frz : Nat} {H : Heap}
theorem at_inR (w h x y : Int) (h1 : okG w h) : (inR 0 x (IntKind.i64.wrap (w - 1)) ↔ 0 ≤ x ∧ x < w) ∧ (inR 0 y (IntKind.i64.wrap (h - 1)) ↔ 0 ≤ y ∧ y < h) := by
  obtain ⟨⟨a1, a2⟩, b1, b2⟩ := h1
  rw [w64 (by omega) (by omega), w64 (by omega) (by omega)]
  simp only [inR]; omega
theorem at_val {w h x y : Int} (h1 : okG w h) (h2 : 0 ≤ x ∧ x < w) (h3 : 0 ≤ y ∧ y < h) : IntKind.i64.wrap (IntKind.i64.wrap (y * w) + x) = y * w + x := by
  have hm := mul_small h1
  obtain ⟨⟨a1, a2⟩, b1, b2⟩ := h1
  have c1 : 0 * 0 ≤ y * w := Int.mul_le_mul h3.1 (by omega) (by omega) (by omega)
  have c2 : y * w ≤ h * w := Int.mul_le_mul_of_nonneg_right (by omega) (by omega)
  rw [Int.mul_comm h w] at c2
  rw [w64 (x := y * w) (by omega) (by omega), w64 (by omega) (by omega)]
theorem nodeAt_c (w h x y : Int) : vcall C frz 147 [.agg #[.int .i64 w, .int .i64 h], .int .i64 x, .int .i64 y] H = some (.int .i64 (nodeAt w h x y), H) := by
  rw [vcall_go (fn := Try.f147) Try.func147 rfl (by kernel_rfl) rfl]
  simp [gridOk_c]
  refine gd_dec _ _ ?_ ?_ <;> intro h1 <;> simp [h1, inside_c, nodeAt]
  obtain ⟨e1, e2⟩ := at_inR w h x y h1
  simp only [e1, e2]
  refine gd_dec _ _ ?_ ?_ <;> intro h2 <;> simp [h2, inside_c]
  simp only [e2]
  refine br_dec _ ?_ ?_ <;> intro h3 <;> simp [h3]
  exact at_val h1 h2 h3
theorem sNodeAt_c (w h x y : Int) : vcall C frz 151 [.agg #[.int .i64 w, .int .i64 h], .int .i64 x, .int .i64 y] H = some (.int .i64 (nodeAt w h x y), H) := by
  rw [vcall_go (fn := Try.f151) Try.func151 rfl (by kernel_rfl) rfl]
  simp [sGridOk_c]
  refine gd_dec _ _ ?_ ?_ <;> intro h1 <;> simp [h1, l01In_c, nodeAt]
  obtain ⟨e1, e2⟩ := at_inR w h x y h1
  simp only [e1, e2]
  refine gd_dec _ _ ?_ ?_ <;> intro h2 <;> simp [h2, l01In_c]
  simp only [e2]
  refine br_dec _ ?_ ?_ <;> intro h3 <;> simp [h3]
  exact at_val h1 h2 h3
theorem nodeAt_range (w h x y : Int) : -1 ≤ nodeAt w h x y ∧ nodeAt w h x y < 16 := by
  unfold nodeAt
  split
  · rename_i h1
    obtain ⟨h1, h2, h3⟩ := h1
    have hm := mul_small h1
    obtain ⟨⟨a1, a2⟩, b1, b2⟩ := h1
    have c1 : 0 * 0 ≤ y * w := Int.mul_le_mul h3.1 (by omega) (by omega) (by omega)
    have c2 : y * w ≤ (h - 1) * w := Int.mul_le_mul_of_nonneg_right (by omega) (by omega)
    rw [Int.sub_mul, Int.mul_comm h w] at c2
    omega
  · omega
theorem tdiv_of {n w : Int} (h : 0 ≤ n) (h1 : 1 ≤ w) (h2 : n < 16) : IntKind.i64.wrap (n.tdiv w) = n / w := by
  rw [Int.tdiv_eq_ediv_of_nonneg h]
  have h3 := Int.ediv_le_self w h
  have h4 := Int.ediv_nonneg h (by omega : 0 ≤ w)
  exact w64 (by omega) (by omega)
theorem tmod_of {n w : Int} (h : 0 ≤ n) : n.tmod w = n % w := Int.tmod_eq_emod_of_nonneg h
theorem div_small {n w : Int} (h : 0 ≤ n) (h1 : 1 ≤ w) (h2 : n < 16) : 0 ≤ n / w ∧ n / w < 16 := ⟨Int.ediv_nonneg h (by omega), by have := Int.ediv_le_self w h; omega⟩
theorem mod_small {n w : Int} (h1 : 1 ≤ w) (h2 : w ≤ 4) : 0 ≤ n % w ∧ n % w < 4 := ⟨Int.emod_nonneg _ (by omega), by have := Int.emod_lt_of_pos n (by omega : 0 < w); omega⟩
theorem nextNode_c (w h n p : Int) : vcall C frz 127 [.agg #[.int .i64 w, .int .i64 h], .int .i64 n, .int .i64 p] H = some (.int .i64 (next w h n p), H) := by
  rw [vcall_go (fn := Try.f127) Try.func127 rfl (by kernel_rfl) rfl]
  simp [isNode_c]
  refine br_dec _ ?_ ?_ <;> intro h1 <;> simp [h1, next]
  obtain ⟨⟨⟨a1, a2⟩, b1, b2⟩, g2, g3, g4⟩ := isN_ok h1
  rw [go_draw (h := by kernel_rfl)]
  simp
  refine vneed_eq (by omega) ?_
  refine vneed_eq (by omega) ?_
  obtain ⟨d1, d2⟩ := div_small g2 a1 g4
  obtain ⟨m1, m2⟩ := mod_small (n := n) a1 a2
  rw [tdiv_of g2 a1 g4, tmod_of g2]
  refine br_dec _ ?_ ?_ <;> intro p0 <;> simp [p0, nodeAt_c]
  · rw [w64 (by omega) (by omega)]
  refine br_dec _ ?_ ?_ <;> intro p1 <;> simp [p1, nodeAt_c]
  · rw [w64 (by omega) (by omega)]
  refine br_dec _ ?_ ?_ <;> intro p2 <;> simp [p2, nodeAt_c]
  · rw [w64 (by omega) (by omega)]
  refine br_dec _ ?_ ?_ <;> intro p3 <;> simp [p3, nodeAt_c]
  · rw [w64 (by omega) (by omega)]
  refine br_dec _ ?_ ?_ <;> intro p4 <;> simp [p4, nodeAt_c]
theorem sNextNode_c (w h n p : Int) : vcall C frz 133 [.agg #[.int .i64 w, .int .i64 h], .int .i64 n, .int .i64 p] H = some (.int .i64 (next w h n p), H) := by
  rw [vcall_go (fn := Try.f133) Try.func133 rfl (by kernel_rfl) rfl]
  simp [l02Has_c]
  refine br_dec _ ?_ ?_ <;> intro h1 <;> simp [h1, next]
  obtain ⟨⟨⟨a1, a2⟩, b1, b2⟩, g2, g3, g4⟩ := isN_ok h1
  refine vneed_eq (by omega) ?_
  refine vneed_eq (by omega) ?_
  obtain ⟨d1, d2⟩ := div_small g2 a1 g4
  obtain ⟨m1, m2⟩ := mod_small (n := n) a1 a2
  rw [tdiv_of g2 a1 g4, tmod_of g2]
  refine br_dec _ ?_ ?_ <;> intro p0 <;> simp [p0, sNodeAt_c]
  · rw [w64 (by omega) (by omega)]
  refine br_dec _ ?_ ?_ <;> intro p1 <;> simp [p1, sNodeAt_c]
  · rw [w64 (by omega) (by omega)]
  refine br_dec _ ?_ ?_ <;> intro p2 <;> simp [p2, sNodeAt_c]
  · rw [w64 (by omega) (by omega)]
  refine br_dec _ ?_ ?_ <;> intro p3 <;> simp [p3, sNodeAt_c]
  · rw [w64 (by omega) (by omega)]
  refine br_dec _ ?_ ?_ <;> intro p4 <;> simp [p4, sNodeAt_c]
theorem next_range (w h n p : Int) : -1 ≤ next w h n p ∧ next w h n p < 16 := by
  unfold next
  split
  · rename_i h1
    have := isN_ok h1
    have a0 := nodeAt_range w h (n % w) (n / w - 1)
    have a1 := nodeAt_range w h (n % w + 1) (n / w)
    have a2 := nodeAt_range w h (n % w) (n / w + 1)
    have a3 := nodeAt_range w h (n % w - 1) (n / w)
    repeat' split
    all_goals omega
  · omega
theorem chan_inR (w h c : Int) : inR 0 c (IntKind.i64.wrap (IntKind.i64.wrap (4 * cnt w h) - 1)) ↔ 0 ≤ c ∧ c < 4 * cnt w h := by
  have := cnt_range w h
  rw [w64 (x := 4 * cnt w h) (by omega) (by omega), w64 (by omega) (by omega)]
  simp only [inR]; omega
theorem chan_div {w h c : Int} (h1 : 0 ≤ c ∧ c < 4 * cnt w h) : IntKind.i64.wrap (c.tdiv 4) = c / 4 ∧ c.tmod 4 = c % 4 := by
  have := cnt_range w h
  rw [Int.tdiv_eq_ediv_of_nonneg h1.1, Int.tmod_eq_emod_of_nonneg h1.1]
  exact ⟨w64 (by omega) (by omega), rfl⟩
theorem leads_c (w h c : Int) : vcall C frz 108 [.agg #[.int .i64 w, .int .i64 h], .int .i64 c] H = some (.bool (decide (leads w h c)), H) := by
  rw [vcall_go (fn := Try.f108) Try.func108 rfl (by kernel_rfl) rfl]
  simp [nodeCount_c, inside_c]
  refine gd_dec _ _ ?_ ?_ <;> intro h1 <;> simp [h1]
  · rw [chan_inR] at h1
    obtain ⟨e1, e2⟩ := chan_div h1
    simp [e1, e2, nextNode_c, leads, h1]
  · rw [chan_inR] at h1
    exact fun g => h1 g.1
theorem l03Leads_c (w h c : Int) : vcall C frz 123 [.agg #[.int .i64 w, .int .i64 h], .int .i64 c] H = some (.bool (decide (leads w h c)), H) := by
  rw [vcall_go (fn := Try.f123) Try.func123 rfl (by kernel_rfl) rfl]
  simp [sNodeCount_c, l01In_c]
  refine gd_dec _ _ ?_ ?_ <;> intro h1 <;> simp [h1]
  · rw [chan_inR] at h1
    obtain ⟨e1, e2⟩ := chan_div h1
    simp [e1, e2, sNextNode_c, leads, h1]
  · rw [chan_inR] at h1
    exact fun g => h1 g.1
end Go.Proofs.Ytnakhkfgheapoaa.V
/-! What the laws' own functions return: arguments copied, compared, counted. -/
set_option linter.all false
namespace Go.Proofs.Ytnakhkfgheapoaa.V
open Go Go.VM Go.Proofs
set_option maxRecDepth 10000
variable {frz : Nat} {H : Heap}
theorem getD_get (xs : List Int) (i : Nat) (h : i < xs.length) : xs.getD i 0 = xs[i] := by simp [List.getD_eq_getElem?_getD, h]
theorem szIntS_c (v : Value) (xs : List Int) (n : Int) (hI : IsI H v xs) (h0 : 0 ≤ n) (h1 : n ≤ 1048576) (h2 : xs.length ≤ 9223372036854775807) :
    vcall C frz 87 [v, .int .i64 n] H = some (.int .i64 (if n < xs.length then -1 else n - xs.length), H) := by
  rw [vcall_go (fn := Try.f87) Try.func87 rfl (by kernel_rfl) rfl]
  simp [hI.len]
  rw [w64 (by omega) (by omega)]
  refine br_dec _ ?_ ?_ <;> intro h <;> simp [h]
  · intro hh; omega
  · intro hh; omega
theorem toIntS_c (v : Value) (xs : List Int) (hI : IsI H v xs) (hb : xs.length ≤ 1073741824) :
   vcall C frz 16 [v] H = some (.slice (some ⟨H.length, 0, some 0⟩) xs.length 0, H ++ [⟨xs.map (.int .i64), 0, 3⟩]) := by
  rw [vcall_go (fn := Try.f16) Try.func16 rfl (by kernel_rfl) rfl]
  simp [hI.len]
  refine vneed_eq (by omega) ?_
  refine go_inv (fun n t H' => ∃ i : Nat, n = xs.length - i ∧ i ≤ xs.length ∧ t 0 = v ∧ t 3 = .slice (some ⟨H.length, 0, some 0⟩) xs.length 0 ∧ t 4 = .int .i64 i ∧
    H' = H ++ [⟨(xs.map (.int .i64)).take i ++ List.replicate (xs.length - i) (.int .i64 0), 0, 3⟩]) ?_ (n := xs.length) ⟨0, by simp⟩
  rintro n t H' ⟨i, rfl, hi, h0, h3, h4, rfl⟩ ih
  simp [h0, h3, h4, hI.lenA]
  refine br_dec _ ?_ ?_ <;> intro h
  · simp [h0, h3, h4, h, hI.idxA, hI.loadA, getD_get]
    refine vneed_eq (by omega) ?_
    refine ih (xs.length - (i + 1)) _ _ ⟨i + 1, rfl, by omega, by simp [h0], by simp [h3], ?_, ?_⟩ (by omega)
    · simp; rw [w64 (by omega) (by omega)]
    · rw [splice_fill' _ _ _ _ h]
  · have : i = xs.length := by omega
    subst this
    simp [h0, h3, h4, scrub_ints]
end Go.Proofs.Ytnakhkfgheapoaa.V
/-! What the laws' own functions return: meshes copied and compared. -/
set_option linter.all false
namespace Go.Proofs.Ytnakhkfgheapoaa.V
open Go Go.VM Go.Proofs
set_option maxRecDepth 10000
variable {frz : Nat} {H : Heap}
theorem eqIntS_c (a b : Value) (xs ys : List Int) (ha : IsI H a xs) (hb : IsI H b ys) (hl : xs.length ≤ 1073741824) :
   vcall C frz 18 [a, b] H = some (.bool (decide (xs = ys)), H) := by
  rw [vcall_go (fn := Try.f18) Try.func18 rfl (by kernel_rfl) rfl]
  simp [ha.len, hb.len]
  refine br_dec _ ?_ ?_ <;> intro h0 <;> simp [h0]
  · refine go_inv (fun n t H' => ∃ i : Nat, n = xs.length - i ∧ i ≤ xs.length ∧ t 0 = a ∧ t 1 = b ∧ t 5 = .int .i64 i ∧ H' = H ∧ xs.take i = ys.take i) ?_ (n := xs.length) ⟨0, by simp⟩
    rintro n t H' ⟨i, rfl, hi, h1, h2, h3, rfl, h4⟩ ih
    simp [h1, h2, h3, ha.len]
    refine br_dec _ ?_ ?_ <;> intro h
    · have h' : i < ys.length := by omega
      simp [h1, h2, h3, h]
      rw [go_draw (h := by kernel_rfl)]
      simp [h1, h2, h3, h, h', ha.idx, ha.load, hb.idx, hb.load, getD_get]
      refine br_dec _ ?_ ?_ <;> intro h5 <;> simp [h1, h2, h3, h5]
      · refine ih (xs.length - (i + 1)) _ _ ⟨i + 1, rfl, by omega, by simp [h1], by simp [h2], ?_, rfl, ?_⟩ (by omega)
        · simp; rw [w64 (by omega) (by omega)]
        · rw [List.take_succ_eq_append_getElem h, List.take_succ_eq_append_getElem h', h4]; simp [h5]
      · intro hh; subst hh; simp at h5
    · have : i = xs.length := by omega
      subst this
      simp [h1, h2, h3]
      rw [List.take_length, List.take_of_length_le (by omega)] at h4
      exact h4
  · intro hh; exact h0 (by rw [hh])
theorem toGrid_c (w h : Int) : vcall C frz 91 [.agg #[.int .i64 w, .int .i64 h]] H = some (.agg #[.int .i64 w, .int .i64 h], H) := by
  rw [vcall_go (fn := Try.f91) Try.func91 rfl (by kernel_rfl) rfl]
  simp
theorem szMesh_c (w h : Int) (v : Value) (xs : List Int) (n : Int) (hI : IsI H v xs) (h0 : 0 ≤ n) (h1 : n ≤ 1048576) (h2 : xs.length ≤ 9223372036854775807) :
    vcall C frz 33 [.agg #[.int .i64 w, .int .i64 h, v], .int .i64 n] H = some (.int .i64 (if n < xs.length then -1 else n - xs.length), H) := by
  rw [vcall_go (fn := Try.f33) Try.func33 rfl (by kernel_rfl) rfl]
  simp [szIntS_c _ _ _ (hI.app _) h0 h1 h2, hI.one', hI.cells]
  refine br_dec _ ?_ ?_ <;> intro h <;> simp [h]
  · intro hh; omega
theorem toMesh_c (w h : Int) (v : Value) (xs : List Int) (hI : IsI H v xs) (hb : xs.length ≤ 1073741824) :
   vcall C frz 35 [.agg #[.int .i64 w, .int .i64 h, v]] H = some (.agg #[.int .i64 w, .int .i64 h, .slice (some ⟨H.length, 0, some 0⟩) xs.length 0], H ++ [⟨xs.map (.int .i64), 0, 3⟩]) := by
  rw [vcall_go (fn := Try.f35) Try.func35 rfl (by kernel_rfl) rfl]
  simp [toGrid_c, toIntS_c _ _ (hI.app _) hb, hI.one', hI.cells]
theorem eqGrid_c (w h w' h' : Int) : vcall C frz 93 [.agg #[.int .i64 w, .int .i64 h], .agg #[.int .i64 w', .int .i64 h']] H = some (.bool (decide (w = w' ∧ h = h')), H) := by
  rw [vcall_go (fn := Try.f93) Try.func93 rfl (by kernel_rfl) rfl]
  simp
  refine br_dec _ ?_ ?_ <;> intro h0 <;> simp [h0]
  refine br_dec _ ?_ ?_ <;> intro h0 <;> simp [h0]
theorem eqMesh_c (w h w' h' : Int) (a b : Value) (xs ys : List Int) (ha : IsI H a xs) (hb : IsI H b ys) (hl : xs.length ≤ 1073741824) :
   vcall C frz 38 [.agg #[.int .i64 w, .int .i64 h, a], .agg #[.int .i64 w', .int .i64 h', b]] H = some (.bool (decide ((w = w' ∧ h = h') ∧ xs = ys)), H) := by
  rw [vcall_go (fn := Try.f38) Try.func38 rfl (by kernel_rfl) rfl]
  simp [eqGrid_c, ha.one', hb.one', ha.cells, hb.cells, -Bool.decide_and]
  refine br_dec _ ?_ ?_ <;> intro h0 <;> simp [h0, eqIntS_c _ _ _ _ (ha.app _) (hb.app _) hl]
  refine br_dec _ ?_ ?_ <;> intro h0 <;> simp [h0]
end Go.Proofs.Ytnakhkfgheapoaa.V
/-! slices.Concat on two slices of numbers. -/
set_option linter.all false
namespace Go.Proofs.Ytnakhkfgheapoaa.V
open Go Go.VM Go.Proofs
set_option maxRecDepth 10000
variable {frz : Nat} {H : Heap}
theorem wr0 : IntKind.i64.wrap 0 = 0 := by decide
theorem grow0_c : vcall C frz 121 [.slice none 0 0, .int .i64 0] H = some (.slice none 0 0, H) := by
  rw [vcall_go (fn := Try.f121) Try.func121 rfl (by kernel_rfl) rfl]
  simp [wr0]
theorem grow_c (n : Int) (h0 : 0 < n) (h1 : n ≤ 1073741824) :
   vcall C frz 121 [.slice none 0 0, .int .i64 n] H = some (.slice (some ⟨H.length, 0, some 0⟩) 0 0, H ++ [⟨[], 0, 3⟩]) := by
  rw [vcall_go (fn := Try.f121) Try.func121 rfl (by kernel_rfl) rfl]
  have e : IntKind.i64.wrap n = n := w64 (by omega) (by omega)
  simp [wr0, e, h0]
  refine br_dec _ ?_ ?_ <;> intro h2
  · omega
  simp [h2, wr0, e, h0]
  exact vneed_eq h1 (vneed_eq (by omega) rfl)
theorem concat_c (id : Nat) (x y : Value) (xs ys : List Int) (hr : H[id]? = some ⟨[x, y], 0, 22⟩) (hx : IsI H x xs) (hy : IsI H y ys) (hl : xs.length + ys.length ≤ 1073741824) :
   vcall C frz 73 [.slice (some ⟨id, 0, some 0⟩) 2 0] H = some (if xs ++ ys = [] then (.slice none 0 0, H) else (.slice (some ⟨H.length, 0, some 0⟩) (xs ++ ys).length 0, H ++ [⟨(xs ++ ys).map (.int .i64), 0, 3⟩])) := by
  rw [vcall_go (fn := Try.f73) Try.func73 rfl (by kernel_rfl) rfl]
  simp [VM.look, hr]
  have lk0 : ∀ o, VM.look H ⟨id, o, some 0⟩ = some ⟨[x, y], 0, 22⟩ := fun o => by simp [VM.look, hr]
  have lk : ∀ L o, VM.look (H ++ L) ⟨id, o, some 0⟩ = some ⟨[x, y], 0, 22⟩ := fun L o => by
    simp [VM.look, List.getElem?_append_left (List.getElem?_eq_some_iff.1 hr).1, hr]
  have e1 : IntKind.i64.wrap (xs.length : Int) = xs.length := w64 (by omega) (by omega)
  have e2 : IntKind.i64.wrap ((xs.length : Int) + ys.length) = xs.length + ys.length := w64 (by omega) (by omega)
  have n1 : ¬ (xs.length : Int) < 0 := by omega
  have n2 : ¬ (xs.length : Int) + ys.length < 0 := by omega
  have wr1 : IntKind.i64.wrap 1 = 1 := by decide
  have wr2 : IntKind.i64.wrap 2 = 2 := by decide
  rw [go_loop]
  simp [VM.look, hr, hx.len, hy.len, wr0, wr1, wr2, e1, n1]
  rw [go_again, go_loop]
  simp [VM.look, hr, hx.len, hy.len, wr0, wr1, wr2, e1, e2, n1, n2]
  rw [go_again, go_loop]
  simp [VM.look, hr, hx.len, hy.len, wr0, wr1, wr2, e1, e2, n1, n2]
  by_cases h0 : xs.length + ys.length = 0
  · obtain rfl : xs = [] := List.length_eq_zero_iff.1 (by omega)
    obtain rfl : ys = [] := List.length_eq_zero_iff.1 (by omega)
    simp [grow0_c, lk0]
    rw [go_loop]
    simp [lk0, hx.src, wr0, wr1]
    rw [go_again, go_loop]
    simp [lk0, hy.src, wr0, wr1, wr2]
    rw [go_again, go_loop]
    simp [lk0, wr0, wr1, wr2]
  · have hno : ¬ (xs = [] ∧ ys = []) := fun ⟨a, b⟩ => h0 (by rw [a, b]; rfl)
    simp [grow_c _ (show (0 : Int) < xs.length + ys.length by omega) (by omega), hno, lk]
    rw [go_loop]
    simp [lk, (hx.app _).src, wr0, wr1]
    by_cases hx0 : xs = []
    · have hy0 : ys ≠ [] := fun hh => hno ⟨hx0, hh⟩
      have hyl : ys.length ≤ 1073741824 := by omega
      simp [hx0]
      rw [go_again, go_loop]
      simp [lk, (hy.app _).src, wr0, wr1, wr2, hy0, hyl]
      rw [go_again, go_loop]
      simp [lk, wr0, wr1, wr2]
    · have hxl : xs.length ≤ 1073741824 := by omega
      simp [hx0, hxl]
      rw [go_again, go_loop]
      simp [lk, (hy.app _).src, wr0, wr1, wr2]
      by_cases hy0 : ys = []
      · simp [hy0]
        rw [go_again, go_loop]
        simp [lk, wr0, wr1, wr2]
      · simp [hy0, hl]
        rw [go_again, go_loop]
        simp [lk, wr0, wr1, wr2]
end Go.Proofs.Ytnakhkfgheapoaa.V
/-! What the functions on meshes return. -/
set_option linter.all false
namespace Go.Proofs.Ytnakhkfgheapoaa.V
open Go Go.VM Go.Proofs
set_option maxRecDepth 10000
variable {frz : Nat} {H : Heap}
theorem goodAt_bad {w h : Int} {b : List Int} {i : Nat} (h5 : i < b.length) (hg : ¬ goodAt w h b i) : ¬ meshOk w h b := fun hh => hg (hh.1 i h5)
theorem goodAt_succ {w h : Int} {b : List Int} {i : Nat} (hj : ∀ j < i, goodAt w h b j) (hg : goodAt w h b i) : ∀ j < i + 1, goodAt w h b j := fun j hh => by
  by_cases hji : j < i
  · exact hj j hji
  · have : j = i := by omega
    rw [this]; exact hg
theorem goodAt_iff {w h : Int} {b : List Int} {i : Nat} (h5 : i < b.length) : goodAt w h b i ↔ leads w h b[i] ∧ (0 < i → b[i - 1] < b[i]) := by
  unfold goodAt
  rw [getD_get _ _ h5]
  refine and_congr Iff.rfl ⟨fun g p => ?_, fun g p => ?_⟩
  · have := g p; rwa [getD_get _ _ (by omega)] at this
  · rw [getD_get _ _ (by omega)]; exact g p
theorem sMeshOk_c (w h : Int) (v : Value) (b : List Int) (hI : IsI H v b) (hl : b.length ≤ 1073741824) :
   vcall C frz 106 [.agg #[.int .i64 w, .int .i64 h, v]] H = some (.bool (decide (meshOk w h b)), H) := by
  rw [vcall_go (fn := Try.f106) Try.func106 rfl (by kernel_rfl) rfl]
  simp [hI.one', hI.cells, hI.lenA, sGridOk_c]
  refine br_dec _ ?_ ?_ <;> intro hg <;> simp [hg]
  · refine go_inv (fun n t H' => ∃ i : Nat, n = b.length - i ∧ i ≤ b.length ∧ t 1 = .pointer (some ⟨H.length, 0, some 0⟩) ∧ t 3 = .int .i64 i ∧
      H' = H ++ [⟨[.int .i64 w, .int .i64 h, v], 0, 33⟩] ∧ ∀ j < i, goodAt w h b j) ?_ (n := b.length) ⟨0, by simp⟩
    rintro n t H' ⟨i, rfl, hi, h1, h3, rfl, hj⟩ ih
    have next := fun (t' : Env) (e1 : t' 1 = .pointer (some ⟨H.length, 0, some 0⟩)) (e2 : t' 3 = .int .i64 (i + 1 : Nat)) (e3 : i < b.length) (e4 : goodAt w h b i) =>
      ih (b.length - (i + 1)) t' _ ⟨i + 1, rfl, by omega, e1, e2, rfl, goodAt_succ hj e4⟩ (by omega)
    simp [h1, h3, hI.lenA]
    refine br_dec _ ?_ ?_ <;> intro h5
    · simp [h1, h3, h5]
      rw [go_draw (h := by kernel_rfl)]
      simp [h1, h3, h5, hI.idxA, hI.loadA, getD_get, l03Leads_c]

      refine gd_dec _ _ ?_ ?_ <;> intro hL <;> simp [h1, h3, h5, hL]
      · refine gd_dec _ _ ?_ ?_ <;> intro h0
        · have e : IntKind.i64.wrap ((i : Int) - 1) = ((i - 1 : Nat) : Int) := by rw [w64 (by omega) (by omega)]; omega
          have e' : i - 1 < b.length := by omega
          simp [h1, h3, h5, h0, hL, hI.idxA, hI.loadA, getD_get, e, e']
          refine br_dec _ ?_ ?_ <;> intro h6
          · simp [h1, h3, h5, h0, hL, h6]
            refine goodAt_bad h5 ?_
            rw [goodAt_iff h5]
            exact fun hh => absurd (hh.2 h0) (by omega)
          · simp [h1, h3, h5, h0, hL, h6]
            refine next _ (by simp [h1]) ?_ h5 ((goodAt_iff h5).2 ⟨hL, fun _ => by omega⟩)
            simp; rw [w64 (by omega) (by omega)]
        · simp [h1, h3, h5, h0, hL]
          refine next _ (by simp [h1]) ?_ h5 ((goodAt_iff h5).2 ⟨hL, fun hh => absurd hh h0⟩)
          simp; rw [w64 (by omega) (by omega)]
      · refine goodAt_bad h5 ?_
        rw [goodAt_iff h5]
        exact fun hh => hL hh.1
    · have : i = b.length := by omega
      subst this
      simp [h1, h3]
      exact ⟨hj, hg⟩
  · exact fun hh => hg hh.2
theorem notin_succ {b : List Int} {c : Int} {i : Nat} (h : i < b.length) (h1 : c ∉ b.take i) (h2 : ¬ b[i] = c) : c ∉ b.take (i + 1) := by
  rw [List.take_succ_eq_append_getElem h]
  simp only [List.mem_append, List.mem_singleton, not_or]
  exact ⟨h1, fun hh => h2 hh.symm⟩
/-- the place of a number, or -1 -/
def place (b : List Int) (c : Int) : Int := if c ∈ b then b.idxOf c else -1
theorem place_range (b : List Int) (c : Int) : -1 ≤ place b c ∧ place b c < b.length ∧ (0 ≤ place b c ↔ c ∈ b) := by
  unfold place
  split
  · rename_i h
    have := List.idxOf_lt_length_iff.2 h
    refine ⟨by omega, by omega, ?_⟩
    simp [h]
  · rename_i h
    refine ⟨by omega, by omega, ?_⟩
    simp [h]
theorem place_at {b : List Int} {c : Int} {i : Nat} (h : i < b.length) (h1 : c ∉ b.take i) (h2 : b[i] = c) : place b c = i := by
  have hm : c ∈ b := h2 ▸ List.getElem_mem h
  unfold place
  rw [if_pos hm]
  have e : b = b.take i ++ b.drop i := (List.take_append_drop i b).symm
  have e2 : b.drop i = c :: b.drop (i + 1) := by rw [List.drop_eq_getElem_cons h, h2]
  rw [e, List.idxOf_append, if_neg h1, e2, List.idxOf_cons_self]
  simp; omega
theorem find_c (v : Value) (b : List Int) (c : Int) (hI : IsI H v b) (hl : b.length ≤ 1073741824) :
   vcall C frz 119 [v, .int .i64 c] H = some (.bool (decide (c ∈ b)), H) := by
  rw [vcall_go (fn := Try.f119) Try.func119 rfl (by kernel_rfl) rfl]
  simp [hI.len]
  refine go_inv (fun n t H' => ∃ i : Nat, n = b.length - i ∧ i ≤ b.length ∧ t 0 = v ∧ t 1 = .int .i64 c ∧ t 5 = .int .i64 i ∧ H' = H ∧ c ∉ b.take i) ?_ (n := b.length) ⟨0, by simp⟩
  rintro n t H' ⟨i, rfl, hi, h1, h2, h3, rfl, hj⟩ ih
  simp [h1, h2, h3, hI.len]
  refine br_dec _ ?_ ?_ <;> intro h5
  · simp [h1, h2, h3, h5, hI.idx, hI.load, getD_get]
    refine br_dec _ ?_ ?_ <;> intro h6 <;> simp [h1, h2, h3, h6]
    · rw [← h6]; exact List.getElem_mem h5
    · refine ih (b.length - (i + 1)) _ _ ⟨i + 1, rfl, by omega, by simp [h1], by simp [h2], ?_, rfl, notin_succ h5 hj h6⟩ (by omega)
      simp; rw [w64 (by omega) (by omega)]
  · have : i = b.length := by omega
    subst this
    simp [h1, h2, h3]
    rwa [List.take_length] at hj
theorem index_c (v : Value) (b : List Int) (c : Int) (hI : IsI H v b) (hl : b.length ≤ 1073741824) :
   vcall C frz 71 [v, .int .i64 c] H = some (.int .i64 (place b c), H) := by
  rw [vcall_go (fn := Try.f71) Try.func71 rfl (by kernel_rfl) rfl]
  simp [hI.len]
  refine go_inv (fun n t H' => ∃ i : Nat, n = b.length - i ∧ i ≤ b.length ∧ t 0 = v ∧ t 1 = .int .i64 c ∧ t 6 = v ∧ t 7 = .int .i64 b.length ∧ t 8 = .int .i64 i ∧ H' = H ∧ c ∉ b.take i) ?_ (n := b.length) ⟨0, by simp⟩
  rintro n t H' ⟨i, rfl, hi, h0, h1, h2, h3, h4, rfl, hj⟩ ih
  simp [h0, h1, h2, h3, h4, hI.len]
  refine br_dec _ ?_ ?_ <;> intro h5
  · simp [h0, h1, h2, h3, h4, h5, hI.idx, hI.load, getD_get]
    refine br_dec _ ?_ ?_ <;> intro h6 <;> simp [h0, h1, h2, h3, h4, h6]
    · rw [place_at (c := b[i]) h5 (by first | exact hj | (rw [h6]; exact hj) | (rw [← h6]; exact hj)) rfl]
    · refine ih (b.length - (i + 1)) _ _ ⟨i + 1, rfl, by omega, by simp [h0], by simp [h1], by simp [h2], by simp [h3], ?_, rfl, notin_succ h5 hj (by omega)⟩ (by omega)
      simp; rw [w64 (by omega) (by omega)]
  · have : i = b.length := by omega
    subst this
    simp [h0, h1, h2, h3]
    rw [List.take_length] at hj
    rw [place, if_neg hj]
theorem contains_c (v : Value) (b : List Int) (c : Int) (hI : IsI H v b) (hl : b.length ≤ 1073741824) :
   vcall C frz 82 [v, .int .i64 c] H = some (.bool (decide (c ∈ b)), H) := by
  rw [vcall_go (fn := Try.f82) Try.func82 rfl (by kernel_rfl) rfl]
  simp [index_c _ _ _ hI hl, place_range]
theorem l03Has_c (w h : Int) (v : Value) (b : List Int) (c : Int) (hI : IsI H v b) (hl : b.length ≤ 1073741824) :
   vcall C frz 107 [.agg #[.int .i64 w, .int .i64 h, v], .int .i64 c] H = some (.bool (decide (has w h b c)), H) := by
  rw [vcall_go (fn := Try.f107) Try.func107 rfl (by kernel_rfl) rfl]
  simp [hI.one', hI.cells, l03Leads_c]
  refine gd_dec _ _ ?_ ?_ <;> intro h1 <;> simp [h1, find_c _ _ _ (hI.app _) hl, has, -Bool.decide_and]
theorem l31Ok_c (w h : Int) (v : Value) (b : List Int) (r : Int) (hI : IsI H v b) (hl : b.length ≤ 1073741824) :
   vcall C frz 148 [.agg #[.int .i64 w, .int .i64 h, v], .int .i64 r] H = some (.bool (decide (meshOk w h b ∧ isN w h r)), H) := by
  rw [vcall_go (fn := Try.f148) Try.func148 rfl (by kernel_rfl) rfl]
  simp [hI.one', hI.cells, sMeshOk_c _ _ _ _ (hI.app _) hl]
  refine gd_dec _ _ ?_ ?_ <;> intro h1 <;> simp [h1, l02Has_c, -Bool.decide_and]
theorem endOf_c (w h : Int) (v : Value) (b : List Int) (c : Int) (hI : IsI H v b) (h0 : leads w h c) :
   vcall C frz 81 [.agg #[.int .i64 w, .int .i64 h, v], .int .i64 c] H = some (.int .i64 (next w h (c / 4) (c % 4)), H) := by
  rw [vcall_go (fn := Try.f81) Try.func81 rfl (by kernel_rfl) rfl]
  obtain ⟨e1, e2⟩ := chan_div h0.1
  simp [hI.one', hI.cells, e1, e2, nextNode_c]
theorem meshOk_c (w h : Int) (v : Value) (b : List Int) (hI : IsI H v b) (hl : b.length ≤ 1073741824) :
   vcall C frz 56 [.agg #[.int .i64 w, .int .i64 h, v]] H = some (.bool (decide (meshOk w h b)), H) := by
  rw [vcall_go (fn := Try.f56) Try.func56 rfl (by kernel_rfl) rfl]
  simp [hI.one', hI.cells, hI.lenA]
  refine go_inv (fun n t H' => ∃ i : Nat, n = b.length - i ∧ i ≤ b.length ∧ t 1 = .pointer (some ⟨H.length, 0, some 0⟩) ∧ t 6 = v ∧ t 7 = .int .i64 b.length ∧ t 8 = .int .i64 i ∧
      H' = H ++ [⟨[.int .i64 w, .int .i64 h, v], 0, 33⟩] ∧ ∀ j < i, goodAt w h b j) ?_ (n := b.length) ⟨0, by simp⟩
  rintro n t H' ⟨i, rfl, hi, h1, h2, h3, h4, rfl, hj⟩ ih
  have next := fun (t' : Env) (e1 : t' 1 = .pointer (some ⟨H.length, 0, some 0⟩)) (e2 : t' 6 = v) (e3 : t' 7 = .int .i64 b.length) (e4 : t' 8 = .int .i64 (i + 1 : Nat)) (e5 : i < b.length) (e6 : goodAt w h b i) =>
      ih (b.length - (i + 1)) t' _ ⟨i + 1, rfl, by omega, e1, e2, e3, e4, rfl, goodAt_succ hj e6⟩ (by omega)
  simp [h1, h2, h3, h4]
  refine br_dec _ ?_ ?_ <;> intro h5
  · simp [h1, h2, h3, h4, h5, hI.idxA, hI.loadA, getD_get, leads_c]
    refine gd_dec _ _ ?_ ?_ <;> intro hL <;> simp [h1, h2, h3, h4, h5, hL]
    · refine gd_dec _ _ ?_ ?_ <;> intro h0
      · have e : IntKind.i64.wrap ((i : Int) - 1) = ((i - 1 : Nat) : Int) := by rw [w64 (by omega) (by omega)]; omega
        have e' : i - 1 < b.length := by omega
        simp [h1, h2, h3, h4, h5, h0, hL, hI.idxA, hI.loadA, getD_get, e, e']
        refine br_dec _ ?_ ?_ <;> intro h6
        · simp [h1, h2, h3, h4, h5, h0, hL, h6]
          refine goodAt_bad h5 ?_
          rw [goodAt_iff h5]
          exact fun hh => absurd (hh.2 h0) (by omega)
        · simp [h1, h2, h3, h4, h5, h0, hL, h6]
          refine next _ (by simp [h1]) (by simp [h2]) (by simp [h3]) ?_ h5 ((goodAt_iff h5).2 ⟨hL, fun _ => by omega⟩)
          simp; rw [w64 (by omega) (by omega)]
      · simp [h1, h2, h3, h4, h5, h0, hL]
        refine next _ (by simp [h1]) (by simp [h2]) (by simp [h3]) ?_ h5 ((goodAt_iff h5).2 ⟨hL, fun hh => absurd hh h0⟩)
        simp; rw [w64 (by omega) (by omega)]
    · refine goodAt_bad h5 ?_
      rw [goodAt_iff h5]
      exact fun hh => hL hh.1
  · have : i = b.length := by omega
    subst this
    simp [h1, h2, h3, h4, gridOk_c]
    exact ⟨fun hg => ⟨hj, hg⟩, fun hh => hh.2⟩
theorem isRoot_c (w h : Int) (v : Value) (b : List Int) (r : Int) (hI : IsI H v b) (hl : b.length ≤ 1073741824) :
   vcall C frz 77 [.agg #[.int .i64 w, .int .i64 h, v], .int .i64 r] H = some (.bool (decide (meshOk w h b ∧ isN w h r)), H) := by
  rw [vcall_go (fn := Try.f77) Try.func77 rfl (by kernel_rfl) rfl]
  simp [hI.one', hI.cells, meshOk_c _ _ _ _ (hI.app _) hl]
  refine gd_dec _ _ ?_ ?_ <;> intro h1 <;> simp [h1, isNode_c, -Bool.decide_and]
theorem hasChannel_c (w h : Int) (v : Value) (b : List Int) (c : Int) (hI : IsI H v b) (hl : b.length ≤ 1073741824) :
   vcall C frz 57 [.agg #[.int .i64 w, .int .i64 h, v], .int .i64 c] H = some (.bool (decide (meshOk w h b ∧ has w h b c)), H) := by
  rw [vcall_go (fn := Try.f57) Try.func57 rfl (by kernel_rfl) rfl]
  simp [hI.one', hI.cells, meshOk_c _ _ _ _ (hI.app _) hl]
  refine gd_dec _ _ ?_ ?_ <;> intro h1 <;> simp [h1, leads_c, -Bool.decide_and]
  refine gd_dec _ _ ?_ ?_ <;> intro h2 <;> simp [h2, has, contains_c _ _ _ (hI.app _) hl, -Bool.decide_and]
end Go.Proofs.Ytnakhkfgheapoaa.V
/-! Tables: the plain walk. -/
set_option linter.all false
namespace Go.Proofs.Ytnakhkfgheapoaa.V
open Go Go.VM Go.Proofs
set_option maxRecDepth 10000
def portOf (w h : Int) (T : List Int) (a to : Int) : Int := rd T (a * cnt w h + to)
def stepOk (w h : Int) (b T : List Int) (a to : Int) : Prop := inR 0 (portOf w h T a to) 3 ∧ has w h b (4 * a + portOf w h T a to)
instance (w h : Int) (b T : List Int) (a to : Int) : Decidable (stepOk w h b T a to) := inferInstanceAs (Decidable (_ ∧ _))
def walkN (w h : Int) (b T : List Int) (to : Int) : Nat → Int → List Int → List Int
  | 0, a, out => if portOf w h T a to = 4 then (if a = to then out else []) else []
  | f + 1, a, out => if portOf w h T a to = 4 then (if a = to then out else []) else
      if stepOk w h b T a to then walkN w h b T to f (next w h a (portOf w h T a to)) (out ++ [4 * a + portOf w h T a to]) else []
/-- the walk of a table -/
def walk (w h : Int) (b T : List Int) (a to : Int) : List Int := walkN w h b T to (cnt w h).toNat a []
def tsized (w h : Int) (b T : List Int) : Prop := meshOk w h b ∧ (T.length : Int) = cnt w h * cnt w h
instance (w h : Int) (b T : List Int) : Decidable (tsized w h b T) := inferInstanceAs (Decidable (_ ∧ _))
def tableOk (w h : Int) (b T : List Int) : Prop := tsized w h b T ∧ ∀ a, a < (cnt w h).toNat → ∀ c, c < (cnt w h).toNat → (a = c → portOf w h T a a = 4) ∧ (a ≠ c → walk w h b T a c ≠ [])
instance (w h : Int) (b T : List Int) : Decidable (tableOk w h b T) := inferInstanceAs (Decidable (_ ∧ _))
theorem walkN_len (w h : Int) (b T : List Int) (to : Int) : ∀ f a out, (walkN w h b T to f a out).length ≤ out.length + f := by
  intro f
  induction f with
  | zero => intro a out; simp only [walkN]; repeat' split
            all_goals simp
  | succ f ih =>
    intro a out; simp only [walkN]; repeat' split
    · omega
    · simp
    · have := ih (next w h a (portOf w h T a to)) (out ++ [4 * a + portOf w h T a to])
      simp at this; omega
    · simp
theorem nodeAt_isN {w h x y : Int} (hx : 0 ≤ nodeAt w h x y) : isN w h (nodeAt w h x y) := by
  refine ⟨hx, ?_⟩
  unfold nodeAt at hx ⊢
  split
  · rename_i h1
    obtain ⟨h1, h2, h3⟩ := h1
    have hm := mul_small h1
    have c2 : y * w ≤ (h - 1) * w := Int.mul_le_mul_of_nonneg_right (by omega) (by have := h1.1.1; omega)
    rw [Int.sub_mul, Int.mul_comm h w] at c2
    rw [cnt, if_pos h1]
    omega
  · rename_i h1; rw [if_neg h1] at hx; omega
theorem next_isN {w h a p : Int} (hx : 0 ≤ next w h a p) : isN w h (next w h a p) := by
  unfold next at hx ⊢
  by_cases h1 : isN w h a
  · rw [if_pos h1] at hx ⊢
    by_cases p0 : p = 0
    · rw [if_pos p0] at hx ⊢; exact nodeAt_isN hx
    rw [if_neg p0] at hx ⊢
    by_cases p1 : p = 1
    · rw [if_pos p1] at hx ⊢; exact nodeAt_isN hx
    rw [if_neg p1] at hx ⊢
    by_cases p2 : p = 2
    · rw [if_pos p2] at hx ⊢; exact nodeAt_isN hx
    rw [if_neg p2] at hx ⊢
    by_cases p3 : p = 3
    · rw [if_pos p3] at hx ⊢; exact nodeAt_isN hx
    rw [if_neg p3] at hx ⊢
    by_cases p4 : p = 4
    · rw [if_pos p4] at hx ⊢; exact h1
    rw [if_neg p4] at hx; omega
  · rw [if_neg h1] at hx; omega
theorem step_next {w h a p : Int} {b : List Int} (h0 : inR 0 p 3) (h1 : has w h b (4 * a + p)) : (4 * a + p) / 4 = a ∧ (4 * a + p) % 4 = p ∧ isN w h (next w h a p) := by
  obtain ⟨h2, h3⟩ := h0
  have e1 : (4 * a + p) / 4 = a := by omega
  have e2 : (4 * a + p) % 4 = p := by omega
  refine ⟨e1, e2, next_isN ?_⟩
  have := h1.1.2
  rwa [e1, e2] at this
theorem at_small {w h a to : Int} (h1 : isN w h a) (h2 : isN w h to) : 0 ≤ a * cnt w h + to ∧ a * cnt w h + to < cnt w h * cnt w h ∧ a * cnt w h ≤ 256 ∧ 0 ≤ a * cnt w h := by
  have hc := cnt_range w h
  obtain ⟨a1, a2⟩ := h1
  obtain ⟨b1, b2⟩ := h2
  have c1 : 0 * 0 ≤ a * cnt w h := Int.mul_le_mul a1 hc.1 (by omega) (by omega)
  have c2 : a * cnt w h ≤ (cnt w h - 1) * cnt w h := Int.mul_le_mul_of_nonneg_right (by omega) hc.1
  rw [Int.sub_mul] at c2
  have c3 : cnt w h * cnt w h ≤ 16 * 16 := Int.mul_le_mul hc.2 hc.2 hc.1 (by omega)
  omega
theorem rd_get {T : List Int} {k : Int} (h0 : 0 ≤ k) (h1 : k < T.length) : T.getD k.toNat 0 = rd T k := rfl
end Go.Proofs.Ytnakhkfgheapoaa.V
/-! Trees: the plain side. -/
set_option linter.all false
namespace Go.Proofs.Ytnakhkfgheapoaa.V
open Go Go.VM
theorem rd_at {s : List Int} {j : Nat} (h : j < s.length) : rd s (j : Int) = s[j] := by simp [rd, List.getD_eq_getElem?_getD, h]
theorem rd_mem {s : List Int} {k : Int} (h0 : 0 ≤ k) (h1 : k < s.length) : rd s k ∈ s := by
  obtain ⟨i, rfl⟩ := Int.eq_ofNat_of_zero_le h0
  rw [rd_at (by omega)]; exact List.getElem_mem _
theorem meshOk_iff (w h : Int) (b : List Int) : meshOk w h b ↔ okG w h ∧ (∀ c ∈ b, leads w h c) ∧ b.Pairwise (· < ·) := by
  have e : ∀ j, j < b.length → b.getD j 0 = rd b (j : Int) := fun j _ => by simp [rd]
  constructor
  · rintro ⟨h1, h2⟩
    refine ⟨h2, fun c hc => ?_, ?_⟩
    · obtain ⟨j, hj, rfl⟩ := List.getElem_of_mem hc
      have := (h1 j hj).1
      rwa [getD_get _ _ hj] at this
    · rw [List.pairwise_iff_getElem]
      intro i j hi hj hij
      induction j with
      | zero => omega
      | succ j ih =>
        have := (h1 (j + 1) hj).2 (by omega)
        rw [getD_get _ _ hj, Nat.add_sub_cancel, getD_get _ _ (by omega)] at this
        by_cases h3 : i = j
        · subst h3; exact this
        · exact Int.lt_trans (ih (by omega) (by omega)) this
  · rintro ⟨h1, h2, h3⟩
    refine ⟨fun j hj => ⟨by rw [getD_get _ _ hj]; exact h2 _ (List.getElem_mem hj), fun h0 => ?_⟩, h1⟩
    rw [getD_get _ _ hj, getD_get _ _ (by omega)]
    exact List.pairwise_iff_getElem.1 h3 _ _ _ _ (by omega)
def endC (w h c : Int) : Int := next w h (c / 4) (c % 4)
def backC (w h c : Int) : Int := 4 * endC w h c + opp (c % 4)
def link (w h : Int) (b : List Int) (c : Int) : Prop := has w h b c ∧ has w h b (backC w h c)
instance (w h : Int) (b : List Int) (c : Int) : Decidable (link w h b c) := inferInstanceAs (Decidable (_ ∧ _))
theorem asc_length {n : Nat} : ∀ {b : List Int}, b.Pairwise (· < ·) → (∀ c ∈ b, 0 ≤ c ∧ c < (n : Int)) → b.length ≤ n := by
  intro b hb hc
  have key : ∀ (b : List Int) (lo : Int), b.Pairwise (· < ·) → (∀ c ∈ b, lo ≤ c ∧ c < (n : Int)) → 0 ≤ lo → (b.length : Int) ≤ max 0 (n - lo) := by
    intro b
    induction b with
    | nil => intro lo _ _ _; simp; omega
    | cons a l ih =>
      intro lo hp hm h0
      have h1 := hm a (by simp)
      have h2 := ih (a + 1) (List.pairwise_cons.1 hp).2 (fun c hc => ⟨by have := (List.pairwise_cons.1 hp).1 c hc; omega, (hm c (by simp [hc])).2⟩) (by omega)
      simp; omega
  have := key b 0 hb (fun c h => ⟨(hc c h).1, (hc c h).2⟩) (by omega)
  omega
def neg (s : List Int) : Nat := s.countP (· < 0)
theorem rd_set {s : List Int} {k x v : Int} (h0 : 0 ≤ k) (h1 : k < s.length) (hx : 0 ≤ x) : rd (s.set k.toNat v) x = if x = k then v else rd s x := by
  obtain ⟨i, rfl⟩ := Int.eq_ofNat_of_zero_le h0
  obtain ⟨j, rfl⟩ := Int.eq_ofNat_of_zero_le hx
  simp only [Int.toNat_natCast]
  by_cases hj : j < s.length
  · rw [rd_at (by simpa using hj), rd_at hj, List.getElem_set]
    by_cases e : i = j
    · subst e; simp
    · rw [if_neg e, if_neg (by omega)]
  · rw [if_neg (by omega)]
    simp [rd, hj]
theorem rd_neg_lt {s : List Int} {x : Int} (h0 : 0 ≤ x) (h : rd s x < 0) : x < s.length := by
  obtain ⟨j, rfl⟩ := Int.eq_ofNat_of_zero_le h0
  by_cases hj : j < s.length
  · omega
  · simp [rd, hj] at h
theorem neg_set {s : List Int} {k v : Int} (h0 : 0 ≤ k) (h1 : k < s.length) (h : rd s k < 0) (hv : 0 ≤ v) : neg (s.set k.toNat v) + 1 = neg s := by
  obtain ⟨i, rfl⟩ := Int.eq_ofNat_of_zero_le h0
  have hi : i < s.length := by omega
  rw [rd_at hi] at h
  unfold neg
  rw [Int.toNat_natCast, List.countP_set hi]
  have : 0 < s.countP (· < 0) := List.countP_pos_iff.2 ⟨_, List.getElem_mem hi, by simpa using h⟩
  rw [if_pos (by simpa using h), if_neg (by simp; omega)]
  omega
def vst (w h : Int) (b : List Int) (a d : Int) (x : List Int × List Int) (p : Nat) : List Int × List Int :=
  if link w h b (4 * a + p) ∧ rd x.1 (next w h a p) < 0 then (x.1.set (next w h a p).toNat d, x.2 ++ [next w h a p]) else x
def vis (w h : Int) (b : List Int) (a d : Int) (x : List Int × List Int) : List Int × List Int := (List.range 4).foldl (vst w h b a d) x
theorem link_next {w h : Int} {b : List Int} {a : Int} {p : Nat} (hp : p < 4) (h1 : link w h b (4 * a + p)) : isN w h a ∧ isN w h (next w h a p) ∧ endC w h (4 * a + p) = next w h a p := by
  obtain ⟨⟨⟨h2, h3⟩, _⟩, _⟩ := h1
  have e1 : (4 * a + (p : Int)) / 4 = a := by omega
  have e2 : (4 * a + (p : Int)) % 4 = p := by omega
  unfold endC
  rw [e1, e2] at h3 ⊢
  exact ⟨⟨by omega, by omega⟩, next_isN h3, rfl⟩
structure BExt (w h : Int) (d : Int) (x y : List Int × List Int) : Prop where
  len : y.1.length = x.1.length
  old : ∀ v, 0 ≤ v → 0 ≤ rd x.1 v → rd y.1 v = rd x.1 v
  new : ∀ v ∈ y.2, v ∈ x.2 ∨ (isN w h v ∧ rd y.1 v = d)
  sum : neg y.1 + y.2.length = neg x.1 + x.2.length
  pre : ∀ v ∈ x.2, v ∈ y.2
  low : (∀ v ∈ x.1, -1 ≤ v ∧ v ≤ d) → ∀ v ∈ y.1, -1 ≤ v ∧ v ≤ d
theorem BExt.rfl' {w h d : Int} {x : List Int × List Int} : BExt w h d x x := ⟨rfl, fun _ _ _ => rfl, fun _ h => .inl h, rfl, fun _ h => h, fun h => h⟩
theorem BExt.trans {w h d : Int} {x y z : List Int × List Int} (hd : 0 ≤ d) (a : BExt w h d x y) (b : BExt w h d y z) : BExt w h d x z where
  len := b.len.trans a.len
  old v h0 h1 := by
    have e := a.old v h0 h1
    rw [b.old v h0 (by omega), e]
  new v hv := by
    rcases b.new v hv with h1 | h1
    · rcases a.new v h1 with h2 | ⟨h2, h3⟩
      · exact .inl h2
      · exact .inr ⟨h2, by rw [b.old v h2.1 (by omega), h3]⟩
    · exact .inr h1
  sum := b.sum.trans a.sum
  pre v h := b.pre v (a.pre v h)
  low h := b.low (a.low h)
theorem vst_ext {w h : Int} {b : List Int} {a d : Int} {x : List Int × List Int} {p : Nat} (hp : p < 4) (hd : 0 ≤ d) : BExt w h d x (vst w h b a d x p) := by
  unfold vst
  by_cases hc : link w h b (4 * a + p) ∧ rd x.1 (next w h a p) < 0
  · rw [if_pos hc]
    obtain ⟨h1, h2, h3⟩ := link_next hp hc.1
    have h4 := rd_neg_lt h2.1 hc.2
    have := neg_set h2.1 h4 hc.2 hd
    refine ⟨by simp, fun v h0 h5 => ?_, fun v hv => ?_, by simp; omega, fun v hv => by simp [hv], fun hl v hv => ?_⟩
    · simp only
      rw [rd_set h2.1 h4 h0, if_neg (by intro e; subst e; omega)]
    · simp only [List.mem_append, List.mem_singleton] at hv
      rcases hv with hv | rfl
      · exact .inl hv
      · exact .inr ⟨h2, by simp only; rw [rd_set h2.1 h4 h2.1, if_pos rfl]⟩
    · rcases List.mem_or_eq_of_mem_set hv with h6 | rfl
      · exact hl v h6
      · omega
  · rw [if_neg hc]; exact BExt.rfl'
theorem foldl_ext {w h : Int} {b : List Int} {a d : Int} (hd : 0 ≤ d) : ∀ (l : List Nat) (x : List Int × List Int), (∀ p ∈ l, p < 4) → BExt w h d x (l.foldl (vst w h b a d) x)
  | [], x, _ => BExt.rfl'
  | p :: l, x, hp => (vst_ext (hp p (by simp)) hd).trans hd (foldl_ext hd l _ (fun q hq => hp q (by simp [hq])))
theorem vis_ext {w h : Int} {b : List Int} {a d : Int} (hd : 0 ≤ d) (x : List Int × List Int) : BExt w h d x (vis w h b a d x) := foldl_ext hd _ _ (by simp)
theorem vst_app {w h : Int} {b : List Int} {a d : Int} (s q q' : List Int) (p : Nat) : vst w h b a d (s, q ++ q') p = ((vst w h b a d (s, q') p).1, q ++ (vst w h b a d (s, q') p).2) := by
  unfold vst
  simp only
  split <;> simp
theorem foldl_app {w h : Int} {b : List Int} {a d : Int} (q : List Int) : ∀ (l : List Nat) (s q' : List Int), l.foldl (vst w h b a d) (s, q ++ q') = ((l.foldl (vst w h b a d) (s, q')).1, q ++ (l.foldl (vst w h b a d) (s, q')).2)
  | [], s, q' => rfl
  | p :: l, s, q' => by
    rw [List.foldl_cons, List.foldl_cons, vst_app]
    exact foldl_app q l _ _
theorem vis_app {w h : Int} {b : List Int} {a d : Int} (q s q' : List Int) : vis w h b a d (s, q ++ q') = ((vis w h b a d (s, q')).1, q ++ (vis w h b a d (s, q')).2) := foldl_app q _ _ _
inductive Run (w h : Int) (b : List Int) : List Int → List Int → List Int → Int → List Int → Prop
  | done (s : List Int) (d : Int) : Run w h b s [] [] d s
  | level {s : List Int} {x : Int} {nx : List Int} {d : Int} {r : List Int} : Run w h b s (x :: nx) [] (d + 1) r → Run w h b s [] (x :: nx) d r
  | node {s : List Int} {a : Int} {rest nx : List Int} {d : Int} {r : List Int} : Run w h b (vis w h b a d (s, nx)).1 rest (vis w h b a d (s, nx)).2 d r → Run w h b s (a :: rest) nx d r
structure Inv (w h : Int) (s rest nx : List Int) (d : Int) : Prop where
  len : (s.length : Int) = cnt w h
  fr : ∀ v ∈ rest, isN w h v ∧ rd s v = d - 1
  nw : ∀ v ∈ nx, isN w h v ∧ rd s v = d
  one : 1 ≤ d
  sum : d + neg s + nx.length ≤ cnt w h
  low : ∀ v ∈ s, -1 ≤ v ∧ v ≤ d
theorem Inv.level {w h : Int} {s nx : List Int} {x d : Int} (i : Inv w h s [] (x :: nx) d) : Inv w h s (x :: nx) [] (d + 1) :=
  ⟨i.len, fun v hv => ⟨(i.nw v hv).1, by have := (i.nw v hv).2; omega⟩, by simp, by have := i.one; omega, by have := i.sum; simp at this ⊢; omega, fun v hv => by have := i.low v hv; omega⟩
theorem Inv.node {w h : Int} {b s rest nx : List Int} {a d : Int} (i : Inv w h s (a :: rest) nx d) : Inv w h (vis w h b a d (s, nx)).1 rest (vis w h b a d (s, nx)).2 d := by
  have h1 := i.one
  have e := vis_ext (w := w) (h := h) (b := b) (a := a) (d := d) (by omega) (s, nx)
  refine ⟨by rw [e.len]; exact i.len, fun v hv => ?_, fun v hv => ?_, h1, ?_, e.low i.low⟩
  · obtain ⟨h2, h3⟩ := i.fr v (by simp [hv])
    exact ⟨h2, by rw [e.old v h2.1 (by simp only; omega)]; exact h3⟩
  · rcases e.new v hv with h2 | h2
    · obtain ⟨h3, h4⟩ := i.nw v h2
      exact ⟨h3, by rw [e.old v h3.1 (by simp only; omega)]; exact h4⟩
    · exact h2
  · have := e.sum; have := i.sum; simp only at *; omega
theorem run_ex {w h : Int} {b : List Int} : ∀ (m : Nat) (s rest nx : List Int) (d : Int), 3 * neg s + 2 * nx.length + rest.length ≤ m → Inv w h s rest nx d → ∃ r, Run w h b s rest nx d r := by
  intro m
  induction m with
  | zero =>
    intro s rest nx d hm i
    cases rest with
    | nil => cases nx with
      | nil => exact ⟨s, .done s d⟩
      | cons x nx => simp at hm
    | cons a rest => simp at hm
  | succ m ih =>
    intro s rest nx d hm i
    cases rest with
    | nil => cases nx with
      | nil => exact ⟨s, .done s d⟩
      | cons x nx =>
        obtain ⟨r, hr⟩ := ih s (x :: nx) [] (d + 1) (by simp at hm ⊢; omega) i.level
        exact ⟨r, .level hr⟩
    | cons a rest =>
      have e := (vis_ext (w := w) (h := h) (b := b) (a := a) (d := d) (by have := i.one; omega) (s, nx)).sum
      have e2 := (vis_ext (w := w) (h := h) (b := b) (a := a) (d := d) (by have := i.one; omega) (s, nx))
      have h1 : nx.length ≤ (vis w h b a d (s, nx)).2.length := by
        have := vis_app (w := w) (h := h) (b := b) (a := a) (d := d) nx s []
        rw [List.append_nil] at this; rw [this]; simp
      simp only at e
      obtain ⟨r, hr⟩ := ih (vis w h b a d (s, nx)).1 rest (vis w h b a d (s, nx)).2 d (by simp at hm; omega) i.node
      exact ⟨r, .node hr⟩
def start (w h root : Int) : List Int := (List.replicate (cnt w h).toNat (-1)).set root.toNat 0
theorem start_inv {w h root : Int} (hr : isN w h root) : Inv w h (start w h root) [root] [] 1 ∧ ((neg (start w h root) : Nat) : Int) + 1 = cnt w h := by
  have hc := cnt_range w h
  have hl : root < ((List.replicate (cnt w h).toNat (-1 : Int)).length : Int) := by have := hr.2; simp; omega
  have h0 : rd (List.replicate (cnt w h).toNat (-1 : Int)) root = -1 := by
    have := rd_mem hr.1 hl
    exact List.eq_of_mem_replicate this
  have h1 := neg_set (v := 0) hr.1 hl (by omega) (by omega)
  have h2 : neg (List.replicate (cnt w h).toNat (-1 : Int)) = (cnt w h).toNat := by unfold neg; simp [List.countP_replicate]
  rw [h2] at h1
  have h3 : ((neg (start w h root) : Nat) : Int) + 1 = cnt w h := by unfold start; omega
  refine ⟨⟨by unfold start; simp; omega, fun v hv => ?_, by simp, by omega, by simp; omega, fun v hv => ?_⟩, h3⟩
  · simp only [List.mem_singleton] at hv
    subst hv
    refine ⟨hr, ?_⟩
    unfold start; rw [rd_set hr.1 hl hr.1, if_pos rfl]; omega
  · rcases List.mem_or_eq_of_mem_set hv with h6 | rfl
    · have := List.eq_of_mem_replicate h6; omega
    · omega
theorem Run.inv {w h : Int} {b s rest nx : List Int} {d : Int} {r : List Int} (R : Run w h b s rest nx d r) : Inv w h s rest nx d → ∃ d', Inv w h r [] [] d' := by
  induction R with
  | done s d => exact fun i => ⟨d, i⟩
  | level _ ih => exact fun i => ih i.level
  | node _ ih => exact fun i => ih i.node
def rootOk (w h : Int) (b : List Int) (root : Int) : Prop := meshOk w h b ∧ isN w h root
instance (w h : Int) (b : List Int) (root : Int) : Decidable (rootOk w h b root) := inferInstanceAs (Decidable (_ ∧ _))
theorem run_start {w h : Int} (b : List Int) {root : Int} (hr : isN w h root) : ∃ r, Run w h b (start w h root) [root] [] 1 r := run_ex _ _ _ _ _ (Nat.le_refl _) (start_inv hr).1
noncomputable def depths (w h : Int) (b : List Int) (root : Int) : List Int := if H : rootOk w h b root then Classical.choose (run_start b H.2) else []
theorem depths_run {w h : Int} {b : List Int} {root : Int} (H : rootOk w h b root) : Run w h b (start w h root) [root] [] 1 (depths w h b root) := by
  unfold depths; rw [dif_pos H]; exact Classical.choose_spec (run_start b H.2)
theorem depths_no {w h : Int} {b : List Int} {root : Int} (H : ¬ rootOk w h b root) : depths w h b root = [] := dif_neg H
theorem depths_inv {w h : Int} {b : List Int} {root : Int} (H : rootOk w h b root) : (((depths w h b root).length : Nat) : Int) = cnt w h ∧ ∀ v ∈ depths w h b root, -1 ≤ v ∧ v ≤ 16 := by
  obtain ⟨d, i⟩ := (depths_run H).inv (start_inv H.2).1
  have hc := cnt_range w h
  refine ⟨i.len, fun v hv => ?_⟩
  have := i.low v hv; have := i.sum; omega
theorem depths_length (w h : Int) (b : List Int) (root : Int) : (depths w h b root).length ≤ 16 := by
  have hc := cnt_range w h
  by_cases H : rootOk w h b root
  · have := (depths_inv H).1; omega
  · rw [depths_no H]; simp
theorem depths_mem {w h : Int} {b : List Int} {root : Int} {v : Int} (hv : v ∈ depths w h b root) : -1 ≤ v ∧ v ≤ 16 := by
  by_cases H : rootOk w h b root
  · exact (depths_inv H).2 v hv
  · rw [depths_no H] at hv; simp at hv
theorem okG_isN {w h : Int} (h1 : okG w h) : isN w h 0 := by
  have := mul_small h1
  refine ⟨by omega, ?_⟩
  unfold cnt; rw [if_pos h1]; omega
def conn (w h : Int) (b : List Int) : Prop := meshOk w h b ∧ -1 ∉ depths w h b 0
noncomputable instance (w h : Int) (b : List Int) : Decidable (conn w h b) := inferInstanceAs (Decidable (_ ∧ _))
noncomputable def depthOf (w h : Int) (b : List Int) (root : Int) : Int := (depths w h b root).foldl max (-1)
noncomputable def better (w h : Int) (b : List Int) (best : Int) (root : Nat) : Int := if depthOf w h b (root : Int) < depthOf w h b best then (root : Int) else best
noncomputable def bestRoot (w h : Int) (b : List Int) : Int := if conn w h b then (List.range (cnt w h).toNat).foldl (better w h b) 0 else -1
theorem better_range {w h : Int} {b : List Int} {best : Int} {root : Nat} (h0 : 0 ≤ best) : 0 ≤ better w h b best root := by
  unfold better; split <;> omega
def toRoot (w h : Int) (b d : List Int) (i : Int) (p : Nat) : Prop := link w h b (4 * i + p) ∧ rd d (next w h i p) = rd d i - 1
instance (w h : Int) (b d : List Int) (i : Int) (p : Nat) : Decidable (toRoot w h b d i p) := inferInstanceAs (Decidable (_ ∧ _))
def par (w h : Int) (b d : List Int) (i : Int) : Int :=
  if rd d i > 0 then
    (if toRoot w h b d i 0 then next w h i (0 : Nat) else if toRoot w h b d i 1 then next w h i (1 : Nat) else if toRoot w h b d i 2 then next w h i (2 : Nat) else if toRoot w h b d i 3 then next w h i (3 : Nat) else -1)
  else -1
def pars (w h : Int) (b d : List Int) : List Int := (List.range d.length).map fun i : Nat => par w h b d (i : Int)
noncomputable def parents (w h : Int) (b : List Int) (root : Int) : List Int := pars w h b (depths w h b root)
theorem parents_length (w h : Int) (b : List Int) (root : Int) : (parents w h b root).length = (depths w h b root).length := by simp [parents, pars]
def Hi (d : Int) (x : List Int × List Int) : Prop := ∀ v ∈ x.1, v < d ∨ (v = d ∧ x.2 ≠ [])
theorem vst_hi {w h : Int} {b : List Int} {a d : Int} {x : List Int × List Int} {p : Nat} (hx : Hi d x) : Hi d (vst w h b a d x p) := by
  unfold vst
  split
  · intro v hv
    rcases List.mem_or_eq_of_mem_set hv with h6 | rfl
    · rcases hx v h6 with h7 | h7
      · exact .inl h7
      · exact .inr ⟨h7.1, by simp⟩
    · exact .inr ⟨rfl, by simp⟩
  · exact hx
theorem foldl_hi {w h : Int} {b : List Int} {a d : Int} : ∀ (l : List Nat) (x : List Int × List Int), Hi d x → Hi d (l.foldl (vst w h b a d) x)
  | [], x, hx => hx
  | p :: l, x, hx => foldl_hi l _ (vst_hi hx)
theorem Run.hi {w h : Int} {b s rest nx : List Int} {d : Int} {r : List Int} (R : Run w h b s rest nx d r) : Inv w h s rest nx d → Hi d (s, nx) → ∀ v ∈ r, v < cnt w h := by
  induction R with
  | done s d =>
    intro i hh v hv
    rcases hh v hv with h1 | h1
    · have := i.sum; simp at this; omega
    · exact absurd rfl h1.2
  | level _ ih =>
    exact fun i hh => ih i.level (fun v hv => by rcases hh v hv with h1 | h1 <;> exact .inl (by omega))
  | node _ ih => exact fun i hh => ih i.node (foldl_hi _ _ hh)
theorem depths_lt {w h : Int} {b : List Int} {root : Int} (H : rootOk w h b root) : ∀ v ∈ depths w h b root, v < cnt w h := by
  refine (depths_run H).hi (start_inv H.2).1 (fun v hv => ?_)
  have := (start_inv H.2).1.low v hv
  rcases List.mem_or_eq_of_mem_set hv with h6 | rfl
  · have := List.eq_of_mem_replicate h6; exact .inl (by omega)
  · exact .inl (by omega)
theorem par_cases (w h : Int) (b d : List Int) (i : Int) : par w h b d i = -1 ∨ ∃ p : Nat, p < 4 ∧ par w h b d i = next w h i p ∧ toRoot w h b d i p ∧ rd d i > 0 := by
  unfold par
  by_cases h0 : rd d i > 0
  · rw [if_pos h0]
    by_cases e0 : toRoot w h b d i 0
    · rw [if_pos e0]; exact .inr ⟨0, by omega, rfl, e0, h0⟩
    rw [if_neg e0]
    by_cases e1 : toRoot w h b d i 1
    · rw [if_pos e1]; exact .inr ⟨1, by omega, rfl, e1, h0⟩
    rw [if_neg e1]
    by_cases e2 : toRoot w h b d i 2
    · rw [if_pos e2]; exact .inr ⟨2, by omega, rfl, e2, h0⟩
    rw [if_neg e2]
    by_cases e3 : toRoot w h b d i 3
    · rw [if_pos e3]; exact .inr ⟨3, by omega, rfl, e3, h0⟩
    rw [if_neg e3]; exact .inl rfl
  · rw [if_neg h0]; exact .inl rfl
def Tree (t : List Int) (m : Int → Int) : Prop := ∀ i : Int, 0 ≤ i → i < t.length → m i < t.length ∧ (rd t i = -1 ∨ (0 ≤ rd t i ∧ rd t i < t.length ∧ 0 ≤ m (rd t i) ∧ m (rd t i) + 1 = m i))
theorem parents_tree {w h : Int} {b : List Int} {root : Int} (H : rootOk w h b root) : Tree (parents w h b root) (rd (depths w h b root)) := by
  have hl := parents_length w h b root
  obtain ⟨hc, _⟩ := depths_inv H
  intro i h0 h1
  have h2 : i < ((depths w h b root).length : Int) := by omega
  refine ⟨by have := depths_lt H _ (rd_mem h0 h2); omega, ?_⟩
  have e : rd (parents w h b root) i = par w h b (depths w h b root) i := by
    obtain ⟨j, rfl⟩ := Int.eq_ofNat_of_zero_le h0
    rw [rd_at (by omega)]; simp [parents, pars]
  rw [e]
  rcases par_cases w h b (depths w h b root) i with h3 | ⟨p, hp, h3, h4, h5⟩
  · exact .inl h3
  · obtain ⟨_, hn, _⟩ := link_next hp h4.1
    rw [h3]
    refine .inr ⟨hn.1, by have := hn.2; omega, ?_, ?_⟩
    · have := h4.2; omega
    · have := h4.2; omega

def inP (P : List Int) (a : Int) : Prop := 0 ≤ a ∧ a < P.length
instance (P : List Int) (a : Int) : Decidable (inP P a) := inferInstanceAs (Decidable (_ ∧ _))
@[simp] theorem inP_m1 (P : List Int) : inP P (-1) = False := by simp [inP]
def ancN (P : List Int) : Nat → Int → List Int → List Int
  | 0, a, out => if inP P a then [] else if a = -1 ∧ out ≠ [] then out else []
  | f + 1, a, out => if inP P a then ancN P f (rd P a) (out ++ [a]) else if a = -1 ∧ out ≠ [] then out else []
def anc (P : List Int) (a : Int) : List Int := ancN P P.length a []
theorem ancN_len (P : List Int) : ∀ f a out, (ancN P f a out).length ≤ out.length + f := by
  intro f
  induction f with
  | zero => intro a out; unfold ancN; repeat' split
            all_goals simp
  | succ f ih =>
    intro a out; unfold ancN; split
    · have := ih (rd P a) (out ++ [a]); simp at this; omega
    · split <;> simp
theorem anc_len (P : List Int) (a : Int) : (anc P a).length ≤ P.length := by have := ancN_len P P.length a []; simpa [anc] using this
theorem ancN_in (P : List Int) : ∀ f a out, (∀ x ∈ out, inP P x) → ∀ x ∈ ancN P f a out, inP P x := by
  intro f
  induction f with
  | zero => intro a out ho x hx; unfold ancN at hx; repeat' split at hx
            all_goals first | exact ho x hx | (simp at hx)
  | succ f ih =>
    intro a out ho x hx; unfold ancN at hx; split at hx
    · rename_i h1
      exact ih _ _ (fun y hy => by rcases List.mem_append.1 hy with hy | hy; exact ho y hy; rw [List.mem_singleton.1 hy]; exact h1) x hx
    · split at hx
      · exact ho x hx
      · simp at hx
theorem anc_in {P : List Int} {a x : Int} (h : x ∈ anc P a) : inP P x := ancN_in P P.length a [] (by simp) x h
def common (P : List Int) (a b : Int) : Int := ((anc P a).find? (fun x => decide (x ∈ anc P b))).getD (-1)
theorem common_no {P : List Int} {a b : Int} (h : ∀ x ∈ anc P a, x ∉ anc P b) : common P a b = -1 := by
  unfold common
  rw [List.find?_eq_none.2 (by simpa using h)]; rfl
theorem common_mem {P : List Int} {a b : Int} (h : 0 ≤ common P a b) : common P a b ∈ anc P a ∧ common P a b ∈ anc P b := by
  unfold common at h ⊢
  cases hf : (anc P a).find? (fun x => decide (x ∈ anc P b)) with
  | none => rw [hf] at h; simp at h
  | some u =>
    have h1 := List.mem_of_find?_eq_some hf
    have h2 := List.find?_some hf
    exact ⟨h1, by simpa using h2⟩
/-- the nodes of the way through the tree -/
def treeNodes (P : List Int) (a b : Int) : List Int :=
  if common P a b < 0 then [] else (anc P a).take ((anc P a).idxOf (common P a b) + 1) ++ ((anc P b).take ((anc P b).idxOf (common P a b))).reverse
theorem find_at {l : List Int} {q : Int → Bool} {j : Nat} (h : j < l.length) (hq : ∀ x ∈ l.take j, q x = false) (hx : q l[j] = true) : l.find? q = some l[j] := by
  have e : l = l.take j ++ (l[j] :: l.drop (j + 1)) := by rw [← List.drop_eq_getElem_cons h, List.take_append_drop]
  have e2 := congrArg (List.find? q) e
  rw [e2, List.find?_append, List.find?_eq_none.2 (by simpa using hq), List.find?_cons_of_pos hx]; rfl
def chain (t : List Int) : Nat → Int → List Int
  | 0, _ => []
  | k + 1, v => if inP t v then v :: chain t k (rd t v) else []
def Ends (t : List Int) : Nat → Int → Prop
  | 0, v => v = -1
  | k + 1, v => v = -1 ∨ (inP t v ∧ Ends t k (rd t v))
theorem Tree.ends {t : List Int} {m : Int → Int} (T : Tree t m) : ∀ (k : Nat) (v : Int), 0 ≤ v → v < t.length → m v < k → (0 ≤ m v ∨ 0 < k) → Ends t k v := by
  intro k
  induction k with
  | zero => intro v h0 h1 h2 h3; omega
  | succ k ih =>
    intro v h0 h1 h2 _
    refine .inr ⟨⟨h0, h1⟩, ?_⟩
    rcases (T v h0 h1).2 with h3 | ⟨h3, h4, h5, h6⟩
    · rw [h3]; cases k <;> simp [Ends]
    · exact ih _ h3 h4 (by omega) (.inl h5)
theorem ancN_chain {t : List Int} : ∀ (k : Nat) (v : Int) (out : List Int), Ends t k v → (out ≠ [] ∨ (0 ≤ v ∧ v < t.length)) → ancN t k v out = out ++ chain t k v := by
  intro k
  induction k with
  | zero =>
    intro v out he ho
    have he : v = -1 := he
    subst he
    have ho : out ≠ [] := ho.resolve_right (by omega)
    simp [ancN, chain, ho]
  | succ k ih =>
    intro v out he ho
    rcases he with rfl | ⟨h1, h2⟩
    · have ho : out ≠ [] := ho.resolve_right (by omega)
      simp [ancN, chain, ho]
    · simp only [ancN, chain]
      rw [if_pos h1, if_pos h1, ih _ _ h2 (.inl (by simp))]
      simp
theorem chain_any {t : List Int} : ∀ (k k' : Nat) (v : Int), Ends t k v → Ends t k' v → chain t k v = chain t k' v := by
  intro k
  induction k with
  | zero =>
    intro k' v h1 h2
    have h1 : v = -1 := h1
    subst h1
    cases k' with
    | zero => rfl
    | succ k' => simp [chain]
  | succ k ih =>
    intro k' v h1 h2
    cases k' with
    | zero => have h2 : v = -1 := h2
              subst h2; simp [chain]
    | succ k' =>
      rcases h1 with rfl | ⟨h1, h3⟩
      · simp [chain]
      · rcases h2 with rfl | ⟨_, h4⟩
        · simp at h1
        · simp only [chain]; rw [if_pos h1, if_pos h1, ih _ _ h3 h4]
theorem anc_cons {t : List Int} {m : Int → Int} (T : Tree t m) {v : Int} (h0 : 0 ≤ v) (h1 : v < t.length) : anc t v = v :: (if rd t v = -1 then [] else anc t (rd t v)) := by
  have hE : ∀ u : Int, 0 ≤ u → u < t.length → Ends t t.length u := fun u a b => T.ends t.length u a b (T u a b).1 (.inr (by omega))
  have e : ∀ u : Int, 0 ≤ u → u < t.length → anc t u = chain t t.length u := fun u a b => by
    have := ancN_chain t.length u [] (hE u a b) (.inr ⟨a, b⟩); simpa [anc] using this
  rw [e v h0 h1]
  obtain ⟨n, hn⟩ : ∃ n, t.length = n + 1 := ⟨t.length - 1, by omega⟩
  have h2 := hE v h0 h1
  rw [hn] at h2 ⊢
  rcases h2 with h2 | ⟨_, h3⟩
  · omega
  simp only [chain]
  rw [if_pos (show inP t v from ⟨h0, h1⟩)]
  rcases (T v h0 h1).2 with h4 | ⟨h4, h5, _, _⟩
  · rw [if_pos h4, h4]; cases n <;> simp [chain]
  · rw [if_neg (by omega), e _ h4 h5, chain_any n t.length _ h3 (hE _ h4 h5)]
theorem anc_suffix {t : List Int} {m : Int → Int} (T : Tree t m) : ∀ (n : Nat) (v : Int), 0 ≤ v → v < t.length → m v < n → ∀ u ∈ anc t v, (0 ≤ u ∧ u < t.length) ∧ ∃ l, anc t v = l ++ anc t u ∧ ∀ x ∈ l, m u < m x := by
  intro n
  induction n with
  | zero =>
    intro v h0 h1 h2 u hu
    rw [anc_cons T h0 h1] at hu ⊢
    rcases (T v h0 h1).2 with h4 | ⟨h4, h5, h6, h7⟩
    · rw [if_pos h4] at hu ⊢
      simp only [List.mem_singleton] at hu; subst hu
      refine ⟨⟨h0, h1⟩, [], ?_, by simp⟩
      rw [anc_cons T h0 h1, if_pos h4]; rfl
    · omega
  | succ n ih =>
    intro v h0 h1 h2 u hu
    rcases (T v h0 h1).2 with h4 | ⟨h4, h5, h6, h7⟩
    · have e := anc_cons T h0 h1
      rw [if_pos h4] at e
      rw [e] at hu
      simp only [List.mem_singleton] at hu; subst hu
      exact ⟨⟨h0, h1⟩, [], rfl, by simp⟩
    · have e := anc_cons T h0 h1
      rw [if_neg (by omega)] at e
      rw [e] at hu
      rcases List.mem_cons.1 hu with rfl | hu
      · exact ⟨⟨h0, h1⟩, [], rfl, by simp⟩
      · obtain ⟨hb, l, e1, hx⟩ := ih _ h4 h5 (by omega) u hu
        refine ⟨hb, v :: l, by rw [e, e1]; rfl, fun x hx' => ?_⟩
        have hle : m u ≤ m (rd t v) := by
          cases l with
          | nil =>
            have e2 := anc_cons T h4 h5
            have e3 := anc_cons T hb.1 hb.2
            rw [List.nil_append] at e1
            rw [e1, e3] at e2
            have := (List.cons.inj e2).1
            rw [this]; omega
          | cons y l =>
            have e2 := anc_cons T h4 h5
            rw [e1, List.cons_append] at e2
            have e4 := (List.cons.inj e2).1
            have := hx y (by simp)
            rw [e4] at this; omega
        rcases List.mem_cons.1 hx' with rfl | hx'
        · omega
        · exact hx x hx'

end Go.Proofs.Ytnakhkfgheapoaa.V
/-! Ancestors. -/
set_option linter.all false
namespace Go.Proofs.Ytnakhkfgheapoaa.V
open Go Go.VM Go.Proofs
set_option maxRecDepth 10000
variable {frz : Nat} {H : Heap}
theorem sAnc_c (v : Value) (P : List Int) (a : Int) (hI : IsI H v P) (hl : P.length ≤ 1073741823) :
   vcall C frz 70 [v, .int .i64 a] H = some (.slice (some ⟨H.length, 0, some 0⟩) (anc P a).length 0, H ++ [⟨(anc P a).map (.int .i64), 0, 3⟩]) := by
  rw [vcall_go (fn := Try.f70) Try.func70 rfl (by kernel_rfl) rfl]
  simp
  refine go_inv (fun n t H' => ∃ (o : List Int) (g : Nat) (x : Int) (G : Heap), n = P.length - o.length ∧ t 0 = v ∧ t 5 = .slice (some ⟨H.length, 0, some g⟩) o.length 0 ∧ t 6 = .int .i64 x ∧
    H' = H ++ ⟨o.map (.int .i64), g, 3⟩ :: G ∧ o.length ≤ P.length ∧ ancN P (P.length - o.length) x o = anc P a) ?_ (n := P.length) ⟨[], 0, a, [], by simp [anc]⟩
  rintro n t H' ⟨o, g, x, G, rfl, h0, h5, h6, rfl, ho, hw⟩ ih
  have hin : inR 0 x (IntKind.i64.wrap ((P.length : Int) - 1)) ↔ inP P x := by
    rw [w64 (by omega) (by omega)]; simp only [inR, inP]; omega
  simp [h0, h5, h6, hI.lenA, l01In_c, inside_c, hin]
  refine br_dec _ ?_ ?_ <;> intro hx
  · simp [h0, h5, h6, hI.lenA]
    refine br_dec _ ?_ ?_ <;> intro hf
    · have hz : anc P a = [] := by
        rw [← hw, show P.length - o.length = 0 by omega, ancN, if_pos hx]
      simp [h0, h5, h6, hz]
    · have q1 : ∀ L, vindexAddr Try.prog (H ++ L) 22 v (.int .i64 x) = some (elp v x.toNat) := fun L => hI.idxA (e := 3) (by simp) hx.1 hx.2
      have q2 : ∀ L, vload Try.prog (H ++ L) 3 (elp v x.toNat) = some (.int .i64 (rd P x)) := fun L => hI.loadA (by simp) (by have := hx.1; have := hx.2; omega)
      simp [h0, h5, h6]
      refine vneed_eq (by omega) ?_
      simp [h0, h5, h6, q1, q2]
      refine ih (P.length - (o.length + 1)) _ _ ⟨o ++ [x], g + 1, rd P x, _, by simp, by simp [h0], by simp, by simp, by simp; rfl, by simp; omega, ?_⟩ (by omega)
      rw [show P.length - o.length = (P.length - (o ++ [x]).length) + 1 by simp; omega, ancN, if_pos hx] at hw
      exact hw
  · have hz : anc P a = if x = -1 ∧ o ≠ [] then o else [] := by
      rw [← hw]; cases P.length - o.length <;> simp only [ancN, if_neg hx]
    simp [h0, h5, h6]
    refine gd_dec _ _ ?_ ?_ <;> intro h1
    · simp [h0, h5, h6, h1]
      by_cases ho0 : o = []
      · simp [h0, h5, h6, h1, ho0, hz]
      · have : o.length ≠ 0 := fun hh => ho0 (List.length_eq_zero_iff.1 hh)
        simp [h0, h5, h6, h1, ho0, hz]
    · simp [h0, h5, h6, h1, hz]
theorem anc_c (v : Value) (P : List Int) (a : Int) (hI : IsI H v P) (hl : P.length ≤ 1073741823) :
   vcall C frz 29 [v, .int .i64 a] H = some (if anc P a = [] then (.slice none 0 0, H) else (.slice (some ⟨H.length, 0, some 0⟩) (anc P a).length 0, H ++ [⟨(anc P a).map (.int .i64), 0, 3⟩])) := by
  rw [vcall_go (fn := Try.f29) Try.func29 rfl (by kernel_rfl) rfl]
  simp
  refine go_inv (fun n t H' => ∃ (o : List Int) (g : Nat) (x : Int) (G : Heap), n = P.length - o.length ∧ t 0 = v ∧ t 5 = .slice (some ⟨H.length, 0, some g⟩) o.length 0 ∧ t 6 = .int .i64 x ∧
    H' = H ++ ⟨o.map (.int .i64), g, 3⟩ :: G ∧ o.length ≤ P.length ∧ ancN P (P.length - o.length) x o = anc P a) ?_ (n := P.length) ⟨[], 0, a, [], by simp [anc]⟩
  rintro n t H' ⟨o, g, x, G, rfl, h0, h5, h6, rfl, ho, hw⟩ ih
  have hin : inR 0 x (IntKind.i64.wrap ((P.length : Int) - 1)) ↔ inP P x := by
    rw [w64 (by omega) (by omega)]; simp only [inR, inP]; omega
  simp [h0, h5, h6, hI.lenA, l01In_c, inside_c, hin]
  have hz : ¬ inP P x → anc P a = if x = -1 ∧ o ≠ [] then o else [] := fun hx => by
    rw [← hw]; cases P.length - o.length <;> simp only [ancN, if_neg hx]
  have hm : ¬ inP P (-1) := fun hh => by have := hh.1; omega
  refine gd_dec _ _ ?_ ?_ <;> intro h1
  · have hx : ¬ inP P x := h1 ▸ hm
    by_cases ho0 : o = []
    · have := hz hx
      simp [ho0] at this
      have hm' : ¬ inR 0 (-1) (IntKind.i64.wrap ((P.length : Int) - 1)) := fun hh => by have := hh.1; omega
      simp [h0, h5, h6, h1, ho0, hI.lenA, inside_c, hm', this]
    · have hol : o.length ≠ 0 := fun hh => ho0 (List.length_eq_zero_iff.1 hh)
      have := hz hx
      simp [h1, ho0] at this
      simp [h0, h5, h6, h1, ho0, this]
  · simp [h0, h5, h6, h1, hI.lenA, inside_c, hin]
    refine gd_dec _ _ ?_ ?_ <;> intro hx
    · simp [h0, h5, h6, hx, hI.lenA]
      refine br_dec _ ?_ ?_ <;> intro hf
      · have hz' : anc P a = [] := by
          rw [← hw, show P.length - o.length = 0 by omega, ancN, if_pos hx]
        simp [h0, h5, h6, hz']
      · have q1 : ∀ L, vindexAddr Try.prog (H ++ L) 22 v (.int .i64 x) = some (elp v x.toNat) := fun L => hI.idxA (e := 3) (by simp) hx.1 hx.2
        have q2 : ∀ L, vload Try.prog (H ++ L) 3 (elp v x.toNat) = some (.int .i64 (rd P x)) := fun L => hI.loadA (by simp) (by have := hx.1; have := hx.2; omega)
        simp [h0, h5, h6]
        refine vneed_eq (by omega) ?_
        simp [h0, h5, h6, q1, q2]
        refine ih (P.length - (o.length + 1)) _ _ ⟨o ++ [x], g + 1, rd P x, _, by simp, by simp [h0], by simp, by simp, by simp; rfl, by simp; omega, ?_⟩ (by omega)
        rw [show P.length - o.length = (P.length - (o ++ [x]).length) + 1 by simp; omega, ancN, if_pos hx] at hw
        exact hw
    · have := hz hx
      simp [h1] at this
      simp [h0, h5, h6, hx, this]
end Go.Proofs.Ytnakhkfgheapoaa.V
/-! CommonAncestor, Reverse; marks. -/
set_option linter.all false
namespace Go.Proofs.Ytnakhkfgheapoaa.V
open Go Go.VM Go.Proofs
set_option maxRecDepth 10000
variable {frz : Nat} {H : Heap}
theorem made_ret {xs : List Int} {r : Option (Value × Heap)} (h : r = some (if xs = [] then (.slice none 0 0, H) else (.slice (some ⟨H.length, 0, some 0⟩) xs.length 0, H ++ [⟨xs.map (.int .i64), 0, 3⟩]))) : wp r (Made Fl.int 3 H xs) := by
  subst h
  by_cases hx : xs = []
  · simp [hx]; exact ⟨[], by simp, .inl ⟨rfl, rfl⟩, by simp⟩
  · simp [hx]
    exact ⟨_, rfl, Ow.new0 rfl (cellsOf_int xs).symm (by simp) rfl, by simp⟩
theorem made_row {xs : List Int} {r : Option (Value × Heap)} (h : r = some (.slice (some ⟨H.length, 0, some 0⟩) xs.length 0, H ++ [⟨xs.map (.int .i64), 0, 3⟩])) : wp r (Made Fl.int 3 H xs) := by
  subst h
  simp
  exact ⟨_, rfl, Ow.new0 rfl (cellsOf_int xs).symm (by simp) rfl, by simp⟩
theorem anc_w (v : Value) (P : List Int) (a : Int) (hI : IsI H v P) (hl : P.length ≤ 1073741823) : wp (vcall C frz 29 [v, .int .i64 a] H) (Made Fl.int 3 H (anc P a)) := made_ret (anc_c v P a hI hl)
theorem sAnc_w (v : Value) (P : List Int) (a : Int) (hI : IsI H v P) (hl : P.length ≤ 1073741823) : wp (vcall C frz 70 [v, .int .i64 a] H) (Made Fl.int 3 H (anc P a)) := made_row (sAnc_c v P a hI hl)
theorem common_at {P : List Int} {a b : Int} {i : Nat} (h : i < (anc P a).length) (h1 : ∀ x ∈ (anc P a).take i, x ∉ anc P b) (h2 : (anc P a)[i] ∈ anc P b) : common P a b = (anc P a)[i] := by
  unfold common
  rw [find_at h (by simpa using h1) (by simpa using h2)]; rfl
theorem take_succ_no {xs : List Int} {p : Int → Prop} {i : Nat} (h : i < xs.length) (h1 : ∀ x ∈ xs.take i, p x) (h2 : p xs[i]) : ∀ x ∈ xs.take (i + 1), p x := by
  rw [List.take_succ_eq_append_getElem h]
  intro x hx
  rcases List.mem_append.1 hx with hx | hx
  · exact h1 x hx
  · rw [List.mem_singleton.1 hx]; exact h2
theorem common_w (v : Value) (P : List Int) (a b : Int) (hI : IsI H v P) (hl : P.length ≤ 1073741823) :
   wp (vcall C frz 26 [v, .int .i64 a, .int .i64 b] H) (fun r _ => r = .int .i64 (common P a b)) := by
  rw [vcall_go (fn := Try.f26) Try.func26 rfl (by kernel_rfl) rfl]
  simp
  refine wp_thn (anc_w v P b hI hl) ?_
  rintro vb _ ⟨L1, rfl, ob, nb⟩
  simp
  refine wp_thn (anc_w v P a (hI.app _) hl) ?_
  rintro va _ ⟨L2, rfl, oa, na⟩
  have ob := (ob.app (L := L2)).rd.isI
  have oa := oa.rd.isI
  have hla := anc_len P a
  have hlb := anc_len P b
  simp only [List.append_assoc] at oa ob
  simp [oa.len]
  refine wp_inv (fun n t H' => ∃ i : Nat, n = (anc P a).length - i ∧ i ≤ (anc P a).length ∧ t 7 = vb ∧ t 15 = va ∧ t 16 = .int .i64 (anc P a).length ∧ t 17 = .int .i64 i ∧ H' = H ++ (L1 ++ L2) ∧ ∀ x ∈ (anc P a).take i, x ∉ anc P b) ?_ (n := (anc P a).length) ⟨0, by simp⟩
  rintro n t H' ⟨i, rfl, hi, h7, h15, h16, h17, rfl, hj⟩ ih
  simp [h7, h15, h16, h17]
  refine wp_dec ?_ ?_ <;> intro h5
  · simp [h7, h15, h16, h17, h5, oa.idx, oa.load, getD_get, contains_c _ _ _ ob (by omega)]
    refine wp_dec ?_ ?_ <;> intro h6
    · simp [h7, h15, h16, h17, h5, h6]
      exact (common_at h5 hj h6).symm
    · simp [h7, h15, h16, h17, h5, h6]
      refine ih ((anc P a).length - (i + 1)) _ _ ⟨i + 1, rfl, by omega, by simp [h7], by simp [h15], by simp [h16], ?_, rfl, take_succ_no h5 hj h6⟩ (by omega)
      simp; rw [w64 (by omega) (by omega)]
  · have : i = (anc P a).length := by omega
    subst this
    simp
    rw [List.take_length] at hj
    rw [common_no hj]
theorem common_c (v : Value) (P : List Int) (a b : Int) (hI : IsI H v P) (hl : P.length ≤ 1073741823) : vcall C frz 26 [v, .int .i64 a, .int .i64 b] H = some (.int .i64 (common P a b), H) :=
  (common_w v P a b hI hl).exact (by simp) rfl
theorem sCommon_w (v : Value) (P : List Int) (a b : Int) (hI : IsI H v P) (hl : P.length ≤ 1073741823) :
   wp (vcall C frz 69 [v, .int .i64 a, .int .i64 b] H) (fun r _ => r = .int .i64 (common P a b)) := by
  rw [vcall_go (fn := Try.f69) Try.func69 rfl (by kernel_rfl) rfl]
  simp
  refine wp_thn (sAnc_w v P a hI hl) ?_
  rintro va _ ⟨L1, rfl, oa, na⟩
  simp
  refine wp_thn (sAnc_w v P b (hI.app _) hl) ?_
  rintro vb _ ⟨L2, rfl, ob, nb⟩
  have oa := (oa.app (L := L2)).rd.isI
  have ob := ob.rd.isI
  have hla := anc_len P a
  have hlb := anc_len P b
  simp only [List.append_assoc] at oa ob
  simp
  refine wp_inv (fun n t H' => ∃ i : Nat, n = (anc P a).length - i ∧ i ≤ (anc P a).length ∧ t 7 = va ∧ t 8 = vb ∧ t 9 = .int .i64 i ∧ H' = H ++ (L1 ++ L2) ∧ ∀ x ∈ (anc P a).take i, x ∉ anc P b) ?_ (n := (anc P a).length) ⟨0, by simp⟩
  rintro n t H' ⟨i, rfl, hi, h7, h8, h9, rfl, hj⟩ ih
  simp [h7, h8, h9, oa.len]
  refine wp_dec ?_ ?_ <;> intro h5
  · simp [h7, h8, h9, h5, oa.idx, oa.load, getD_get, find_c _ _ _ ob (by omega)]
    refine wp_dec ?_ ?_ <;> intro h6
    · simp [h7, h8, h9, h5, h6, oa.idx, oa.load, getD_get]
      exact (common_at h5 hj h6).symm
    · simp [h7, h8, h9, h5, h6]
      refine ih ((anc P a).length - (i + 1)) _ _ ⟨i + 1, rfl, by omega, by simp [h7], by simp [h8], ?_, rfl, take_succ_no h5 hj h6⟩ (by omega)
      simp; rw [w64 (by omega) (by omega)]
  · have : i = (anc P a).length := by omega
    subst this
    simp
    rw [List.take_length] at hj
    rw [common_no hj]
theorem sCommon_c (v : Value) (P : List Int) (a b : Int) (hI : IsI H v P) (hl : P.length ≤ 1073741823) : vcall C frz 69 [v, .int .i64 a, .int .i64 b] H = some (.int .i64 (common P a b), H) :=
  (sCommon_w v P a b hI hl).exact (by simp) rfl

/-- xs, of which the first i and the last i are exchanged -/
def flip (xs : List Int) (i : Nat) : List Int := (List.range xs.length).map fun j => if j < i ∨ xs.length - i ≤ j then rd xs ((xs.length - 1 - j : Nat) : Int) else rd xs (j : Int)
theorem flip_len (xs : List Int) (i : Nat) : (flip xs i).length = xs.length := by simp [flip]
theorem flip_get (xs : List Int) (i j : Nat) (h : j < xs.length) : (flip xs i)[j]'(by rw [flip_len]; exact h) = if j < i ∨ xs.length - i ≤ j then xs[xs.length - 1 - j] else xs[j] := by
  simp only [flip, List.getElem_map, List.getElem_range]
  split
  · rw [rd_at (by omega)]
  · rw [rd_at h]
theorem flip_zero (xs : List Int) : flip xs 0 = xs := by
  apply List.ext_getElem (flip_len _ _)
  intro j h1 h2
  rw [flip_get _ _ _ h2, if_neg (by omega)]
theorem flip_end (xs : List Int) (i : Nat) (h : xs.length ≤ 2 * i + 1) : flip xs i = xs.reverse := by
  apply List.ext_getElem (by rw [flip_len, List.length_reverse])
  intro j h1 h2
  rw [flip_get _ _ _ (by simpa using h2), List.getElem_reverse]
  split
  · rfl
  · congr 1; rw [List.length_reverse] at h2; omega
theorem flip_succ (xs : List Int) (i : Nat) (h : 2 * i + 1 < xs.length) : ((flip xs i).set i ((flip xs i)[xs.length - 1 - i]'(by rw [flip_len]; omega))).set (xs.length - 1 - i) ((flip xs i)[i]'(by rw [flip_len]; omega)) = flip xs (i + 1) := by
  apply List.ext_getElem (by simp [flip_len])
  intro j h1 h2
  rw [flip_len] at h2
  rw [List.getElem_set, List.getElem_set, flip_get _ _ _ h2, flip_get _ _ _ (by omega), flip_get _ _ _ (by omega), flip_get _ _ _ h2]
  by_cases e1 : xs.length - 1 - i = j
  · subst e1
    rw [if_pos rfl, if_neg (by omega), if_pos (by omega)]
    congr 1; omega
  · by_cases e2 : i = j
    · subst e2
      rw [if_neg e1, if_pos rfl, if_neg (by omega), if_pos (by omega)]
    · rw [if_neg e1, if_neg e2]
      by_cases e3 : j < i ∨ xs.length - i ≤ j
      · rw [if_pos e3, if_pos (by omega)]
      · rw [if_neg e3, if_neg (by omega)]
theorem reverse_w (v : Value) (xs : List Int) (e : TypeId) (h : Ow Fl.int e H v xs) (hl : xs.length ≤ 1073741824) (hf : ∀ i ∈ ids v, frz ≤ i) :
   wp (vcall C frz 72 [v] H) (fun _ H' => Ow Fl.int e H' v xs.reverse ∧ Chg H H' (ids v) ∧ H'.length = H.length) := by
  rw [vcall_go (fn := Try.f72) Try.func72 rfl (by kernel_rfl) rfl]
  simp [h.rd.len]
  refine wp_inv (fun n t H' => ∃ i : Nat, n = xs.length - i ∧ i ≤ xs.length ∧ t 0 = v ∧ t 2 = .int .i64 i ∧ t 3 = .int .i64 (xs.length - 1 - i) ∧ 2 * i ≤ xs.length + 1 ∧ Ow Fl.int e H' v (flip xs i) ∧ Chg H H' (ids v) ∧ H'.length = H.length) ?_ (n := xs.length)
    ⟨0, by simp, by omega, by simp, by simp, by simp; exact w64 (by omega) (by omega), by omega, by rw [flip_zero]; exact h, Chg.refl _, rfl⟩
  rintro n t H' ⟨i, rfl, hi, h0, h2, h3, h2i, o, c, l⟩ ih
  simp [h0, h2, h3]
  refine wp_dec ?_ ?_ <;> intro h5
  · have i1 := o.rd.isI
    have fl := flip_len xs i
    have e1 : ((xs.length : Int) - 1 - i).toNat = xs.length - 1 - i := by omega
    have e2 : ((xs.length : Int) - 1 - i) = ((xs.length - 1 - i : Nat) : Int) := by omega
    rw [e2] at h3
    simp [h0, h2, h3, h5]
    rw [go_draw (h := by kernel_rfl)]
    have p1 : i < (flip xs i).length := by omega
    have p2 : xs.length - 1 - i < (flip xs i).length := by omega
    simp [h0, h2, h3, h5, i1.idx, i1.load, p1, p2, getD_get]
    obtain ⟨H1, s1, o1, c1, l1⟩ := o.put1 (P := Try.prog) (frz := frz) rfl (et := 3) (ag := false) (by simp) p1 (x := .int .i64 ((flip xs i)[xs.length - 1 - i])) rfl rfl rfl hf
    have i2 := o1.rd.isI
    have p3 : xs.length - 1 - i < ((flip xs i).set i (flip xs i)[xs.length - 1 - i]).length := by simp; omega
    obtain ⟨H2, s2, o2, c2, l2⟩ := o1.put1 (P := Try.prog) (frz := frz) rfl (et := 3) (ag := false) (by simp) p3 (x := .int .i64 ((flip xs i)[i])) rfl rfl rfl hf
    simp [s1, h0, h2, h3, i2.idx, p2, s2]
    refine ih (xs.length - (i + 1)) _ _ ⟨i + 1, rfl, by omega, by simp [h0], ?_, ?_, by omega, ?_, c.trans (c1.trans c2), by omega⟩ (by omega)
    · simp; rw [w64 (by omega) (by omega)]
    · simp; rw [w64 (by omega) (by omega)]; omega
    · rw [flip_succ xs i (by omega)] at o2; exact o2
  · simp
    exact ⟨by rw [← flip_end xs i (by omega)]; exact o, c, l⟩
/-- marks -/
def marks (k : Int) (n : Nat) : List Int := (List.range n).map fun i : Nat => k + (i : Int)
@[simp] theorem marks_len (k : Int) (n : Nat) : (marks k n).length = n := by simp [marks]
theorem marks_succ (k : Int) (n : Nat) : marks k (n + 1) = marks k n ++ [k + n] := by simp [marks, List.range_succ]
theorem marks_get (k : Int) (n i : Nat) (h : i < n) : (marks k n)[i]'(by simpa using h) = k + i := by simp [marks]
theorem marks_set (k : Int) (xs : List Int) (i : Nat) (h : i < xs.length) : (marks k i ++ xs.drop i).set i (k + i) = marks k (i + 1) ++ xs.drop (i + 1) := by
  rw [List.set_append_right _ _ (by simp), marks_len, Nat.sub_self, List.drop_eq_getElem_cons h, List.set_cons_zero, marks_succ]; simp
theorem markIntS_w (v : Value) (xs : List Int) (e : TypeId) (k : Int) (h : Ow Fl.int e H v xs) (hl : xs.length ≤ 1073741824) (hk : 0 ≤ k ∧ k ≤ 4611686018427387904) (hf : ∀ i ∈ ids v, frz ≤ i) :
   wp (vcall C frz 19 [v, .int .i64 k] H) (fun r H' => r = .int .i64 (k + xs.length) ∧ Ow Fl.int e H' v (marks k xs.length) ∧ Chg H H' (ids v) ∧ H'.length = H.length) := by
  rw [vcall_go (fn := Try.f19) Try.func19 rfl (by kernel_rfl) rfl]
  simp
  refine wp_inv (fun n t H' => ∃ i : Nat, n = xs.length - i ∧ i ≤ xs.length ∧ t 0 = v ∧ t 1 = .int .i64 (k + i) ∧ t 5 = .int .i64 i ∧ Ow Fl.int e H' v (marks k i ++ xs.drop i) ∧ Chg H H' (ids v) ∧ H'.length = H.length) ?_ (n := xs.length)
    ⟨0, by simp, by omega, by simp, by simp, by simp, by simpa [marks] using h, Chg.refl _, rfl⟩
  rintro n t H' ⟨i, rfl, hi, h0, h1, h5, o, c, l⟩ ih
  have hlen : (marks k i ++ xs.drop i).length = xs.length := by simp; omega
  simp [h0, h1, h5, o.rd.len, hlen]
  have e1 : (i : Int) + ((xs.length - i : Nat) : Int) = xs.length := by omega
  refine wp_dec ?_ ?_ <;> intro h6
  · have i1 := o.rd.isI
    have p1 : i < (marks k i ++ xs.drop i).length := by omega
    obtain ⟨H1, s1, o1, c1, l1⟩ := o.put1 (P := Try.prog) (frz := frz) rfl (et := 3) (ag := false) (by simp) p1 (x := .int .i64 (k + i)) rfl rfl rfl hf
    have q1 := i1.idx (P := Try.prog) (ty := 22) (e := 3) (by simp) (i := (i : Int)) (by omega) (by omega)
    simp only [Int.toNat_natCast] at q1
    simp [h0, h1, h5, q1, s1]
    refine ih (xs.length - (i + 1)) _ _ ⟨i + 1, rfl, by omega, by simp [h0], ?_, ?_, ?_, c.trans c1, by omega⟩ (by omega)
    · simp; rw [w64 (by omega) (by omega)]; omega
    · simp; rw [w64 (by omega) (by omega)]
    · rw [marks_set _ _ _ (by omega)] at o1; exact o1
  · have : i = xs.length := by omega
    subst this
    simp [h0, h1, h5]
    exact ⟨by simpa using o, c, l⟩
theorem heldIntS_c (v : Value) (n : Nat) (k : Int) (h : IsI H v (marks k n)) (hl : n ≤ 1073741824) (hk : 0 ≤ k ∧ k ≤ 4611686018427387904) :
   vcall C frz 20 [v, .int .i64 k] H = some (.int .i64 (k + n), H) := by
  rw [vcall_go (fn := Try.f20) Try.func20 rfl (by kernel_rfl) rfl]
  simp
  refine go_inv (fun m t H' => ∃ i : Nat, m = n - i ∧ i ≤ n ∧ t 0 = v ∧ t 1 = .int .i64 (k + i) ∧ t 5 = .int .i64 i ∧ H' = H) ?_ (n := n) ⟨0, by simp⟩
  rintro m t H' ⟨i, rfl, hi, h0, h1, h5, rfl⟩ ih
  simp [h0, h1, h5, h.len]
  refine br_dec _ ?_ ?_ <;> intro h6
  · have q1 := h.idx (P := Try.prog) (ty := 22) (e := 3) (by simp) (i := (i : Int)) (by omega) (by simpa using h6)
    have q2 := h.load (P := Try.prog) (e := 3) (by simp) (j := i) (by simpa using h6)
    rw [getD_get _ _ (by simpa using h6), marks_get _ _ _ h6] at q2
    simp only [Int.toNat_natCast] at q1
    simp [h0, h1, h5, h6, q1, q2]
    refine ih (n - (i + 1)) _ _ ⟨i + 1, rfl, by omega, by simp [h0], ?_, ?_, rfl⟩ (by omega)
    · simp; rw [w64 (by omega) (by omega)]; omega
    · simp; rw [w64 (by omega) (by omega)]
  · have : i = n := by omega
    subst this
    simp [h0, h1, h5]
end Go.Proofs.Ytnakhkfgheapoaa.V
/-! Sorting: lists of numbers whose elements change places. -/
set_option linter.all false
namespace Go.Proofs.Ytnakhkfgheapoaa.V
open Go Go.VM Go.Proofs
def G (xs : List Int) (i : Nat) : Int := xs.getD i 0
theorem G_get {xs : List Int} {i : Nat} (h : i < xs.length) : G xs i = xs[i] := by simp [G, List.getD_eq_getElem?_getD, h]
def swp (xs : List Int) (i j : Nat) : List Int := (xs.set i (G xs j)).set j (G xs i)
@[simp] theorem swp_len (xs : List Int) (i j : Nat) : (swp xs i j).length = xs.length := by simp [swp]
theorem G_swp {xs : List Int} {i j : Nat} (hi : i < xs.length) (hj : j < xs.length) (k : Nat) : G (swp xs i j) k = if k = j then G xs i else if k = i then G xs j else G xs k := by
  unfold swp
  by_cases hk : k < xs.length
  · rw [G_get (by simpa using hk), List.getElem_set, List.getElem_set]
    by_cases h1 : k = j
    · rw [if_pos h1.symm, if_pos h1]
    · rw [if_neg (Ne.symm h1), if_neg h1]
      by_cases h2 : k = i
      · rw [if_pos h2.symm, if_pos h2]
      · rw [if_neg (Ne.symm h2), if_neg h2, G_get hk]
  · rw [if_neg (by omega), if_neg (by omega)]
    simp [G, List.getD_eq_getElem?_getD, hk]
theorem swp_perm {xs : List Int} {i j : Nat} (hi : i < xs.length) (hj : j < xs.length) : (swp xs i j).Perm xs := by
  unfold swp
  rw [G_get hi, G_get hj]
  exact List.set_set_perm hi hj
/-- elements of [a, b) have changed places -/
inductive Sw (a b : Nat) (xs : List Int) : List Int → Prop
  | refl : Sw a b xs xs
  | step {ys : List Int} (i j : Nat) (h : Sw a b xs ys) (hi : a ≤ i ∧ i < b) (hj : a ≤ j ∧ j < b) : Sw a b xs (swp ys i j)
variable {a b c d : Nat} {xs ys zs : List Int}
theorem Sw.len (h : Sw a b xs ys) : ys.length = xs.length := by
  induction h with
  | refl => rfl
  | step i j _ _ _ ih => rw [swp_len, ih]
theorem Sw.trans (h : Sw a b xs ys) (h' : Sw a b ys zs) : Sw a b xs zs := by
  induction h' with
  | refl => exact h
  | step i j _ hi hj ih => exact .step i j ih hi hj
theorem Sw.mono (h : Sw a b xs ys) (ha : c ≤ a) (hb : b ≤ d) : Sw c d xs ys := by
  induction h with
  | refl => exact .refl
  | step i j _ hi hj ih => exact .step i j ih (by omega) (by omega)
theorem Sw.perm (h : Sw a b xs ys) (hb : b ≤ xs.length) : ys.Perm xs := by
  induction h with
  | refl => exact List.Perm.refl _
  | step i j g hi hj ih => exact (swp_perm (by rw [g.len]; omega) (by rw [g.len]; omega)).trans ih
theorem Sw.out (h : Sw a b xs ys) (hb : b ≤ xs.length) {k : Nat} (hk : k < a ∨ b ≤ k) : G ys k = G xs k := by
  induction h with
  | refl => rfl
  | step i j g hi hj ih => rw [G_swp (by rw [g.len]; omega) (by rw [g.len]; omega), if_neg (by omega), if_neg (by omega), ih]
theorem Sw.all (h : Sw a b xs ys) (hb : b ≤ xs.length) {p : Int → Prop} (hp : ∀ k, a ≤ k → k < b → p (G xs k)) : ∀ k, a ≤ k → k < b → p (G ys k) := by
  induction h with
  | refl => exact hp
  | step i j g hi hj ih =>
    intro k h1 h2
    rw [G_swp (by rw [g.len]; omega) (by rw [g.len]; omega)]
    split
    · exact ih i hi.1 hi.2
    · split
      · exact ih j hj.1 hj.2
      · exact ih k h1 h2
/-- a larger window that holds the changed one -/
theorem Sw.all' (h : Sw a b xs ys) (hb : b ≤ xs.length) {p : Int → Prop} (hc : c ≤ a) (hd : b ≤ d) (hp : ∀ k, c ≤ k → k < d → p (G xs k)) : ∀ k, c ≤ k → k < d → p (G ys k) := by
  intro k h1 h2
  by_cases hk : a ≤ k ∧ k < b
  · exact h.all hb (fun q g1 g2 => hp q (by omega) (by omega)) k hk.1 hk.2
  · rw [h.out hb (by omega)]; exact hp k h1 h2
/-- sorted in [a, b) -/
def Srt (ys : List Int) (a b : Nat) : Prop := ∀ p q, a ≤ p → p < q → q < b → G ys p ≤ G ys q
theorem Srt.short (h : b ≤ a + 1) : Srt ys a b := fun p q h1 h2 h3 => by omega
theorem Srt.frame (h : Srt ys a b) (he : ∀ k, a ≤ k → k < b → G zs k = G ys k) : Srt zs a b := fun p q h1 h2 h3 => by
  rw [he p h1 (by omega), he q (by omega) h3]; exact h p q h1 h2 h3
/-- sorted parts, the left one below the right one -/
theorem Srt.join (h1 : Srt ys a b) (h2 : Srt ys b c) (h : ∀ p q, a ≤ p → p < b → b ≤ q → q < c → G ys p ≤ G ys q) : Srt ys a c := fun p q h3 h4 h5 => by
  by_cases hq : q < b
  · exact h1 p q h3 h4 hq
  · by_cases hp : p < b
    · exact h p q h3 hp (by omega) h5
    · exact h2 p q (by omega) h4 h5
theorem Srt.pairwise (h : Srt ys 0 ys.length) : ys.Pairwise (· ≤ ·) := by
  rw [List.pairwise_iff_getElem]
  intro i j hi hj hij
  have := h i j (Nat.zero_le _) hij hj
  rwa [G_get hi, G_get hj] at this
/-- insertion: sorted up to i, but for the element at j -/
def Ins (ys : List Int) (a i j : Nat) : Prop := ∀ p q, a ≤ p → p < q → q ≤ i → q ≠ j → G ys p ≤ G ys q
theorem Ins.start (h : Srt ys a b) : Ins ys a b b := fun p q h1 h2 h3 h4 => h p q h1 h2 (by omega)
theorem Ins.step {i j : Nat} (h : Ins ys a i j) (hi : i < ys.length) (ha : a < j) (hj : j ≤ i) (hlt : G ys j < G ys (j - 1)) : Ins (swp ys j (j - 1)) a i (j - 1) := by
  intro p q h1 h2 h3 h4
  rw [G_swp (by omega) (by omega), G_swp (by omega) (by omega)]
  rw [if_neg h4]
  by_cases hp : p = j - 1
  · rw [if_pos hp]
    by_cases hq : q = j
    · rw [if_pos hq]; omega
    · rw [if_neg hq]; have := h (j - 1) q (by omega) (by omega) h3 hq; omega
  · rw [if_neg hp]
    by_cases hpj : p = j
    · rw [if_pos hpj]
      rw [if_neg (by omega)]
      exact h (j - 1) q (by omega) (by omega) h3 (by omega)
    · rw [if_neg hpj]
      by_cases hq : q = j
      · rw [if_pos hq]; exact h p (j - 1) h1 (by omega) (by omega) (by omega)
      · rw [if_neg hq]; exact h p q h1 h2 h3 hq
theorem Ins.done {i j : Nat} (h : Ins ys a i j) (hj : j = a ∨ (a < j ∧ G ys (j - 1) ≤ G ys j)) : Srt ys a (i + 1) := by
  intro p q h1 h2 h3
  by_cases hq : q = j
  · subst hq
    rcases hj with hj | ⟨hj, hle⟩
    · omega
    · by_cases hp : p = q - 1
      · rw [hp]; exact hle
      · have := h p (q - 1) h1 (by omega) (by omega) (by omega); omega
  · exact h p q h1 h2 (by omega) hq
/-- heaps: f is the first place, n the size; lo the least root -/
def Hp (ys : List Int) (f lo n : Nat) : Prop := ∀ r c, lo ≤ r → (c = 2 * r + 1 ∨ c = 2 * r + 2) → c < n → G ys (f + c) ≤ G ys (f + r)
/-- a heap but for the root r -/
def HpB (ys : List Int) (f lo n r : Nat) : Prop :=
  (∀ s c, lo ≤ s → s ≠ r → (c = 2 * s + 1 ∨ c = 2 * s + 2) → c < n → G ys (f + c) ≤ G ys (f + s)) ∧
  (∀ s c, lo ≤ s → (r = 2 * s + 1 ∨ r = 2 * s + 2) → (c = 2 * r + 1 ∨ c = 2 * r + 2) → c < n → G ys (f + c) ≤ G ys (f + s))
theorem HpB.start {f lo n : Nat} (h : Hp ys f (lo + 1) n) : HpB ys f lo n lo :=
  ⟨fun s c h1 h2 h3 h4 => h s c (by omega) h3 h4, fun s c h1 h2 => by omega⟩
theorem HpB.done {f lo n r : Nat} (h : HpB ys f lo n r) (hd : ∀ c, (c = 2 * r + 1 ∨ c = 2 * r + 2) → c < n → G ys (f + c) ≤ G ys (f + r)) : Hp ys f lo n := fun s c h1 h2 h3 => by
  by_cases hs : s = r
  · subst hs; exact hd c h2 h3
  · exact h.1 s c h1 hs h2 h3
theorem HpB.step {f lo n r c : Nat} (h : HpB ys f lo n r) (hl : f + n ≤ ys.length) (hlo : lo ≤ r) (hc : c = 2 * r + 1 ∨ c = 2 * r + 2) (hn : c < n) (hlt : G ys (f + r) < G ys (f + c))
    (hbig : ∀ q, (q = 2 * r + 1 ∨ q = 2 * r + 2) → q < n → G ys (f + q) ≤ G ys (f + c)) : HpB (swp ys (f + r) (f + c)) f lo n c := by
  have gc : G (swp ys (f + r) (f + c)) (f + c) = G ys (f + r) := by rw [G_swp (by omega) (by omega), if_pos rfl]
  have gr : G (swp ys (f + r) (f + c)) (f + r) = G ys (f + c) := by rw [G_swp (by omega) (by omega), if_neg (by omega), if_pos rfl]
  have go : ∀ k, k ≠ c → k ≠ r → G (swp ys (f + r) (f + c)) (f + k) = G ys (f + k) := fun k h1 h2 => by rw [G_swp (by omega) (by omega), if_neg (by omega), if_neg (by omega)]
  refine ⟨fun s q h1 h2 h3 h4 => ?_, fun s q h1 h2 h3 h4 => ?_⟩
  · by_cases hq : q = c
    · have hs : s = r := by omega
      subst hq hs
      rw [gc, gr]; omega
    · by_cases hs : s = r
      · subst hs
        rw [gr, go q hq (by omega)]
        exact hbig q h3 h4
      · by_cases hqr : q = r
        · subst hqr
          rw [gr, go s h2 hs]
          exact h.2 s c h1 h3 hc hn
        · rw [go q hq hqr, go s h2 hs]; exact h.1 s q h1 hs h3 h4
  · have hs : s = r := by omega
    subst hs
    rw [gr, go q (by omega) (by omega)]
    exact h.1 c q (by omega) (by omega) h3 h4
theorem Hp.top {f n : Nat} (h : Hp ys f 0 n) : ∀ c, c < n → G ys (f + c) ≤ G ys f := by
  intro c
  induction c using Nat.strongRecOn with
  | _ c ih =>
    intro hc
    by_cases h0 : c = 0
    · subst h0; exact Int.le_refl _
    · have h1 := h ((c - 1) / 2) c (by omega) (by omega) hc
      have h2 := ih ((c - 1) / 2) (by omega) (by omega)
      omega
theorem Hp.frame {f lo n : Nat} (h : Hp ys f lo n) (he : ∀ k, lo ≤ k → k < n → G zs (f + k) = G ys (f + k)) : Hp zs f lo n := fun r c h1 h2 h3 => by
  rw [he c (by omega) h3, he r h1 (by omega)]; exact h r c h1 h2 h3
end Go.Proofs.Ytnakhkfgheapoaa.V
/-! Sorting: cmp.Less, insertion sort, heap sort. -/
set_option linter.all false
namespace Go.Proofs.Ytnakhkfgheapoaa.V
open Go Go.VM Go.Proofs
set_option maxRecDepth 10000
variable {frz : Nat} {H : Heap} {v : Value} {xs : List Int} {e : TypeId}
theorem ow_ix (o : Ow Fl.int e H v xs) {i : Nat} (h1 : i < xs.length) : vindexAddr Try.prog H 22 v (.int .i64 i) = some (elp v i) := by
  have := o.rd.isI.idx (P := Try.prog) (ty := 22) (e := 3) (by simp) (i := (i : Int)) (by omega) (by omega)
  simpa using this
theorem ow_ld (o : Ow Fl.int e H v xs) {i : Nat} (h1 : i < xs.length) : vload Try.prog H 3 (elp v i) = some (.int .i64 (G xs i)) :=
  o.rd.isI.load (P := Try.prog) (e := 3) (by simp) h1
theorem ow_swap (o : Ow Fl.int e H v xs) {i j : Nat} (hi : i < xs.length) (hj : j < xs.length) (hf : ∀ i ∈ ids v, frz ≤ i) :
    ∃ H1 H2, vstore Try.prog frz H 3 (.int .i64 (G xs j)) (elp v i) = some H1 ∧ (∀ k : Nat, k < xs.length → vindexAddr Try.prog H1 22 v (.int .i64 k) = some (elp v k)) ∧
      vstore Try.prog frz H1 3 (.int .i64 (G xs i)) (elp v j) = some H2 ∧ Ow Fl.int e H2 v (swp xs i j) ∧ Chg H H2 (ids v) ∧ H2.length = H.length := by
  obtain ⟨H1, s1, o1, c1, l1⟩ := o.put1 (P := Try.prog) (frz := frz) rfl (et := 3) (ag := false) (by simp) hi (x := .int .i64 (G xs j)) (y := G xs j) rfl rfl rfl hf
  obtain ⟨H2, s2, o2, c2, l2⟩ := o1.put1 (P := Try.prog) (frz := frz) rfl (et := 3) (ag := false) (by simp) (j := j) (by simpa using hj) (x := .int .i64 (G xs i)) (y := G xs i) rfl rfl rfl hf
  exact ⟨H1, H2, s1, fun k hk => ow_ix o1 (by simpa using hk), s2, o2, c1.trans c2, by omega⟩
/-- what a sorting step leaves: elements of [a, b) have changed places, nothing else has changed -/
def Swd (H : Heap) (v : Value) (xs : List Int) (e : TypeId) (a b : Nat) (K : List Int → Prop) (H' : Heap) : Prop :=
  ∃ ys, Sw a b xs ys ∧ K ys ∧ Ow Fl.int e H' v ys ∧ Chg H H' (ids v) ∧ H'.length = H.length
theorem less_c (a b : Int) : vcall C frz 158 [.int .i64 a, .int .i64 b] H = some (.bool (decide (a < b)), H) := by
  have nan := fun (F : Nat) (H : Heap) (a : Int) => show vcall C F 171 [.int .i64 a] H = some (.bool false, H) by
    rw [vcall_go (fn := Try.f171) Try.func171 rfl (by kernel_rfl) rfl]
    simp
  rw [vcall_go (fn := Try.f158) Try.func158 rfl (by kernel_rfl) rfl]
  simp [nan]
theorem insSort_w (v : Value) (xs : List Int) (e : TypeId) (a b : Nat) (h : Ow Fl.int e H v xs) (hab : a ≤ b) (hb : b ≤ xs.length) (hl : xs.length ≤ 1073741824) (hf : ∀ i ∈ ids v, frz ≤ i) :
   wp (vcall C frz 152 [v, .int .i64 a, .int .i64 b] H) (fun _ H' => Swd H v xs e a b (fun ys => Srt ys a b) H') := by
  rw [vcall_go (fn := Try.f152) Try.func152 rfl (by kernel_rfl) rfl]
  simp
  refine wp_inv (fun n t H' => ∃ i : Nat, n = b - i ∧ t 0 = v ∧ t 1 = .int .i64 a ∧ t 2 = .int .i64 b ∧ t 6 = .int .i64 i ∧ a + 1 ≤ i ∧ i ≤ max (a + 1) b ∧ Swd H v xs e a b (fun ys => Srt ys a i) H') ?_ (n := b - (a + 1))
    ⟨a + 1, by simp, by simp, by simp, by simp, by simp; exact w64 (by omega) (by omega), by omega, by omega, xs, .refl, Srt.short (by omega), h, Chg.refl _, rfl⟩
  rintro n t H' ⟨i, rfl, h0, h1, h2, h6, ha, hi, ys, sw, sr, o, c, l⟩ ih
  simp [h0, h1, h2, h6]
  refine wp_dec ?_ ?_ <;> intro hib
  · simp [h0, h1, h2, h6]
    refine wp_inv (fun n t H' => ∃ j : Nat, n = j ∧ t 0 = v ∧ t 1 = .int .i64 a ∧ t 2 = .int .i64 b ∧ t 6 = .int .i64 i ∧ t 7 = .int .i64 j ∧ a ≤ j ∧ j ≤ i ∧ Swd H v xs e a b (fun ys => Ins ys a i j) H') ?_ (n := i)
      ⟨i, rfl, by simp [h0], by simp [h1], by simp [h2], by simp [h6], by simp, by omega, by omega, ys, sw, Ins.start sr, o, c, l⟩
    rintro j t H' ⟨_, rfl, h0, h1, h2, h6, h7, haj, hji, ys, sw, ins, o, c, l⟩ ih2
    have len := sw.len
    simp [h0, h1, h2, h6, h7]
    rw [go_draw (h := by kernel_rfl)]
    simp [h0, h1, h2, h6, h7]
    refine wpg_dec ?_ ?_ <;> intro hja
    · have e1 : IntKind.i64.wrap ((j : Int) - 1) = ((j - 1 : Nat) : Int) := by rw [w64 (by omega) (by omega)]; omega
      have p1 : j < ys.length := by omega
      have p2 : j - 1 < ys.length := by omega
      simp [h0, h1, h2, h6, h7, hja, e1, ow_ix o p1, ow_ix o p2, ow_ld o p1, ow_ld o p2, less_c]
      have out : ∀ t' : Env, t' 0 = v → t' 1 = .int .i64 a → t' 2 = .int .i64 b → t' 6 = .int .i64 (IntKind.i64.wrap ((i : Int) + 1)) → (j = a ∨ (a < j ∧ G ys (j - 1) ≤ G ys j)) →
          ∃ i' : Nat, b - (i + 1) = b - i' ∧ t' 0 = v ∧ t' 1 = .int .i64 a ∧ t' 2 = .int .i64 b ∧ t' 6 = .int .i64 i' ∧ a + 1 ≤ i' ∧ i' ≤ max (a + 1) b ∧ Swd H v xs e a b (fun ys => Srt ys a i') H' := by
        intro t' g0 g1 g2 g6 hj
        exact ⟨i + 1, rfl, g0, g1, g2, by rw [g6, w64 (by omega) (by omega)]; simp, by omega, by omega, ys, sw, ins.done hj, o, c, l⟩
      refine wp_dec ?_ ?_ <;> intro hlt
      · simp [h0, h1, h2, h6, h7]
        rw [go_draw (h := by kernel_rfl)]
        obtain ⟨H1, H2, s1, ix, s2, o2, c2, l2⟩ := ow_swap o p1 p2 hf
        simp [h0, h1, h2, h6, h7, e1, ow_ix o p1, ow_ix o p2, ow_ld o p1, ow_ld o p2, s1, ix _ p1, ix _ p2, s2]
        refine ih2 (j - 1) _ _ ⟨j - 1, rfl, by simp [h0], by simp [h1], by simp [h2], by simp [h6], by simp [e1], by omega, by omega, _, sw.step j (j - 1) (by omega) (by omega), ?_, o2, c.trans c2, by omega⟩ (by omega)
        exact ins.step (by omega) hja hji hlt
      · simp [h0, h1, h2, h6, h7]
        refine ih (b - (i + 1)) _ _ (out _ ?_ ?_ ?_ ?_ (.inr ⟨hja, by omega⟩)) (by omega) <;> simp [h0, h1, h2]
    · simp [h0, h1, h2, h6, h7, hja]
      refine ih (b - (i + 1)) _ _ ⟨i + 1, rfl, by simp [h0], by simp [h1], by simp [h2], ?_, by omega, by omega, ys, sw, ins.done (.inl (by omega)), o, c, l⟩ (by omega)
      simp; exact w64 (by omega) (by omega)
  · have : i = max (a + 1) b := by omega
    simp
    exact ⟨ys, sw, fun p q h1 h2 h3 => sr p q h1 h2 (by omega), o, c, l⟩
theorem siftDown_w (v : Value) (xs : List Int) (e : TypeId) (lo n f : Nat) (h : Ow Fl.int e H v xs) (hp : Hp xs f (lo + 1) n) (hlo : lo ≤ n) (hn : f + n ≤ xs.length) (hl : xs.length ≤ 1073741824) (hf : ∀ i ∈ ids v, frz ≤ i) :
   wp (vcall C frz 166 [v, .int .i64 lo, .int .i64 n, .int .i64 f] H) (fun _ H' => Swd H v xs e (f + lo) (f + n) (fun ys => Hp ys f lo n) H') := by
  rw [vcall_go (fn := Try.f166) Try.func166 rfl (by kernel_rfl) rfl]
  simp
  refine wp_inv (fun m t H' => ∃ r : Nat, m = n - r ∧ t 0 = v ∧ t 2 = .int .i64 n ∧ t 3 = .int .i64 f ∧ t 8 = .int .i64 r ∧ lo ≤ r ∧ r ≤ n ∧ Swd H v xs e (f + lo) (f + n) (fun ys => HpB ys f lo n r) H') ?_ (n := n - lo)
    ⟨lo, rfl, by simp, by simp, by simp, by simp, by omega, by omega, xs, .refl, HpB.start hp, h, Chg.refl _, rfl⟩
  rintro m t H' ⟨r, rfl, h0, h2, h3, h8, hlr, hrn, ys, sw, hb, o, c, l⟩ ih
  have len := sw.len
  obtain ⟨c1, hc1⟩ : ∃ c1, c1 = 2 * r + 1 := ⟨_, rfl⟩
  obtain ⟨c2, hc2⟩ : ∃ c2, c2 = 2 * r + 2 := ⟨_, rfl⟩
  obtain ⟨d0, hd0⟩ : ∃ d0, d0 = f + r := ⟨_, rfl⟩
  obtain ⟨d1, hd1⟩ : ∃ d1, d1 = f + c1 := ⟨_, rfl⟩
  obtain ⟨d2, hd2⟩ : ∃ d2, d2 = f + c2 := ⟨_, rfl⟩
  have e1 : IntKind.i64.wrap (IntKind.i64.wrap (2 * (r : Int)) + 1) = (c1 : Int) := by rw [w64 (x := 2 * (r : Int)) (by omega) (by omega), w64 (by omega) (by omega)]; omega
  simp [h0, h2, h3, h8, e1]
  refine wp_dec ?_ ?_ <;> intro hc
  · simp
    exact ⟨ys, sw, hb.done (fun q h1 h2 => by omega), o, c, l⟩
  · have e2 : IntKind.i64.wrap ((c1 : Int) + 1) = (c2 : Int) := by rw [w64 (by omega) (by omega)]; omega
    have e3 : IntKind.i64.wrap ((f : Int) + (c1 : Int)) = (d1 : Int) := by rw [w64 (by omega) (by omega)]; omega
    have e4 : IntKind.i64.wrap ((d1 : Int) + 1) = (d2 : Int) := by rw [w64 (by omega) (by omega)]; omega
    have e5 : IntKind.i64.wrap ((f : Int) + (r : Int)) = (d0 : Int) := by rw [w64 (by omega) (by omega)]; omega
    have p0 : d0 < ys.length := by omega
    have p1 : d1 < ys.length := by omega
    refine (fun (rest : ∀ (q : Nat) (t' : Env), (q = 2 * r + 1 ∨ q = 2 * r + 2) → q < n → (∀ p, (p = 2 * r + 1 ∨ p = 2 * r + 2) → p < n → G ys (f + p) ≤ G ys (f + q)) →
       t' 0 = v → t' 2 = .int .i64 n → t' 3 = .int .i64 f → t' 8 = .int .i64 r → t' 9 = .int .i64 q → wp (go ?F ?k .normal t' H') ?Q) => ?main) ?rest
    case main =>
      simp [h0, h2, h3, h8, hc, e2]
      rw [go_draw (h := by kernel_rfl)]
      simp [h0, h2, h3, h8, e2]
      refine wpg_dec ?_ ?_ <;> intro g1
      · have p2 : d2 < ys.length := by omega
        simp [h0, h2, h3, h8, e2, g1, e3, e4, ow_ix o p1, ow_ix o p2, ow_ld o p1, ow_ld o p2, less_c]
        refine wp_dec ?_ ?_ <;> intro g2 <;> simp [e2]
        · refine rest c2 _ (.inr hc2) g1 (fun p g3 g4 => ?_) ?_ ?_ ?_ ?_ ?_ <;> try simp [h0, h2, h3, h8]
          rw [← hd2]
          rcases g3 with g3 | g3
          · rw [g3, ← hc1, ← hd1]; omega
          · rw [g3, ← hc2, ← hd2]; omega
        · refine rest c1 _ (.inl hc1) (by omega) (fun p g3 g4 => ?_) ?_ ?_ ?_ ?_ ?_ <;> try simp [h0, h2, h3, h8]
          rw [← hd1]
          rcases g3 with g3 | g3
          · rw [g3, ← hc1, ← hd1]; omega
          · rw [g3, ← hc2, ← hd2]; omega
      · simp [h0, h2, h3, h8, e2, g1]
        refine rest c1 _ (.inl hc1) (by omega) (fun p g3 g4 => ?_) ?_ ?_ ?_ ?_ ?_ <;> try simp [h0, h2, h3, h8]
        have : p = c1 := by omega
        rw [this]; omega
    case rest =>
      intro q t hq hqn hbig h0 h2 h3 h8 h9
      obtain ⟨dq, hdq⟩ : ∃ dq, dq = f + q := ⟨_, rfl⟩
      have e6 : IntKind.i64.wrap ((f : Int) + (q : Int)) = (dq : Int) := by rw [w64 (by omega) (by omega)]; omega
      have pq : dq < ys.length := by omega
      rw [← hdq] at hbig
      rw [go_draw (h := by kernel_rfl)]
      simp [h0, h2, h3, h8, h9, e5, e6, ow_ix o p0, ow_ix o pq, ow_ld o p0, ow_ld o pq, less_c]
      refine wp_dec ?_ ?_ <;> intro g1
      · simp [h0, h2, h3, h8, h9]
        rw [go_draw (h := by kernel_rfl)]
        obtain ⟨H1, H2, s1, ix, s2, o2, c3, l2⟩ := ow_swap o p0 pq hf
        simp [h0, h2, h3, h8, h9, e5, e6, ow_ix o p0, ow_ix o pq, ow_ld o p0, ow_ld o pq, s1, ix _ p0, ix _ pq, s2]
        refine ih (n - q) _ _ ⟨q, rfl, by simp [h0], by simp [h2], by simp [h3], by simp, by omega, by omega, _, sw.step d0 dq (by omega) (by omega), ?_, o2, c.trans c3, by omega⟩ (by omega)
        subst hd0 hdq
        exact hb.step (by omega) hlr hq hqn g1 hbig
      · simp
        subst hd0 hdq
        exact ⟨ys, sw, hb.done (fun p g3 g4 => by have := hbig p g3 g4; omega), o, c, l⟩
theorem heapSort_w (v : Value) (xs : List Int) (e : TypeId) (a b : Nat) (h : Ow Fl.int e H v xs) (hab : a < b) (hb : b ≤ xs.length) (hl : xs.length ≤ 1073741824) (hf : ∀ i ∈ ids v, frz ≤ i) :
   wp (vcall C frz 153 [v, .int .i64 a, .int .i64 b] H) (fun _ H' => Swd H v xs e a b (fun ys => Srt ys a b) H') := by
  rw [vcall_go (fn := Try.f153) Try.func153 rfl (by kernel_rfl) rfl]
  obtain ⟨n, hn⟩ : ∃ n, n = b - a := ⟨_, rfl⟩
  have e1 : IntKind.i64.wrap ((b : Int) - a) = (n : Int) := by rw [w64 (by omega) (by omega)]; omega
  have e2 : IntKind.i64.wrap ((n : Int) - 1) = ((n - 1 : Nat) : Int) := by rw [w64 (by omega) (by omega)]; omega
  have e3 : IntKind.i64.wrap (((n - 1 : Nat) : Int) / 2) = (((n - 1) / 2 + 1 : Nat) : Int) - 1 := by rw [w64 (by omega) (by omega)]; omega
  have e4 : ((n : Int) - 1) = ((n - 1 : Nat) : Int) := by omega
  have hbn : a + n = b := by omega
  simp [e1, e2, e3]
  refine wp_inv (fun m t H' => ∃ k : Nat, m = k ∧ t 0 = v ∧ t 6 = .int .i64 a ∧ t 7 = .int .i64 0 ∧ t 8 = .int .i64 n ∧ t 9 = .int .i64 ((k : Int) - 1) ∧ k ≤ n ∧ Swd H v xs e a b (fun ys => Hp ys a k n) H') ?_ (n := (n - 1) / 2 + 1)
    ⟨(n - 1) / 2 + 1, rfl, by simp, by simp, by simp, by simp, by simp, by omega, xs, .refl, fun r c h1 h2 h3 => by omega, h, Chg.refl _, rfl⟩
  rintro k t H' ⟨_, rfl, h0, h6, h7, h8, h9, hkn, ys, sw, hp, o, c, l⟩ ih
  have len := sw.len
  simp [h0, h6, h7, h8, h9]
  refine wp_dec ?_ ?_ <;> intro hk
  · obtain ⟨k, rfl⟩ : ∃ k', k = k' + 1 := ⟨k - 1, by omega⟩
    have e5 : ((k + 1 : Nat) : Int) - 1 = (k : Int) := by omega
    rw [e5] at h9
    simp [h0, h6, h7, h8, h9]
    refine wp_thn (siftDown_w v ys e k n a o hp (by omega) (by omega) (by omega) hf) ?_
    rintro _ H1 ⟨zs, sw1, hp1, o1, c1, l1⟩
    simp [h0, h6, h7, h8, h9]
    refine ih k _ _ ⟨k, rfl, by simp [h0], by simp [h6], by simp [h7], by simp [h8], ?_, by omega, zs, sw.trans (sw1.mono (by omega) (by omega)), hp1, o1, c.trans c1, by omega⟩ (by omega)
    simp; rw [w64 (by omega) (by omega)]
  · obtain rfl : k = 0 := by omega
    simp [h0, h6, h7, h8, h9, e2]
    refine wp_inv (fun m t H' => ∃ k : Nat, m = k ∧ t 0 = v ∧ t 6 = .int .i64 a ∧ t 7 = .int .i64 0 ∧ t 10 = .int .i64 ((k : Int) - 1) ∧ k ≤ n ∧
        Swd H v xs e a b (fun ys => Hp ys a 0 k ∧ Srt ys (a + k) b ∧ ∀ p q, a ≤ p → p < a + k → a + k ≤ q → q < b → G ys p ≤ G ys q) H') ?_ (n := n)
      ⟨n, rfl, by simp [h0], by simp [h6], by simp [h7], by simp [e4], by omega, ys, sw, ⟨hp, Srt.short (by omega), fun p q h1 h2 h3 h4 => by omega⟩, o, c, l⟩
    clear ih h0 h6 h7 h8 h9 o c l hp sw len
    rintro k t H' ⟨_, rfl, h0, h6, h7, h10, hkn, ys, sw, ⟨hp, hs, hle⟩, o, c, l⟩ ih
    have len := sw.len
    simp [h0, h6, h7, h10]
    refine wp_dec ?_ ?_ <;> intro hk
    · obtain ⟨k, rfl⟩ : ∃ k', k = k' + 1 := ⟨k - 1, by omega⟩
      have e5 : ((k + 1 : Nat) : Int) - 1 = (k : Int) := by omega
      rw [e5] at h10
      obtain ⟨d, hd⟩ : ∃ d, d = a + k := ⟨_, rfl⟩
      have e6 : IntKind.i64.wrap ((a : Int) + (k : Int)) = (d : Int) := by rw [w64 (by omega) (by omega)]; omega
      have p0 : a < ys.length := by omega
      have p1 : d < ys.length := by omega
      obtain ⟨H1, H2, s1, ix, s2, o2, c2, l2⟩ := ow_swap o p0 p1 hf
      simp [h0, h6, h7, h10]
      rw [go_draw (h := by kernel_rfl)]
      simp [h0, h6, h7, h10, e6, ow_ix o p0, ow_ix o p1, ow_ld o p0, ow_ld o p1, s1, ix _ p0, ix _ p1, s2]
      have gs := fun q => G_swp (xs := ys) p0 p1 q
      refine wp_thn (siftDown_w v _ e 0 k a o2 (fun r q h1 h2 h3 => ?_) (by omega) (by simp; omega) (by simp; omega) hf) ?_
      · rw [gs, gs, if_neg (by omega), if_neg (by omega), if_neg (by omega), if_neg (by omega)]
        exact hp r q (by omega) h2 (by omega)
      · rintro _ H3 ⟨zs, sw1, hp1, o3, c3, l3⟩
        simp only [Nat.add_zero] at sw1
        have hlz : a + k ≤ (swp ys a d).length := by simp; omega
        have top := hp.top
        have hz : ∀ q, q < a ∨ a + k ≤ q → G zs q = G (swp ys a d) q := fun q hq => sw1.out hlz hq
        have zd : G zs d = G ys a := by rw [hz d (by omega), gs, if_pos rfl]
        have zo : ∀ q, d < q → q < b → G zs q = G ys q := fun q h1 h2 => by rw [hz q (by omega), gs, if_neg (by omega), if_neg (by omega)]
        have zlo : ∀ p, a ≤ p → p < a + k → G zs p ≤ G ys a ∧ ∀ q, d < q → q < b → G zs p ≤ G ys q := sw1.all (p := fun x => x ≤ G ys a ∧ ∀ q, d < q → q < b → x ≤ G ys q) hlz (fun p h1 h2 => by
          rw [gs, if_neg (by omega)]
          split
          · have := top k (by omega); rw [← hd] at this
            exact ⟨this, fun q g1 g2 => hle d q (by omega) (by omega) (by omega) g2⟩
          · have := top (p - a) (by omega); rw [show a + (p - a) = p by omega] at this
            exact ⟨this, fun q g1 g2 => hle p q (by omega) (by omega) (by omega) g2⟩)
        simp [h0, h6, h7, h10]
        refine ih k _ _ ⟨k, rfl, by simp [h0], by simp [h6], by simp [h7], ?_, by omega, zs, (sw.step a d (by omega) (by omega)).trans (sw1.mono (by omega) (by omega)), ⟨hp1, fun p q h1 h2 h3 => ?_, fun p q h1 h2 h3 h4 => ?_⟩, o3, c.trans (c2.trans c3), by omega⟩ (by omega)
        · simp; rw [w64 (by omega) (by omega)]
        · rw [zo q (by omega) h3]
          by_cases hpd : p = d
          · rw [hpd, zd]; exact hle a q (by omega) (by omega) (by omega) h3
          · rw [zo p (by omega) (by omega)]; exact hs p q (by omega) h2 h3
        · by_cases hq : q = d
          · rw [hq, zd]; exact (zlo p h1 h2).1
          · rw [zo q (by omega) h4]; exact (zlo p h1 h2).2 q (by omega) h4
    · obtain rfl : k = 0 := by omega
      simp
      exact ⟨ys, sw, hs, o, c, l⟩
end Go.Proofs.Ytnakhkfgheapoaa.V
/-! Sorting: the choice of a pivot. -/
set_option linter.all false
namespace Go.Proofs.Ytnakhkfgheapoaa.V
open Go Go.VM Go.Proofs
set_option maxRecDepth 10000
variable {frz : Nat} {H : Heap} {v : Value} {xs : List Int} {e : TypeId}
theorem revRange_w (v : Value) (xs : List Int) (e : TypeId) (a b : Nat) (h : Ow Fl.int e H v xs) (hab : a < b) (hb : b ≤ xs.length) (hl : xs.length ≤ 1073741824) (hf : ∀ i ∈ ids v, frz ≤ i) :
   wp (vcall C frz 156 [v, .int .i64 a, .int .i64 b] H) (fun _ H' => Swd H v xs e a b (fun ys => True) H') := by
  rw [vcall_go (fn := Try.f156) Try.func156 rfl (by kernel_rfl) rfl]
  have e1 : IntKind.i64.wrap ((b : Int) - 1) = ((b - 1 : Nat) : Int) := by rw [w64 (by omega) (by omega)]; omega
  simp [e1]
  refine wp_inv (fun m t H' => ∃ i j : Nat, m = j - i ∧ t 0 = v ∧ t 6 = .int .i64 i ∧ t 7 = .int .i64 j ∧ a ≤ i ∧ j < b ∧ i ≤ j + 1 ∧ Swd H v xs e a b (fun ys => True) H') ?_ (n := b - 1 - a)
    ⟨a, b - 1, rfl, by simp, by simp, by simp, by omega, by omega, by omega, xs, .refl, trivial, h, Chg.refl _, rfl⟩
  rintro m t H' ⟨i, j, rfl, h0, h6, h7, hi, hj, hij, ys, sw, _, o, c, l⟩ ih
  have len := sw.len
  simp [h0, h6, h7]
  refine wp_dec ?_ ?_ <;> intro hk
  · have p0 : i < ys.length := by omega
    have p1 : j < ys.length := by omega
    obtain ⟨H1, H2, s1, ix, s2, o2, c2, l2⟩ := ow_swap o p0 p1 hf
    simp [h0, h6, h7]
    rw [go_draw (h := by kernel_rfl)]
    simp [h0, h6, h7, ow_ix o p0, ow_ix o p1, ow_ld o p0, ow_ld o p1, s1, ix _ p0, ix _ p1, s2]
    refine ih (j - 1 - (i + 1)) _ _ ⟨i + 1, j - 1, rfl, by simp [h0], ?_, ?_, by omega, by omega, by omega, _, sw.step i j (by omega) (by omega), trivial, o2, c.trans c2, by omega⟩ (by omega)
    · simp; rw [w64 (by omega) (by omega)]
    · simp; rw [w64 (by omega) (by omega)]; omega
  · simp
    exact ⟨ys, sw, trivial, o, c, l⟩
def BoxI (H : Heap) (r : Nat) : Prop := ∃ s, H[r]? = some ⟨[.int .i64 s], 0, 3⟩
theorem order2_w (v : Value) (xs : List Int) (e : TypeId) (a b r : Nat) (h : Ow Fl.int e H v xs) (ha : a < xs.length) (hb : b < xs.length) (hr : BoxI H r) (hf : frz ≤ r) :
   wp (vcall C frz 172 [v, .int .i64 a, .int .i64 b, .pointer (some ⟨r, 0, some 0⟩)] H)
    (fun u H' => (∃ a' b' : Nat, u = .tuple #[.int .i64 a', .int .i64 b'] ∧ ((a' = a ∧ b' = b) ∨ (a' = b ∧ b' = a))) ∧ Chg H H' [r] ∧ BoxI H' r) := by
  obtain ⟨s, hs⟩ := hr
  rw [vcall_go (fn := Try.f172) Try.func172 rfl (by kernel_rfl) rfl]
  simp
  rw [go_draw (h := by kernel_rfl)]
  simp [ow_ix h ha, ow_ix h hb, ow_ld h ha, ow_ld h hb, less_c]
  refine wp_dec ?_ ?_ <;> intro g1
  · simp [vnil, VM.look, hs, hf]
    exact ⟨⟨b, a, ⟨rfl, rfl⟩, .inr ⟨rfl, rfl⟩⟩, chg_set _ _, _, set_get hs⟩
  · simp
    exact ⟨⟨a, b, ⟨rfl, rfl⟩, .inl ⟨rfl, rfl⟩⟩, Chg.refl _, _, hs⟩
theorem median_w (v : Value) (xs : List Int) (e : TypeId) (a b c r : Nat) (h : Ow Fl.int e H v xs) (ha : a < xs.length) (hb : b < xs.length) (hc : c < xs.length) (hr : BoxI H r) (hf : frz ≤ r) (hn : r ∉ ids v) :
   wp (vcall C frz 170 [v, .int .i64 a, .int .i64 b, .int .i64 c, .pointer (some ⟨r, 0, some 0⟩)] H)
    (fun u H' => (∃ m : Nat, u = .int .i64 m ∧ (m = a ∨ m = b ∨ m = c)) ∧ Chg H H' [r] ∧ BoxI H' r) := by
  rw [vcall_go (fn := Try.f170) Try.func170 rfl (by kernel_rfl) rfl]
  simp
  refine wp_thn (order2_w v xs e a b r h ha hb hr hf) ?_
  rintro _ H1 ⟨⟨a1, b1, rfl, h1⟩, c1, r1⟩
  have o1 := h.chg c1 (fun i hi hh => by simp at hh; subst hh; exact hn hi)
  simp
  refine wp_thn (order2_w v xs e b1 c r o1 (by omega) hc r1 hf) ?_
  rintro _ H2 ⟨⟨b2, c2, rfl, h2⟩, c2', r2⟩
  have o2 := o1.chg c2' (fun i hi hh => by simp at hh; subst hh; exact hn hi)
  simp
  refine wp_thn (order2_w v xs e a1 b2 r o2 (by omega) (by omega) r2 hf) ?_
  rintro _ H3 ⟨⟨a3, b3, rfl, h3⟩, c3, r3⟩
  simp
  exact ⟨⟨b3, rfl, by omega⟩, c1.trans (c2'.trans c3), r3⟩
theorem medianAdj_w (v : Value) (xs : List Int) (e : TypeId) (a r : Nat) (h : Ow Fl.int e H v xs) (h0 : 0 < a) (ha : a + 1 < xs.length) (hl : xs.length ≤ 1073741824) (hr : BoxI H r) (hf : frz ≤ r) (hn : r ∉ ids v) :
   wp (vcall C frz 169 [v, .int .i64 a, .pointer (some ⟨r, 0, some 0⟩)] H)
    (fun u H' => (∃ m : Nat, u = .int .i64 m ∧ (m + 1 = a ∨ m = a ∨ m = a + 1)) ∧ Chg H H' [r] ∧ BoxI H' r) := by
  rw [vcall_go (fn := Try.f169) Try.func169 rfl (by kernel_rfl) rfl]
  have e1 : IntKind.i64.wrap ((a : Int) - 1) = ((a - 1 : Nat) : Int) := by rw [w64 (by omega) (by omega)]; omega
  have e2 : IntKind.i64.wrap ((a : Int) + 1) = ((a + 1 : Nat) : Int) := by rw [w64 (by omega) (by omega)]; omega
  simp [e1]
  rw [e2]
  refine wp_thn (median_w v xs e (a - 1) a (a + 1) r h (by omega) (by omega) ha hr hf hn) ?_
  rintro _ H1 ⟨⟨m, rfl, hm⟩, c1, r1⟩
  simp
  exact ⟨⟨m, rfl, by omega⟩, c1, r1⟩
theorem choosePivot_w (v : Value) (xs : List Int) (e : TypeId) (a b : Nat) (h : Ow Fl.int e H v xs) (hab : a + 8 ≤ b) (hb : b ≤ xs.length) (hl : xs.length ≤ 1073741824) (hf : frz ≤ H.length) :
   wp (vcall C frz 155 [v, .int .i64 a, .int .i64 b] H)
    (fun u H' => (∃ (m : Nat) (k : Int), u = .tuple #[.int .i64 m, .int .i64 k] ∧ a ≤ m ∧ m < b) ∧ Chg H H' []) := by
  rw [vcall_go (fn := Try.f155) Try.func155 rfl (by kernel_rfl) rfl]
  obtain ⟨n, hn⟩ : ∃ n, n = b - a := ⟨_, rfl⟩
  have e1 : ∀ [Inhabited Unit], IntKind.i64.wrap ((b : Int) - a) = (n : Int) := by intro _; rw [w64 (by omega) (by omega)]; omega
  obtain ⟨q, hq⟩ : ∃ q, q = n / 4 := ⟨_, rfl⟩
  have e2 : ∀ [Inhabited Unit], IntKind.i64.wrap ((n : Int) / 4) = (q : Int) := by intro _; rw [w64 (by omega) (by omega)]; omega
  obtain ⟨q2, hq2⟩ : ∃ q2, q2 = q * 2 := ⟨_, rfl⟩
  obtain ⟨q3, hq3⟩ : ∃ q3, q3 = q * 3 := ⟨_, rfl⟩
  obtain ⟨i0, hi0⟩ : ∃ i0, i0 = a + q := ⟨_, rfl⟩
  obtain ⟨i1, hi1⟩ : ∃ i1, i1 = a + q2 := ⟨_, rfl⟩
  obtain ⟨i2, hi2⟩ : ∃ i2, i2 = a + q3 := ⟨_, rfl⟩
  have e3 : ∀ [Inhabited Unit], IntKind.i64.wrap (q : Int) = (q : Int) := by intro _; rw [w64 (by omega) (by omega)]
  have e4 : ∀ [Inhabited Unit], IntKind.i64.wrap ((q : Int) * 2) = (q2 : Int) := by intro _; rw [w64 (by omega) (by omega)]; omega
  have e5 : ∀ [Inhabited Unit], IntKind.i64.wrap ((q : Int) * 3) = (q3 : Int) := by intro _; rw [w64 (by omega) (by omega)]; omega
  have e6 : ∀ [Inhabited Unit], IntKind.i64.wrap ((a : Int) + q) = (i0 : Int) := by intro _; rw [w64 (by omega) (by omega)]; omega
  have e7 : ∀ [Inhabited Unit], IntKind.i64.wrap ((a : Int) + q2) = (i1 : Int) := by intro _; rw [w64 (by omega) (by omega)]; omega
  have e8 : ∀ [Inhabited Unit], IntKind.i64.wrap ((a : Int) + q3) = (i2 : Int) := by intro _; rw [w64 (by omega) (by omega)]; omega
  have g8 : (8 : Int) ≤ n := by omega
  have lt := h.lt
  have nin : H.length ∉ ids v := fun hh => by have := lt _ hh; omega
  simp [e1, e2, e3, e4, e5, e6, e7, e8, g8]
  have b0 : BoxI (H ++ [⟨[.int .i64 0], 0, 3⟩]) H.length := ⟨0, by simp⟩
  have o0 : Ow Fl.int e (H ++ [⟨[.int .i64 0], 0, 3⟩]) v xs := h.app
  refine wp_joinc (F := ?F) (k := ?k) (d := ?d) (Q := ?Q) (fun r t => ∃ (i0 i1 i2 : Nat) (H1 : Heap), r = vcall C frz 170 [v, .int .i64 i0, .int .i64 i1, .int .i64 i2, .pointer (some ⟨H.length, 0, some 0⟩)] H1 ∧
     (a ≤ i0 ∧ i0 < b) ∧ (a ≤ i1 ∧ i1 < b) ∧ (a ≤ i2 ∧ i2 < b) ∧ t 9 = .pointer (some ⟨H.length, 0, some 0⟩) ∧
     Chg (H ++ [⟨[.int .i64 0], 0, 3⟩]) H1 [H.length] ∧ BoxI H1 H.length) ?main ?rest
  case main =>
    intro rest
    refine wp_dec ?_ ?_ <;> intro g1
    · simp [e6, e7, e8]
      refine wp_thn (medianAdj_w v xs e i0 H.length o0 (by omega) (by omega) hl b0 hf nin) ?_
      rintro _ H1 ⟨⟨j0, rfl, hj0⟩, c1, r1⟩
      have o1 := o0.chg c1 (fun i hi hh => by simp at hh; subst hh; exact nin hi)
      simp [e6, e7, e8]
      refine wp_thn (medianAdj_w v xs e i1 H.length o1 (by omega) (by omega) hl r1 hf nin) ?_
      rintro _ H2 ⟨⟨j1, rfl, hj1⟩, c2, r2⟩
      have o2 := o1.chg c2 (fun i hi hh => by simp at hh; subst hh; exact nin hi)
      simp [e6, e7, e8]
      refine wp_thn (medianAdj_w v xs e i2 H.length o2 (by omega) (by omega) hl r2 hf nin) ?_
      rintro _ H3 ⟨⟨j2, rfl, hj2⟩, c3, r3⟩
      simp [e6, e7, e8]
      refine rest _ _ ?_
      exact ⟨j0, j1, j2, H3, rfl, by omega, by omega, by omega, by simp, c1.trans (c2.trans c3), r3⟩
    · simp [e6, e7, e8]
      refine rest _ _ ?_
      exact ⟨i0, i1, i2, _, rfl, by omega, by omega, by omega, by simp, Chg.refl _, b0⟩
  case rest =>
    rintro _ t ⟨i0, i1, i2, H1, rfl, h0, h1, h2, t9, c1, r1⟩
    have o1 := o0.chg c1 (fun i hi hh => by simp at hh; subst hh; exact nin hi)
    refine wp_thn (median_w v xs e i0 i1 i2 H.length o1 (by omega) (by omega) (by omega) r1 hf nin) ?_
    rintro _ H2 ⟨⟨m, rfl, hm⟩, c2, s, hs⟩
    have cc : Chg H H2 [] := (Chg.app (L := [⟨[.int .i64 0], 0, 3⟩]) []).trans' (c1.trans c2) (fun i hi => by simp at hi; subst hi; right; simp)
    simp [t9, VM.look, hs]
    refine wp_dec ?_ ?_ <;> intro g2 <;> simp
    · exact ⟨⟨m, rfl, by omega⟩, cc⟩
    · refine wp_dec ?_ ?_ <;> intro g3 <;> simp
      · exact ⟨⟨m, rfl, by omega⟩, cc⟩
      · exact ⟨⟨m, rfl, by omega⟩, cc⟩
end Go.Proofs.Ytnakhkfgheapoaa.V
/-! Sorting: lengths of bits, patterns broken. -/
set_option linter.all false
namespace Go.Proofs.Ytnakhkfgheapoaa.V
open Go Go.VM Go.Proofs
set_option maxRecDepth 10000
variable {frz : Nat} {H : Heap} {v : Value} {xs : List Int} {e : TypeId}
def blen (y : Nat) : Nat := if y = 0 then 0 else y.log2 + 1
def tabOk (T : ByteArray) : Bool := (List.range 256).all fun y => match T[y]? with | some b => b.toNat == blen y | none => false
theorem blen_spec {y : Nat} (h : y < 256) : y < 2 ^ blen y ∧ (2 ^ blen y ≤ 2 * y ∨ y = 0) ∧ blen y ≤ 8 := by
  have : ∀ y : Fin 256, y.val < 2 ^ blen y.val ∧ (2 ^ blen y.val ≤ 2 * y.val ∨ y.val = 0) ∧ blen y.val ≤ 8 := by decide +kernel
  exact this ⟨y, h⟩
theorem blen_up {x z s n : Nat} (hz : z = x / 2 ^ s) (h1 : z < 2 ^ n) (h2 : 2 ^ n ≤ 2 * z ∨ z = 0) (h0 : 0 < z) : x < 2 ^ (n + s) ∧ (2 ^ (n + s) ≤ 2 * x ∨ x = 0) := by
  have hp : 0 < 2 ^ s := Nat.pow_pos (by decide)
  rw [Nat.pow_add]
  subst hz
  refine ⟨(Nat.div_lt_iff_lt_mul hp).1 h1, .inl ?_⟩
  have h3 : x / 2 ^ s * 2 ^ s ≤ x := Nat.div_mul_le_self _ _
  have h4 : 2 ^ n * 2 ^ s ≤ 2 * (x / 2 ^ s) * 2 ^ s := Nat.mul_le_mul_right _ (by omega)
  rw [Nat.mul_assoc] at h4
  omega
theorem vindex_tab {T : ByteArray} {y : Nat} (hy : y < 256) (h : tabOk T = true) : vindex Try.prog 9 (.string T) (.int .u8 (IntKind.u8.wrap (y : Int))) = some (.int .u8 (blen y)) := by
  have e1 : IntKind.u8.wrap (y : Int) = (y : Int) := by show (y : Int) % 256 = y; omega
  have := List.all_eq_true.1 h y (by simpa using hy)
  have hn : (0 : Int) ≤ y := by omega
  rw [e1]
  simp only [vindex, und9, hn, if_true, Int.toNat_natCast]
  cases hT : T[y]? with
  | none => rw [hT] at this; simp at this
  | some b => rw [hT] at this; simp at this; simp [this]
theorem shr_nat (x j : Nat) (hj : j ≤ 64) : ishr .u64 (x : Int) (j : Int) = ((x / 2 ^ j : Nat) : Int) := ishr_nat .u64 x j hj
theorem len64_w (x : Nat) (hx : x < 2147483648) :
   wp (vcall C frz 162 [.int .u64 x] H) (fun r H' => H' = H ∧ ∃ n : Nat, r = .int .i64 n ∧ x < 2 ^ n ∧ (2 ^ n ≤ 2 * x ∨ x = 0) ∧ n ≤ 32) := by
  rw [vcall_go (fn := Try.f162) Try.func162 rfl (by kernel_rfl) rfl]
  have g1 : ¬ (4294967296 : Int) ≤ x := by omega
  have e8 : IntKind.i64.wrap 8 = 8 := rfl
  have e16 : IntKind.i64.wrap 16 = 16 := rfl
  have e24 : IntKind.i64.wrap 24 = 24 := rfl
  simp [g1]
  refine wp_dec ?_ ?_ <;> intro g2
  · obtain ⟨y, hy⟩ : ∃ y, y = x / 65536 := ⟨_, rfl⟩
    have s16 : ishr .u64 (x : Int) 16 = (y : Int) := by rw [hy]; exact shr_nat x 16 (by decide)
    simp [s16]
    refine wp_dec ?_ ?_ <;> intro g3
    · obtain ⟨z, hz⟩ : ∃ z, z = y / 256 := ⟨_, rfl⟩
      have s8 : ishr .u64 (y : Int) 8 = (z : Int) := by rw [hz]; exact shr_nat y 8 (by decide)
      simp [s8]
      rw [vindex_tab (y := z) (by omega) (by decide +kernel)]
      obtain ⟨q1, q2, q3⟩ := blen_spec (y := z) (by omega)
      have w8 : IntKind.i64.wrap (blen z : Int) = (blen z : Int) := w64 (by omega) (by omega)
      simp [w8, e8, e16, e24]
      refine ⟨blen z + 24, ?_, ?_⟩
      · rw [w64 (by omega) (by omega)]; omega
      · have := blen_up (x := x) (z := z) (s := 24) (by omega) q1 q2 (by omega); omega
    · simp
      rw [vindex_tab (y := y) (by omega) (by decide +kernel)]
      obtain ⟨q1, q2, q3⟩ := blen_spec (y := y) (by omega)
      have w8 : IntKind.i64.wrap (blen y : Int) = (blen y : Int) := w64 (by omega) (by omega)
      simp [w8, e8, e16, e24]
      refine ⟨blen y + 16, ?_, ?_⟩
      · rw [w64 (by omega) (by omega)]; omega
      · have := blen_up (x := x) (z := y) (s := 16) (by omega) q1 q2 (by omega); omega
  · simp
    refine wp_dec ?_ ?_ <;> intro g3
    · obtain ⟨z, hz⟩ : ∃ z, z = x / 256 := ⟨_, rfl⟩
      have s8 : ishr .u64 (x : Int) 8 = (z : Int) := by rw [hz]; exact shr_nat x 8 (by decide)
      simp [s8]
      rw [vindex_tab (y := z) (by omega) (by decide +kernel)]
      obtain ⟨q1, q2, q3⟩ := blen_spec (y := z) (by omega)
      have w8 : IntKind.i64.wrap (blen z : Int) = (blen z : Int) := w64 (by omega) (by omega)
      simp [w8, e8, e16, e24]
      refine ⟨blen z + 8, ?_, ?_⟩
      · rw [w64 (by omega) (by omega)]; omega
      · have := blen_up (x := x) (z := z) (s := 8) (by omega) q1 q2 (by omega); omega
    · simp
      rw [vindex_tab (y := x) (by omega) (by decide +kernel)]
      obtain ⟨q1, q2, q3⟩ := blen_spec (y := x) (by omega)
      have w8 : IntKind.i64.wrap (blen x : Int) = (blen x : Int) := w64 (by omega) (by omega)
      simp [w8, e8, e16, e24]
      exact ⟨blen x, rfl, q1, q2, by omega⟩
theorem len_w (x : Nat) (hx : x < 2147483648) :
   wp (vcall C frz 136 [.int .u64 x] H) (fun r H' => H' = H ∧ ∃ n : Nat, r = .int .i64 n ∧ x < 2 ^ n ∧ (2 ^ n ≤ 2 * x ∨ x = 0) ∧ n ≤ 32) := by
  rw [vcall_go (fn := Try.f136) Try.func136 rfl (by kernel_rfl) rfl]
  simp
  refine wp_thn (len64_w x hx) ?_
  rintro _ _ ⟨rfl, n, rfl, h⟩
  simp
  exact ⟨n, rfl, h⟩
theorem w64u {x : Int} (h0 : 0 ≤ x) (h1 : x < 18446744073709551616) : IntKind.u64.wrap x = x := by show x % 18446744073709551616 = x; omega
theorem pow2_w (x : Nat) (hx : x < 2147483648) :
   wp (vcall C frz 167 [.int .i64 x] H) (fun r H' => H' = H ∧ ∃ m : Nat, r = .int .u64 m ∧ x < m ∧ (m ≤ 2 * x ∨ x = 0) ∧ m ≤ 4294967296) := by
  rw [vcall_go (fn := Try.f167) Try.func167 rfl (by kernel_rfl) rfl]
  have e1 : IntKind.u64.wrap (x : Int) = (x : Int) := w64u (by omega) (by omega)
  simp [e1]
  refine wp_thn (len_w x hx) ?_
  rintro _ _ ⟨rfl, n, rfl, h1, h2, h3⟩
  have hm : 2 ^ n ≤ 2 ^ 32 := Nat.pow_le_pow_right (by decide) h3
  have e2 : ishl .u64 1 (n : Int) = ((2 ^ n : Nat) : Int) := by
    unfold ishl
    rw [Int.toNat_natCast, Nat.min_eq_left (show n ≤ IntKind.u64.bits by show n ≤ 64; omega), Int.one_mul, w64u (Int.le_of_lt (Int.pow_pos (by decide))) (by
      have : ((2 : Int) ^ n) = ((2 ^ n : Nat) : Int) := by simp
      rw [this]; omega)]
    simp
  have hn : (0 : Int) ≤ n := by omega
  simp [vneed, hn, e2]
  exact ⟨2 ^ n, by simp, h1, h2, by omega⟩
def BoxX (H : Heap) (r : Nat) : Prop := ∃ s, H[r]? = some ⟨[.int .u64 s], 0, 134⟩
theorem xnext_w (r : Nat) (hr : BoxX H r) (hf : frz ≤ r) :
   wp (vcall C frz 168 [.pointer (some ⟨r, 0, some 0⟩)] H) (fun u H' => (∃ z, u = .int .u64 z) ∧ Chg H H' [r] ∧ BoxX H' r) := by
  obtain ⟨s, hs⟩ := hr
  rw [vcall_go (fn := Try.f168) Try.func168 rfl (by kernel_rfl) rfl]
  simp
  rw [go_draw (h := by kernel_rfl)]
  simp [vnil, VM.look, hs, hf]
  have l := box_lt hs
  rw [go_draw (h := by kernel_rfl)]
  simp [vnil, VM.look, hs, hf, l]
  rw [go_draw (h := by kernel_rfl)]
  simp [vnil, VM.look, hs, hf, l]
  exact ⟨chg_set _ _, _, by simp [l]; rfl⟩
theorem iand_le (a : Int) (b : Nat) (hb : b < 18446744073709551616) : 0 ≤ iand .u64 a b ∧ iand .u64 a b ≤ b := by
  unfold iand
  have h1 : (BitVec.ofInt IntKind.u64.bits a &&& BitVec.ofInt IntKind.u64.bits (b : Int)).toNat ≤ b := by
    rw [BitVec.toNat_and]
    refine Nat.le_trans Nat.and_le_right ?_
    rw [BitVec.toNat_ofInt]
    have : IntKind.u64.bits = 64 := rfl
    rw [this]; omega
  rw [w64u (by omega) (by omega)]
  omega
theorem breakPat_w (v : Value) (xs : List Int) (e : TypeId) (a b : Nat) (h : Ow Fl.int e H v xs) (hab : a ≤ b) (hb : b ≤ xs.length) (hl : xs.length ≤ 1073741824) (hf : ∀ i ∈ ids v, frz ≤ i) (hF : frz ≤ H.length) :
   wp (vcall C frz 154 [v, .int .i64 a, .int .i64 b] H) (fun _ H' => ∃ ys, Sw a b xs ys ∧ Ow Fl.int e H' v ys ∧ Chg H H' (ids v)) := by
  rw [vcall_go (fn := Try.f154) Try.func154 rfl (by kernel_rfl) rfl]
  obtain ⟨n, hn⟩ : ∃ n, n = b - a := ⟨_, rfl⟩
  have e1 : ∀ [Inhabited Unit], IntKind.i64.wrap ((b : Int) - a) = (n : Int) := by intro _; rw [w64 (by omega) (by omega)]; omega
  simp [e1]
  refine wp_dec ?_ ?_ <;> intro g1
  · have lt := h.lt
    have nin : H.length ∉ ids v := fun hh => by have := lt _ hh; omega
    have e2 : ∀ [Inhabited Unit], IntKind.u64.wrap (n : Int) = (n : Int) := by intro _; exact w64u (by omega) (by omega)
    have e3 : ∀ [Inhabited Unit], IntKind.i64.wrap (n : Int) = (n : Int) := by intro _; exact w64 (by omega) (by omega)
    simp [e1, e2, VM.look, hF]
    refine wp_thn (pow2_w n (by omega)) ?_
    rintro _ _ ⟨rfl, m, rfl, m1, m2, m3⟩
    obtain ⟨q, hq⟩ : ∃ q, q = n / 4 := ⟨_, rfl⟩
    obtain ⟨q2, hq2⟩ : ∃ q2, q2 = q * 2 := ⟨_, rfl⟩
    obtain ⟨s, hs⟩ : ∃ s, s = a + q2 := ⟨_, rfl⟩
    have e4 : ∀ [Inhabited Unit], IntKind.i64.wrap ((n : Int) / 4) = (q : Int) := by intro _; rw [w64 (by omega) (by omega)]; omega
    have e5 : ∀ [Inhabited Unit], IntKind.i64.wrap ((q : Int) * 2) = (q2 : Int) := by intro _; rw [w64 (by omega) (by omega)]; omega
    have e6 : ∀ [Inhabited Unit], IntKind.i64.wrap ((a : Int) + q2) = (s : Int) := by intro _; rw [w64 (by omega) (by omega)]; omega
    have e7 : ∀ [Inhabited Unit], IntKind.i64.wrap ((s : Int) - 1) = ((s - 1 : Nat) : Int) := by intro _; rw [w64 (by omega) (by omega)]; omega
    have e8 : ∀ [Inhabited Unit], IntKind.i64.wrap ((s : Int) + 1) = ((s + 1 : Nat) : Int) := by intro _; rw [w64 (by omega) (by omega)]; omega
    have e9 : ∀ [Inhabited Unit], IntKind.u64.wrap ((m : Int) - 1) = ((m - 1 : Nat) : Int) := by intro _; rw [w64u (by omega) (by omega)]; omega
    simp [e1, e2, e3, e4, e5, e6, e7]
    refine wp_inv (fun c t H' => ∃ i : Nat, c = s + 2 - i ∧ s ≤ i + 1 ∧ i ≤ s + 2 ∧ t 0 = v ∧ t 1 = .int .i64 a ∧ t 6 = .int .i64 n ∧ t 7 = .pointer (some ⟨H.length, 0, some 0⟩) ∧ t 8 = .int .u64 m ∧ t 9 = .int .i64 i ∧
        BoxX H' H.length ∧ Chg (H ++ [⟨[.int .u64 n], 0, 134⟩]) H' (H.length :: ids v) ∧ ∃ ys, Sw a b xs ys ∧ Ow Fl.int e H' v ys) ?_ (n := s + 2 - (s - 1))
      ⟨s - 1, rfl, by omega, by omega, by simp, by simp, by simp, by simp, by simp, by simp, ⟨n, by simp⟩, Chg.refl _, xs, .refl, h.app⟩
    rintro c t H1 ⟨i, rfl, hi1, hi2, t0, t1, t6, t7, t8, t9, bx, ch, ys, sw, o⟩ ih
    have len := sw.len
    simp [t0, t1, t6, t7, t8, t9, e4, e5, e6, e8]
    refine wp_dec ?_ ?_ <;> intro g2
    · have p0 : i < ys.length := by omega
      simp [t0, t1, t6, t7, t8, t9]
      refine wp_thn (xnext_w H.length bx hF) ?_
      rintro _ H2 ⟨⟨z, rfl⟩, c2, bx2⟩
      have o2 := o.chg c2 (fun i hi hh => by simp at hh; subst hh; exact nin hi)
      obtain ⟨k, hk⟩ : ∃ k : Nat, iand .u64 z ((m - 1 : Nat) : Int) = k := ⟨_, (Int.toNat_of_nonneg (iand_le z (m - 1) (by omega)).1).symm⟩
      have hk2 := (iand_le z (m - 1) (by omega)).2
      rw [hk] at hk2
      have e10 : ∀ [Inhabited Unit], IntKind.i64.wrap (k : Int) = (k : Int) := by intro _; exact w64 (by omega) (by omega)
      have hk' : ∀ [Inhabited Unit], iand .u64 z ((m - 1 : Nat) : Int) = k := by intro _; exact hk
      clear hk
      simp [t0, t1, t6, t7, t8, t9, e9, hk', e10]
      refine wp_join (F := ?F) (k := ?k) (Q := ?Q) (fun t H' => ∃ d : Nat, d < n ∧ H' = H2 ∧ t 0 = v ∧ t 1 = .int .i64 a ∧ t 6 = .int .i64 n ∧ t 7 = .pointer (some ⟨H.length, 0, some 0⟩) ∧ t 8 = .int .u64 m ∧ t 9 = .int .i64 i ∧ t 10 = .int .i64 d) ?main ?rest
      case main =>
        intro rest
        refine wp_dec ?_ ?_ <;> intro g3
        · have e11 : ∀ [Inhabited Unit], IntKind.i64.wrap ((k : Int) - n) = ((k - n : Nat) : Int) := by intro _; rw [w64 (by omega) (by omega)]; omega
          simp [t0, t1, t6, t7, t8, t9, e9, hk', e10, e11]
          refine rest _ _ ?_
          exact ⟨k - n, by omega, rfl, by simp [t0], by simp [t1], by simp [t6], by simp [t7], by simp [t8], by simp [t9], by simp⟩
        · simp
          refine rest _ _ ?_
          exact ⟨k, by omega, rfl, by simp [t0], by simp [t1], by simp [t6], by simp [t7], by simp [t8], by simp [t9], by simp⟩
      case rest =>
        rintro t _ ⟨d, hd, rfl, t0, t1, t6, t7, t8, t9, t10⟩
        obtain ⟨j, hj⟩ : ∃ j, j = a + d := ⟨_, rfl⟩
        have e12 : ∀ [Inhabited Unit], IntKind.i64.wrap ((a : Int) + d) = (j : Int) := by intro _; rw [w64 (by omega) (by omega)]; omega
        have p1 : j < ys.length := by omega
        obtain ⟨H3, H4, s1, ix, s2, o4, c4, l4⟩ := ow_swap o2 p0 p1 hf
        rw [go_draw (h := by kernel_rfl)]
        simp [t0, t1, t6, t7, t8, t9, t10, e12, ow_ix o2 p0, ow_ix o2 p1, ow_ld o2 p0, ow_ld o2 p1, s1, ix _ p0, ix _ p1, s2]
        obtain ⟨sx, hsx⟩ := bx2
        have bx4 : BoxX H4 H.length := ⟨sx, box_chg hsx c4 nin⟩
        refine ih (s + 2 - (i + 1)) _ _ ⟨i + 1, rfl, by omega, by omega, by simp [t0], by simp [t1], by simp [t6], by simp [t7], by simp [t8], ?_, bx4, ?_, _, sw.step i j (by omega) (by omega), o4⟩ (by omega)
        · simp; rw [w64 (by omega) (by omega)]
        · exact ch.trans ((c2.mono (by simp)).trans (c4.mono (fun q hq => by simp [hq])))
    · simp
      exact ⟨ys, sw, o, (Chg.app (ids v)).trans' ch (fun q hq => by
        rcases List.mem_cons.1 hq with hq | hq
        · right; simp [hq]
        · exact .inl hq)⟩
  · simp
    exact ⟨xs, .refl, h, Chg.refl _⟩
end Go.Proofs.Ytnakhkfgheapoaa.V
/-! Sorting: partitions. -/
set_option linter.all false
namespace Go.Proofs.Ytnakhkfgheapoaa.V
open Go Go.VM Go.Proofs
set_option maxRecDepth 10000
variable {frz : Nat} {H : Heap} {v : Value} {xs : List Int} {e : TypeId}
/-- the pivot x lies at a; what is below i has P, what is above j has not -/
def Pt (ys : List Int) (a b : Nat) (x : Int) (P : Int → Prop) (i j : Nat) : Prop := G ys a = x ∧ (∀ k, a < k → k < i → P (G ys k)) ∧ ∀ k, j < k → k < b → ¬ P (G ys k)
section
variable {ys : List Int} {a b i j : Nat} {x : Int} {P : Int → Prop}
theorem Pt.incr (h : Pt ys a b x P i j) (ha : a < i) (hp : P (G ys i)) : Pt ys a b x P (i + 1) j := ⟨h.1, fun k h1 h2 => by
  by_cases hk : k = i
  · rw [hk]; exact hp
  · exact h.2.1 k h1 (by omega), h.2.2⟩
theorem Pt.decr (h : Pt ys a b x P i j) (hj : 0 < j) (hp : ¬ P (G ys j)) : Pt ys a b x P i (j - 1) := ⟨h.1, h.2.1, fun k h1 h2 => by
  by_cases hk : k = j
  · rw [hk]; exact hp
  · exact h.2.2 k (by omega) h2⟩
theorem Pt.swap (h : Pt ys a b x P i j) (ha : a < i) (hij : i < j) (hj : j < b) (hb : b ≤ ys.length) (hi : ¬ P (G ys i)) (hp : P (G ys j)) : Pt (swp ys i j) a b x P (i + 1) (j - 1) := by
  have g := fun k => G_swp (xs := ys) (i := i) (j := j) (by omega) (by omega) k
  refine ⟨?_, fun k h1 h2 => ?_, fun k h1 h2 => ?_⟩
  · rw [g, if_neg (by omega), if_neg (by omega)]; exact h.1
  · rw [g, if_neg (by omega)]
    split
    · exact hp
    · exact h.2.1 k h1 (by omega)
  · rw [g]
    split
    · exact hi
    · rw [if_neg (by omega)]; exact h.2.2 k (by omega) h2
/-- the pivot is laid between the two parts -/
theorem Pt.fin (h : Pt ys a b x P i j) (hij : i = j + 1) (ha : a < i) (hj : j < b) (hb : b ≤ ys.length) : G (swp ys j a) j = x ∧ (∀ k, a ≤ k → k < j → P (G (swp ys j a) k)) ∧ ∀ k, j < k → k < b → ¬ P (G (swp ys j a) k) := by
  have g := fun k => G_swp (xs := ys) (i := j) (j := a) (by omega) (by omega) k
  refine ⟨?_, fun k h1 h2 => ?_, fun k h1 h2 => ?_⟩
  · rw [g]
    split
    · rename_i e; rw [e]; exact h.1
    · rw [if_pos rfl]; exact h.1
  · rw [g]
    split
    · exact h.2.1 j (by omega) (by omega)
    · rw [if_neg (by omega)]; exact h.2.1 k (by omega) (by omega)
  · rw [g, if_neg (by omega), if_neg (by omega)]; exact h.2.2 k h1 h2
end
theorem partEq_w (v : Value) (xs : List Int) (e : TypeId) (a b p : Nat) (h : Ow Fl.int e H v xs) (hp : a ≤ p ∧ p < b) (hb : b ≤ xs.length) (hl : xs.length ≤ 1073741824) (hf : ∀ i ∈ ids v, frz ≤ i) :
   wp (vcall C frz 159 [v, .int .i64 a, .int .i64 b, .int .i64 p] H) (fun r H' => ∃ m : Nat, r = .int .i64 m ∧ a < m ∧ m ≤ b ∧
     Swd H v xs e a b (fun ys => (∀ k, a ≤ k → k < m → ¬ G xs p < G ys k) ∧ ∀ k, m ≤ k → k < b → G xs p < G ys k) H') := by
  rw [vcall_go (fn := Try.f159) Try.func159 rfl (by kernel_rfl) rfl]
  obtain ⟨x, hx⟩ : ∃ x, x = G xs p := ⟨_, rfl⟩
  obtain ⟨i0, hi0⟩ : ∃ i0, i0 = a + 1 := ⟨_, rfl⟩
  obtain ⟨j0, hj0⟩ : ∃ j0, j0 = b - 1 := ⟨_, rfl⟩
  have e2 : ∀ [Inhabited Unit], IntKind.i64.wrap ((a : Int) + 1) = (i0 : Int) := by intro _; rw [w64 (by omega) (by omega)]; omega
  have e3 : ∀ [Inhabited Unit], IntKind.i64.wrap ((b : Int) - 1) = (j0 : Int) := by intro _; rw [w64 (by omega) (by omega)]; omega
  have p0 : a < xs.length := by omega
  have p1 : p < xs.length := by omega
  simp
  rw [go_draw (h := by kernel_rfl)]
  obtain ⟨H1, H2, s1, ix, s2, o2, c2, l2⟩ := ow_swap h p0 p1 hf
  simp [ow_ix h p0, ow_ix h p1, ow_ld h p0, ow_ld h p1, s1, ix _ p0, ix _ p1, s2, e2, e3]
  have pt0 : Pt (swp xs a p) a b x (fun y => ¬ x < y) i0 j0 := by
    refine ⟨?_, fun k h1 h2 => by omega, fun k h1 h2 => by omega⟩
    rw [G_swp p0 p1, hx]
    split
    · rename_i e; rw [e]
    · rw [if_pos rfl]
  have sw0 : Sw a b xs (swp xs a p) := Sw.refl.step a p (by omega) (by omega)
  refine wp_inv (fun c t H' => ∃ i j : Nat, c = j + 1 - i ∧ t 0 = v ∧ t 1 = .int .i64 a ∧ t 9 = .int .i64 i ∧ t 10 = .int .i64 j ∧ a < i ∧ i ≤ j + 1 ∧ j < b ∧ Swd H v xs e a b (fun ys => Pt ys a b x (fun y => ¬ x < y) i j) H') ?_ (n := j0 + 1 - i0)
    ⟨i0, j0, rfl, by simp, by simp, by simp, by simp, by omega, by omega, by omega, _, sw0, pt0, o2, c2, l2⟩
  rw [← hx]
  clear pt0 sw0 o2 s1 s2 ix c2 l2 p0 p1
  rintro c t H' ⟨i, j, rfl, h0, h1, hi, hj, hai, hij, hjb, ys, sw, pt, o, c, l⟩ ih
  have len := sw.len
  have p0 : a < ys.length := by omega
  simp [h0, h1, hi, hj]
  obtain ⟨il, hil⟩ : ∃ il, il = i := ⟨_, rfl⟩
  have hai' : il ≤ i ∧ a < i := ⟨by omega, hai⟩
  refine wp_join (F := ?F1) (k := ?k1) (Q := ?Q1) (fun t H1 => ∃ i : Nat, t 0 = v ∧ t 1 = .int .i64 a ∧ t 9 = .int .i64 i ∧ t 10 = .int .i64 j ∧ (il ≤ i ∧ a < i) ∧ i ≤ j + 1 ∧ (i = j + 1 ∨ (i ≤ j ∧ ¬ (fun y => ¬ x < y) (G ys i))) ∧ H' = H1 ∧ Pt ys a b x (fun y => ¬ x < y) i j) ?main1 ?rest1
  case main1 =>
    intro rest
    refine wp_inv (fun c t H1 => ∃ i : Nat, c = j + 1 - i ∧ t 0 = v ∧ t 1 = .int .i64 a ∧ t 9 = .int .i64 i ∧ t 10 = .int .i64 j ∧ (il ≤ i ∧ a < i) ∧ i ≤ j + 1 ∧ H' = H1 ∧ Pt ys a b x (fun y => ¬ x < y) i j) ?_ (n := j + 1 - i)
      ⟨i, rfl, by simp [h0], by simp [h1], by simp [hi], by simp [hj], hai', hij, rfl, pt⟩
    rintro c t _ ⟨i, rfl, h0, h1, hi, hj, hai', hij, rfl, pt⟩ ih2
    have hai := hai'.2
    simp [h0, h1, hi, hj]
    rw [go_draw (h := by kernel_rfl)]
    simp [h0, h1, hi, hj]
    refine wpg_dec ?_ ?_ <;> intro g1
    · have p1 : i < ys.length := by omega
      simp [h0, h1, hi, hj, g1, ow_ix o p0, ow_ix o p1, ow_ld o p0, ow_ld o p1, less_c]
      refine wp_dec ?_ ?_ <;> intro g2
      · simp [h0, h1, hi, hj]
        refine rest _ _ ?_
        exact ⟨i, by simp [h0], by simp [h1], by simp [hi], by simp [hj], hai', by omega, .inr ⟨by omega, by have := pt.1; show ¬ (¬ x < G ys i); omega⟩, rfl, pt⟩
      · simp [h0, h1, hi, hj]
        refine ih2 (j + 1 - (i + 1)) _ _ ⟨i + 1, rfl, by simp [h0], by simp [h1], ?_, by simp [hj], by omega, by omega, rfl, pt.incr hai (by have := pt.1; show ¬ x < G ys i; omega)⟩ (by omega)
        simp; rw [w64 (by omega) (by omega)]
    · simp [h0, h1, hi, hj, g1]
      refine rest _ _ ?_
      exact ⟨i, by simp [h0], by simp [h1], by simp [hi], by simp [hj], hai', hij, .inl (by omega), rfl, pt⟩
  case rest1 =>
    rintro t _ ⟨i, h0, h1, hi, hj, hai', hij, hex, rfl, pt⟩
    have hai := hai'.2
    refine wp_inv (fun c t H1 => ∃ j' : Nat, c = j' + 1 - i ∧ t 0 = v ∧ t 1 = .int .i64 a ∧ t 9 = .int .i64 i ∧ t 10 = .int .i64 j' ∧ j' ≤ j ∧ i ≤ j' + 1 ∧ H' = H1 ∧ Pt ys a b x (fun y => ¬ x < y) i j') ?_ (n := j + 1 - i)
      ⟨j, rfl, by simp [h0], by simp [h1], by simp [hi], by simp [hj], Nat.le_refl _, hij, rfl, pt⟩
    have hex' : i < j + 1 → ¬ (fun y => ¬ x < y) (G ys i) := fun hh => by rcases hex with hex | hex; omega; exact hex.2
    have hjb0 := hjb
    rintro c t _ ⟨j', rfl, h0, h1, hi, hj, hjj', hij, rfl, pt⟩ ih2
    have hjb : j' < b := by omega
    simp [h0, h1, hi, hj]
    rw [go_draw (h := by kernel_rfl)]
    simp [h0, h1, hi, hj]
    refine wpg_dec ?_ ?_ <;> intro g1
    · have p1 : j' < ys.length := by omega
      simp [h0, h1, hi, hj, g1, ow_ix o p0, ow_ix o p1, ow_ld o p0, ow_ld o p1, less_c]
      refine wp_dec ?_ ?_ <;> intro g2
      · simp [h0, h1, hi, hj]
        refine ih2 (j' - 1 + 1 - i) _ _ ⟨j' - 1, rfl, by simp [h0], by simp [h1], by simp [hi], ?_, by omega, by omega, rfl, pt.decr (by omega) (by have := pt.1; show ¬ (¬ x < G ys j'); omega)⟩ (by omega)
        simp; rw [w64 (by omega) (by omega)]; omega
      · simp [h0, h1, hi, hj]
        have hnj : ¬ j' < i := by omega
        simp [hnj]
        have p2 : i < ys.length := by omega
        have hlo : (fun y => ¬ x < y) (G ys j') := by have := pt.1; show ¬ x < G ys j'; omega
        rw [go_draw (h := by kernel_rfl)]
        obtain ⟨H3, H4, s3, ix3, s4, o4, c4, l4⟩ := ow_swap o p2 p1 hf
        simp [h0, h1, hi, hj, ow_ix o p2, ow_ix o p1, ow_ld o p2, ow_ld o p1, s3, ix3 _ p2, ix3 _ p1, s4]
        have hlt : i < j' := by
          rcases Nat.lt_or_ge i j' with q | q
          · exact q
          · have q2 : i = j' := by omega
            exact absurd (q2 ▸ hlo) (hex' (by omega))
        refine ih (j' - 1 + 1 - (i + 1)) _ _ ⟨i + 1, j' - 1, rfl, by simp [h0], by simp [h1], ?_, ?_, by omega, by omega, by omega, _, sw.step i j' (by omega) (by omega), pt.swap hai hlt hjb (by omega) (hex' (by omega)) hlo, o4, c.trans c4, by omega⟩ (by omega)
        · simp; rw [w64 (by omega) (by omega)]
        · simp; rw [w64 (by omega) (by omega)]; omega
    · have hij' : i = j' + 1 := by omega
      have hji : j' < i := by omega
      simp [h0, h1, hi, hj, g1, hji]
      refine ⟨i, rfl, by omega, by omega, ys, sw, ⟨fun k k1 k2 => ?_, fun k k1 k2 => ?_⟩, o, c, l⟩
      · by_cases hk : k = a
        · have := pt.1; rw [hk]; omega
        · have q : ¬ x < G ys k := pt.2.1 k (by omega) k2
          omega
      · have q : ¬ ¬ x < G ys k := pt.2.2 k (by omega) k2
        omega
theorem part_w (v : Value) (xs : List Int) (e : TypeId) (a b p : Nat) (h : Ow Fl.int e H v xs) (hp : a ≤ p ∧ p < b) (hb : b ≤ xs.length) (hl : xs.length ≤ 1073741824) (hf : ∀ i ∈ ids v, frz ≤ i) :
   wp (vcall C frz 160 [v, .int .i64 a, .int .i64 b, .int .i64 p] H) (fun r H' => ∃ (m : Nat) (d : Bool), r = .tuple #[.int .i64 m, .bool d] ∧ a ≤ m ∧ m < b ∧
     Swd H v xs e a b (fun ys => (∀ k, a ≤ k → k < m → G ys k < G ys m) ∧ ∀ k, m < k → k < b → G ys m ≤ G ys k) H') := by
  rw [vcall_go (fn := Try.f160) Try.func160 rfl (by kernel_rfl) rfl]
  obtain ⟨x, hx⟩ : ∃ x, x = G xs p := ⟨_, rfl⟩
  obtain ⟨i0, hi0⟩ : ∃ i0, i0 = a + 1 := ⟨_, rfl⟩
  obtain ⟨j0, hj0⟩ : ∃ j0, j0 = b - 1 := ⟨_, rfl⟩
  have e2 : ∀ [Inhabited Unit], IntKind.i64.wrap ((a : Int) + 1) = (i0 : Int) := by intro _; rw [w64 (by omega) (by omega)]; omega
  have e3 : ∀ [Inhabited Unit], IntKind.i64.wrap ((b : Int) - 1) = (j0 : Int) := by intro _; rw [w64 (by omega) (by omega)]; omega
  have p0 : a < xs.length := by omega
  have p1 : p < xs.length := by omega
  simp
  rw [go_draw (h := by kernel_rfl)]
  obtain ⟨H1, H2, s1, ix, s2, o2, c2, l2⟩ := ow_swap h p0 p1 hf
  simp [ow_ix h p0, ow_ix h p1, ow_ld h p0, ow_ld h p1, s1, ix _ p0, ix _ p1, s2, e2, e3]
  have pt0 : Pt (swp xs a p) a b x (fun y => y < x) i0 j0 := by
    refine ⟨?_, fun k h1 h2 => by omega, fun k h1 h2 => by omega⟩
    rw [G_swp p0 p1, hx]
    split
    · rename_i e; rw [e]
    · rw [if_pos rfl]
  have sw0 : Sw a b xs (swp xs a p) := Sw.refl.step a p (by omega) (by omega)
  obtain ⟨ys, sw, o, c, l, pt⟩ : ∃ ys, Sw a b xs ys ∧ Ow Fl.int e H2 v ys ∧ Chg H H2 (ids v) ∧ H2.length = H.length ∧ Pt ys a b x (fun y => y < x) i0 j0 := ⟨_, sw0, o2, c2, l2, pt0⟩
  obtain ⟨i, hii⟩ : ∃ i, i0 = i := ⟨_, rfl⟩
  obtain ⟨j, hjj⟩ : ∃ j, j0 = j := ⟨_, rfl⟩
  rw [hii] at pt ⊢
  rw [hjj] at pt ⊢
  have hai : a < i := by omega
  have hij : i ≤ j + 1 := by omega
  have hjb : j < b := by omega
  clear pt0 sw0 o2 s1 s2 ix c2 l2 p0 p1
  have len := sw.len
  have p0 : a < ys.length := by omega
  refine wp_join (F := ?F) (k := ?k) (Q := ?Q) (fun t H1 => H2 = H1 ∧ t 0 = v ∧ t 1 = .int .i64 a ∧ t 10 = .int .i64 i ∧ t 11 = .int .i64 j) ?main ?rest
  case main => intro rest; refine rest _ _ ?_; exact ⟨rfl, by simp, by simp, by simp, by simp⟩
  case rest =>
   rintro t H' ⟨rfl, h0, h1, hi, hj⟩
   obtain ⟨H', hH⟩ : ∃ H', H' = H2 := ⟨_, rfl⟩
   subst hH
   obtain ⟨il, hil⟩ : ∃ il, il = i := ⟨_, rfl⟩
   have hai' : il ≤ i ∧ a < i := ⟨by omega, hai⟩
   refine wp_join (F := ?F3) (k := ?k3) (Q := ?Q3) (fun t H1 => ∃ i : Nat, t 0 = v ∧ t 1 = .int .i64 a ∧ t 10 = .int .i64 i ∧ t 11 = .int .i64 j ∧ (il ≤ i ∧ a < i) ∧ i ≤ j + 1 ∧ (i = j + 1 ∨ (i ≤ j ∧ ¬ (fun y => y < x) (G ys i))) ∧ H' = H1 ∧ Pt ys a b x (fun y => y < x) i j) ?main3 ?rest3
   case main3 =>
     intro rest
     refine wp_inv (fun c t H1 => ∃ i : Nat, c = j + 1 - i ∧ t 0 = v ∧ t 1 = .int .i64 a ∧ t 10 = .int .i64 i ∧ t 11 = .int .i64 j ∧ (il ≤ i ∧ a < i) ∧ i ≤ j + 1 ∧ H' = H1 ∧ Pt ys a b x (fun y => y < x) i j) ?_ (n := j + 1 - i)
       ⟨i, rfl, by simp [h0], by simp [h1], by simp [hi], by simp [hj], hai', hij, rfl, pt⟩
     rintro c t _ ⟨i, rfl, h0, h1, hi, hj, hai', hij, rfl, pt⟩ ih2
     have hai := hai'.2
     simp [h0, h1, hi, hj]
     rw [go_draw (h := by kernel_rfl)]
     simp [h0, h1, hi, hj]
     refine wpg_dec ?_ ?_ <;> intro g1
     · have p1 : i < ys.length := by omega
       simp [h0, h1, hi, hj, g1, ow_ix o p0, ow_ix o p1, ow_ld o p0, ow_ld o p1, less_c]
       refine wp_dec ?_ ?_ <;> intro g2
       · simp [h0, h1, hi, hj]
         refine ih2 (j + 1 - (i + 1)) _ _ ⟨i + 1, rfl, by simp [h0], by simp [h1], ?_, by simp [hj], by omega, by omega, rfl, pt.incr hai (by have := pt.1; show G ys i < x; omega)⟩ (by omega)
         simp; rw [w64 (by omega) (by omega)]
       · simp [h0, h1, hi, hj]
         refine rest _ _ ?_
         exact ⟨i, by simp [h0], by simp [h1], by simp [hi], by simp [hj], hai', by omega, .inr ⟨by omega, by have := pt.1; show ¬ (G ys i < x); omega⟩, rfl, pt⟩
     · simp [h0, h1, hi, hj, g1]
       refine rest _ _ ?_
       exact ⟨i, by simp [h0], by simp [h1], by simp [hi], by simp [hj], hai', hij, .inl (by omega), rfl, pt⟩
   case rest3 =>
     rintro t _ ⟨i, h0, h1, hi, hj, hai', hij, hex, rfl, pt⟩
     have hai := hai'.2
     refine wp_inv (fun c t H1 => ∃ j' : Nat, c = j' + 1 - i ∧ t 0 = v ∧ t 1 = .int .i64 a ∧ t 10 = .int .i64 i ∧ t 11 = .int .i64 j' ∧ j' ≤ j ∧ i ≤ j' + 1 ∧ H' = H1 ∧ Pt ys a b x (fun y => y < x) i j') ?_ (n := j + 1 - i)
       ⟨j, rfl, by simp [h0], by simp [h1], by simp [hi], by simp [hj], Nat.le_refl _, hij, rfl, pt⟩
     have hex' : i < j + 1 → ¬ (fun y => y < x) (G ys i) := fun hh => by rcases hex with hex | hex; omega; exact hex.2
     have hjb0 := hjb
     rintro c t _ ⟨j', rfl, h0, h1, hi, hj, hjj', hij, rfl, pt⟩ ih2
     have hjb : j' < b := by omega
     simp [h0, h1, hi, hj]
     rw [go_draw (h := by kernel_rfl)]
     simp [h0, h1, hi, hj]
     refine wpg_dec ?_ ?_ <;> intro g1
     · have p1 : j' < ys.length := by omega
       simp [h0, h1, hi, hj, g1, ow_ix o p0, ow_ix o p1, ow_ld o p0, ow_ld o p1, less_c]
       refine wp_dec ?_ ?_ <;> intro g2
       · simp [h0, h1, hi, hj]
         have hnj : ¬ j' < i := by omega
         simp [hnj]
         have p2 : i < ys.length := by omega
         have hlo : (fun y => y < x) (G ys j') := by have := pt.1; show G ys j' < x; omega
         rw [go_draw (h := by kernel_rfl)]
         obtain ⟨H3, H4, s3, ix3, s4, o4, c4, l4⟩ := ow_swap o p2 p1 hf
         simp [h0, h1, hi, hj, ow_ix o p2, ow_ix o p1, ow_ld o p2, ow_ld o p1, s3, ix3 _ p2, ix3 _ p1, s4]
         have hlt : i < j' := by
           rcases Nat.lt_or_ge i j' with q | q
           · exact q
           · have q2 : i = j' := by omega
             exact absurd (q2 ▸ hlo) (hex' (by omega))
         refine wp_inv (fun c t H' => ∃ i j : Nat, c = j + 1 - i ∧ t 0 = v ∧ t 1 = .int .i64 a ∧ t 10 = .int .i64 i ∧ t 11 = .int .i64 j ∧ a < i ∧ i ≤ j + 1 ∧ j < b ∧ Swd H v xs e a b (fun ys => Pt ys a b x (fun y => y < x) i j) H') ?_ (n := j' - 1 + 1 - (i + 1))
           ⟨i + 1, j' - 1, rfl, by simp [h0], by simp [h1], by simp; rw [w64 (by omega) (by omega)], by simp; rw [w64 (by omega) (by omega)]; omega, by omega, by omega, by omega, _, sw.step i j' (by omega) (by omega), pt.swap hai hlt hjb (by omega) (hex' (by omega)) hlo, o4, c.trans c4, by omega⟩
         rintro c t H' ⟨i, j, rfl, h0, h1, hi, hj, hai, hij, hjb, ys, sw, pt, o, c, l⟩ ih
         have len := sw.len
         have p0 : a < ys.length := by omega
         simp [h0, h1, hi, hj]
         obtain ⟨il, hil⟩ : ∃ il, il = i := ⟨_, rfl⟩
         have hai' : il ≤ i ∧ a < i := ⟨by omega, hai⟩
         refine wp_join (F := ?F32) (k := ?k2) (Q := ?Q32) (fun t H1 => ∃ i : Nat, t 0 = v ∧ t 1 = .int .i64 a ∧ t 10 = .int .i64 i ∧ t 11 = .int .i64 j ∧ (il ≤ i ∧ a < i) ∧ i ≤ j + 1 ∧ (i = j + 1 ∨ (i ≤ j ∧ ¬ (fun y => y < x) (G ys i))) ∧ H' = H1 ∧ Pt ys a b x (fun y => y < x) i j) ?main32 ?rest32
         case main32 =>
           intro rest
           refine wp_inv (fun c t H1 => ∃ i : Nat, c = j + 1 - i ∧ t 0 = v ∧ t 1 = .int .i64 a ∧ t 10 = .int .i64 i ∧ t 11 = .int .i64 j ∧ (il ≤ i ∧ a < i) ∧ i ≤ j + 1 ∧ H' = H1 ∧ Pt ys a b x (fun y => y < x) i j) ?_ (n := j + 1 - i)
             ⟨i, rfl, by simp [h0], by simp [h1], by simp [hi], by simp [hj], hai', hij, rfl, pt⟩
           rintro c t _ ⟨i, rfl, h0, h1, hi, hj, hai', hij, rfl, pt⟩ ih2
           have hai := hai'.2
           simp [h0, h1, hi, hj]
           rw [go_draw (h := by kernel_rfl)]
           simp [h0, h1, hi, hj]
           refine wpg_dec ?_ ?_ <;> intro g1
           · have p1 : i < ys.length := by omega
             simp [h0, h1, hi, hj, g1, ow_ix o p0, ow_ix o p1, ow_ld o p0, ow_ld o p1, less_c]
             refine wp_dec ?_ ?_ <;> intro g2
             · simp [h0, h1, hi, hj]
               refine ih2 (j + 1 - (i + 1)) _ _ ⟨i + 1, rfl, by simp [h0], by simp [h1], ?_, by simp [hj], by omega, by omega, rfl, pt.incr hai (by have := pt.1; show G ys i < x; omega)⟩ (by omega)
               simp; rw [w64 (by omega) (by omega)]
             · simp [h0, h1, hi, hj]
               refine rest _ _ ?_
               exact ⟨i, by simp [h0], by simp [h1], by simp [hi], by simp [hj], hai', by omega, .inr ⟨by omega, by have := pt.1; show ¬ (G ys i < x); omega⟩, rfl, pt⟩
           · simp [h0, h1, hi, hj, g1]
             refine rest _ _ ?_
             exact ⟨i, by simp [h0], by simp [h1], by simp [hi], by simp [hj], hai', hij, .inl (by omega), rfl, pt⟩
         case rest32 =>
           rintro t _ ⟨i, h0, h1, hi, hj, hai', hij, hex, rfl, pt⟩
           have hai := hai'.2
           refine wp_inv (fun c t H1 => ∃ j' : Nat, c = j' + 1 - i ∧ t 0 = v ∧ t 1 = .int .i64 a ∧ t 10 = .int .i64 i ∧ t 11 = .int .i64 j' ∧ j' ≤ j ∧ i ≤ j' + 1 ∧ H' = H1 ∧ Pt ys a b x (fun y => y < x) i j') ?_ (n := j + 1 - i)
             ⟨j, rfl, by simp [h0], by simp [h1], by simp [hi], by simp [hj], Nat.le_refl _, hij, rfl, pt⟩
           have hex' : i < j + 1 → ¬ (fun y => y < x) (G ys i) := fun hh => by rcases hex with hex | hex; omega; exact hex.2
           have hjb0 := hjb
           rintro c t _ ⟨j', rfl, h0, h1, hi, hj, hjj', hij, rfl, pt⟩ ih2
           have hjb : j' < b := by omega
           simp [h0, h1, hi, hj]
           rw [go_draw (h := by kernel_rfl)]
           simp [h0, h1, hi, hj]
           refine wpg_dec ?_ ?_ <;> intro g1
           · have p1 : j' < ys.length := by omega
             simp [h0, h1, hi, hj, g1, ow_ix o p0, ow_ix o p1, ow_ld o p0, ow_ld o p1, less_c]
             refine wp_dec ?_ ?_ <;> intro g2
             · simp [h0, h1, hi, hj]
               have hnj : ¬ j' < i := by omega
               simp [hnj]
               have p2 : i < ys.length := by omega
               have hlo : (fun y => y < x) (G ys j') := by have := pt.1; show G ys j' < x; omega
               rw [go_draw (h := by kernel_rfl)]
               obtain ⟨H3, H4, s3, ix3, s4, o4, c4, l4⟩ := ow_swap o p2 p1 hf
               simp [h0, h1, hi, hj, ow_ix o p2, ow_ix o p1, ow_ld o p2, ow_ld o p1, s3, ix3 _ p2, ix3 _ p1, s4]
               have hlt : i < j' := by
                 rcases Nat.lt_or_ge i j' with q | q
                 · exact q
                 · have q2 : i = j' := by omega
                   exact absurd (q2 ▸ hlo) (hex' (by omega))
               refine ih (j' - 1 + 1 - (i + 1)) _ _ ⟨i + 1, j' - 1, rfl, by simp [h0], by simp [h1], ?_, ?_, by omega, by omega, by omega, _, sw.step i j' (by omega) (by omega), pt.swap hai hlt hjb (by omega) (hex' (by omega)) hlo, o4, c.trans c4, by omega⟩ (by omega)
               · simp; rw [w64 (by omega) (by omega)]
               · simp; rw [w64 (by omega) (by omega)]; omega
             · simp [h0, h1, hi, hj]
               refine ih2 (j' - 1 + 1 - i) _ _ ⟨j' - 1, rfl, by simp [h0], by simp [h1], by simp [hi], ?_, by omega, by omega, rfl, pt.decr (by omega) (by have := pt.1; show ¬ (G ys j' < x); omega)⟩ (by omega)
               simp; rw [w64 (by omega) (by omega)]; omega
           · have hij' : i = j' + 1 := by omega
             have hji : j' < i := by omega
             simp [h0, h1, hi, hj, g1, hji]
             have p3 : j' < ys.length := by omega
             rw [go_draw (h := by kernel_rfl)]
             obtain ⟨H3, H4, s3, ix3, s4, o4, c4, l4⟩ := ow_swap o p3 p0 hf
             simp [h0, h1, hi, hj, ow_ix o p3, ow_ix o p0, ow_ld o p3, ow_ld o p0, s3, ix3 _ p3, ix3 _ p0, s4]
             obtain ⟨f1, f2, f3⟩ := pt.fin hij' hai hjb (by omega)
             exact ⟨j', rfl, by omega, by omega, _, sw.step j' a (by omega) (by omega), ⟨fun k k1 k2 => by have := f2 k k1 k2; rw [f1]; exact this, fun k k1 k2 => by have := f3 k k1 k2; rw [f1]; omega⟩, o4, c.trans c4, by omega⟩
       · simp [h0, h1, hi, hj]
         refine ih2 (j' - 1 + 1 - i) _ _ ⟨j' - 1, rfl, by simp [h0], by simp [h1], by simp [hi], ?_, by omega, by omega, rfl, pt.decr (by omega) (by have := pt.1; show ¬ (G ys j' < x); omega)⟩ (by omega)
         simp; rw [w64 (by omega) (by omega)]; omega
     · have hij' : i = j' + 1 := by omega
       have hji : j' < i := by omega
       simp [h0, h1, hi, hj, g1, hji]
       have p3 : j' < ys.length := by omega
       rw [go_draw (h := by kernel_rfl)]
       obtain ⟨H3, H4, s3, ix3, s4, o4, c4, l4⟩ := ow_swap o p3 p0 hf
       simp [h0, h1, hi, hj, ow_ix o p3, ow_ix o p0, ow_ld o p3, ow_ld o p0, s3, ix3 _ p3, ix3 _ p0, s4]
       obtain ⟨f1, f2, f3⟩ := pt.fin hij' hai hjb (by omega)
       exact ⟨j', rfl, by omega, by omega, _, sw.step j' a (by omega) (by omega), ⟨fun k k1 k2 => by have := f2 k k1 k2; rw [f1]; exact this, fun k k1 k2 => by have := f3 k k1 k2; rw [f1]; omega⟩, o4, c.trans c4, by omega⟩
end Go.Proofs.Ytnakhkfgheapoaa.V
/-! Sorting: partial insertion sort. -/
set_option linter.all false
namespace Go.Proofs.Ytnakhkfgheapoaa.V
open Go Go.VM Go.Proofs
set_option maxRecDepth 10000
variable {frz : Nat} {H : Heap} {v : Value} {xs : List Int} {e : TypeId}
theorem Srt.snoc {ys : List Int} {a i : Nat} (h : Srt ys a i) (hi : a < i → G ys (i - 1) ≤ G ys i) : Srt ys a (i + 1) := fun p q h1 h2 h3 => by
  by_cases hq : q = i
  · rw [hq]
    have hlt : a < i := by omega
    have := hi hlt
    by_cases hp : p = i - 1
    · rw [hp]; exact this
    · have := h p (i - 1) h1 (by omega) (by omega); omega
  · exact h p q h1 h2 (by omega)
theorem partIns_w (v : Value) (xs : List Int) (e : TypeId) (a b : Nat) (h : Ow Fl.int e H v xs) (hab : a < b) (hb : b ≤ xs.length) (hl : xs.length ≤ 1073741824) (hlo : 0 < a → ∀ k, a ≤ k → k < b → G xs (a - 1) ≤ G xs k) (hf : ∀ i ∈ ids v, frz ≤ i) :
   wp (vcall C frz 157 [v, .int .i64 a, .int .i64 b] H) (fun r H' => ∃ d : Bool, r = .bool d ∧ Swd H v xs e a b (fun ys => d = true → Srt ys a b) H') := by
  rw [vcall_go (fn := Try.f157) Try.func157 rfl (by kernel_rfl) rfl]
  obtain ⟨i0, hi0⟩ : ∃ i0, i0 = a + 1 := ⟨_, rfl⟩
  have e2 : ∀ [Inhabited Unit], IntKind.i64.wrap ((a : Int) + 1) = (i0 : Int) := by intro _; rw [w64 (by omega) (by omega)]; omega
  simp [e2]
  refine wp_inv (fun c t H' => ∃ i s : Nat, c = 5 - s ∧ s ≤ 5 ∧ t 0 = v ∧ t 1 = .int .i64 a ∧ t 2 = .int .i64 b ∧ t 7 = .int .i64 i ∧ t 8 = .int .i64 s ∧ a < i ∧ i ≤ b ∧ Swd H v xs e a b (fun ys => Srt ys a i) H') ?_ (n := 5)
    ⟨i0, 0, rfl, by omega, by simp, by simp, by simp, by simp, by simp, by omega, by omega, xs, .refl, Srt.short (by omega), h, Chg.refl _, rfl⟩
  rintro c t H' ⟨i, s, rfl, hs, h0, h1, h2, h7, h8, hai, hib, ys, sw, sr, o, c, l⟩ ih
  have len := sw.len
  simp [h0, h1, h2, h7, h8]
  refine wp_dec ?_ ?_ <;> intro g0
  · simp [h0, h1, h2, h7, h8]
    refine wp_joinb (F := ?F) (k1 := ?k1) (k2 := ?k2) (Q := ?Q) (fun c t H1 => ∃ i : Nat, c = .bool (decide ((i : Int) = b)) ∧ H' = H1 ∧ t 0 = v ∧ t 1 = .int .i64 a ∧ t 2 = .int .i64 b ∧ t 7 = .int .i64 i ∧ t 8 = .int .i64 s ∧ a < i ∧ i ≤ b ∧ Srt ys a i) ?main ?rest
    case main =>
      intro rest
      refine wp_inv (fun c t H1 => ∃ i : Nat, c = b - i ∧ H' = H1 ∧ t 0 = v ∧ t 1 = .int .i64 a ∧ t 2 = .int .i64 b ∧ t 7 = .int .i64 i ∧ t 8 = .int .i64 s ∧ a < i ∧ i ≤ b ∧ Srt ys a i) ?_ (n := b - i)
        ⟨i, rfl, rfl, by simp [h0], by simp [h1], by simp [h2], by simp [h7], by simp [h8], hai, hib, sr⟩
      rintro c t _ ⟨i, rfl, rfl, h0, h1, h2, h7, h8, hai, hib, sr⟩ ih2
      have e3 : ∀ [Inhabited Unit], IntKind.i64.wrap ((i : Int) - 1) = ((i - 1 : Nat) : Int) := by intro _; rw [w64 (by omega) (by omega)]; omega
      simp [h0, h1, h2, h7, h8]
      rw [go_draw (h := by kernel_rfl)]
      simp [h0, h1, h2, h7, h8]
      refine wpg_dec ?_ ?_ <;> intro g1
      · have p1 : i < ys.length := by omega
        have p2 : i - 1 < ys.length := by omega
        simp [h0, h1, h2, h7, h8, g1, e3, ow_ix o p1, ow_ix o p2, ow_ld o p1, ow_ld o p2, less_c]
        refine wp_dec ?_ ?_ <;> intro g2
        · simp [h0, h1, h2, h7, h8]
          refine rest _ _ _ ?_
          exact ⟨i, rfl, rfl, by simp [h0], by simp [h1], by simp [h2], by simp [h7], by simp [h8], hai, hib, sr⟩
        · simp [h0, h1, h2, h7, h8]
          refine ih2 (b - (i + 1)) _ _ ⟨i + 1, rfl, rfl, by simp [h0], by simp [h1], by simp [h2], ?_, by simp [h8], by omega, by omega, sr.snoc (fun _ => by omega)⟩ (by omega)
          simp; rw [w64 (by omega) (by omega)]
      · simp [h0, h1, h2, h7, h8, g1]
        refine rest _ _ _ ?_
        exact ⟨i, rfl, rfl, by simp [h0], by simp [h1], by simp [h2], by simp [h7], by simp [h8], hai, hib, sr⟩
    case rest =>
      rintro _ t _ ⟨i, rfl, rfl, h0, h1, h2, h7, h8, hai, hib, sr⟩
      obtain ⟨n, hn⟩ : ∃ n, n = b - a := ⟨_, rfl⟩
      obtain ⟨m, hm⟩ : ∃ m, m = i - a := ⟨_, rfl⟩
      obtain ⟨r, hr⟩ : ∃ r, r = b - i := ⟨_, rfl⟩
      have e4 : ∀ [Inhabited Unit], IntKind.i64.wrap ((b : Int) - a) = (n : Int) := by intro _; rw [w64 (by omega) (by omega)]; omega
      have e5 : ∀ [Inhabited Unit], IntKind.i64.wrap ((i : Int) - a) = (m : Int) := by intro _; rw [w64 (by omega) (by omega)]; omega
      have e6 : ∀ [Inhabited Unit], IntKind.i64.wrap ((b : Int) - i) = (r : Int) := by intro _; rw [w64 (by omega) (by omega)]; omega
      have e3 : ∀ [Inhabited Unit], IntKind.i64.wrap ((i : Int) - 1) = ((i - 1 : Nat) : Int) := by intro _; rw [w64 (by omega) (by omega)]; omega
      refine wp_dec ?_ ?_ <;> intro g1
      · simp
        have hib : i = b := by omega
        exact ⟨ys, sw, hib ▸ sr, o, c, l⟩
      · simp [h0, h1, h2, h7, h8, e4]
        refine wp_dec ?_ ?_ <;> intro g2
        · simp
          exact ⟨ys, sw, trivial, o, c, l⟩
        · have p1 : i < ys.length := by omega
          have p2 : i - 1 < ys.length := by omega
          simp [h0, h1, h2, h7, h8]
          rw [go_draw (h := by kernel_rfl)]
          obtain ⟨H3, H4, s3, ix3, s4, o4, c4, l4⟩ := ow_swap o p1 p2 hf
          simp [h0, h1, h2, h7, h8, e3, e5, ow_ix o p1, ow_ix o p2, ow_ld o p1, ow_ld o p2, s3, ix3 _ p1, ix3 _ p2, s4]
          have sw4 := sw.step i (i - 1) (by omega) (by omega)
          have sr4 : Srt (swp ys i (i - 1)) a (i - 1) := Srt.frame (fun p q q1 q2 q3 => sr p q q1 q2 (by omega)) (fun k k1 k2 => by rw [G_swp p1 p2, if_neg (by omega), if_neg (by omega)])
          have c5 := c.trans c4
          have l5 : H4.length = H.length := by omega
          generalize swp ys i (i - 1) = zs at *
          refine wp_joinb (F := ?F2) (k1 := ?k12) (k2 := ?k22) (Q := ?Q2) (fun c t H1 => c = .bool (decide (2 ≤ (r : Int))) ∧ t 0 = v ∧ t 1 = .int .i64 a ∧ t 2 = .int .i64 b ∧ t 7 = .int .i64 i ∧ t 8 = .int .i64 s ∧ Swd H v xs e a b (fun ys => Srt ys a i) H1) ?main2 ?rest2
          case main2 =>
            intro rest2
            refine wp_dec ?_ ?_ <;> intro g3
            · simp [h0, h1, h2, h7, h8, e3]
              refine wp_inv (fun c t H1 => ∃ j : Nat, c = j ∧ t 0 = v ∧ t 1 = .int .i64 a ∧ t 2 = .int .i64 b ∧ t 7 = .int .i64 i ∧ t 8 = .int .i64 s ∧ t 9 = .int .i64 j ∧ a ≤ j ∧ j ≤ i - 1 ∧ Swd H v xs e a b (fun ys => Ins ys a (i - 1) j) H1) ?_ (n := i - 1)
                ⟨i - 1, rfl, by simp [h0], by simp [h1], by simp [h2], by simp [h7], by simp [h8], by simp, by omega, by omega, zs, sw4, Ins.start sr4, o4, c5, l5⟩
              rintro j t H1 ⟨_, rfl, h0, h1, h2, h7, h8, h9, haj, hji, ws, sw, ins, o, c, l⟩ ih2
              have len := sw.len
              have e7 : ∀ [Inhabited Unit], IntKind.i64.wrap ((j : Int) - 1) = ((j - 1 : Nat) : Int) ∨ j = 0 := by
                intro _
                by_cases hj : j = 0
                · exact .inr hj
                · left; rw [w64 (by omega) (by omega)]; omega
              simp [h0, h1, h2, h7, h8, h9]
              refine wp_dec ?_ ?_ <;> intro g4
              · have e7 : ∀ [Inhabited Unit], IntKind.i64.wrap ((j : Int) - 1) = ((j - 1 : Nat) : Int) := by intro _; rw [w64 (by omega) (by omega)]; omega
                have p3 : j < ws.length := by omega
                have p4 : j - 1 < ws.length := by omega
                simp [h0, h1, h2, h7, h8, h9]
                rw [go_draw (h := by kernel_rfl)]
                simp [h0, h1, h2, h7, h8, h9, e7, ow_ix o p3, ow_ix o p4, ow_ld o p3, ow_ld o p4, less_c]
                have low : j = a → G ws (j - 1) ≤ G ws j := by
                  intro hja
                  have := sw.all hb (p := fun y => G xs (a - 1) ≤ y) (fun k k1 k2 => hlo (by omega) k k1 k2) j haj (by omega)
                  rw [hja] at this ⊢
                  rw [sw.out hb (k := a - 1) (by omega)]; exact this
                refine wp_dec ?_ ?_ <;> intro g5
                · have haj2 : a < j := by
                    rcases Nat.lt_or_ge a j with q | q
                    · exact q
                    · have := low (by omega); omega
                  simp [h0, h1, h2, h7, h8, h9]
                  rw [go_draw (h := by kernel_rfl)]
                  obtain ⟨H5, H6, s5, ix5, s6, o6, c6, l6⟩ := ow_swap o p3 p4 hf
                  simp [h0, h1, h2, h7, h8, h9, e7, ow_ix o p3, ow_ix o p4, ow_ld o p3, ow_ld o p4, s5, ix5 _ p3, ix5 _ p4, s6]
                  refine ih2 (j - 1) _ _ ⟨j - 1, rfl, by simp [h0], by simp [h1], by simp [h2], by simp [h7], by simp [h8], by simp [e7], by omega, by omega, _, sw.step j (j - 1) (by omega) (by omega), ins.step (by omega) haj2 hji g5, o6, c.trans c6, by omega⟩ (by omega)
                · have sr6 : Srt ws a (i - 1 + 1) := ins.done (by
                    rcases Nat.lt_or_ge a j with q | q
                    · exact .inr ⟨q, by omega⟩
                    · exact .inl (by omega))
                  rw [show i - 1 + 1 = i by omega] at sr6
                  simp [h0, h1, h2, h7, h8, h9, e6]
                  refine rest2 _ _ _ ?_
                  exact ⟨rfl, by simp [h0], by simp [h1], by simp [h2], by simp [h7], by simp [h8], ws, sw, sr6, o, c, l⟩
              · have sr6 : Srt ws a (i - 1 + 1) := ins.done (.inl (by omega))
                rw [show i - 1 + 1 = i by omega] at sr6
                simp [h0, h1, h2, h7, h8, h9, e6]
                refine rest2 _ _ _ ?_
                exact ⟨rfl, by simp [h0], by simp [h1], by simp [h2], by simp [h7], by simp [h8], ws, sw, sr6, o, c, l⟩
            · simp [h0, h1, h2, h7, h8, e6]
              refine rest2 _ _ _ ?_
              exact ⟨rfl, by simp [h0], by simp [h1], by simp [h2], by simp [h7], by simp [h8], zs, sw4, Srt.short (by omega), o4, c5, l5⟩
          case rest2 =>
            clear sw4 sr4 o4 c5 l5 s3 s4 ix3 c4 p1 p2
            rintro _ t H1 ⟨rfl, h0, h1, h2, h7, h8, ws, sw, sr, o, c, l⟩
            have fin : ∀ (t : Env) (H1 : Heap), t 0 = v → t 1 = .int .i64 a → t 2 = .int .i64 b → t 7 = .int .i64 i → t 8 = .int .i64 (IntKind.i64.wrap ((s : Int) + 1)) → Swd H v xs e a b (fun ys => Srt ys a i) H1 →
                ∃ i s' : Nat, 5 - (s + 1) = 5 - s' ∧ s' ≤ 5 ∧ t 0 = v ∧ t 1 = .int .i64 a ∧ t 2 = .int .i64 b ∧ t 7 = .int .i64 i ∧ t 8 = .int .i64 s' ∧ a < i ∧ i ≤ b ∧ Swd H v xs e a b (fun ys => Srt ys a i) H1 :=
              fun t H1 g0 g1 g2 g7 g8 gs => ⟨i, s + 1, rfl, by omega, g0, g1, g2, g7, by rw [g8, w64 (by omega) (by omega)]; simp, hai, hib, gs⟩
            refine wp_dec ?_ ?_ <;> intro g3
            · have e8 : ∀ [Inhabited Unit], IntKind.i64.wrap ((i : Int) + 1) = ((i + 1 : Nat) : Int) := by intro _; rw [w64 (by omega) (by omega)]; omega
              obtain ⟨j0, hj0⟩ : ∃ j0, j0 = i + 1 := ⟨_, rfl⟩
              rw [← hj0] at e8
              simp [h0, h1, h2, h7, h8, e8]
              refine wp_inv (fun c t H1 => ∃ j : Nat, c = b - j ∧ t 0 = v ∧ t 1 = .int .i64 a ∧ t 2 = .int .i64 b ∧ t 7 = .int .i64 i ∧ t 8 = .int .i64 s ∧ t 10 = .int .i64 j ∧ i < j ∧ j ≤ b ∧ Swd H v xs e a b (fun ys => Srt ys a i) H1) ?_ (n := b - j0)
                ⟨j0, rfl, by simp [h0], by simp [h1], by simp [h2], by simp [h7], by simp [h8], by simp, by omega, by omega, ws, sw, sr, o, c, l⟩
              rintro _ t H1 ⟨j, rfl, h0, h1, h2, h7, h8, h10, hij, hjb, ws, sw, sr, o, c, l⟩ ih2
              have len := sw.len
              simp [h0, h1, h2, h7, h8, h10]
              refine wp_dec ?_ ?_ <;> intro g4
              · have e7 : ∀ [Inhabited Unit], IntKind.i64.wrap ((j : Int) - 1) = ((j - 1 : Nat) : Int) := by intro _; rw [w64 (by omega) (by omega)]; omega
                have p3 : j < ws.length := by omega
                have p4 : j - 1 < ws.length := by omega
                simp [h0, h1, h2, h7, h8, h10]
                rw [go_draw (h := by kernel_rfl)]
                simp [h0, h1, h2, h7, h8, h10, e7, ow_ix o p3, ow_ix o p4, ow_ld o p3, ow_ld o p4, less_c]
                refine wp_dec ?_ ?_ <;> intro g5
                · simp [h0, h1, h2, h7, h8, h10]
                  rw [go_draw (h := by kernel_rfl)]
                  obtain ⟨H5, H6, s5, ix5, s6, o6, c6, l6⟩ := ow_swap o p3 p4 hf
                  simp [h0, h1, h2, h7, h8, h10, e7, ow_ix o p3, ow_ix o p4, ow_ld o p3, ow_ld o p4, s5, ix5 _ p3, ix5 _ p4, s6]
                  refine ih2 (b - (j + 1)) _ _ ⟨j + 1, rfl, by simp [h0], by simp [h1], by simp [h2], by simp [h7], by simp [h8], ?_, by omega, by omega, _, sw.step j (j - 1) (by omega) (by omega), Srt.frame sr (fun k k1 k2 => by rw [G_swp p3 p4, if_neg (by omega), if_neg (by omega)]), o6, c.trans c6, by omega⟩ (by omega)
                  simp; rw [w64 (by omega) (by omega)]
                · simp [h0, h1, h2, h7, h8, h10]
                  refine ih (5 - (s + 1)) _ _ (fin _ _ ?_ ?_ ?_ ?_ ?_ ⟨ws, sw, sr, o, c, l⟩) (by omega) <;> simp [h0, h1, h2, h7, h8]
              · simp [h0, h1, h2, h7, h8, h10]
                refine ih (5 - (s + 1)) _ _ (fin _ _ ?_ ?_ ?_ ?_ ?_ ⟨ws, sw, sr, o, c, l⟩) (by omega) <;> simp [h0, h1, h2, h7, h8]
            · simp [h0, h1, h2, h7, h8]
              refine ih (5 - (s + 1)) _ _ (fin _ _ ?_ ?_ ?_ ?_ ?_ ⟨ws, sw, sr, o, c, l⟩) (by omega) <;> simp [h0, h1, h2, h7, h8]
  · simp
    exact ⟨ys, sw, trivial, o, c, l⟩
end Go.Proofs.Ytnakhkfgheapoaa.V
/-! Sorting: the sort. -/
set_option linter.all false
namespace Go.Proofs.Ytnakhkfgheapoaa.V
open Go Go.VM Go.Proofs
set_option maxRecDepth 10000
variable {frz : Nat} {H : Heap} {v : Value} {xs : List Int} {e : TypeId}
/-- what the sort knows: outside of [a, b) all is sorted and lies on its side -/
structure Pq (ys : List Int) (A B a b : Nat) : Prop where
  le : A ≤ a ∧ a ≤ b ∧ b ≤ B
  left : Srt ys A a
  right : Srt ys b B
  lo : ∀ p q, A ≤ p → p < a → a ≤ q → q < B → G ys p ≤ G ys q
  hi : ∀ p q, A ≤ p → p < b → b ≤ q → q < B → G ys p ≤ G ys q
  low : 0 < A → ∀ k, A ≤ k → k < B → G ys (A - 1) ≤ G ys k
section
variable {ys zs : List Int} {A B a b m : Nat}
theorem Pq.below (h : Pq ys A B a b) (ha : 0 < a) : ∀ k, a ≤ k → k < B → G ys (a - 1) ≤ G ys k := fun k h1 h2 => by
  obtain ⟨l1, l2, l3⟩ := h.le
  by_cases hA : a = A
  · have := h.low (by omega) k (by omega) h2; rw [hA]; exact this
  · exact h.lo (a - 1) k (by omega) (by omega) h1 h2
theorem Pq.sw (h : Pq ys A B a b) (s : Sw a b ys zs) (hB : B ≤ ys.length) : Pq zs A B a b := by
  obtain ⟨l1, l2, l3⟩ := h.le
  have hb : b ≤ ys.length := by omega
  have out := fun k (hk : k < a ∨ b ≤ k) => s.out hb hk
  refine ⟨h.le, h.left.frame (fun k h1 h2 => out k (.inl h2)), h.right.frame (fun k h1 h2 => out k (.inr h1)), fun p q h1 h2 h3 h4 => ?_, fun p q h1 h2 h3 h4 => ?_, fun h0 k h1 h2 => ?_⟩
  · rw [out p (.inl h2)]
    exact s.all' hb (p := fun y => G ys p ≤ y) (Nat.le_refl a) l3 (fun k k1 k2 => h.lo p k h1 h2 k1 k2) q h3 h4
  · rw [out q (.inr h3)]
    exact s.all' hb (p := fun y => y ≤ G ys q) l1 (Nat.le_refl b) (fun k k1 k2 => h.hi k q k1 k2 h3 h4) p h1 h2
  · rw [out (A - 1) (.inl (by omega))]
    exact s.all' hb (p := fun y => G ys (A - 1) ≤ y) l1 l3 (fun k k1 k2 => h.low h0 k k1 k2) k h1 h2
theorem Pq.done (h : Pq ys A B a b) (s : Srt ys a b) : Srt ys A B := by
  obtain ⟨l1, l2, l3⟩ := h.le
  exact (h.left.join (s.join h.right (fun p q h1 h2 h3 h4 => h.hi p q (by omega) h2 h3 h4)) h.lo)
/-- equal elements go to the left -/
theorem Pq.eq {x : Int} (h : Pq ys A B a b) (hm : a < m ∧ m ≤ b) (hx : ∀ k, a ≤ k → k < b → x ≤ G ys k) (h1 : ∀ k, a ≤ k → k < m → ¬ x < G ys k) (h2 : ∀ k, m ≤ k → k < b → x < G ys k) : Pq ys A B m b := by
  obtain ⟨l1, l2, l3⟩ := h.le
  refine ⟨by omega, h.left.join (fun p q q1 q2 q3 => ?_) (fun p q q1 q2 q3 q4 => h.lo p q q1 q2 q3 (by omega)), h.right, fun p q q1 q2 q3 q4 => ?_, h.hi, h.low⟩
  · have := h1 p q1 (by omega); have := hx q (by omega) (by omega); omega
  · by_cases hp : p < a
    · exact h.lo p q q1 hp (by omega) q4
    · by_cases hq : q < b
      · have := h1 p (by omega) q2; have := h2 q q3 hq; omega
      · exact h.hi p q q1 (by omega) (by omega) q4
theorem Pq.goRight (h : Pq ys A B a b) (hm : a ≤ m ∧ m < b) (s : Srt ys a m) (h1 : ∀ k, a ≤ k → k < m → G ys k ≤ G ys m) (h2 : ∀ k, m < k → k < b → G ys m ≤ G ys k) : Pq ys A B (m + 1) b := by
  obtain ⟨l1, l2, l3⟩ := h.le
  refine ⟨by omega, h.left.join (fun p q q1 q2 q3 => ?_) (fun p q q1 q2 q3 q4 => h.lo p q q1 q2 q3 (by omega)), h.right, fun p q q1 q2 q3 q4 => ?_, h.hi, h.low⟩
  · by_cases hq : q = m
    · rw [hq]; exact h1 p q1 (by omega)
    · exact s p q q1 q2 (by omega)
  · by_cases hp : p < a
    · exact h.lo p q q1 hp (by omega) q4
    · by_cases hq : q < b
      · have := h2 q (by omega) hq
        by_cases hpm : p = m
        · rw [hpm]; exact this
        · have := h1 p (by omega) (by omega); omega
      · exact h.hi p q q1 (by omega) (by omega) q4
theorem Pq.goLeft (h : Pq ys A B a b) (hm : a ≤ m ∧ m < b) (s : Srt ys (m + 1) b) (h1 : ∀ k, a ≤ k → k < m → G ys k ≤ G ys m) (h2 : ∀ k, m < k → k < b → G ys m ≤ G ys k) : Pq ys A B a m := by
  obtain ⟨l1, l2, l3⟩ := h.le
  refine ⟨by omega, h.left, Srt.join (b := b) (fun p q q1 q2 q3 => ?_) h.right (fun p q q1 q2 q3 q4 => h.hi p q (by omega) q2 q3 q4), h.lo, fun p q q1 q2 q3 q4 => ?_, h.low⟩
  · by_cases hp : p = m
    · rw [hp]; exact h2 q (by omega) q3
    · exact s p q (by omega) q2 q3
  · by_cases hq : q < b
    · by_cases hp : p < a
      · exact h.lo p q q1 hp (by omega) q4
      · have := h1 p (by omega) q2
        by_cases hqm : q = m
        · rw [hqm]; exact this
        · have := h2 q (by omega) hq; omega
    · exact h.hi p q q1 (by omega) (by omega) q4
end
theorem pdq_w : ∀ (n : Nat) (H : Heap) (v : Value) (xs : List Int) (e : TypeId) (A B : Nat) (L : Int) (h : Ow Fl.int e H v xs) (hn : B - A ≤ n) (hab : A ≤ B) (hb : B ≤ xs.length) (hl : xs.length ≤ 1073741824)
    (hlo : 0 < A → ∀ k, A ≤ k → k < B → G xs (A - 1) ≤ G xs k) (hf : ∀ i ∈ ids v, frz ≤ i) (hF : frz ≤ H.length),
   wp (vcall C frz 135 [v, .int .i64 A, .int .i64 B, .int .i64 L] H) (fun _ H' => ∃ ys, Sw A B xs ys ∧ Srt ys A B ∧ Ow Fl.int e H' v ys ∧ Chg H H' (ids v)) := by
  intro n
  induction n using Nat.strongRecOn with
  | _ n IH =>
  intro H v xs e A B L h hn hab hb hl hlo hf hF
  rw [vcall_go (fn := Try.f135) Try.func135 rfl (by kernel_rfl) rfl]
  simp
  refine wp_inv (fun c t H' => ∃ (a b : Nat) (L : Int) (w1 w2 : Bool), c = b - a ∧ t 0 = v ∧ t 1 = .int .i64 a ∧ t 2 = .int .i64 b ∧ t 3 = .int .i64 L ∧ t 8 = .bool w1 ∧ t 9 = .bool w2 ∧
      ∃ ys, Sw A B xs ys ∧ Pq ys A B a b ∧ Ow Fl.int e H' v ys ∧ Chg H H' (ids v)) ?_ (n := B - A)
    ⟨A, B, L, true, true, rfl, by simp, by simp, by simp, by simp, by simp, by simp, xs, .refl, ⟨by omega, Srt.short (by omega), Srt.short (by omega), fun p q h1 h2 h3 h4 => by omega, fun p q h1 h2 h3 h4 => by omega, hlo⟩, h, Chg.refl _⟩
  rintro c t H' ⟨a, b, L, w1, w2, rfl, h0, h1, h2, h3, h8, h9, ys, sw, pq, o, c⟩ ih
  have len := sw.len
  obtain ⟨l1, l2, l3⟩ := pq.le
  obtain ⟨n1, hn1⟩ : ∃ n1, n1 = b - a := ⟨_, rfl⟩
  have e1 : ∀ [Inhabited Unit], IntKind.i64.wrap ((b : Int) - a) = (n1 : Int) := by intro _; rw [w64 (by omega) (by omega)]; omega
  simp [h0, h1, h2, h3, h8, h9, e1]
  refine wp_dec ?_ ?_ <;> intro g1
  · simp [h0, h1, h2, h3, h8, h9]
    refine wp_thn (insSort_w v ys e a b o l2 (by omega) (by omega) hf) ?_
    rintro _ H1 ⟨zs, sw1, sr1, o1, c1, k1⟩
    simp
    exact ⟨zs, sw.trans (sw1.mono l1 l3), (pq.sw sw1 (by omega)).done sr1, o1, c.trans c1⟩
  · simp [h0, h1, h2, h3, h8, h9]
    refine wp_dec ?_ ?_ <;> intro g2
    · simp [h0, h1, h2, h3, h8, h9]
      refine wp_thn (heapSort_w v ys e a b o (by omega) (by omega) (by omega) hf) ?_
      rintro _ H1 ⟨zs, sw1, sr1, o1, c1, k1⟩
      simp
      exact ⟨zs, sw.trans (sw1.mono l1 l3), (pq.sw sw1 (by omega)).done sr1, o1, c.trans c1⟩
    · simp [h0, h1, h2, h3, h8, h9]
      refine wp_joinc (F := ?F1) (k := ?k1) (d := ?d1) (Q := ?Q1) (fun r t => ∃ (L : Int) (zs : List Int) (H1 : Heap), r = vcall C frz 155 [v, .int .i64 a, .int .i64 b] H1 ∧ t 0 = v ∧ t 1 = .int .i64 a ∧ t 2 = .int .i64 b ∧ t 3 = .int .i64 L ∧ t 10 = .int .i64 n1 ∧ t 8 = .bool w1 ∧ t 9 = .bool w2 ∧
        Sw A B xs zs ∧ Pq zs A B a b ∧ Ow Fl.int e H1 v zs ∧ Chg H H1 (ids v)) ?main1 ?rest1
      case main1 =>
        intro rest
        have h10 := True.intro
        refine wp_bool ?_ ?_ <;> intro g3
        · simp [h0, h1, h2, h3, h8, h9]
          refine rest _ _ ?_
          exact ⟨L, ys, H', rfl, by simp [h0], by simp [h1], by simp [h2], by simp [h3], by simp [h10], by simp [h8], by simp [h9], sw, pq, o, c⟩
        · simp [h0, h1, h2, h3, h8, h9]
          refine wp_thn (breakPat_w v ys e a b o l2 (by omega) (by omega) hf (by have := c.1; omega)) ?_
          rintro _ H1 ⟨zs, sw1, o1, c1⟩
          simp [h0, h1, h2, h3, h8, h9]
          refine rest _ _ ?_
          exact ⟨IntKind.i64.wrap (L - 1), zs, H1, rfl, by simp [h0], by simp [h1], by simp [h2], by simp, by simp, by simp [h8], by simp [h9], sw.trans (sw1.mono l1 l3), pq.sw sw1 (by omega), o1, c.trans c1⟩
      case rest1 =>
        clear h0 h1 h2 h3 h8 h9 sw pq o c len
        rintro _ t ⟨L, ys, H', rfl, h0, h1, h2, h3, h10, h8, h9, sw, pq, o, c⟩
        have len := sw.len
        refine wp_thn (choosePivot_w v ys e a b o (by omega) (by omega) (by omega) (by have := c.1; omega)) ?_
        rintro _ H1 ⟨⟨p, k, rfl, hp1, hp2⟩, c1⟩
        have o1 := o.chg c1 (by simp)
        have cH1 := c.trans (c1.mono (by simp))
        simp [h0, h1, h2, h3, h8, h9]
        refine wp_joing (F := ?F2) (k := ?k2) (d := ?d2) (want := ?w2) (op := ?op2) (Q := ?Q2) (fun c t H1 => c = .bool w1 ∧ ∃ (p : Nat) (k : Int) (zs : List Int), (a ≤ p ∧ p < b) ∧ t 0 = v ∧ t 1 = .int .i64 a ∧ t 2 = .int .i64 b ∧ t 3 = .int .i64 L ∧ t 10 = .int .i64 n1 ∧ t 8 = .bool w1 ∧ t 9 = .bool w2 ∧ t 11 = .int .i64 p ∧ t 12 = .int .i64 k ∧ t 62 = .bool w1 ∧
          Sw A B xs zs ∧ Pq zs A B a b ∧ Ow Fl.int e H1 v zs ∧ Chg H H1 (ids v)) ?main2 ?rest2
        case main2 =>
          intro rest
          refine wp_dec ?_ ?_ <;> intro g3
          · simp [h0, h1, h2, h3, h8, h9]
            refine wp_thn (revRange_w v ys e a b o1 (by omega) (by omega) (by omega) hf) ?_
            rintro _ H2 ⟨zs, sw1, _, o2, c2, k2⟩
            obtain ⟨b1, hb1⟩ : ∃ b1, b1 = b - 1 := ⟨_, rfl⟩
            obtain ⟨p1, hp3⟩ : ∃ p1, p1 = p - a := ⟨_, rfl⟩
            obtain ⟨p2, hp4⟩ : ∃ p2, p2 = b1 - p1 := ⟨_, rfl⟩
            have e2 : ∀ [Inhabited Unit], IntKind.i64.wrap ((b : Int) - 1) = (b1 : Int) := by intro _; rw [w64 (by omega) (by omega)]; omega
            have e3 : ∀ [Inhabited Unit], IntKind.i64.wrap ((p : Int) - a) = (p1 : Int) := by intro _; rw [w64 (by omega) (by omega)]; omega
            have e4 : ∀ [Inhabited Unit], IntKind.i64.wrap ((b1 : Int) - p1) = (p2 : Int) := by intro _; rw [w64 (by omega) (by omega)]; omega
            simp [h0, h1, h2, h3, h8, h9, e2, e3, e4]
            refine rest _ _ _ ?_
            exact ⟨rfl, p2, 1, zs, by omega, by simp [h0], by simp [h1], by simp [h2], by simp [h3], by simp [h10], by simp [h8], by simp [h9], by simp, by simp, by simp, sw.trans (sw1.mono l1 l3), pq.sw sw1 (by omega), o2, cH1.trans c2⟩
          · simp [h0, h1, h2, h3, h8, h9]
            refine rest _ _ _ ?_
            exact ⟨rfl, p, k, ys, by omega, by simp [h0], by simp [h1], by simp [h2], by simp [h3], by simp [h10], by simp [h8], by simp [h9], by simp, by simp, by simp, sw, pq, o1, cH1⟩
        case rest2 =>
          clear h0 h1 h2 h3 h8 h9 sw pq o c len o1 c1 cH1 hp1 hp2
          rintro _ t H1 ⟨rfl, p, k, ys, hp, h0, h1, h2, h3, h10, h8, h9, h11, h12, h62, sw, pq, o, c⟩
          have len := sw.len
          refine wp_join (F := ?F3) (k := ?k3) (Q := ?Q3) (fun t H1 => ∃ (zs : List Int), t 0 = v ∧ t 1 = .int .i64 a ∧ t 2 = .int .i64 b ∧ t 3 = .int .i64 L ∧ t 10 = .int .i64 n1 ∧ t 8 = .bool w1 ∧ t 9 = .bool w2 ∧ t 11 = .int .i64 p ∧
            Sw A B xs zs ∧ Pq zs A B a b ∧ Ow Fl.int e H1 v zs ∧ Chg H H1 (ids v)) ?main3 ?rest3
          case main3 =>
            intro rest
            refine wpg_bool ?_ ?_ <;> intro g3
            · simp [h0, h1, h2, h3, h8, h9, h11, h12, h62, g3]
              refine wpg_bool ?_ ?_ <;> intro g4
              · simp [h0, h1, h2, h3, h8, h9, h11, h12, h62, g3, g4]
                refine wp_dec ?_ ?_ <;> intro g5
                · simp [h0, h1, h2, h3, h8, h9, h11, h12]
                  refine wp_thn (partIns_w v ys e a b o (by omega) (by omega) (by omega) (fun h0 k k1 k2 => pq.below h0 k k1 (by omega)) hf) ?_
                  rintro _ H2 ⟨d, rfl, zs, sw1, sr1, o2, c2, k2⟩
                  simp
                  refine wp_bool ?_ ?_ <;> intro g6
                  · simp
                    exact ⟨zs, sw.trans (sw1.mono l1 l3), (pq.sw sw1 (by omega)).done (sr1 g6), o2, c.trans c2⟩
                  · simp
                    refine rest _ _ ?_
                    exact ⟨zs, by simp [h0], by simp [h1], by simp [h2], by simp [h3], by simp [h10], by simp [h8], by simp [h9], by simp [h11], sw.trans (sw1.mono l1 l3), pq.sw sw1 (by omega), o2, c.trans c2⟩
                · simp
                  refine rest _ _ ?_
                  exact ⟨ys, by simp [h0], by simp [h1], by simp [h2], by simp [h3], by simp [h10], by simp [h8], by simp [h9], by simp [h11], sw, pq, o, c⟩
              · simp [h0, h1, h2, h3, h8, h9, h11, h12, h62, g3, g4]
                refine rest _ _ ?_
                exact ⟨ys, by simp [h0], by simp [h1], by simp [h2], by simp [h3], by simp [h10], by simp [h8, g3], by simp [h9, g4], by simp [h11], sw, pq, o, c⟩
            · simp [h0, h1, h2, h3, h8, h9, h11, h12, h62, g3]
              refine rest _ _ ?_
              exact ⟨ys, by simp [h0], by simp [h1], by simp [h2], by simp [h3], by simp [h10], by simp [h8, g3], by simp [h9], by simp [h11], sw, pq, o, c⟩
          case rest3 =>
            clear h0 h1 h2 h3 h8 h9 h11 h12 sw pq o c len
            rintro t H1 ⟨ys, h0, h1, h2, h3, h10, h8, h9, h11, sw, pq, o, c⟩
            have len := sw.len
            have q1 : p < ys.length := by omega
            rw [go_draw (h := by kernel_rfl)]
            simp [h0, h1, h2, h3, h8, h9, h11]
            refine wp_joinc (F := ?F4) (k := ?k4) (d := ?d4) (Q := ?Q4) (fun r t => r = vcall C frz 160 [v, .int .i64 a, .int .i64 b, .int .i64 p] H1 ∧ t 0 = v ∧ t 1 = .int .i64 a ∧ t 2 = .int .i64 b ∧ t 3 = .int .i64 L ∧ t 10 = .int .i64 n1) ?main4 ?rest4
            case main4 =>
              intro rest
              refine wpg_dec ?_ ?_ <;> intro g3
              · have e5 : ∀ [Inhabited Unit], IntKind.i64.wrap ((a : Int) - 1) = ((a - 1 : Nat) : Int) := by intro _; rw [w64 (by omega) (by omega)]; omega
                have q2 : a - 1 < ys.length := by omega
                simp [h0, h1, h2, h3, h8, h9, h11, g3, e5, ow_ix o q1, ow_ix o q2, ow_ld o q1, ow_ld o q2, less_c]
                refine wp_dec ?_ ?_ <;> intro g4
                · simp [h0, h1, h2, h3, h8, h9, h11]
                  refine rest _ _ ?_
                  exact ⟨rfl, by simp [h0], by simp [h1], by simp [h2], by simp [h3], by simp [h10]⟩
                · simp [h0, h1, h2, h3, h8, h9, h11]
                  refine wp_thn (partEq_w v ys e a b p o hp (by omega) (by omega) hf) ?_
                  rintro _ H2 ⟨m, rfl, m1, m2, zs, sw1, ⟨f1, f2⟩, o2, c2, k2⟩
                  simp [h0, h1, h2, h3, h8, h9, h11]
                  have low := (pq.sw sw1 (by omega)).below g3
                  have out := sw1.out (by omega) (k := a - 1) (by omega)
                  refine ih (b - m) _ _ ⟨m, b, L, w1, w2, rfl, by simp [h0], by simp, by simp [h2], by simp [h3], by simp [h8], by simp [h9], zs, sw.trans (sw1.mono l1 l3), (pq.sw sw1 (by omega)).eq ⟨m1, m2⟩ (fun k k1 k2 => ?_) f1 f2, o2, c.trans c2⟩ (by omega)
                  have := low k k1 (by omega); omega
              · simp [h0, h1, h2, h3, h8, h9, h11, g3]
                refine rest _ _ ?_
                exact ⟨rfl, by simp [h0], by simp [h1], by simp [h2], by simp [h3], by simp [h10]⟩
            case rest4 =>
              rintro _ t ⟨rfl, h0, h1, h2, h3, h10⟩
              refine wp_thn (part_w v ys e a b p o hp (by omega) (by omega) hf) ?_
              rintro _ H2 ⟨m, d, rfl, m1, m2, zs, sw1, ⟨f1, f2⟩, o2, c2, k2⟩
              have pq2 := pq.sw sw1 (by omega)
              have len2 := sw1.len
              obtain ⟨r1, hr1⟩ : ∃ r1, r1 = m - a := ⟨_, rfl⟩
              obtain ⟨r2, hr2⟩ : ∃ r2, r2 = b - m := ⟨_, rfl⟩
              obtain ⟨mm, hmm⟩ : ∃ mm, mm = m + 1 := ⟨_, rfl⟩
              have e6 : ∀ [Inhabited Unit], IntKind.i64.wrap ((m : Int) - a) = (r1 : Int) := by intro _; rw [w64 (by omega) (by omega)]; omega
              have e7 : ∀ [Inhabited Unit], IntKind.i64.wrap ((b : Int) - m) = (r2 : Int) := by intro _; rw [w64 (by omega) (by omega)]; omega
              have e8 : ∀ [Inhabited Unit], IntKind.i64.wrap ((m : Int) + 1) = (mm : Int) := by intro _; rw [w64 (by omega) (by omega)]; omega
              have f1' : ∀ k, a ≤ k → k < m → G zs k ≤ G zs m := fun k k1 k2 => Int.le_of_lt (f1 k k1 k2)
              have cc := c.trans c2
              have q8 : ∀ [Inhabited Unit], IntKind.i64.wrap ((n1 : Int) / 8) = (n1 / 8 : Nat) := by intro _; rw [w64 (by omega) (by omega)]; omega
              obtain ⟨n8, hn8⟩ : ∃ n8, n8 = n1 / 8 := ⟨_, rfl⟩
              rw [← hn8] at q8
              simp [h0, h1, h2, h3, h10, e6, e7, e8, q8]
              refine wp_dec ?_ ?_ <;> intro g7
              · simp [h0, h1, h2, h3, h10]
                refine wp_thn (IH (m - a) (by omega) H2 v zs e a m L o2 (Nat.le_refl _) (by omega) (by omega) (by omega) (fun q0 k k1 k2 => pq2.below q0 k k1 (by omega)) hf (by have := cc.1; omega)) ?_
                rintro _ H3 ⟨ws, sw3, sr3, o3, c3⟩
                simp [h0, h1, h2, h3, h10, e8]
                have hbz : m ≤ zs.length := by omega
                have wm : G ws m = G zs m := sw3.out hbz (.inr (Nat.le_refl _))
                refine ih (b - mm) _ _ ⟨mm, b, L, decide (n8 ≤ r1), d, rfl, by simp [h0], by simp, by simp [h2], by simp [h3], by simp, by simp, ws, (sw.trans (sw1.mono l1 l3)).trans (sw3.mono l1 (by omega)), ?_, o3, cc.trans c3⟩ (by omega)
                rw [hmm]
                refine (pq2.sw (sw3.mono (Nat.le_refl _) (by omega)) (by omega)).goRight ⟨m1, m2⟩ sr3 ?_ (fun k k1 k2 => ?_)
                · rw [wm]; exact sw3.all hbz (p := fun y => y ≤ G zs m) f1'
                · rw [wm, sw3.out hbz (.inr (by omega))]; exact f2 k k1 k2
              · simp [h0, h1, h2, h3, h10, e8]
                refine wp_thn (IH (b - mm) (by omega) H2 v zs e mm b L o2 (Nat.le_refl _) (by omega) (by omega) (by omega) (fun q0 k k1 k2 => by rw [show mm - 1 = m by omega]; exact f2 k (by omega) k2) hf (by have := cc.1; omega)) ?_
                rintro _ H3 ⟨ws, sw3, sr3, o3, c3⟩
                simp [h0, h1, h2, h3, h10, e8]
                have hbz : b ≤ zs.length := by omega
                have wm : G ws m = G zs m := sw3.out hbz (.inl (by omega))
                refine ih (m - a) _ _ ⟨a, m, L, decide (n8 ≤ r2), d, rfl, by simp [h0], by simp [h1], by simp, by simp [h3], by simp, by simp, ws, (sw.trans (sw1.mono l1 l3)).trans (sw3.mono (by omega) l3), ?_, o3, cc.trans c3⟩ (by omega)
                refine (pq2.sw (sw3.mono (by omega) (Nat.le_refl _)) (by omega)).goLeft ⟨m1, m2⟩ (hmm ▸ sr3) (fun k k1 k2 => ?_) (fun k k1 k2 => ?_)
                · rw [wm, sw3.out hbz (.inl (by omega))]; exact f1' k k1 k2
                · rw [wm]; exact sw3.all hbz (p := fun y => G zs m ≤ y) (fun k k1 k2 => f2 k (by omega) k2) k (by omega) k2
/-- the sorted list -/
theorem sorted_eq {xs ys : List Int} (h1 : xs.Pairwise (· ≤ ·)) (h2 : ys.Pairwise (· ≤ ·)) (h : xs.Perm ys) : xs = ys :=
  List.Perm.eq_of_pairwise (le := (· ≤ ·)) (fun a b _ _ h1 h2 => Int.le_antisymm h1 h2) h1 h2 h
def isort (xs : List Int) : List Int := xs.mergeSort (fun a b => decide (a ≤ b))
theorem isort_perm (xs : List Int) : (isort xs).Perm xs := List.mergeSort_perm xs _
theorem isort_sorted (xs : List Int) : (isort xs).Pairwise (· ≤ ·) := by
  have := List.pairwise_mergeSort (le := fun a b : Int => decide (a ≤ b)) (fun a b c h1 h2 => by simp at *; omega) (fun a b => by simp; omega) xs
  exact this.imp (fun h => by simpa using h)
theorem isort_len (xs : List Int) : (isort xs).length = xs.length := (isort_perm xs).length_eq
theorem sort_w (v : Value) (xs : List Int) (e : TypeId) (h : Ow Fl.int e H v xs) (hl : xs.length ≤ 1073741824) (hf : ∀ i ∈ ids v, frz ≤ i) (hF : frz ≤ H.length) :
   wp (vcall C frz 105 [v] H) (fun _ H' => Ow Fl.int e H' v (isort xs) ∧ Chg H H' (ids v)) := by
  rw [vcall_go (fn := Try.f105) Try.func105 rfl (by kernel_rfl) rfl]
  have e1 : ∀ [Inhabited Unit], IntKind.u64.wrap (xs.length : Int) = (xs.length : Int) := by intro _; exact w64u (by omega) (by omega)
  simp [h.rd.len, e1]
  refine wp_thn (len_w xs.length (by omega)) ?_
  rintro _ H0 ⟨hH, n, rfl, _⟩
  rw [hH]
  simp
  have := pdq_w (frz := frz) xs.length H v xs e 0 xs.length n h (by omega) (by omega) (Nat.le_refl _) hl (fun h => by omega) hf hF
  refine wp_thn (by simpa using this) ?_
  rintro _ H1 ⟨ys, sw, sr, o, c⟩
  simp
  have hys : ys = isort xs := by
    have hp := sw.perm (Nat.le_refl _)
    rw [← sw.len] at sr
    exact sorted_eq sr.pairwise (isort_sorted xs) (hp.trans (isort_perm xs).symm)
  subst hys
  exact ⟨o, c⟩
end Go.Proofs.Ytnakhkfgheapoaa.V
