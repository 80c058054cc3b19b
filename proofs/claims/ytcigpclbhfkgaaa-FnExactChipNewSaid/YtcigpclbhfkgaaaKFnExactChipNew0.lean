/- Texts of a proof, joined. -/
import Derived.Test.YtcigpclbhfkgaaaProg
import Derived.KernelRfl
import Derived.Test.YtcigpclbhfkgaaaKM0
import Derived.Test.YtcigpclbhfkgaaaKM1
/- What the value machine is told of the program: which functions may change rows, and the types' sizes and places. -/
namespace Go.Proofs.Ytcigpclbhfkgaaa.V
open Go Go.VM Go.Proofs
noncomputable def C : Ctx := { P := Try.prog, mode := fun g => if [33, 37, 38, 74, 83, 84, 85, 86, 97, 99, 134, 151, 152, 154, 156, 174, 182, 185, 187].contains g then 2 else if [15, 22, 27, 30, 32, 35, 36, 45, 46, 62, 67, 70, 71, 72, 73, 78, 79, 81, 82, 95, 96, 98, 106, 112, 120, 123, 124, 125, 126, 127, 128, 131, 133, 138, 140, 141, 143, 145, 146, 153, 155, 169, 171, 176, 177, 178, 183, 186, 200, 201, 203, 207, 208].contains g then 1 else 0, ext := fun _ => none }
@[simp] theorem CP : C.P = Try.prog := rfl
theorem drawn : DrawOk C := drawOk_holds C (by kernel_rfl)
@[simp] theorem mode0 : C.mode 0 = 0 := rfl
@[simp] theorem mode1 : C.mode 1 = 0 := rfl
@[simp] theorem mode2 : C.mode 2 = 0 := rfl
@[simp] theorem mode3 : C.mode 3 = 0 := rfl
@[simp] theorem mode4 : C.mode 4 = 0 := rfl
@[simp] theorem mode5 : C.mode 5 = 0 := rfl
@[simp] theorem mode6 : C.mode 6 = 0 := rfl
@[simp] theorem mode7 : C.mode 7 = 0 := rfl
@[simp] theorem mode8 : C.mode 8 = 0 := rfl
@[simp] theorem mode9 : C.mode 9 = 0 := rfl
@[simp] theorem mode10 : C.mode 10 = 0 := rfl
@[simp] theorem mode11 : C.mode 11 = 0 := rfl
@[simp] theorem mode12 : C.mode 12 = 0 := rfl
@[simp] theorem mode13 : C.mode 13 = 0 := rfl
@[simp] theorem mode14 : C.mode 14 = 0 := rfl
@[simp] theorem mode15 : C.mode 15 = 1 := rfl
@[simp] theorem mode16 : C.mode 16 = 0 := rfl
@[simp] theorem mode17 : C.mode 17 = 0 := rfl
@[simp] theorem mode18 : C.mode 18 = 0 := rfl
@[simp] theorem mode19 : C.mode 19 = 0 := rfl
@[simp] theorem mode20 : C.mode 20 = 0 := rfl
@[simp] theorem mode21 : C.mode 21 = 0 := rfl
@[simp] theorem mode22 : C.mode 22 = 1 := rfl
@[simp] theorem mode23 : C.mode 23 = 0 := rfl
@[simp] theorem mode24 : C.mode 24 = 0 := rfl
@[simp] theorem mode25 : C.mode 25 = 0 := rfl
@[simp] theorem mode26 : C.mode 26 = 0 := rfl
@[simp] theorem mode27 : C.mode 27 = 1 := rfl
@[simp] theorem mode28 : C.mode 28 = 0 := rfl
@[simp] theorem mode29 : C.mode 29 = 0 := rfl
@[simp] theorem mode30 : C.mode 30 = 1 := rfl
@[simp] theorem mode31 : C.mode 31 = 0 := rfl
@[simp] theorem mode32 : C.mode 32 = 1 := rfl
@[simp] theorem mode33 : C.mode 33 = 2 := rfl
@[simp] theorem mode34 : C.mode 34 = 0 := rfl
@[simp] theorem mode35 : C.mode 35 = 1 := rfl
@[simp] theorem mode36 : C.mode 36 = 1 := rfl
@[simp] theorem mode37 : C.mode 37 = 2 := rfl
@[simp] theorem mode38 : C.mode 38 = 2 := rfl
@[simp] theorem mode39 : C.mode 39 = 0 := rfl
@[simp] theorem mode40 : C.mode 40 = 0 := rfl
@[simp] theorem mode41 : C.mode 41 = 0 := rfl
@[simp] theorem mode42 : C.mode 42 = 0 := rfl
@[simp] theorem mode43 : C.mode 43 = 0 := rfl
@[simp] theorem mode44 : C.mode 44 = 0 := rfl
@[simp] theorem mode45 : C.mode 45 = 1 := rfl
@[simp] theorem mode46 : C.mode 46 = 1 := rfl
@[simp] theorem mode47 : C.mode 47 = 0 := rfl
@[simp] theorem mode48 : C.mode 48 = 0 := rfl
@[simp] theorem mode49 : C.mode 49 = 0 := rfl
@[simp] theorem mode50 : C.mode 50 = 0 := rfl
@[simp] theorem mode51 : C.mode 51 = 0 := rfl
@[simp] theorem mode52 : C.mode 52 = 0 := rfl
@[simp] theorem mode53 : C.mode 53 = 0 := rfl
@[simp] theorem mode54 : C.mode 54 = 0 := rfl
@[simp] theorem mode55 : C.mode 55 = 0 := rfl
@[simp] theorem mode56 : C.mode 56 = 0 := rfl
@[simp] theorem mode57 : C.mode 57 = 0 := rfl
@[simp] theorem mode58 : C.mode 58 = 0 := rfl
@[simp] theorem mode59 : C.mode 59 = 0 := rfl
@[simp] theorem mode60 : C.mode 60 = 0 := rfl
@[simp] theorem mode61 : C.mode 61 = 0 := rfl
@[simp] theorem mode62 : C.mode 62 = 1 := rfl
@[simp] theorem mode63 : C.mode 63 = 0 := rfl
@[simp] theorem mode64 : C.mode 64 = 0 := rfl
@[simp] theorem mode65 : C.mode 65 = 0 := rfl
@[simp] theorem mode66 : C.mode 66 = 0 := rfl
@[simp] theorem mode67 : C.mode 67 = 1 := rfl
@[simp] theorem mode68 : C.mode 68 = 0 := rfl
@[simp] theorem mode69 : C.mode 69 = 0 := rfl
@[simp] theorem mode70 : C.mode 70 = 1 := rfl
@[simp] theorem mode71 : C.mode 71 = 1 := rfl
@[simp] theorem mode72 : C.mode 72 = 1 := rfl
@[simp] theorem mode73 : C.mode 73 = 1 := rfl
@[simp] theorem mode74 : C.mode 74 = 2 := rfl
@[simp] theorem mode75 : C.mode 75 = 0 := rfl
@[simp] theorem mode76 : C.mode 76 = 0 := rfl
@[simp] theorem mode77 : C.mode 77 = 0 := rfl
@[simp] theorem mode78 : C.mode 78 = 1 := rfl
@[simp] theorem mode79 : C.mode 79 = 1 := rfl
@[simp] theorem mode80 : C.mode 80 = 0 := rfl
@[simp] theorem mode81 : C.mode 81 = 1 := rfl
@[simp] theorem mode82 : C.mode 82 = 1 := rfl
@[simp] theorem mode83 : C.mode 83 = 2 := rfl
@[simp] theorem mode84 : C.mode 84 = 2 := rfl
@[simp] theorem mode85 : C.mode 85 = 2 := rfl
@[simp] theorem mode86 : C.mode 86 = 2 := rfl
@[simp] theorem mode87 : C.mode 87 = 0 := rfl
@[simp] theorem mode88 : C.mode 88 = 0 := rfl
@[simp] theorem mode89 : C.mode 89 = 0 := rfl
@[simp] theorem mode90 : C.mode 90 = 0 := rfl
@[simp] theorem mode91 : C.mode 91 = 0 := rfl
@[simp] theorem mode92 : C.mode 92 = 0 := rfl
@[simp] theorem mode93 : C.mode 93 = 0 := rfl
@[simp] theorem mode94 : C.mode 94 = 0 := rfl
@[simp] theorem mode95 : C.mode 95 = 1 := rfl
@[simp] theorem mode96 : C.mode 96 = 1 := rfl
@[simp] theorem mode97 : C.mode 97 = 2 := rfl
@[simp] theorem mode98 : C.mode 98 = 1 := rfl
@[simp] theorem mode99 : C.mode 99 = 2 := rfl
@[simp] theorem mode100 : C.mode 100 = 0 := rfl
@[simp] theorem mode101 : C.mode 101 = 0 := rfl
@[simp] theorem mode102 : C.mode 102 = 0 := rfl
@[simp] theorem mode103 : C.mode 103 = 0 := rfl
@[simp] theorem mode104 : C.mode 104 = 0 := rfl
@[simp] theorem mode105 : C.mode 105 = 0 := rfl
@[simp] theorem mode106 : C.mode 106 = 1 := rfl
@[simp] theorem mode107 : C.mode 107 = 0 := rfl
@[simp] theorem mode108 : C.mode 108 = 0 := rfl
@[simp] theorem mode109 : C.mode 109 = 0 := rfl
@[simp] theorem mode110 : C.mode 110 = 0 := rfl
@[simp] theorem mode111 : C.mode 111 = 0 := rfl
@[simp] theorem mode112 : C.mode 112 = 1 := rfl
@[simp] theorem mode113 : C.mode 113 = 0 := rfl
@[simp] theorem mode114 : C.mode 114 = 0 := rfl
@[simp] theorem mode115 : C.mode 115 = 0 := rfl
@[simp] theorem mode116 : C.mode 116 = 0 := rfl
@[simp] theorem mode117 : C.mode 117 = 0 := rfl
@[simp] theorem mode118 : C.mode 118 = 0 := rfl
@[simp] theorem mode119 : C.mode 119 = 0 := rfl
@[simp] theorem mode120 : C.mode 120 = 1 := rfl
@[simp] theorem mode121 : C.mode 121 = 0 := rfl
@[simp] theorem mode122 : C.mode 122 = 0 := rfl
@[simp] theorem mode123 : C.mode 123 = 1 := rfl
@[simp] theorem mode124 : C.mode 124 = 1 := rfl
@[simp] theorem mode125 : C.mode 125 = 1 := rfl
@[simp] theorem mode126 : C.mode 126 = 1 := rfl
@[simp] theorem mode127 : C.mode 127 = 1 := rfl
@[simp] theorem mode128 : C.mode 128 = 1 := rfl
@[simp] theorem mode129 : C.mode 129 = 0 := rfl
@[simp] theorem mode130 : C.mode 130 = 0 := rfl
@[simp] theorem mode131 : C.mode 131 = 1 := rfl
@[simp] theorem mode132 : C.mode 132 = 0 := rfl
@[simp] theorem mode133 : C.mode 133 = 1 := rfl
@[simp] theorem mode134 : C.mode 134 = 2 := rfl
@[simp] theorem mode135 : C.mode 135 = 0 := rfl
@[simp] theorem mode136 : C.mode 136 = 0 := rfl
@[simp] theorem mode137 : C.mode 137 = 0 := rfl
@[simp] theorem mode138 : C.mode 138 = 1 := rfl
@[simp] theorem mode139 : C.mode 139 = 0 := rfl
@[simp] theorem mode140 : C.mode 140 = 1 := rfl
@[simp] theorem mode141 : C.mode 141 = 1 := rfl
@[simp] theorem mode142 : C.mode 142 = 0 := rfl
@[simp] theorem mode143 : C.mode 143 = 1 := rfl
@[simp] theorem mode144 : C.mode 144 = 0 := rfl
@[simp] theorem mode145 : C.mode 145 = 1 := rfl
@[simp] theorem mode146 : C.mode 146 = 1 := rfl
@[simp] theorem mode147 : C.mode 147 = 0 := rfl
@[simp] theorem mode148 : C.mode 148 = 0 := rfl
@[simp] theorem mode149 : C.mode 149 = 0 := rfl
@[simp] theorem mode150 : C.mode 150 = 0 := rfl
@[simp] theorem mode151 : C.mode 151 = 2 := rfl
@[simp] theorem mode152 : C.mode 152 = 2 := rfl
@[simp] theorem mode153 : C.mode 153 = 1 := rfl
@[simp] theorem mode154 : C.mode 154 = 2 := rfl
@[simp] theorem mode155 : C.mode 155 = 1 := rfl
@[simp] theorem mode156 : C.mode 156 = 2 := rfl
@[simp] theorem mode157 : C.mode 157 = 0 := rfl
@[simp] theorem mode158 : C.mode 158 = 0 := rfl
@[simp] theorem mode159 : C.mode 159 = 0 := rfl
@[simp] theorem mode160 : C.mode 160 = 0 := rfl
@[simp] theorem mode161 : C.mode 161 = 0 := rfl
@[simp] theorem mode162 : C.mode 162 = 0 := rfl
@[simp] theorem mode163 : C.mode 163 = 0 := rfl
@[simp] theorem mode164 : C.mode 164 = 0 := rfl
@[simp] theorem mode165 : C.mode 165 = 0 := rfl
@[simp] theorem mode166 : C.mode 166 = 0 := rfl
@[simp] theorem mode167 : C.mode 167 = 0 := rfl
@[simp] theorem mode168 : C.mode 168 = 0 := rfl
@[simp] theorem mode169 : C.mode 169 = 1 := rfl
@[simp] theorem mode170 : C.mode 170 = 0 := rfl
@[simp] theorem mode171 : C.mode 171 = 1 := rfl
@[simp] theorem mode172 : C.mode 172 = 0 := rfl
@[simp] theorem mode173 : C.mode 173 = 0 := rfl
@[simp] theorem mode174 : C.mode 174 = 2 := rfl
@[simp] theorem mode175 : C.mode 175 = 0 := rfl
@[simp] theorem mode176 : C.mode 176 = 1 := rfl
@[simp] theorem mode177 : C.mode 177 = 1 := rfl
@[simp] theorem mode178 : C.mode 178 = 1 := rfl
@[simp] theorem mode179 : C.mode 179 = 0 := rfl
@[simp] theorem mode180 : C.mode 180 = 0 := rfl
@[simp] theorem mode181 : C.mode 181 = 0 := rfl
@[simp] theorem mode182 : C.mode 182 = 2 := rfl
@[simp] theorem mode183 : C.mode 183 = 1 := rfl
@[simp] theorem mode184 : C.mode 184 = 0 := rfl
@[simp] theorem mode185 : C.mode 185 = 2 := rfl
@[simp] theorem mode186 : C.mode 186 = 1 := rfl
@[simp] theorem mode187 : C.mode 187 = 2 := rfl
@[simp] theorem mode188 : C.mode 188 = 0 := rfl
@[simp] theorem mode189 : C.mode 189 = 0 := rfl
@[simp] theorem mode190 : C.mode 190 = 0 := rfl
@[simp] theorem mode191 : C.mode 191 = 0 := rfl
@[simp] theorem mode192 : C.mode 192 = 0 := rfl
@[simp] theorem mode193 : C.mode 193 = 0 := rfl
@[simp] theorem mode194 : C.mode 194 = 0 := rfl
@[simp] theorem mode195 : C.mode 195 = 0 := rfl
@[simp] theorem mode196 : C.mode 196 = 0 := rfl
@[simp] theorem mode197 : C.mode 197 = 0 := rfl
@[simp] theorem mode198 : C.mode 198 = 0 := rfl
@[simp] theorem mode199 : C.mode 199 = 0 := rfl
@[simp] theorem mode200 : C.mode 200 = 1 := rfl
@[simp] theorem mode201 : C.mode 201 = 1 := rfl
@[simp] theorem mode202 : C.mode 202 = 0 := rfl
@[simp] theorem mode203 : C.mode 203 = 1 := rfl
@[simp] theorem mode204 : C.mode 204 = 0 := rfl
@[simp] theorem mode205 : C.mode 205 = 0 := rfl
@[simp] theorem mode206 : C.mode 206 = 0 := rfl
@[simp] theorem mode207 : C.mode 207 = 1 := rfl
@[simp] theorem mode208 : C.mode 208 = 1 := rfl
@[simp] theorem mode209 : C.mode 209 = 0 := rfl
@[simp] theorem mode210 : C.mode 210 = 0 := rfl
@[simp] theorem mode211 : C.mode 211 = 0 := rfl
@[simp] theorem mode212 : C.mode 212 = 0 := rfl
@[simp] theorem mode213 : C.mode 213 = 0 := rfl
@[simp] theorem mode214 : C.mode 214 = 0 := rfl
@[simp] theorem mode215 : C.mode 215 = 0 := rfl
@[simp] theorem mode216 : C.mode 216 = 0 := rfl
@[simp] theorem mode217 : C.mode 217 = 0 := rfl
@[simp] theorem mode218 : C.mode 218 = 0 := rfl
@[simp] theorem mode219 : C.mode 219 = 0 := rfl
@[simp] theorem mode220 : C.mode 220 = 0 := rfl
@[simp] theorem mode221 : C.mode 221 = 0 := rfl
@[simp] theorem mode222 : C.mode 222 = 0 := rfl
@[simp] theorem mode223 : C.mode 223 = 0 := rfl
@[simp] theorem mode224 : C.mode 224 = 0 := rfl
@[simp] theorem mode225 : C.mode 225 = 0 := rfl
@[simp] theorem mode226 : C.mode 226 = 0 := rfl
@[simp] theorem mode227 : C.mode 227 = 0 := rfl
@[simp] theorem mode228 : C.mode 228 = 0 := rfl
@[simp] theorem mode229 : C.mode 229 = 0 := rfl
@[simp] theorem tsz2 : tsz Try.prog 2 = some (false, 1) := by kernel_rfl
@[simp] theorem tzero2 : tzero Try.prog 2 = some [.int .i64 0] := by kernel_rfl
@[simp] theorem und2 : Try.prog.underlying 2 = some (.int .i64) := by kernel_rfl
@[simp] theorem tsz3 : tsz Try.prog 3 = some (false, 1) := by kernel_rfl
@[simp] theorem tzero3 : tzero Try.prog 3 = some [.int .i64 0] := by kernel_rfl
@[simp] theorem und3 : Try.prog.underlying 3 = some (.int .i64) := by kernel_rfl
@[simp] theorem tsz4 : tsz Try.prog 4 = some (false, 1) := by kernel_rfl
@[simp] theorem tzero4 : tzero Try.prog 4 = some [.bool false] := by kernel_rfl
@[simp] theorem und4 : Try.prog.underlying 4 = some .bool := by kernel_rfl
@[simp] theorem tsz5 : tsz Try.prog 5 = some (false, 1) := by kernel_rfl
@[simp] theorem tzero5 : tzero Try.prog 5 = some [.int .u8 0] := by kernel_rfl
@[simp] theorem und5 : Try.prog.underlying 5 = some (.int .u8) := by kernel_rfl
@[simp] theorem tsz6 : tsz Try.prog 6 = some (false, 1) := by kernel_rfl
@[simp] theorem tzero6 : tzero Try.prog 6 = some [.int .u8 0] := by kernel_rfl
@[simp] theorem und6 : Try.prog.underlying 6 = some (.int .u8) := by kernel_rfl
@[simp] theorem tsz7 : tsz Try.prog 7 = some (true, 4) := by kernel_rfl
@[simp] theorem tzero7 : tzero Try.prog 7 = some [.int .i64 0, .int .i64 0, .bool false, .int .u8 0] := by kernel_rfl
@[simp] theorem finfo7_0 : finfo Try.prog 7 0 = some (0, false, 1) := by kernel_rfl
@[simp] theorem finfo7_1 : finfo Try.prog 7 1 = some (1, false, 1) := by kernel_rfl
@[simp] theorem finfo7_2 : finfo Try.prog 7 2 = some (2, false, 1) := by kernel_rfl
@[simp] theorem finfo7_3 : finfo Try.prog 7 3 = some (3, false, 1) := by kernel_rfl
@[simp] theorem bplaces7 : bplaces Try.prog 7 = some [(0, 1), (1, 1), (2, 1), (3, 1)] := by kernel_rfl
@[simp] theorem tsz8 : tsz Try.prog 8 = some (true, 4) := by kernel_rfl
@[simp] theorem tzero8 : tzero Try.prog 8 = some [.int .i64 0, .int .i64 0, .bool false, .int .u8 0] := by kernel_rfl
@[simp] theorem finfo8_0 : finfo Try.prog 8 0 = some (0, false, 1) := by kernel_rfl
@[simp] theorem finfo8_1 : finfo Try.prog 8 1 = some (1, false, 1) := by kernel_rfl
@[simp] theorem finfo8_2 : finfo Try.prog 8 2 = some (2, false, 1) := by kernel_rfl
@[simp] theorem finfo8_3 : finfo Try.prog 8 3 = some (3, false, 1) := by kernel_rfl
@[simp] theorem bplaces8 : bplaces Try.prog 8 = some [(0, 1), (1, 1), (2, 1), (3, 1)] := by kernel_rfl
@[simp] theorem tsz9 : tsz Try.prog 9 = some (false, 1) := by kernel_rfl
@[simp] theorem tzero9 : tzero Try.prog 9 = some [.string .empty] := by kernel_rfl
@[simp] theorem isStr9 : isStr Try.prog 9 = true := by kernel_rfl
@[simp] theorem und9 : Try.prog.underlying 9 = some .string := by kernel_rfl
@[simp] theorem tsz10 : tsz Try.prog 10 = some (false, 1) := by kernel_rfl
@[simp] theorem tzero10 : tzero Try.prog 10 = some [.string .empty] := by kernel_rfl
@[simp] theorem isStr10 : isStr Try.prog 10 = true := by kernel_rfl
@[simp] theorem und10 : Try.prog.underlying 10 = some .string := by kernel_rfl
@[simp] theorem tsz11 : tsz Try.prog 11 = some (false, 1) := by kernel_rfl
@[simp] theorem tzero11 : tzero Try.prog 11 = some [.string .empty] := by kernel_rfl
@[simp] theorem isStr11 : isStr Try.prog 11 = true := by kernel_rfl
@[simp] theorem und11 : Try.prog.underlying 11 = some .string := by kernel_rfl
@[simp] theorem tsz12 : tsz Try.prog 12 = some (false, 1) := by kernel_rfl
@[simp] theorem tzero12 : tzero Try.prog 12 = some [.int .u64 0] := by kernel_rfl
@[simp] theorem und12 : Try.prog.underlying 12 = some (.int .u64) := by kernel_rfl
@[simp] theorem tsz13 : tsz Try.prog 13 = some (true, 2) := by kernel_rfl
@[simp] theorem tzero13 : tzero Try.prog 13 = some [.string .empty, .int .u64 0] := by kernel_rfl
@[simp] theorem finfo13_0 : finfo Try.prog 13 0 = some (0, false, 1) := by kernel_rfl
@[simp] theorem finfo13_1 : finfo Try.prog 13 1 = some (1, false, 1) := by kernel_rfl
@[simp] theorem bplaces13 : bplaces Try.prog 13 = some [(0, 1), (1, 1)] := by kernel_rfl
@[simp] theorem tsz14 : tsz Try.prog 14 = some (true, 2) := by kernel_rfl
@[simp] theorem tzero14 : tzero Try.prog 14 = some [.string .empty, .int .u64 0] := by kernel_rfl
@[simp] theorem finfo14_0 : finfo Try.prog 14 0 = some (0, false, 1) := by kernel_rfl
@[simp] theorem finfo14_1 : finfo Try.prog 14 1 = some (1, false, 1) := by kernel_rfl
@[simp] theorem bplaces14 : bplaces Try.prog 14 = some [(0, 1), (1, 1)] := by kernel_rfl
@[simp] theorem tsz15 : tsz Try.prog 15 = some (false, 1) := by kernel_rfl
@[simp] theorem tzero15 : tzero Try.prog 15 = some [.pointer none] := by kernel_rfl
@[simp] theorem tsz16 : tsz Try.prog 16 = some (false, 1) := by kernel_rfl
@[simp] theorem tzero16 : tzero Try.prog 16 = some [.pointer none] := by kernel_rfl
@[simp] theorem tsz17 : tsz Try.prog 17 = some (false, 1) := by kernel_rfl
@[simp] theorem tzero17 : tzero Try.prog 17 = some [.pointer none] := by kernel_rfl
@[simp] theorem tsz18 : tsz Try.prog 18 = some (true, 1) := by kernel_rfl
@[simp] theorem tzero18 : tzero Try.prog 18 = some [.pointer none] := by kernel_rfl
@[simp] theorem finfo18_0 : finfo Try.prog 18 0 = some (0, false, 1) := by kernel_rfl
@[simp] theorem bplaces18 : bplaces Try.prog 18 = some [(0, 1)] := by kernel_rfl
@[simp] theorem tsz19 : tsz Try.prog 19 = some (true, 1) := by kernel_rfl
@[simp] theorem tzero19 : tzero Try.prog 19 = some [.pointer none] := by kernel_rfl
@[simp] theorem finfo19_0 : finfo Try.prog 19 0 = some (0, false, 1) := by kernel_rfl
@[simp] theorem bplaces19 : bplaces Try.prog 19 = some [(0, 1)] := by kernel_rfl
@[simp] theorem tsz21 : tsz Try.prog 21 = some (false, 1) := by kernel_rfl
@[simp] theorem tzero21 : tzero Try.prog 21 = some [.int .i32 0] := by kernel_rfl
@[simp] theorem und21 : Try.prog.underlying 21 = some (.int .i32) := by kernel_rfl
@[simp] theorem tsz22 : tsz Try.prog 22 = some (true, 2) := by kernel_rfl
@[simp] theorem tzero22 : tzero Try.prog 22 = some [.int .i64 0, .int .i64 0] := by kernel_rfl
@[simp] theorem finfo22_0 : finfo Try.prog 22 0 = some (0, false, 1) := by kernel_rfl
@[simp] theorem finfo22_1 : finfo Try.prog 22 1 = some (1, false, 1) := by kernel_rfl
@[simp] theorem bplaces22 : bplaces Try.prog 22 = some [(0, 1), (1, 1)] := by kernel_rfl
@[simp] theorem tsz23 : tsz Try.prog 23 = some (true, 2) := by kernel_rfl
@[simp] theorem tzero23 : tzero Try.prog 23 = some [.int .i64 0, .int .i64 0] := by kernel_rfl
@[simp] theorem finfo23_0 : finfo Try.prog 23 0 = some (0, false, 1) := by kernel_rfl
@[simp] theorem finfo23_1 : finfo Try.prog 23 1 = some (1, false, 1) := by kernel_rfl
@[simp] theorem flatN23 : flatN Try.prog 23 = some [0, 0] := by kernel_rfl
@[simp] theorem bplaces23 : bplaces Try.prog 23 = some [(0, 1), (1, 1)] := by kernel_rfl
@[simp] theorem tsz24 : tsz Try.prog 24 = some (false, 1) := by kernel_rfl
@[simp] theorem tzero24 : tzero Try.prog 24 = some [.slice none 0 0] := by kernel_rfl
@[simp] theorem eltp24 : eltp Try.prog 24 = some (3, 1) := by kernel_rfl
@[simp] theorem isSl24 : isSl Try.prog 24 = true := by kernel_rfl
@[simp] theorem tsz25 : tsz Try.prog 25 = some (true, 3) := by kernel_rfl
@[simp] theorem tzero25 : tzero Try.prog 25 = some [.int .i64 0, .int .i64 0, .slice none 0 0] := by kernel_rfl
@[simp] theorem finfo25_0 : finfo Try.prog 25 0 = some (0, true, 2) := by kernel_rfl
@[simp] theorem finfo25_1 : finfo Try.prog 25 1 = some (2, false, 1) := by kernel_rfl
@[simp] theorem bplaces25 : bplaces Try.prog 25 = some [(0, 2), (2, 1)] := by kernel_rfl
@[simp] theorem tsz26 : tsz Try.prog 26 = some (true, 3) := by kernel_rfl
@[simp] theorem tzero26 : tzero Try.prog 26 = some [.int .i64 0, .int .i64 0, .slice none 0 0] := by kernel_rfl
@[simp] theorem finfo26_0 : finfo Try.prog 26 0 = some (0, true, 2) := by kernel_rfl
@[simp] theorem finfo26_1 : finfo Try.prog 26 1 = some (2, false, 1) := by kernel_rfl
@[simp] theorem bplaces26 : bplaces Try.prog 26 = some [(0, 2), (2, 1)] := by kernel_rfl
@[simp] theorem tsz27 : tsz Try.prog 27 = some (true, 1) := by kernel_rfl
@[simp] theorem tzero27 : tzero Try.prog 27 = some [.slice none 0 0] := by kernel_rfl
@[simp] theorem finfo27_0 : finfo Try.prog 27 0 = some (0, false, 1) := by kernel_rfl
@[simp] theorem bplaces27 : bplaces Try.prog 27 = some [(0, 1)] := by kernel_rfl
@[simp] theorem tsz28 : tsz Try.prog 28 = some (true, 1) := by kernel_rfl
@[simp] theorem tzero28 : tzero Try.prog 28 = some [.slice none 0 0] := by kernel_rfl
@[simp] theorem finfo28_0 : finfo Try.prog 28 0 = some (0, false, 1) := by kernel_rfl
@[simp] theorem bplaces28 : bplaces Try.prog 28 = some [(0, 1)] := by kernel_rfl
@[simp] theorem tsz29 : tsz Try.prog 29 = some (true, 2) := by kernel_rfl
@[simp] theorem tzero29 : tzero Try.prog 29 = some [.slice none 0 0, .slice none 0 0] := by kernel_rfl
@[simp] theorem finfo29_0 : finfo Try.prog 29 0 = some (0, true, 1) := by kernel_rfl
@[simp] theorem finfo29_1 : finfo Try.prog 29 1 = some (1, true, 1) := by kernel_rfl
@[simp] theorem bplaces29 : bplaces Try.prog 29 = some [(0, 1), (1, 1)] := by kernel_rfl
@[simp] theorem tsz30 : tsz Try.prog 30 = some (true, 2) := by kernel_rfl
@[simp] theorem tzero30 : tzero Try.prog 30 = some [.slice none 0 0, .slice none 0 0] := by kernel_rfl
@[simp] theorem finfo30_0 : finfo Try.prog 30 0 = some (0, true, 1) := by kernel_rfl
@[simp] theorem finfo30_1 : finfo Try.prog 30 1 = some (1, true, 1) := by kernel_rfl
@[simp] theorem bplaces30 : bplaces Try.prog 30 = some [(0, 1), (1, 1)] := by kernel_rfl
@[simp] theorem tsz31 : tsz Try.prog 31 = some (true, 5) := by kernel_rfl
@[simp] theorem tzero31 : tzero Try.prog 31 = some [.int .i64 0, .int .i64 0, .int .i64 0, .int .i64 0, .int .i64 0] := by kernel_rfl
@[simp] theorem finfo31_0 : finfo Try.prog 31 0 = some (0, false, 1) := by kernel_rfl
@[simp] theorem finfo31_1 : finfo Try.prog 31 1 = some (1, false, 1) := by kernel_rfl
@[simp] theorem finfo31_2 : finfo Try.prog 31 2 = some (2, false, 1) := by kernel_rfl
@[simp] theorem finfo31_3 : finfo Try.prog 31 3 = some (3, false, 1) := by kernel_rfl
@[simp] theorem finfo31_4 : finfo Try.prog 31 4 = some (4, false, 1) := by kernel_rfl
@[simp] theorem bplaces31 : bplaces Try.prog 31 = some [(0, 1), (1, 1), (2, 1), (3, 1), (4, 1)] := by kernel_rfl
@[simp] theorem tsz32 : tsz Try.prog 32 = some (true, 5) := by kernel_rfl
@[simp] theorem tzero32 : tzero Try.prog 32 = some [.int .i64 0, .int .i64 0, .int .i64 0, .int .i64 0, .int .i64 0] := by kernel_rfl
@[simp] theorem finfo32_0 : finfo Try.prog 32 0 = some (0, false, 1) := by kernel_rfl
@[simp] theorem finfo32_1 : finfo Try.prog 32 1 = some (1, false, 1) := by kernel_rfl
@[simp] theorem finfo32_2 : finfo Try.prog 32 2 = some (2, false, 1) := by kernel_rfl
@[simp] theorem finfo32_3 : finfo Try.prog 32 3 = some (3, false, 1) := by kernel_rfl
@[simp] theorem finfo32_4 : finfo Try.prog 32 4 = some (4, false, 1) := by kernel_rfl
@[simp] theorem flatN32 : flatN Try.prog 32 = some [0, 0, 0, 0, 0] := by kernel_rfl
@[simp] theorem bplaces32 : bplaces Try.prog 32 = some [(0, 1), (1, 1), (2, 1), (3, 1), (4, 1)] := by kernel_rfl
@[simp] theorem tsz36 : tsz Try.prog 36 = some (true, 2) := by kernel_rfl
@[simp] theorem tzero36 : tzero Try.prog 36 = some [.int .i64 0, .int .i64 0] := by kernel_rfl
@[simp] theorem finfo36_0 : finfo Try.prog 36 0 = some (0, false, 1) := by kernel_rfl
@[simp] theorem finfo36_1 : finfo Try.prog 36 1 = some (1, false, 1) := by kernel_rfl
@[simp] theorem flatN36 : flatN Try.prog 36 = some [0, 0] := by kernel_rfl
@[simp] theorem bplaces36 : bplaces Try.prog 36 = some [(0, 1), (1, 1)] := by kernel_rfl
@[simp] theorem tsz37 : tsz Try.prog 37 = some (true, 3) := by kernel_rfl
@[simp] theorem tzero37 : tzero Try.prog 37 = some [.int .i64 0, .int .i64 0, .slice none 0 0] := by kernel_rfl
@[simp] theorem finfo37_0 : finfo Try.prog 37 0 = some (0, true, 2) := by kernel_rfl
@[simp] theorem finfo37_1 : finfo Try.prog 37 1 = some (2, false, 1) := by kernel_rfl
@[simp] theorem bplaces37 : bplaces Try.prog 37 = some [(0, 2), (2, 1)] := by kernel_rfl
@[simp] theorem tsz38 : tsz Try.prog 38 = some (true, 3) := by kernel_rfl
@[simp] theorem tzero38 : tzero Try.prog 38 = some [.int .i64 0, .int .i64 0, .slice none 0 0] := by kernel_rfl
@[simp] theorem finfo38_0 : finfo Try.prog 38 0 = some (0, true, 2) := by kernel_rfl
@[simp] theorem finfo38_1 : finfo Try.prog 38 1 = some (2, false, 1) := by kernel_rfl
@[simp] theorem bplaces38 : bplaces Try.prog 38 = some [(0, 2), (2, 1)] := by kernel_rfl
@[simp] theorem tsz40 : tsz Try.prog 40 = some (true, 1) := by kernel_rfl
@[simp] theorem tzero40 : tzero Try.prog 40 = some [.slice none 0 0] := by kernel_rfl
@[simp] theorem finfo40_0 : finfo Try.prog 40 0 = some (0, false, 1) := by kernel_rfl
@[simp] theorem bplaces40 : bplaces Try.prog 40 = some [(0, 1)] := by kernel_rfl
@[simp] theorem tsz41 : tsz Try.prog 41 = some (true, 2) := by kernel_rfl
@[simp] theorem tzero41 : tzero Try.prog 41 = some [.slice none 0 0, .slice none 0 0] := by kernel_rfl
@[simp] theorem finfo41_0 : finfo Try.prog 41 0 = some (0, true, 1) := by kernel_rfl
@[simp] theorem finfo41_1 : finfo Try.prog 41 1 = some (1, true, 1) := by kernel_rfl
@[simp] theorem bplaces41 : bplaces Try.prog 41 = some [(0, 1), (1, 1)] := by kernel_rfl
@[simp] theorem tsz42 : tsz Try.prog 42 = some (true, 2) := by kernel_rfl
@[simp] theorem tzero42 : tzero Try.prog 42 = some [.slice none 0 0, .slice none 0 0] := by kernel_rfl
@[simp] theorem finfo42_0 : finfo Try.prog 42 0 = some (0, true, 1) := by kernel_rfl
@[simp] theorem finfo42_1 : finfo Try.prog 42 1 = some (1, true, 1) := by kernel_rfl
@[simp] theorem bplaces42 : bplaces Try.prog 42 = some [(0, 1), (1, 1)] := by kernel_rfl
@[simp] theorem tsz44 : tsz Try.prog 44 = some (true, 5) := by kernel_rfl
@[simp] theorem tzero44 : tzero Try.prog 44 = some [.int .i64 0, .int .i64 0, .int .i64 0, .int .i64 0, .int .i64 0] := by kernel_rfl
@[simp] theorem finfo44_0 : finfo Try.prog 44 0 = some (0, false, 1) := by kernel_rfl
@[simp] theorem finfo44_1 : finfo Try.prog 44 1 = some (1, false, 1) := by kernel_rfl
@[simp] theorem finfo44_2 : finfo Try.prog 44 2 = some (2, false, 1) := by kernel_rfl
@[simp] theorem finfo44_3 : finfo Try.prog 44 3 = some (3, false, 1) := by kernel_rfl
@[simp] theorem finfo44_4 : finfo Try.prog 44 4 = some (4, false, 1) := by kernel_rfl
@[simp] theorem flatN44 : flatN Try.prog 44 = some [0, 0, 0, 0, 0] := by kernel_rfl
@[simp] theorem bplaces44 : bplaces Try.prog 44 = some [(0, 1), (1, 1), (2, 1), (3, 1), (4, 1)] := by kernel_rfl
@[simp] theorem tsz49 : tsz Try.prog 49 = some (false, 1) := by kernel_rfl
@[simp] theorem tzero49 : tzero Try.prog 49 = some [.slice none 0 0] := by kernel_rfl
@[simp] theorem eltp49 : eltp Try.prog 49 = some (132, 1) := by kernel_rfl
@[simp] theorem isSl49 : isSl Try.prog 49 = true := by kernel_rfl
@[simp] theorem tsz50 : tsz Try.prog 50 = some (true, 11) := by kernel_rfl
@[simp] theorem tzero50 : tzero Try.prog 50 = some [.int .i64 0, .int .i64 0, .slice none 0 0, .slice none 0 0, .slice none 0 0, .slice none 0 0, .slice none 0 0, .slice none 0 0, .slice none 0 0, .slice none 0 0, .int .i64 0] := by kernel_rfl
@[simp] theorem finfo50_0 : finfo Try.prog 50 0 = some (0, true, 3) := by kernel_rfl
@[simp] theorem finfo50_1 : finfo Try.prog 50 1 = some (3, true, 2) := by kernel_rfl
@[simp] theorem finfo50_2 : finfo Try.prog 50 2 = some (5, false, 1) := by kernel_rfl
@[simp] theorem finfo50_3 : finfo Try.prog 50 3 = some (6, false, 1) := by kernel_rfl
@[simp] theorem finfo50_4 : finfo Try.prog 50 4 = some (7, false, 1) := by kernel_rfl
@[simp] theorem finfo50_5 : finfo Try.prog 50 5 = some (8, false, 1) := by kernel_rfl
@[simp] theorem finfo50_6 : finfo Try.prog 50 6 = some (9, false, 1) := by kernel_rfl
@[simp] theorem finfo50_7 : finfo Try.prog 50 7 = some (10, false, 1) := by kernel_rfl
@[simp] theorem bplaces50 : bplaces Try.prog 50 = some [(0, 3), (3, 2), (5, 1), (6, 1), (7, 1), (8, 1), (9, 1), (10, 1)] := by kernel_rfl
@[simp] theorem tsz51 : tsz Try.prog 51 = some (true, 11) := by kernel_rfl
@[simp] theorem tzero51 : tzero Try.prog 51 = some [.int .i64 0, .int .i64 0, .slice none 0 0, .slice none 0 0, .slice none 0 0, .slice none 0 0, .slice none 0 0, .slice none 0 0, .slice none 0 0, .slice none 0 0, .int .i64 0] := by kernel_rfl
@[simp] theorem finfo51_0 : finfo Try.prog 51 0 = some (0, true, 3) := by kernel_rfl
@[simp] theorem finfo51_1 : finfo Try.prog 51 1 = some (3, true, 2) := by kernel_rfl
@[simp] theorem finfo51_2 : finfo Try.prog 51 2 = some (5, false, 1) := by kernel_rfl
@[simp] theorem finfo51_3 : finfo Try.prog 51 3 = some (6, false, 1) := by kernel_rfl
@[simp] theorem finfo51_4 : finfo Try.prog 51 4 = some (7, false, 1) := by kernel_rfl
@[simp] theorem finfo51_5 : finfo Try.prog 51 5 = some (8, false, 1) := by kernel_rfl
@[simp] theorem finfo51_6 : finfo Try.prog 51 6 = some (9, false, 1) := by kernel_rfl
@[simp] theorem finfo51_7 : finfo Try.prog 51 7 = some (10, false, 1) := by kernel_rfl
@[simp] theorem bplaces51 : bplaces Try.prog 51 = some [(0, 3), (3, 2), (5, 1), (6, 1), (7, 1), (8, 1), (9, 1), (10, 1)] := by kernel_rfl
@[simp] theorem tsz52 : tsz Try.prog 52 = some (false, 1) := by kernel_rfl
@[simp] theorem tzero52 : tzero Try.prog 52 = some [.slice none 0 0] := by kernel_rfl
@[simp] theorem eltp52 : eltp Try.prog 52 = some (32, 5) := by kernel_rfl
@[simp] theorem isSl52 : isSl Try.prog 52 = true := by kernel_rfl
@[simp] theorem tsz53 : tsz Try.prog 53 = some (true, 12) := by kernel_rfl
@[simp] theorem tzero53 : tzero Try.prog 53 = some [.int .i64 0, .int .i64 0, .slice none 0 0, .slice none 0 0, .slice none 0 0, .slice none 0 0, .slice none 0 0, .slice none 0 0, .slice none 0 0, .slice none 0 0, .int .i64 0, .slice none 0 0] := by kernel_rfl
@[simp] theorem finfo53_0 : finfo Try.prog 53 0 = some (0, true, 11) := by kernel_rfl
@[simp] theorem finfo53_1 : finfo Try.prog 53 1 = some (11, false, 1) := by kernel_rfl
@[simp] theorem bplaces53 : bplaces Try.prog 53 = some [(0, 11), (11, 1)] := by kernel_rfl
@[simp] theorem tsz54 : tsz Try.prog 54 = some (true, 12) := by kernel_rfl
@[simp] theorem tzero54 : tzero Try.prog 54 = some [.int .i64 0, .int .i64 0, .slice none 0 0, .slice none 0 0, .slice none 0 0, .slice none 0 0, .slice none 0 0, .slice none 0 0, .slice none 0 0, .slice none 0 0, .int .i64 0, .slice none 0 0] := by kernel_rfl
@[simp] theorem finfo54_0 : finfo Try.prog 54 0 = some (0, true, 11) := by kernel_rfl
@[simp] theorem finfo54_1 : finfo Try.prog 54 1 = some (11, false, 1) := by kernel_rfl
@[simp] theorem bplaces54 : bplaces Try.prog 54 = some [(0, 11), (11, 1)] := by kernel_rfl
@[simp] theorem tsz57 : tsz Try.prog 57 = some (false, 1) := by kernel_rfl
@[simp] theorem tzero57 : tzero Try.prog 57 = some [.slice none 0 0] := by kernel_rfl
@[simp] theorem eltp57 : eltp Try.prog 57 = some (123, 1) := by kernel_rfl
@[simp] theorem isSl57 : isSl Try.prog 57 = true := by kernel_rfl
@[simp] theorem tsz58 : tsz Try.prog 58 = some (true, 11) := by kernel_rfl
@[simp] theorem tzero58 : tzero Try.prog 58 = some [.int .i64 0, .int .i64 0, .slice none 0 0, .slice none 0 0, .slice none 0 0, .slice none 0 0, .slice none 0 0, .slice none 0 0, .slice none 0 0, .slice none 0 0, .int .i64 0] := by kernel_rfl
@[simp] theorem finfo58_0 : finfo Try.prog 58 0 = some (0, true, 3) := by kernel_rfl
@[simp] theorem finfo58_1 : finfo Try.prog 58 1 = some (3, true, 2) := by kernel_rfl
@[simp] theorem finfo58_2 : finfo Try.prog 58 2 = some (5, false, 1) := by kernel_rfl
@[simp] theorem finfo58_3 : finfo Try.prog 58 3 = some (6, false, 1) := by kernel_rfl
@[simp] theorem finfo58_4 : finfo Try.prog 58 4 = some (7, false, 1) := by kernel_rfl
@[simp] theorem finfo58_5 : finfo Try.prog 58 5 = some (8, false, 1) := by kernel_rfl
@[simp] theorem finfo58_6 : finfo Try.prog 58 6 = some (9, false, 1) := by kernel_rfl
@[simp] theorem finfo58_7 : finfo Try.prog 58 7 = some (10, false, 1) := by kernel_rfl
@[simp] theorem bplaces58 : bplaces Try.prog 58 = some [(0, 3), (3, 2), (5, 1), (6, 1), (7, 1), (8, 1), (9, 1), (10, 1)] := by kernel_rfl
@[simp] theorem tsz59 : tsz Try.prog 59 = some (true, 11) := by kernel_rfl
@[simp] theorem tzero59 : tzero Try.prog 59 = some [.int .i64 0, .int .i64 0, .slice none 0 0, .slice none 0 0, .slice none 0 0, .slice none 0 0, .slice none 0 0, .slice none 0 0, .slice none 0 0, .slice none 0 0, .int .i64 0] := by kernel_rfl
@[simp] theorem finfo59_0 : finfo Try.prog 59 0 = some (0, true, 3) := by kernel_rfl
@[simp] theorem finfo59_1 : finfo Try.prog 59 1 = some (3, true, 2) := by kernel_rfl
@[simp] theorem finfo59_2 : finfo Try.prog 59 2 = some (5, false, 1) := by kernel_rfl
@[simp] theorem finfo59_3 : finfo Try.prog 59 3 = some (6, false, 1) := by kernel_rfl
@[simp] theorem finfo59_4 : finfo Try.prog 59 4 = some (7, false, 1) := by kernel_rfl
@[simp] theorem finfo59_5 : finfo Try.prog 59 5 = some (8, false, 1) := by kernel_rfl
@[simp] theorem finfo59_6 : finfo Try.prog 59 6 = some (9, false, 1) := by kernel_rfl
@[simp] theorem finfo59_7 : finfo Try.prog 59 7 = some (10, false, 1) := by kernel_rfl
@[simp] theorem bplaces59 : bplaces Try.prog 59 = some [(0, 3), (3, 2), (5, 1), (6, 1), (7, 1), (8, 1), (9, 1), (10, 1)] := by kernel_rfl
@[simp] theorem tsz60 : tsz Try.prog 60 = some (false, 1) := by kernel_rfl
@[simp] theorem tzero60 : tzero Try.prog 60 = some [.slice none 0 0] := by kernel_rfl
@[simp] theorem eltp60 : eltp Try.prog 60 = some (44, 5) := by kernel_rfl
@[simp] theorem isSl60 : isSl Try.prog 60 = true := by kernel_rfl
@[simp] theorem tsz61 : tsz Try.prog 61 = some (true, 12) := by kernel_rfl
@[simp] theorem tzero61 : tzero Try.prog 61 = some [.int .i64 0, .int .i64 0, .slice none 0 0, .slice none 0 0, .slice none 0 0, .slice none 0 0, .slice none 0 0, .slice none 0 0, .slice none 0 0, .slice none 0 0, .int .i64 0, .slice none 0 0] := by kernel_rfl
@[simp] theorem finfo61_0 : finfo Try.prog 61 0 = some (0, true, 11) := by kernel_rfl
@[simp] theorem finfo61_1 : finfo Try.prog 61 1 = some (11, false, 1) := by kernel_rfl
@[simp] theorem bplaces61 : bplaces Try.prog 61 = some [(0, 11), (11, 1)] := by kernel_rfl
@[simp] theorem tsz62 : tsz Try.prog 62 = some (true, 12) := by kernel_rfl
@[simp] theorem tzero62 : tzero Try.prog 62 = some [.int .i64 0, .int .i64 0, .slice none 0 0, .slice none 0 0, .slice none 0 0, .slice none 0 0, .slice none 0 0, .slice none 0 0, .slice none 0 0, .slice none 0 0, .int .i64 0, .slice none 0 0] := by kernel_rfl
@[simp] theorem finfo62_0 : finfo Try.prog 62 0 = some (0, true, 11) := by kernel_rfl
@[simp] theorem finfo62_1 : finfo Try.prog 62 1 = some (11, false, 1) := by kernel_rfl
@[simp] theorem bplaces62 : bplaces Try.prog 62 = some [(0, 11), (11, 1)] := by kernel_rfl
@[simp] theorem tsz83 : tsz Try.prog 83 = some (false, 1) := by kernel_rfl
@[simp] theorem tzero83 : tzero Try.prog 83 = some [.slice none 0 0] := by kernel_rfl
@[simp] theorem eltp83 : eltp Try.prog 83 = some (5, 1) := by kernel_rfl
@[simp] theorem isSl83 : isSl Try.prog 83 = true := by kernel_rfl
@[simp] theorem tsz118 : tsz Try.prog 118 = some (false, 1) := by kernel_rfl
@[simp] theorem tzero118 : tzero Try.prog 118 = some [.pointer none] := by kernel_rfl
@[simp] theorem tsz123 : tsz Try.prog 123 = some (false, 1) := by kernel_rfl
@[simp] theorem tzero123 : tzero Try.prog 123 = some [.slice none 0 0] := by kernel_rfl
@[simp] theorem eltp123 : eltp Try.prog 123 = some (134, 5) := by kernel_rfl
@[simp] theorem isSl123 : isSl Try.prog 123 = true := by kernel_rfl
@[simp] theorem tsz132 : tsz Try.prog 132 = some (false, 1) := by kernel_rfl
@[simp] theorem tzero132 : tzero Try.prog 132 = some [.slice none 0 0] := by kernel_rfl
@[simp] theorem eltp132 : eltp Try.prog 132 = some (169, 5) := by kernel_rfl
@[simp] theorem isSl132 : isSl Try.prog 132 = true := by kernel_rfl
@[simp] theorem tsz133 : tsz Try.prog 133 = some (true, 5) := by kernel_rfl
@[simp] theorem tzero133 : tzero Try.prog 133 = some [.int .i64 0, .int .i64 0, .int .i64 0, .bool false, .bool false] := by kernel_rfl
@[simp] theorem finfo133_0 : finfo Try.prog 133 0 = some (0, false, 1) := by kernel_rfl
@[simp] theorem finfo133_1 : finfo Try.prog 133 1 = some (1, false, 1) := by kernel_rfl
@[simp] theorem finfo133_2 : finfo Try.prog 133 2 = some (2, false, 1) := by kernel_rfl
@[simp] theorem finfo133_3 : finfo Try.prog 133 3 = some (3, false, 1) := by kernel_rfl
@[simp] theorem finfo133_4 : finfo Try.prog 133 4 = some (4, false, 1) := by kernel_rfl
@[simp] theorem bplaces133 : bplaces Try.prog 133 = some [(0, 1), (1, 1), (2, 1), (3, 1), (4, 1)] := by kernel_rfl
@[simp] theorem tsz134 : tsz Try.prog 134 = some (true, 5) := by kernel_rfl
@[simp] theorem tzero134 : tzero Try.prog 134 = some [.int .i64 0, .int .i64 0, .int .i64 0, .bool false, .bool false] := by kernel_rfl
@[simp] theorem finfo134_0 : finfo Try.prog 134 0 = some (0, false, 1) := by kernel_rfl
@[simp] theorem finfo134_1 : finfo Try.prog 134 1 = some (1, false, 1) := by kernel_rfl
@[simp] theorem finfo134_2 : finfo Try.prog 134 2 = some (2, false, 1) := by kernel_rfl
@[simp] theorem finfo134_3 : finfo Try.prog 134 3 = some (3, false, 1) := by kernel_rfl
@[simp] theorem finfo134_4 : finfo Try.prog 134 4 = some (4, false, 1) := by kernel_rfl
@[simp] theorem flatN134 : flatN Try.prog 134 = some [0, 0, 0, 1, 1] := by kernel_rfl
@[simp] theorem bplaces134 : bplaces Try.prog 134 = some [(0, 1), (1, 1), (2, 1), (3, 1), (4, 1)] := by kernel_rfl
@[simp] theorem tsz161 : tsz Try.prog 161 = some (true, 3) := by kernel_rfl
@[simp] theorem tzero161 : tzero Try.prog 161 = some [.slice none 0 0, .int .i64 0, .int .i64 0] := by kernel_rfl
@[simp] theorem finfo161_0 : finfo Try.prog 161 0 = some (0, false, 1) := by kernel_rfl
@[simp] theorem finfo161_1 : finfo Try.prog 161 1 = some (1, false, 1) := by kernel_rfl
@[simp] theorem finfo161_2 : finfo Try.prog 161 2 = some (2, false, 1) := by kernel_rfl
@[simp] theorem bplaces161 : bplaces Try.prog 161 = some [(0, 1), (1, 1), (2, 1)] := by kernel_rfl
@[simp] theorem tsz162 : tsz Try.prog 162 = some (true, 3) := by kernel_rfl
@[simp] theorem tzero162 : tzero Try.prog 162 = some [.slice none 0 0, .int .i64 0, .int .i64 0] := by kernel_rfl
@[simp] theorem finfo162_0 : finfo Try.prog 162 0 = some (0, false, 1) := by kernel_rfl
@[simp] theorem finfo162_1 : finfo Try.prog 162 1 = some (1, false, 1) := by kernel_rfl
@[simp] theorem finfo162_2 : finfo Try.prog 162 2 = some (2, false, 1) := by kernel_rfl
@[simp] theorem bplaces162 : bplaces Try.prog 162 = some [(0, 1), (1, 1), (2, 1)] := by kernel_rfl
@[simp] theorem tsz163 : tsz Try.prog 163 = some (false, 1) := by kernel_rfl
@[simp] theorem tzero163 : tzero Try.prog 163 = some [.pointer none] := by kernel_rfl
@[simp] theorem tsz169 : tsz Try.prog 169 = some (true, 5) := by kernel_rfl
@[simp] theorem tzero169 : tzero Try.prog 169 = some [.int .i64 0, .int .i64 0, .int .i64 0, .bool false, .bool false] := by kernel_rfl
@[simp] theorem finfo169_0 : finfo Try.prog 169 0 = some (0, false, 1) := by kernel_rfl
@[simp] theorem finfo169_1 : finfo Try.prog 169 1 = some (1, false, 1) := by kernel_rfl
@[simp] theorem finfo169_2 : finfo Try.prog 169 2 = some (2, false, 1) := by kernel_rfl
@[simp] theorem finfo169_3 : finfo Try.prog 169 3 = some (3, false, 1) := by kernel_rfl
@[simp] theorem finfo169_4 : finfo Try.prog 169 4 = some (4, false, 1) := by kernel_rfl
@[simp] theorem flatN169 : flatN Try.prog 169 = some [0, 0, 0, 1, 1] := by kernel_rfl
@[simp] theorem bplaces169 : bplaces Try.prog 169 = some [(0, 1), (1, 1), (2, 1), (3, 1), (4, 1)] := by kernel_rfl
@[simp] theorem tsz186 : tsz Try.prog 186 = some (false, 1) := by kernel_rfl
@[simp] theorem tzero186 : tzero Try.prog 186 = some [.int .u64 0] := by kernel_rfl
@[simp] theorem und186 : Try.prog.underlying 186 = some (.int .u64) := by kernel_rfl
@[simp] theorem tsz188 : tsz Try.prog 188 = some (false, 1) := by kernel_rfl
@[simp] theorem tzero188 : tzero Try.prog 188 = some [.slice none 0 0] := by kernel_rfl
@[simp] theorem eltp188 : eltp Try.prog 188 = some (191, 3) := by kernel_rfl
@[simp] theorem isSl188 : isSl Try.prog 188 = true := by kernel_rfl
@[simp] theorem tsz190 : tsz Try.prog 190 = some (true, 3) := by kernel_rfl
@[simp] theorem tzero190 : tzero Try.prog 190 = some [.int .i64 0, .int .i64 0, .int .i64 0] := by kernel_rfl
@[simp] theorem finfo190_0 : finfo Try.prog 190 0 = some (0, false, 1) := by kernel_rfl
@[simp] theorem finfo190_1 : finfo Try.prog 190 1 = some (1, false, 1) := by kernel_rfl
@[simp] theorem finfo190_2 : finfo Try.prog 190 2 = some (2, false, 1) := by kernel_rfl
@[simp] theorem bplaces190 : bplaces Try.prog 190 = some [(0, 1), (1, 1), (2, 1)] := by kernel_rfl
@[simp] theorem tsz191 : tsz Try.prog 191 = some (true, 3) := by kernel_rfl
@[simp] theorem tzero191 : tzero Try.prog 191 = some [.int .i64 0, .int .i64 0, .int .i64 0] := by kernel_rfl
@[simp] theorem finfo191_0 : finfo Try.prog 191 0 = some (0, false, 1) := by kernel_rfl
@[simp] theorem finfo191_1 : finfo Try.prog 191 1 = some (1, false, 1) := by kernel_rfl
@[simp] theorem finfo191_2 : finfo Try.prog 191 2 = some (2, false, 1) := by kernel_rfl
@[simp] theorem flatN191 : flatN Try.prog 191 = some [0, 0, 0] := by kernel_rfl
@[simp] theorem bplaces191 : bplaces Try.prog 191 = some [(0, 1), (1, 1), (2, 1)] := by kernel_rfl
@[simp] theorem tsz196 : tsz Try.prog 196 = some (false, 1) := by kernel_rfl
@[simp] theorem tzero196 : tzero Try.prog 196 = some [.slice none 0 0] := by kernel_rfl
@[simp] theorem eltp196 : eltp Try.prog 196 = some (4, 1) := by kernel_rfl
@[simp] theorem isSl196 : isSl Try.prog 196 = true := by kernel_rfl
@[simp] theorem tsz200 : tsz Try.prog 200 = some (true, 4) := by kernel_rfl
@[simp] theorem tzero200 : tzero Try.prog 200 = some [.pointer none, .pointer none, .pointer none, .string .empty] := by kernel_rfl
@[simp] theorem finfo200_0 : finfo Try.prog 200 0 = some (0, false, 1) := by kernel_rfl
@[simp] theorem finfo200_1 : finfo Try.prog 200 1 = some (1, false, 1) := by kernel_rfl
@[simp] theorem finfo200_2 : finfo Try.prog 200 2 = some (2, false, 1) := by kernel_rfl
@[simp] theorem finfo200_3 : finfo Try.prog 200 3 = some (3, false, 1) := by kernel_rfl
@[simp] theorem bplaces200 : bplaces Try.prog 200 = some [(0, 1), (1, 1), (2, 1), (3, 1)] := by kernel_rfl
@[simp] theorem tsz201 : tsz Try.prog 201 = some (true, 4) := by kernel_rfl
@[simp] theorem tzero201 : tzero Try.prog 201 = some [.pointer none, .pointer none, .pointer none, .string .empty] := by kernel_rfl
@[simp] theorem finfo201_0 : finfo Try.prog 201 0 = some (0, false, 1) := by kernel_rfl
@[simp] theorem finfo201_1 : finfo Try.prog 201 1 = some (1, false, 1) := by kernel_rfl
@[simp] theorem finfo201_2 : finfo Try.prog 201 2 = some (2, false, 1) := by kernel_rfl
@[simp] theorem finfo201_3 : finfo Try.prog 201 3 = some (3, false, 1) := by kernel_rfl
@[simp] theorem bplaces201 : bplaces Try.prog 201 = some [(0, 1), (1, 1), (2, 1), (3, 1)] := by kernel_rfl
@[simp] theorem tsz202 : tsz Try.prog 202 = some (true, 0) := by kernel_rfl
@[simp] theorem tzero202 : tzero Try.prog 202 = some [] := by kernel_rfl
@[simp] theorem tsz203 : tsz Try.prog 203 = some (true, 0) := by kernel_rfl
@[simp] theorem tzero203 : tzero Try.prog 203 = some [] := by kernel_rfl
@[simp] theorem bplaces203 : bplaces Try.prog 203 = some [(0, 0)] := by kernel_rfl
@[simp] theorem tsz204 : tsz Try.prog 204 = some (true, 0) := by kernel_rfl
@[simp] theorem tzero204 : tzero Try.prog 204 = some [] := by kernel_rfl
@[simp] theorem bplaces204 : bplaces Try.prog 204 = some [(0, 0)] := by kernel_rfl
@[simp] theorem tsz206 : tsz Try.prog 206 = some (false, 1) := by kernel_rfl
@[simp] theorem tzero206 : tzero Try.prog 206 = some [.int .u32 0] := by kernel_rfl
@[simp] theorem und206 : Try.prog.underlying 206 = some (.int .u32) := by kernel_rfl
@[simp] theorem tsz207 : tsz Try.prog 207 = some (false, 1) := by kernel_rfl
@[simp] theorem tzero207 : tzero Try.prog 207 = some [.int .u8 0] := by kernel_rfl
@[simp] theorem und207 : Try.prog.underlying 207 = some (.int .u8) := by kernel_rfl
@[simp] theorem tsz208 : tsz Try.prog 208 = some (false, 1) := by kernel_rfl
@[simp] theorem tzero208 : tzero Try.prog 208 = some [.int .u8 0] := by kernel_rfl
@[simp] theorem und208 : Try.prog.underlying 208 = some (.int .u8) := by kernel_rfl
@[simp] theorem tsz210 : tsz Try.prog 210 = some (false, 1) := by kernel_rfl
@[simp] theorem tzero210 : tzero Try.prog 210 = some [.pointer none] := by kernel_rfl
@[simp] theorem tsz211 : tsz Try.prog 211 = some (false, 1) := by kernel_rfl
@[simp] theorem tzero211 : tzero Try.prog 211 = some [.int .i32 0] := by kernel_rfl
@[simp] theorem und211 : Try.prog.underlying 211 = some (.int .i32) := by kernel_rfl
@[simp] theorem tsz212 : tsz Try.prog 212 = some (false, 1) := by kernel_rfl
@[simp] theorem tzero212 : tzero Try.prog 212 = some [.int .i32 0] := by kernel_rfl
@[simp] theorem und212 : Try.prog.underlying 212 = some (.int .i32) := by kernel_rfl
@[simp] theorem tsz213 : tsz Try.prog 213 = some (true, 11) := by kernel_rfl
@[simp] theorem tzero213 : tzero Try.prog 213 = some [.int .u64 0, .int .u64 0, .int .u32 0, .int .u8 0, .int .u8 0, .int .u8 0, .int .u8 0, .nilFunc, .pointer none, .int .i32 0, .int .i32 0] := by kernel_rfl
@[simp] theorem finfo213_0 : finfo Try.prog 213 0 = some (0, false, 1) := by kernel_rfl
@[simp] theorem finfo213_1 : finfo Try.prog 213 1 = some (1, false, 1) := by kernel_rfl
@[simp] theorem finfo213_2 : finfo Try.prog 213 2 = some (2, false, 1) := by kernel_rfl
@[simp] theorem finfo213_3 : finfo Try.prog 213 3 = some (3, false, 1) := by kernel_rfl
@[simp] theorem finfo213_4 : finfo Try.prog 213 4 = some (4, false, 1) := by kernel_rfl
@[simp] theorem finfo213_5 : finfo Try.prog 213 5 = some (5, false, 1) := by kernel_rfl
@[simp] theorem finfo213_6 : finfo Try.prog 213 6 = some (6, false, 1) := by kernel_rfl
@[simp] theorem finfo213_8 : finfo Try.prog 213 8 = some (8, false, 1) := by kernel_rfl
@[simp] theorem finfo213_9 : finfo Try.prog 213 9 = some (9, false, 1) := by kernel_rfl
@[simp] theorem finfo213_10 : finfo Try.prog 213 10 = some (10, false, 1) := by kernel_rfl
@[simp] theorem tsz214 : tsz Try.prog 214 = some (true, 11) := by kernel_rfl
@[simp] theorem tzero214 : tzero Try.prog 214 = some [.int .u64 0, .int .u64 0, .int .u32 0, .int .u8 0, .int .u8 0, .int .u8 0, .int .u8 0, .nilFunc, .pointer none, .int .i32 0, .int .i32 0] := by kernel_rfl
@[simp] theorem finfo214_0 : finfo Try.prog 214 0 = some (0, false, 1) := by kernel_rfl
@[simp] theorem finfo214_1 : finfo Try.prog 214 1 = some (1, false, 1) := by kernel_rfl
@[simp] theorem finfo214_2 : finfo Try.prog 214 2 = some (2, false, 1) := by kernel_rfl
@[simp] theorem finfo214_3 : finfo Try.prog 214 3 = some (3, false, 1) := by kernel_rfl
@[simp] theorem finfo214_4 : finfo Try.prog 214 4 = some (4, false, 1) := by kernel_rfl
@[simp] theorem finfo214_5 : finfo Try.prog 214 5 = some (5, false, 1) := by kernel_rfl
@[simp] theorem finfo214_6 : finfo Try.prog 214 6 = some (6, false, 1) := by kernel_rfl
@[simp] theorem finfo214_8 : finfo Try.prog 214 8 = some (8, false, 1) := by kernel_rfl
@[simp] theorem finfo214_9 : finfo Try.prog 214 9 = some (9, false, 1) := by kernel_rfl
@[simp] theorem finfo214_10 : finfo Try.prog 214 10 = some (10, false, 1) := by kernel_rfl
end Go.Proofs.Ytcigpclbhfkgaaa.V
/-! The plain side: grids, meshes. -/
set_option linter.all false
namespace Go.Proofs.Ytcigpclbhfkgaaa.V
open Go Go.VM
def rd (b : List Int) (j : Int) : Int := b.getD j.toNat 0
/-- a range, told as one word -/
def inR (lo n hi : Int) : Prop := lo ≤ n ∧ n ≤ hi
instance (lo n hi : Int) : Decidable (inR lo n hi) := inferInstanceAs (Decidable (_ ∧ _))
def okG (w h : Int) : Prop := (1 ≤ w ∧ w ≤ 4) ∧ 1 ≤ h ∧ h ≤ 4
instance (w h : Int) : Decidable (okG w h) := inferInstanceAs (Decidable (_ ∧ _))
def cnt (w h : Int) : Int := if okG w h then w * h else 0
def isN (w h n : Int) : Prop := 0 ≤ n ∧ n < cnt w h
instance (w h n : Int) : Decidable (isN w h n) := inferInstanceAs (Decidable (_ ∧ _))
def nodeAt (w h x y : Int) : Int := if okG w h ∧ (0 ≤ x ∧ x < w) ∧ 0 ≤ y ∧ y < h then y * w + x else -1
def next (w h n p : Int) : Int :=
  if isN w h n then
    (if p = 0 then nodeAt w h (n % w) (n / w - 1) else if p = 1 then nodeAt w h (n % w + 1) (n / w) else if p = 2 then nodeAt w h (n % w) (n / w + 1)
     else if p = 3 then nodeAt w h (n % w - 1) (n / w) else if p = 4 then n else -1)
  else -1
def leads (w h c : Int) : Prop := (0 ≤ c ∧ c < 4 * cnt w h) ∧ 0 ≤ next w h (c / 4) (c % 4)
instance (w h c : Int) : Decidable (leads w h c) := inferInstanceAs (Decidable (_ ∧ _))
def opp (p : Int) : Int := if p = 4 then 4 else if 0 ≤ p ∧ p ≤ 3 then (p + 2) % 4 else -1
def goodAt (w h : Int) (b : List Int) (j : Nat) : Prop := leads w h (b.getD j 0) ∧ (0 < j → b.getD (j - 1) 0 < b.getD j 0)
instance (w h : Int) (b : List Int) (j : Nat) : Decidable (goodAt w h b j) := inferInstanceAs (Decidable (_ ∧ _))
def meshOk (w h : Int) (b : List Int) : Prop := (∀ j, j < b.length → goodAt w h b j) ∧ okG w h
instance (w h : Int) (b : List Int) : Decidable (meshOk w h b) := inferInstanceAs (Decidable (_ ∧ _))
def has (w h : Int) (b : List Int) (c : Int) : Prop := leads w h c ∧ c ∉ b
instance (w h : Int) (b : List Int) (c : Int) : Decidable (has w h b c) := inferInstanceAs (Decidable (_ ∧ _))

theorem mul_small {w h : Int} (h1 : okG w h) : 1 ≤ w * h ∧ w * h ≤ 16 := by
  obtain ⟨⟨a1, a2⟩, b1, b2⟩ := h1
  have c1 : 1 * 1 ≤ w * h := Int.mul_le_mul a1 b1 (by omega) (by omega)
  have c2 : w * h ≤ 4 * 4 := Int.mul_le_mul a2 b2 (by omega) (by omega)
  omega
theorem cnt_range (w h : Int) : 0 ≤ cnt w h ∧ cnt w h ≤ 16 := by
  unfold cnt; split
  · rename_i h1; have := mul_small h1; omega
  · omega
theorem isN_ok {w h n : Int} (h1 : isN w h n) : okG w h ∧ 0 ≤ n ∧ n < w * h ∧ n < 16 := by
  obtain ⟨a, b⟩ := h1
  have := cnt_range w h
  unfold cnt at b; split at b
  · rename_i hg; have := mul_small hg; exact ⟨hg, a, b, by omega⟩
  · omega
theorem w64 {x : Int} (h1 : -9223372036854775808 ≤ x) (h2 : x ≤ 9223372036854775807) : IntKind.i64.wrap x = x := by rw [IntKind.wrap_i64]; omega
end Go.Proofs.Ytcigpclbhfkgaaa.V
/-! What the functions on grids return. -/
set_option linter.all false
namespace Go.Proofs.Ytcigpclbhfkgaaa.V
open Go Go.VM Go.Proofs
set_option maxRecDepth 10000
variable {frz : Nat} {H : Heap}
theorem inside_c (n lo hi : Int) : vcall C frz 108 [.int .i64 n, .int .i64 lo, .int .i64 hi] H = some (.bool (decide (inR lo n hi)), H) := by
  rw [vcall_go (fn := Try.f108) Try.func108 rfl (by kernel_rfl) rfl]
  simp
  repeat' (first | refine gd_dec _ _ ?_ ?_ | refine br_dec _ ?_ ?_) <;> intro h <;> simp [h, inR]
theorem l01In_c (n lo hi : Int) : vcall C frz 118 [.int .i64 n, .int .i64 lo, .int .i64 hi] H = some (.bool (decide (inR lo n hi)), H) := by
  rw [vcall_go (fn := Try.f118) Try.func118 rfl (by kernel_rfl) rfl]
  simp
  repeat' (first | refine gd_dec _ _ ?_ ?_ | refine br_dec _ ?_ ?_) <;> intro h <;> simp [h, inR]
theorem okG_of {w h : Int} (h1 : inR 1 w 4) (h2 : inR 1 h 4) : okG w h := ⟨h1, h2⟩
theorem gridOk_c (w h : Int) : vcall C frz 159 [.agg #[.int .i64 w, .int .i64 h]] H = some (.bool (decide (okG w h)), H) := by
  rw [vcall_go (fn := Try.f159) Try.func159 rfl (by kernel_rfl) rfl]
  simp [inside_c]
  refine gd_dec _ _ ?_ ?_ <;> intro h1 <;> simp [h1, inside_c]
  · have : okG w h ↔ inR 1 h 4 := ⟨fun g => g.2, fun g => ⟨h1, g⟩⟩
    simp [this]
  · exact fun g => h1 g.1
theorem sGridOk_c (w h : Int) : vcall C frz 122 [.agg #[.int .i64 w, .int .i64 h]] H = some (.bool (decide (okG w h)), H) := by
  rw [vcall_go (fn := Try.f122) Try.func122 rfl (by kernel_rfl) rfl]
  simp [l01In_c]
  refine gd_dec _ _ ?_ ?_ <;> intro h1 <;> simp [h1, l01In_c]
  · have : okG w h ↔ inR 1 h 4 := ⟨fun g => g.2, fun g => ⟨h1, g⟩⟩
    simp [this]
  · exact fun g => h1 g.1
theorem nodeCount_c (w h : Int) : vcall C frz 105 [.agg #[.int .i64 w, .int .i64 h]] H = some (.int .i64 (cnt w h), H) := by
  rw [vcall_go (fn := Try.f105) Try.func105 rfl (by kernel_rfl) rfl]
  simp [gridOk_c]
  refine br_dec _ ?_ ?_ <;> intro h1 <;> simp [h1, cnt]
  have := mul_small h1
  exact w64 (by omega) (by omega)
theorem sNodeCount_c (w h : Int) : vcall C frz 117 [.agg #[.int .i64 w, .int .i64 h]] H = some (.int .i64 (cnt w h), H) := by
  rw [vcall_go (fn := Try.f117) Try.func117 rfl (by kernel_rfl) rfl]
  simp [sGridOk_c]
  refine br_dec _ ?_ ?_ <;> intro h1 <;> simp [h1, cnt]
  have := mul_small h1
  exact w64 (by omega) (by omega)
theorem isN_inR (w h n : Int) : inR 0 n (IntKind.i64.wrap (cnt w h - 1)) ↔ isN w h n := by
  have := cnt_range w h
  rw [w64 (by omega) (by omega)]
  simp only [inR, isN]; omega
theorem isNode_c (w h n : Int) : vcall C frz 142 [.agg #[.int .i64 w, .int .i64 h], .int .i64 n] H = some (.bool (decide (isN w h n)), H) := by
  rw [vcall_go (fn := Try.f142) Try.func142 rfl (by kernel_rfl) rfl]
  simp [nodeCount_c, inside_c, isN_inR]
theorem l02Has_c (w h n : Int) : vcall C frz 137 [.agg #[.int .i64 w, .int .i64 h], .int .i64 n] H = some (.bool (decide (isN w h n)), H) := by
  rw [vcall_go (fn := Try.f137) Try.func137 rfl (by kernel_rfl) rfl]
  simp [sNodeCount_c, l01In_c, isN_inR]
end Go.Proofs.Ytcigpclbhfkgaaa.V
/-! What the functions on grids return: places, neighbours, channels. -/
set_option linter.all false
namespace Go.Proofs.Ytcigpclbhfkgaaa.V
open Go Go.VM Go.Proofs
set_option maxRecDepth 10000
variable {frz : Nat} {H : Heap}
theorem at_inR (w h x y : Int) (h1 : okG w h) : (inR 0 x (IntKind.i64.wrap (w - 1)) ↔ 0 ≤ x ∧ x < w) ∧ (inR 0 y (IntKind.i64.wrap (h - 1)) ↔ 0 ≤ y ∧ y < h) := by
  obtain ⟨⟨a1, a2⟩, b1, b2⟩ := h1
  rw [w64 (by omega) (by omega), w64 (by omega) (by omega)]
  simp only [inR]; omega
theorem at_val {w h x y : Int} (h1 : okG w h) (h2 : 0 ≤ x ∧ x < w) (h3 : 0 ≤ y ∧ y < h) : IntKind.i64.wrap (IntKind.i64.wrap (y * w) + x) = y * w + x := by
  have hm := mul_small h1
  obtain ⟨⟨a1, a2⟩, b1, b2⟩ := h1
  have c1 : 0 * 0 ≤ y * w := Int.mul_le_mul h3.1 (by omega) (by omega) (by omega)
  have c2 : y * w ≤ h * w := Int.mul_le_mul_of_nonneg_right (by omega) (by omega)
  rw [Int.mul_comm h w] at c2
  rw [w64 (x := y * w) (by omega) (by omega), w64 (by omega) (by omega)]
theorem nodeAt_c (w h x y : Int) : vcall C frz 206 [.agg #[.int .i64 w, .int .i64 h], .int .i64 x, .int .i64 y] H = some (.int .i64 (nodeAt w h x y), H) := by
  rw [vcall_go (fn := Try.f206) Try.func206 rfl (by kernel_rfl) rfl]
  simp [gridOk_c]
  refine gd_dec _ _ ?_ ?_ <;> intro h1 <;> simp [h1, inside_c, nodeAt]
  obtain ⟨e1, e2⟩ := at_inR w h x y h1
  simp only [e1, e2]
  refine gd_dec _ _ ?_ ?_ <;> intro h2 <;> simp [h2, inside_c]
  simp only [e2]
  refine br_dec _ ?_ ?_ <;> intro h3 <;> simp [h3]
  exact at_val h1 h2 h3
theorem sNodeAt_c (w h x y : Int) : vcall C frz 205 [.agg #[.int .i64 w, .int .i64 h], .int .i64 x, .int .i64 y] H = some (.int .i64 (nodeAt w h x y), H) := by
  rw [vcall_go (fn := Try.f205) Try.func205 rfl (by kernel_rfl) rfl]
  simp [sGridOk_c]
  refine gd_dec _ _ ?_ ?_ <;> intro h1 <;> simp [h1, l01In_c, nodeAt]
  obtain ⟨e1, e2⟩ := at_inR w h x y h1
  simp only [e1, e2]
  refine gd_dec _ _ ?_ ?_ <;> intro h2 <;> simp [h2, l01In_c]
  simp only [e2]
  refine br_dec _ ?_ ?_ <;> intro h3 <;> simp [h3]
  exact at_val h1 h2 h3
theorem nodeAt_range (w h x y : Int) : -1 ≤ nodeAt w h x y ∧ nodeAt w h x y < 16 := by
  unfold nodeAt
  split
  · rename_i h1
    obtain ⟨h1, h2, h3⟩ := h1
    have hm := mul_small h1
    obtain ⟨⟨a1, a2⟩, b1, b2⟩ := h1
    have c1 : 0 * 0 ≤ y * w := Int.mul_le_mul h3.1 (by omega) (by omega) (by omega)
    have c2 : y * w ≤ (h - 1) * w := Int.mul_le_mul_of_nonneg_right (by omega) (by omega)
    rw [Int.sub_mul, Int.mul_comm h w] at c2
    omega
  · omega
theorem tdiv_of {n w : Int} (h : 0 ≤ n) (h1 : 1 ≤ w) (h2 : n < 16) : IntKind.i64.wrap (n.tdiv w) = n / w := by
  rw [Int.tdiv_eq_ediv_of_nonneg h]
  have h3 := Int.ediv_le_self w h
  have h4 := Int.ediv_nonneg h (by omega : 0 ≤ w)
  exact w64 (by omega) (by omega)
theorem tmod_of {n w : Int} (h : 0 ≤ n) : n.tmod w = n % w := Int.tmod_eq_emod_of_nonneg h
theorem div_small {n w : Int} (h : 0 ≤ n) (h1 : 1 ≤ w) (h2 : n < 16) : 0 ≤ n / w ∧ n / w < 16 := ⟨Int.ediv_nonneg h (by omega), by have := Int.ediv_le_self w h; omega⟩
theorem mod_small {n w : Int} (h1 : 1 ≤ w) (h2 : w ≤ 4) : 0 ≤ n % w ∧ n % w < 4 := ⟨Int.emod_nonneg _ (by omega), by have := Int.emod_lt_of_pos n (by omega : 0 < w); omega⟩
theorem nextNode_c (w h n p : Int) : vcall C frz 192 [.agg #[.int .i64 w, .int .i64 h], .int .i64 n, .int .i64 p] H = some (.int .i64 (next w h n p), H) := by
  rw [vcall_go (fn := Try.f192) Try.func192 rfl (by kernel_rfl) rfl]
  simp [isNode_c]
  refine br_dec _ ?_ ?_ <;> intro h1 <;> simp [h1, next]
  obtain ⟨⟨⟨a1, a2⟩, b1, b2⟩, g2, g3, g4⟩ := isN_ok h1
  rw [go_draw (h := by kernel_rfl)]
  simp
  refine vneed_eq (by omega) ?_
  refine vneed_eq (by omega) ?_
  obtain ⟨d1, d2⟩ := div_small g2 a1 g4
  obtain ⟨m1, m2⟩ := mod_small (n := n) a1 a2
  rw [tdiv_of g2 a1 g4, tmod_of g2]
  refine br_dec _ ?_ ?_ <;> intro p0 <;> simp [p0, nodeAt_c]
  · rw [w64 (by omega) (by omega)]
  refine br_dec _ ?_ ?_ <;> intro p1 <;> simp [p1, nodeAt_c]
  · rw [w64 (by omega) (by omega)]
  refine br_dec _ ?_ ?_ <;> intro p2 <;> simp [p2, nodeAt_c]
  · rw [w64 (by omega) (by omega)]
  refine br_dec _ ?_ ?_ <;> intro p3 <;> simp [p3, nodeAt_c]
  · rw [w64 (by omega) (by omega)]
  refine br_dec _ ?_ ?_ <;> intro p4 <;> simp [p4, nodeAt_c]
theorem sNextNode_c (w h n p : Int) : vcall C frz 190 [.agg #[.int .i64 w, .int .i64 h], .int .i64 n, .int .i64 p] H = some (.int .i64 (next w h n p), H) := by
  rw [vcall_go (fn := Try.f190) Try.func190 rfl (by kernel_rfl) rfl]
  simp [l02Has_c]
  refine br_dec _ ?_ ?_ <;> intro h1 <;> simp [h1, next]
  obtain ⟨⟨⟨a1, a2⟩, b1, b2⟩, g2, g3, g4⟩ := isN_ok h1
  refine vneed_eq (by omega) ?_
  refine vneed_eq (by omega) ?_
  obtain ⟨d1, d2⟩ := div_small g2 a1 g4
  obtain ⟨m1, m2⟩ := mod_small (n := n) a1 a2
  rw [tdiv_of g2 a1 g4, tmod_of g2]
  refine br_dec _ ?_ ?_ <;> intro p0 <;> simp [p0, sNodeAt_c]
  · rw [w64 (by omega) (by omega)]
  refine br_dec _ ?_ ?_ <;> intro p1 <;> simp [p1, sNodeAt_c]
  · rw [w64 (by omega) (by omega)]
  refine br_dec _ ?_ ?_ <;> intro p2 <;> simp [p2, sNodeAt_c]
  · rw [w64 (by omega) (by omega)]
  refine br_dec _ ?_ ?_ <;> intro p3 <;> simp [p3, sNodeAt_c]
  · rw [w64 (by omega) (by omega)]
  refine br_dec _ ?_ ?_ <;> intro p4 <;> simp [p4, sNodeAt_c]
theorem next_range (w h n p : Int) : -1 ≤ next w h n p ∧ next w h n p < 16 := by
  unfold next
  split
  · rename_i h1
    have := isN_ok h1
    have a0 := nodeAt_range w h (n % w) (n / w - 1)
    have a1 := nodeAt_range w h (n % w + 1) (n / w)
    have a2 := nodeAt_range w h (n % w) (n / w + 1)
    have a3 := nodeAt_range w h (n % w - 1) (n / w)
    repeat' split
    all_goals omega
  · omega
theorem chan_inR (w h c : Int) : inR 0 c (IntKind.i64.wrap (IntKind.i64.wrap (4 * cnt w h) - 1)) ↔ 0 ≤ c ∧ c < 4 * cnt w h := by
  have := cnt_range w h
  rw [w64 (x := 4 * cnt w h) (by omega) (by omega), w64 (by omega) (by omega)]
  simp only [inR]; omega
theorem chan_div {w h c : Int} (h1 : 0 ≤ c ∧ c < 4 * cnt w h) : IntKind.i64.wrap (c.tdiv 4) = c / 4 ∧ c.tmod 4 = c % 4 := by
  have := cnt_range w h
  rw [Int.tdiv_eq_ediv_of_nonneg h1.1, Int.tmod_eq_emod_of_nonneg h1.1]
  exact ⟨w64 (by omega) (by omega), rfl⟩
theorem leads_c (w h c : Int) : vcall C frz 191 [.agg #[.int .i64 w, .int .i64 h], .int .i64 c] H = some (.bool (decide (leads w h c)), H) := by
  rw [vcall_go (fn := Try.f191) Try.func191 rfl (by kernel_rfl) rfl]
  simp [nodeCount_c, inside_c]
  refine gd_dec _ _ ?_ ?_ <;> intro h1 <;> simp [h1]
  · rw [chan_inR] at h1
    obtain ⟨e1, e2⟩ := chan_div h1
    simp [e1, e2, nextNode_c, leads, h1]
  · rw [chan_inR] at h1
    exact fun g => h1 g.1
theorem l03Leads_c (w h c : Int) : vcall C frz 204 [.agg #[.int .i64 w, .int .i64 h], .int .i64 c] H = some (.bool (decide (leads w h c)), H) := by
  rw [vcall_go (fn := Try.f204) Try.func204 rfl (by kernel_rfl) rfl]
  simp [sNodeCount_c, l01In_c]
  refine gd_dec _ _ ?_ ?_ <;> intro h1 <;> simp [h1]
  · rw [chan_inR] at h1
    obtain ⟨e1, e2⟩ := chan_div h1
    simp [e1, e2, sNextNode_c, leads, h1]
  · rw [chan_inR] at h1
    exact fun g => h1 g.1
end Go.Proofs.Ytcigpclbhfkgaaa.V
/-! What the laws' own functions return: arguments copied, compared, counted. -/
set_option linter.all false
namespace Go.Proofs.Ytcigpclbhfkgaaa.V
open Go Go.VM Go.Proofs
set_option maxRecDepth 10000
variable {frz : Nat} {H : Heap}
theorem getD_get (xs : List Int) (i : Nat) (h : i < xs.length) : xs.getD i 0 = xs[i] := by simp [List.getD_eq_getElem?_getD, h]
theorem szIntS_c (v : Value) (xs : List Int) (n : Int) (hI : IsI H v xs) (h0 : 0 ≤ n) (h1 : n ≤ 1048576) (h2 : xs.length ≤ 9223372036854775807) :
    vcall C frz 51 [v, .int .i64 n] H = some (.int .i64 (if n < xs.length then -1 else n - xs.length), H) := by
  rw [vcall_go (fn := Try.f51) Try.func51 rfl (by kernel_rfl) rfl]
  simp [hI.len]
  rw [w64 (by omega) (by omega)]
  refine br_dec _ ?_ ?_ <;> intro h <;> simp [h]
  · intro hh; omega
  · intro hh; omega
theorem toIntS_c (v : Value) (xs : List Int) (hI : IsI H v xs) (hb : xs.length ≤ 1073741824) :
   vcall C frz 54 [v] H = some (.slice (some ⟨H.length, 0, some 0⟩) xs.length 0, H ++ [⟨xs.map (.int .i64), 0, 3⟩]) := by
  rw [vcall_go (fn := Try.f54) Try.func54 rfl (by kernel_rfl) rfl]
  simp [hI.len]
  refine vneed_eq (by omega) ?_
  refine go_inv (fun n t H' => ∃ i : Nat, n = xs.length - i ∧ i ≤ xs.length ∧ t 0 = v ∧ t 3 = .slice (some ⟨H.length, 0, some 0⟩) xs.length 0 ∧ t 4 = .int .i64 i ∧
    H' = H ++ [⟨(xs.map (.int .i64)).take i ++ List.replicate (xs.length - i) (.int .i64 0), 0, 3⟩]) ?_ (n := xs.length) ⟨0, by simp⟩
  rintro n t H' ⟨i, rfl, hi, h0, h3, h4, rfl⟩ ih
  simp [h0, h3, h4, hI.lenA]
  refine br_dec _ ?_ ?_ <;> intro h
  · simp [h0, h3, h4, h, hI.idxA, hI.loadA, getD_get]
    refine vneed_eq (by omega) ?_
    refine ih (xs.length - (i + 1)) _ _ ⟨i + 1, rfl, by omega, by simp [h0], by simp [h3], ?_, ?_⟩ (by omega)
    · simp; rw [w64 (by omega) (by omega)]
    · rw [splice_fill' _ _ _ _ h]
  · have : i = xs.length := by omega
    subst this
    simp [h0, h3, h4, scrub_ints]
end Go.Proofs.Ytcigpclbhfkgaaa.V
/-! What the laws' own functions return: meshes copied and compared. -/
set_option linter.all false
namespace Go.Proofs.Ytcigpclbhfkgaaa.V
open Go Go.VM Go.Proofs
set_option maxRecDepth 10000
variable {frz : Nat} {H : Heap}
theorem eqIntS_c (a b : Value) (xs ys : List Int) (ha : IsI H a xs) (hb : IsI H b ys) (hl : xs.length ≤ 1073741824) :
   vcall C frz 58 [a, b] H = some (.bool (decide (xs = ys)), H) := by
  rw [vcall_go (fn := Try.f58) Try.func58 rfl (by kernel_rfl) rfl]
  simp [ha.len, hb.len]
  refine br_dec _ ?_ ?_ <;> intro h0 <;> simp [h0]
  · refine go_inv (fun n t H' => ∃ i : Nat, n = xs.length - i ∧ i ≤ xs.length ∧ t 0 = a ∧ t 1 = b ∧ t 5 = .int .i64 i ∧ H' = H ∧ xs.take i = ys.take i) ?_ (n := xs.length) ⟨0, by simp⟩
    rintro n t H' ⟨i, rfl, hi, h1, h2, h3, rfl, h4⟩ ih
    simp [h1, h2, h3, ha.len]
    refine br_dec _ ?_ ?_ <;> intro h
    · have h' : i < ys.length := by omega
      simp [h1, h2, h3, h]
      rw [go_draw (h := by kernel_rfl)]
      simp [h1, h2, h3, h, h', ha.idx, ha.load, hb.idx, hb.load, getD_get]
      refine br_dec _ ?_ ?_ <;> intro h5 <;> simp [h1, h2, h3, h5]
      · refine ih (xs.length - (i + 1)) _ _ ⟨i + 1, rfl, by omega, by simp [h1], by simp [h2], ?_, rfl, ?_⟩ (by omega)
        · simp; rw [w64 (by omega) (by omega)]
        · rw [List.take_succ_eq_append_getElem h, List.take_succ_eq_append_getElem h', h4]; simp [h5]
      · intro hh; subst hh; simp at h5
    · have : i = xs.length := by omega
      subst this
      simp [h1, h2, h3]
      rw [List.take_length, List.take_of_length_le (by omega)] at h4
      exact h4
  · intro hh; exact h0 (by rw [hh])
theorem toGrid_c (w h : Int) : vcall C frz 31 [.agg #[.int .i64 w, .int .i64 h]] H = some (.agg #[.int .i64 w, .int .i64 h], H) := by
  rw [vcall_go (fn := Try.f31) Try.func31 rfl (by kernel_rfl) rfl]
  simp
theorem szMesh_c (w h : Int) (v : Value) (xs : List Int) (n : Int) (hI : IsI H v xs) (h0 : 0 ≤ n) (h1 : n ≤ 1048576) (h2 : xs.length ≤ 9223372036854775807) :
    vcall C frz 11 [.agg #[.int .i64 w, .int .i64 h, v], .int .i64 n] H = some (.int .i64 (if n < xs.length then -1 else n - xs.length), H) := by
  rw [vcall_go (fn := Try.f11) Try.func11 rfl (by kernel_rfl) rfl]
  simp [szIntS_c _ _ _ (hI.app _) h0 h1 h2, hI.one', hI.cells]
  refine br_dec _ ?_ ?_ <;> intro h <;> simp [h]
  · intro hh; omega
theorem toMesh_c (w h : Int) (v : Value) (xs : List Int) (hI : IsI H v xs) (hb : xs.length ≤ 1073741824) :
   vcall C frz 14 [.agg #[.int .i64 w, .int .i64 h, v]] H = some (.agg #[.int .i64 w, .int .i64 h, .slice (some ⟨H.length, 0, some 0⟩) xs.length 0], H ++ [⟨xs.map (.int .i64), 0, 3⟩]) := by
  rw [vcall_go (fn := Try.f14) Try.func14 rfl (by kernel_rfl) rfl]
  simp [toGrid_c, toIntS_c _ _ (hI.app _) hb, hI.one', hI.cells]
theorem eqGrid_c (w h w' h' : Int) : vcall C frz 57 [.agg #[.int .i64 w, .int .i64 h], .agg #[.int .i64 w', .int .i64 h']] H = some (.bool (decide (w = w' ∧ h = h')), H) := by
  rw [vcall_go (fn := Try.f57) Try.func57 rfl (by kernel_rfl) rfl]
  simp
  refine br_dec _ ?_ ?_ <;> intro h0 <;> simp [h0]
  refine br_dec _ ?_ ?_ <;> intro h0 <;> simp [h0]
theorem eqMesh_c (w h w' h' : Int) (a b : Value) (xs ys : List Int) (ha : IsI H a xs) (hb : IsI H b ys) (hl : xs.length ≤ 1073741824) :
   vcall C frz 18 [.agg #[.int .i64 w, .int .i64 h, a], .agg #[.int .i64 w', .int .i64 h', b]] H = some (.bool (decide ((w = w' ∧ h = h') ∧ xs = ys)), H) := by
  rw [vcall_go (fn := Try.f18) Try.func18 rfl (by kernel_rfl) rfl]
  simp [eqGrid_c, ha.one', hb.one', ha.cells, hb.cells, -Bool.decide_and]
  refine br_dec _ ?_ ?_ <;> intro h0 <;> simp [h0, eqIntS_c _ _ _ _ (ha.app _) (hb.app _) hl]
  refine br_dec _ ?_ ?_ <;> intro h0 <;> simp [h0]
end Go.Proofs.Ytcigpclbhfkgaaa.V
/-! slices.Concat on two slices of numbers. -/
set_option linter.all false
namespace Go.Proofs.Ytcigpclbhfkgaaa.V
open Go Go.VM Go.Proofs
set_option maxRecDepth 10000
variable {frz : Nat} {H : Heap}
theorem wr0 : IntKind.i64.wrap 0 = 0 := by decide
end Go.Proofs.Ytcigpclbhfkgaaa.V
/-! What the functions on meshes return. -/
set_option linter.all false
namespace Go.Proofs.Ytcigpclbhfkgaaa.V
open Go Go.VM Go.Proofs
set_option maxRecDepth 10000
variable {frz : Nat} {H : Heap}
theorem goodAt_bad {w h : Int} {b : List Int} {i : Nat} (h5 : i < b.length) (hg : ¬ goodAt w h b i) : ¬ meshOk w h b := fun hh => hg (hh.1 i h5)
theorem goodAt_succ {w h : Int} {b : List Int} {i : Nat} (hj : ∀ j < i, goodAt w h b j) (hg : goodAt w h b i) : ∀ j < i + 1, goodAt w h b j := fun j hh => by
  by_cases hji : j < i
  · exact hj j hji
  · have : j = i := by omega
    rw [this]; exact hg
theorem goodAt_iff {w h : Int} {b : List Int} {i : Nat} (h5 : i < b.length) : goodAt w h b i ↔ leads w h b[i] ∧ (0 < i → b[i - 1] < b[i]) := by
  unfold goodAt
  rw [getD_get _ _ h5]
  refine and_congr Iff.rfl ⟨fun g p => ?_, fun g p => ?_⟩
  · have := g p; rwa [getD_get _ _ (by omega)] at this
  · rw [getD_get _ _ (by omega)]; exact g p
theorem sMeshOk_c (w h : Int) (v : Value) (b : List Int) (hI : IsI H v b) (hl : b.length ≤ 1073741824) :
   vcall C frz 197 [.agg #[.int .i64 w, .int .i64 h, v]] H = some (.bool (decide (meshOk w h b)), H) := by
  rw [vcall_go (fn := Try.f197) Try.func197 rfl (by kernel_rfl) rfl]
  simp [hI.one', hI.cells, hI.lenA, sGridOk_c]
  refine br_dec _ ?_ ?_ <;> intro hg <;> simp [hg]
  · refine go_inv (fun n t H' => ∃ i : Nat, n = b.length - i ∧ i ≤ b.length ∧ t 1 = .pointer (some ⟨H.length, 0, some 0⟩) ∧ t 3 = .int .i64 i ∧
      H' = H ++ [⟨[.int .i64 w, .int .i64 h, v], 0, 38⟩] ∧ ∀ j < i, goodAt w h b j) ?_ (n := b.length) ⟨0, by simp⟩
    rintro n t H' ⟨i, rfl, hi, h1, h3, rfl, hj⟩ ih
    have next := fun (t' : Env) (e1 : t' 1 = .pointer (some ⟨H.length, 0, some 0⟩)) (e2 : t' 3 = .int .i64 (i + 1 : Nat)) (e3 : i < b.length) (e4 : goodAt w h b i) =>
      ih (b.length - (i + 1)) t' _ ⟨i + 1, rfl, by omega, e1, e2, rfl, goodAt_succ hj e4⟩ (by omega)
    simp [h1, h3, hI.lenA]
    refine br_dec _ ?_ ?_ <;> intro h5
    · simp [h1, h3, h5]
      rw [go_draw (h := by kernel_rfl)]
      simp [h1, h3, h5, hI.idxA, hI.loadA, getD_get, l03Leads_c]

      refine gd_dec _ _ ?_ ?_ <;> intro hL <;> simp [h1, h3, h5, hL]
      · refine gd_dec _ _ ?_ ?_ <;> intro h0
        · have e : IntKind.i64.wrap ((i : Int) - 1) = ((i - 1 : Nat) : Int) := by rw [w64 (by omega) (by omega)]; omega
          have e' : i - 1 < b.length := by omega
          simp [h1, h3, h5, h0, hL, hI.idxA, hI.loadA, getD_get, e, e']
          refine br_dec _ ?_ ?_ <;> intro h6
          · simp [h1, h3, h5, h0, hL, h6]
            refine goodAt_bad h5 ?_
            rw [goodAt_iff h5]
            exact fun hh => absurd (hh.2 h0) (by omega)
          · simp [h1, h3, h5, h0, hL, h6]
            refine next _ (by simp [h1]) ?_ h5 ((goodAt_iff h5).2 ⟨hL, fun _ => by omega⟩)
            simp; rw [w64 (by omega) (by omega)]
        · simp [h1, h3, h5, h0, hL]
          refine next _ (by simp [h1]) ?_ h5 ((goodAt_iff h5).2 ⟨hL, fun hh => absurd hh h0⟩)
          simp; rw [w64 (by omega) (by omega)]
      · refine goodAt_bad h5 ?_
        rw [goodAt_iff h5]
        exact fun hh => hL hh.1
    · have : i = b.length := by omega
      subst this
      simp [h1, h3]
      exact ⟨hj, hg⟩
  · exact fun hh => hg hh.2
theorem notin_succ {b : List Int} {c : Int} {i : Nat} (h : i < b.length) (h1 : c ∉ b.take i) (h2 : ¬ b[i] = c) : c ∉ b.take (i + 1) := by
  rw [List.take_succ_eq_append_getElem h]
  simp only [List.mem_append, List.mem_singleton, not_or]
  exact ⟨h1, fun hh => h2 hh.symm⟩
/-- the place of a number, or -1 -/
def place (b : List Int) (c : Int) : Int := if c ∈ b then b.idxOf c else -1
theorem place_range (b : List Int) (c : Int) : -1 ≤ place b c ∧ place b c < b.length ∧ (0 ≤ place b c ↔ c ∈ b) := by
  unfold place
  split
  · rename_i h
    have := List.idxOf_lt_length_iff.2 h
    refine ⟨by omega, by omega, ?_⟩
    simp [h]
  · rename_i h
    refine ⟨by omega, by omega, ?_⟩
    simp [h]
theorem place_at {b : List Int} {c : Int} {i : Nat} (h : i < b.length) (h1 : c ∉ b.take i) (h2 : b[i] = c) : place b c = i := by
  have hm : c ∈ b := h2 ▸ List.getElem_mem h
  unfold place
  rw [if_pos hm]
  have e : b = b.take i ++ b.drop i := (List.take_append_drop i b).symm
  have e2 : b.drop i = c :: b.drop (i + 1) := by rw [List.drop_eq_getElem_cons h, h2]
  rw [e, List.idxOf_append, if_neg h1, e2, List.idxOf_cons_self]
  simp; omega
theorem find_c (v : Value) (b : List Int) (c : Int) (hI : IsI H v b) (hl : b.length ≤ 1073741824) :
   vcall C frz 147 [v, .int .i64 c] H = some (.bool (decide (c ∈ b)), H) := by
  rw [vcall_go (fn := Try.f147) Try.func147 rfl (by kernel_rfl) rfl]
  simp [hI.len]
  refine go_inv (fun n t H' => ∃ i : Nat, n = b.length - i ∧ i ≤ b.length ∧ t 0 = v ∧ t 1 = .int .i64 c ∧ t 5 = .int .i64 i ∧ H' = H ∧ c ∉ b.take i) ?_ (n := b.length) ⟨0, by simp⟩
  rintro n t H' ⟨i, rfl, hi, h1, h2, h3, rfl, hj⟩ ih
  simp [h1, h2, h3, hI.len]
  refine br_dec _ ?_ ?_ <;> intro h5
  · simp [h1, h2, h3, h5, hI.idx, hI.load, getD_get]
    refine br_dec _ ?_ ?_ <;> intro h6 <;> simp [h1, h2, h3, h6]
    · rw [← h6]; exact List.getElem_mem h5
    · refine ih (b.length - (i + 1)) _ _ ⟨i + 1, rfl, by omega, by simp [h1], by simp [h2], ?_, rfl, notin_succ h5 hj h6⟩ (by omega)
      simp; rw [w64 (by omega) (by omega)]
  · have : i = b.length := by omega
    subst this
    simp [h1, h2, h3]
    rwa [List.take_length] at hj
theorem index_c (v : Value) (b : List Int) (c : Int) (hI : IsI H v b) (hl : b.length ≤ 1073741824) :
   vcall C frz 181 [v, .int .i64 c] H = some (.int .i64 (place b c), H) := by
  rw [vcall_go (fn := Try.f181) Try.func181 rfl (by kernel_rfl) rfl]
  simp [hI.len]
  refine go_inv (fun n t H' => ∃ i : Nat, n = b.length - i ∧ i ≤ b.length ∧ t 0 = v ∧ t 1 = .int .i64 c ∧ t 6 = v ∧ t 7 = .int .i64 b.length ∧ t 8 = .int .i64 i ∧ H' = H ∧ c ∉ b.take i) ?_ (n := b.length) ⟨0, by simp⟩
  rintro n t H' ⟨i, rfl, hi, h0, h1, h2, h3, h4, rfl, hj⟩ ih
  simp [h0, h1, h2, h3, h4, hI.len]
  refine br_dec _ ?_ ?_ <;> intro h5
  · simp [h0, h1, h2, h3, h4, h5, hI.idx, hI.load, getD_get]
    refine br_dec _ ?_ ?_ <;> intro h6 <;> simp [h0, h1, h2, h3, h4, h6]
    · rw [place_at (c := b[i]) h5 (by first | exact hj | (rw [h6]; exact hj) | (rw [← h6]; exact hj)) rfl]
    · refine ih (b.length - (i + 1)) _ _ ⟨i + 1, rfl, by omega, by simp [h0], by simp [h1], by simp [h2], by simp [h3], ?_, rfl, notin_succ h5 hj (by omega)⟩ (by omega)
      simp; rw [w64 (by omega) (by omega)]
  · have : i = b.length := by omega
    subst this
    simp [h0, h1, h2, h3]
    rw [List.take_length] at hj
    rw [place, if_neg hj]
theorem contains_c (v : Value) (b : List Int) (c : Int) (hI : IsI H v b) (hl : b.length ≤ 1073741824) :
   vcall C frz 150 [v, .int .i64 c] H = some (.bool (decide (c ∈ b)), H) := by
  rw [vcall_go (fn := Try.f150) Try.func150 rfl (by kernel_rfl) rfl]
  simp [index_c _ _ _ hI hl, place_range]
theorem l03Has_c (w h : Int) (v : Value) (b : List Int) (c : Int) (hI : IsI H v b) (hl : b.length ≤ 1073741824) :
   vcall C frz 189 [.agg #[.int .i64 w, .int .i64 h, v], .int .i64 c] H = some (.bool (decide (has w h b c)), H) := by
  rw [vcall_go (fn := Try.f189) Try.func189 rfl (by kernel_rfl) rfl]
  simp [hI.one', hI.cells, l03Leads_c]
  refine gd_dec _ _ ?_ ?_ <;> intro h1 <;> simp [h1, find_c _ _ _ (hI.app _) hl, has, -Bool.decide_and]
theorem endOf_c (w h : Int) (v : Value) (b : List Int) (c : Int) (hI : IsI H v b) (h0 : leads w h c) :
   vcall C frz 164 [.agg #[.int .i64 w, .int .i64 h, v], .int .i64 c] H = some (.int .i64 (next w h (c / 4) (c % 4)), H) := by
  rw [vcall_go (fn := Try.f164) Try.func164 rfl (by kernel_rfl) rfl]
  obtain ⟨e1, e2⟩ := chan_div h0.1
  simp [hI.one', hI.cells, e1, e2, nextNode_c]
theorem meshOk_c (w h : Int) (v : Value) (b : List Int) (hI : IsI H v b) (hl : b.length ≤ 1073741824) :
   vcall C frz 161 [.agg #[.int .i64 w, .int .i64 h, v]] H = some (.bool (decide (meshOk w h b)), H) := by
  rw [vcall_go (fn := Try.f161) Try.func161 rfl (by kernel_rfl) rfl]
  simp [hI.one', hI.cells, hI.lenA]
  refine go_inv (fun n t H' => ∃ i : Nat, n = b.length - i ∧ i ≤ b.length ∧ t 1 = .pointer (some ⟨H.length, 0, some 0⟩) ∧ t 6 = v ∧ t 7 = .int .i64 b.length ∧ t 8 = .int .i64 i ∧
      H' = H ++ [⟨[.int .i64 w, .int .i64 h, v], 0, 38⟩] ∧ ∀ j < i, goodAt w h b j) ?_ (n := b.length) ⟨0, by simp⟩
  rintro n t H' ⟨i, rfl, hi, h1, h2, h3, h4, rfl, hj⟩ ih
  have next := fun (t' : Env) (e1 : t' 1 = .pointer (some ⟨H.length, 0, some 0⟩)) (e2 : t' 6 = v) (e3 : t' 7 = .int .i64 b.length) (e4 : t' 8 = .int .i64 (i + 1 : Nat)) (e5 : i < b.length) (e6 : goodAt w h b i) =>
      ih (b.length - (i + 1)) t' _ ⟨i + 1, rfl, by omega, e1, e2, e3, e4, rfl, goodAt_succ hj e6⟩ (by omega)
  simp [h1, h2, h3, h4]
  refine br_dec _ ?_ ?_ <;> intro h5
  · simp [h1, h2, h3, h4, h5, hI.idxA, hI.loadA, getD_get, leads_c]
    refine gd_dec _ _ ?_ ?_ <;> intro hL <;> simp [h1, h2, h3, h4, h5, hL]
    · refine gd_dec _ _ ?_ ?_ <;> intro h0
      · have e : IntKind.i64.wrap ((i : Int) - 1) = ((i - 1 : Nat) : Int) := by rw [w64 (by omega) (by omega)]; omega
        have e' : i - 1 < b.length := by omega
        simp [h1, h2, h3, h4, h5, h0, hL, hI.idxA, hI.loadA, getD_get, e, e']
        refine br_dec _ ?_ ?_ <;> intro h6
        · simp [h1, h2, h3, h4, h5, h0, hL, h6]
          refine goodAt_bad h5 ?_
          rw [goodAt_iff h5]
          exact fun hh => absurd (hh.2 h0) (by omega)
        · simp [h1, h2, h3, h4, h5, h0, hL, h6]
          refine next _ (by simp [h1]) (by simp [h2]) (by simp [h3]) ?_ h5 ((goodAt_iff h5).2 ⟨hL, fun _ => by omega⟩)
          simp; rw [w64 (by omega) (by omega)]
      · simp [h1, h2, h3, h4, h5, h0, hL]
        refine next _ (by simp [h1]) (by simp [h2]) (by simp [h3]) ?_ h5 ((goodAt_iff h5).2 ⟨hL, fun hh => absurd hh h0⟩)
        simp; rw [w64 (by omega) (by omega)]
    · refine goodAt_bad h5 ?_
      rw [goodAt_iff h5]
      exact fun hh => hL hh.1
  · have : i = b.length := by omega
    subst this
    simp [h1, h2, h3, h4, gridOk_c]
    exact ⟨fun hg => ⟨hj, hg⟩, fun hh => hh.2⟩
theorem hasChannel_c (w h : Int) (v : Value) (b : List Int) (c : Int) (hI : IsI H v b) (hl : b.length ≤ 1073741824) :
   vcall C frz 163 [.agg #[.int .i64 w, .int .i64 h, v], .int .i64 c] H = some (.bool (decide (meshOk w h b ∧ has w h b c)), H) := by
  rw [vcall_go (fn := Try.f163) Try.func163 rfl (by kernel_rfl) rfl]
  simp [hI.one', hI.cells, meshOk_c _ _ _ _ (hI.app _) hl]
  refine gd_dec _ _ ?_ ?_ <;> intro h1 <;> simp [h1, leads_c, -Bool.decide_and]
  refine gd_dec _ _ ?_ ?_ <;> intro h2 <;> simp [h2, has, contains_c _ _ _ (hI.app _) hl, -Bool.decide_and]
end Go.Proofs.Ytcigpclbhfkgaaa.V
/-! Tables: the plain walk. -/
set_option linter.all false
namespace Go.Proofs.Ytcigpclbhfkgaaa.V
open Go Go.VM Go.Proofs
set_option maxRecDepth 10000
def portOf (w h : Int) (T : List Int) (a to : Int) : Int := rd T (a * cnt w h + to)
def stepOk (w h : Int) (b T : List Int) (a to : Int) : Prop := inR 0 (portOf w h T a to) 3 ∧ has w h b (4 * a + portOf w h T a to)
instance (w h : Int) (b T : List Int) (a to : Int) : Decidable (stepOk w h b T a to) := inferInstanceAs (Decidable (_ ∧ _))
def walkN (w h : Int) (b T : List Int) (to : Int) : Nat → Int → List Int → List Int
  | 0, a, out => if portOf w h T a to = 4 then (if a = to then out else []) else []
  | f + 1, a, out => if portOf w h T a to = 4 then (if a = to then out else []) else
      if stepOk w h b T a to then walkN w h b T to f (next w h a (portOf w h T a to)) (out ++ [4 * a + portOf w h T a to]) else []
/-- the walk of a table -/
def walk (w h : Int) (b T : List Int) (a to : Int) : List Int := walkN w h b T to (cnt w h).toNat a []
def tsized (w h : Int) (b T : List Int) : Prop := meshOk w h b ∧ (T.length : Int) = cnt w h * cnt w h
instance (w h : Int) (b T : List Int) : Decidable (tsized w h b T) := inferInstanceAs (Decidable (_ ∧ _))
def tableOk (w h : Int) (b T : List Int) : Prop := tsized w h b T ∧ ∀ a, a < (cnt w h).toNat → ∀ c, c < (cnt w h).toNat → (a = c → portOf w h T a a = 4) ∧ (a ≠ c → walk w h b T a c ≠ [])
instance (w h : Int) (b T : List Int) : Decidable (tableOk w h b T) := inferInstanceAs (Decidable (_ ∧ _))
theorem walkN_len (w h : Int) (b T : List Int) (to : Int) : ∀ f a out, (walkN w h b T to f a out).length ≤ out.length + f := by
  intro f
  induction f with
  | zero => intro a out; simp only [walkN]; repeat' split
            all_goals simp
  | succ f ih =>
    intro a out; simp only [walkN]; repeat' split
    · omega
    · simp
    · have := ih (next w h a (portOf w h T a to)) (out ++ [4 * a + portOf w h T a to])
      simp at this; omega
    · simp
theorem nodeAt_isN {w h x y : Int} (hx : 0 ≤ nodeAt w h x y) : isN w h (nodeAt w h x y) := by
  refine ⟨hx, ?_⟩
  unfold nodeAt at hx ⊢
  split
  · rename_i h1
    obtain ⟨h1, h2, h3⟩ := h1
    have hm := mul_small h1
    have c2 : y * w ≤ (h - 1) * w := Int.mul_le_mul_of_nonneg_right (by omega) (by have := h1.1.1; omega)
    rw [Int.sub_mul, Int.mul_comm h w] at c2
    rw [cnt, if_pos h1]
    omega
  · rename_i h1; rw [if_neg h1] at hx; omega
theorem next_isN {w h a p : Int} (hx : 0 ≤ next w h a p) : isN w h (next w h a p) := by
  unfold next at hx ⊢
  by_cases h1 : isN w h a
  · rw [if_pos h1] at hx ⊢
    by_cases p0 : p = 0
    · rw [if_pos p0] at hx ⊢; exact nodeAt_isN hx
    rw [if_neg p0] at hx ⊢
    by_cases p1 : p = 1
    · rw [if_pos p1] at hx ⊢; exact nodeAt_isN hx
    rw [if_neg p1] at hx ⊢
    by_cases p2 : p = 2
    · rw [if_pos p2] at hx ⊢; exact nodeAt_isN hx
    rw [if_neg p2] at hx ⊢
    by_cases p3 : p = 3
    · rw [if_pos p3] at hx ⊢; exact nodeAt_isN hx
    rw [if_neg p3] at hx ⊢
    by_cases p4 : p = 4
    · rw [if_pos p4] at hx ⊢; exact h1
    rw [if_neg p4] at hx; omega
  · rw [if_neg h1] at hx; omega
theorem step_next {w h a p : Int} {b : List Int} (h0 : inR 0 p 3) (h1 : has w h b (4 * a + p)) : (4 * a + p) / 4 = a ∧ (4 * a + p) % 4 = p ∧ isN w h (next w h a p) := by
  obtain ⟨h2, h3⟩ := h0
  have e1 : (4 * a + p) / 4 = a := by omega
  have e2 : (4 * a + p) % 4 = p := by omega
  refine ⟨e1, e2, next_isN ?_⟩
  have := h1.1.2
  rwa [e1, e2] at this
theorem at_small {w h a to : Int} (h1 : isN w h a) (h2 : isN w h to) : 0 ≤ a * cnt w h + to ∧ a * cnt w h + to < cnt w h * cnt w h ∧ a * cnt w h ≤ 256 ∧ 0 ≤ a * cnt w h := by
  have hc := cnt_range w h
  obtain ⟨a1, a2⟩ := h1
  obtain ⟨b1, b2⟩ := h2
  have c1 : 0 * 0 ≤ a * cnt w h := Int.mul_le_mul a1 hc.1 (by omega) (by omega)
  have c2 : a * cnt w h ≤ (cnt w h - 1) * cnt w h := Int.mul_le_mul_of_nonneg_right (by omega) hc.1
  rw [Int.sub_mul] at c2
  have c3 : cnt w h * cnt w h ≤ 16 * 16 := Int.mul_le_mul hc.2 hc.2 hc.1 (by omega)
  omega
theorem rd_get {T : List Int} {k : Int} (h0 : 0 ≤ k) (h1 : k < T.length) : T.getD k.toNat 0 = rd T k := rfl
end Go.Proofs.Ytcigpclbhfkgaaa.V
/-! Trees: the plain side. -/
set_option linter.all false
namespace Go.Proofs.Ytcigpclbhfkgaaa.V
open Go Go.VM
theorem rd_at {s : List Int} {j : Nat} (h : j < s.length) : rd s (j : Int) = s[j] := by simp [rd, List.getD_eq_getElem?_getD, h]
theorem rd_mem {s : List Int} {k : Int} (h0 : 0 ≤ k) (h1 : k < s.length) : rd s k ∈ s := by
  obtain ⟨i, rfl⟩ := Int.eq_ofNat_of_zero_le h0
  rw [rd_at (by omega)]; exact List.getElem_mem _
theorem meshOk_iff (w h : Int) (b : List Int) : meshOk w h b ↔ okG w h ∧ (∀ c ∈ b, leads w h c) ∧ b.Pairwise (· < ·) := by
  have e : ∀ j, j < b.length → b.getD j 0 = rd b (j : Int) := fun j _ => by simp [rd]
  constructor
  · rintro ⟨h1, h2⟩
    refine ⟨h2, fun c hc => ?_, ?_⟩
    · obtain ⟨j, hj, rfl⟩ := List.getElem_of_mem hc
      have := (h1 j hj).1
      rwa [getD_get _ _ hj] at this
    · rw [List.pairwise_iff_getElem]
      intro i j hi hj hij
      induction j with
      | zero => omega
      | succ j ih =>
        have := (h1 (j + 1) hj).2 (by omega)
        rw [getD_get _ _ hj, Nat.add_sub_cancel, getD_get _ _ (by omega)] at this
        by_cases h3 : i = j
        · subst h3; exact this
        · exact Int.lt_trans (ih (by omega) (by omega)) this
  · rintro ⟨h1, h2, h3⟩
    refine ⟨fun j hj => ⟨by rw [getD_get _ _ hj]; exact h2 _ (List.getElem_mem hj), fun h0 => ?_⟩, h1⟩
    rw [getD_get _ _ hj, getD_get _ _ (by omega)]
    exact List.pairwise_iff_getElem.1 h3 _ _ _ _ (by omega)
def endC (w h c : Int) : Int := next w h (c / 4) (c % 4)
def backC (w h c : Int) : Int := 4 * endC w h c + opp (c % 4)
def link (w h : Int) (b : List Int) (c : Int) : Prop := has w h b c ∧ has w h b (backC w h c)
instance (w h : Int) (b : List Int) (c : Int) : Decidable (link w h b c) := inferInstanceAs (Decidable (_ ∧ _))
theorem asc_length {n : Nat} : ∀ {b : List Int}, b.Pairwise (· < ·) → (∀ c ∈ b, 0 ≤ c ∧ c < (n : Int)) → b.length ≤ n := by
  intro b hb hc
  have key : ∀ (b : List Int) (lo : Int), b.Pairwise (· < ·) → (∀ c ∈ b, lo ≤ c ∧ c < (n : Int)) → 0 ≤ lo → (b.length : Int) ≤ max 0 (n - lo) := by
    intro b
    induction b with
    | nil => intro lo _ _ _; simp; omega
    | cons a l ih =>
      intro lo hp hm h0
      have h1 := hm a (by simp)
      have h2 := ih (a + 1) (List.pairwise_cons.1 hp).2 (fun c hc => ⟨by have := (List.pairwise_cons.1 hp).1 c hc; omega, (hm c (by simp [hc])).2⟩) (by omega)
      simp; omega
  have := key b 0 hb (fun c h => ⟨(hc c h).1, (hc c h).2⟩) (by omega)
  omega
def neg (s : List Int) : Nat := s.countP (· < 0)
theorem rd_set {s : List Int} {k x v : Int} (h0 : 0 ≤ k) (h1 : k < s.length) (hx : 0 ≤ x) : rd (s.set k.toNat v) x = if x = k then v else rd s x := by
  obtain ⟨i, rfl⟩ := Int.eq_ofNat_of_zero_le h0
  obtain ⟨j, rfl⟩ := Int.eq_ofNat_of_zero_le hx
  simp only [Int.toNat_natCast]
  by_cases hj : j < s.length
  · rw [rd_at (by simpa using hj), rd_at hj, List.getElem_set]
    by_cases e : i = j
    · subst e; simp
    · rw [if_neg e, if_neg (by omega)]
  · rw [if_neg (by omega)]
    simp [rd, hj]
theorem rd_neg_lt {s : List Int} {x : Int} (h0 : 0 ≤ x) (h : rd s x < 0) : x < s.length := by
  obtain ⟨j, rfl⟩ := Int.eq_ofNat_of_zero_le h0
  by_cases hj : j < s.length
  · omega
  · simp [rd, hj] at h
theorem neg_set {s : List Int} {k v : Int} (h0 : 0 ≤ k) (h1 : k < s.length) (h : rd s k < 0) (hv : 0 ≤ v) : neg (s.set k.toNat v) + 1 = neg s := by
  obtain ⟨i, rfl⟩ := Int.eq_ofNat_of_zero_le h0
  have hi : i < s.length := by omega
  rw [rd_at hi] at h
  unfold neg
  rw [Int.toNat_natCast, List.countP_set hi]
  have : 0 < s.countP (· < 0) := List.countP_pos_iff.2 ⟨_, List.getElem_mem hi, by simpa using h⟩
  rw [if_pos (by simpa using h), if_neg (by simp; omega)]
  omega
def vst (w h : Int) (b : List Int) (a d : Int) (x : List Int × List Int) (p : Nat) : List Int × List Int :=
  if link w h b (4 * a + p) ∧ rd x.1 (next w h a p) < 0 then (x.1.set (next w h a p).toNat d, x.2 ++ [next w h a p]) else x
def vis (w h : Int) (b : List Int) (a d : Int) (x : List Int × List Int) : List Int × List Int := (List.range 4).foldl (vst w h b a d) x
theorem link_next {w h : Int} {b : List Int} {a : Int} {p : Nat} (hp : p < 4) (h1 : link w h b (4 * a + p)) : isN w h a ∧ isN w h (next w h a p) ∧ endC w h (4 * a + p) = next w h a p := by
  obtain ⟨⟨⟨h2, h3⟩, _⟩, _⟩ := h1
  have e1 : (4 * a + (p : Int)) / 4 = a := by omega
  have e2 : (4 * a + (p : Int)) % 4 = p := by omega
  unfold endC
  rw [e1, e2] at h3 ⊢
  exact ⟨⟨by omega, by omega⟩, next_isN h3, rfl⟩
structure BExt (w h : Int) (d : Int) (x y : List Int × List Int) : Prop where
  len : y.1.length = x.1.length
  old : ∀ v, 0 ≤ v → 0 ≤ rd x.1 v → rd y.1 v = rd x.1 v
  new : ∀ v ∈ y.2, v ∈ x.2 ∨ (isN w h v ∧ rd y.1 v = d)
  sum : neg y.1 + y.2.length = neg x.1 + x.2.length
  pre : ∀ v ∈ x.2, v ∈ y.2
  low : (∀ v ∈ x.1, -1 ≤ v ∧ v ≤ d) → ∀ v ∈ y.1, -1 ≤ v ∧ v ≤ d
theorem BExt.rfl' {w h d : Int} {x : List Int × List Int} : BExt w h d x x := ⟨rfl, fun _ _ _ => rfl, fun _ h => .inl h, rfl, fun _ h => h, fun h => h⟩
theorem BExt.trans {w h d : Int} {x y z : List Int × List Int} (hd : 0 ≤ d) (a : BExt w h d x y) (b : BExt w h d y z) : BExt w h d x z where
  len := b.len.trans a.len
  old v h0 h1 := by
    have e := a.old v h0 h1
    rw [b.old v h0 (by omega), e]
  new v hv := by
    rcases b.new v hv with h1 | h1
    · rcases a.new v h1 with h2 | ⟨h2, h3⟩
      · exact .inl h2
      · exact .inr ⟨h2, by rw [b.old v h2.1 (by omega), h3]⟩
    · exact .inr h1
  sum := b.sum.trans a.sum
  pre v h := b.pre v (a.pre v h)
  low h := b.low (a.low h)
theorem vst_ext {w h : Int} {b : List Int} {a d : Int} {x : List Int × List Int} {p : Nat} (hp : p < 4) (hd : 0 ≤ d) : BExt w h d x (vst w h b a d x p) := by
  unfold vst
  by_cases hc : link w h b (4 * a + p) ∧ rd x.1 (next w h a p) < 0
  · rw [if_pos hc]
    obtain ⟨h1, h2, h3⟩ := link_next hp hc.1
    have h4 := rd_neg_lt h2.1 hc.2
    have := neg_set h2.1 h4 hc.2 hd
    refine ⟨by simp, fun v h0 h5 => ?_, fun v hv => ?_, by simp; omega, fun v hv => by simp [hv], fun hl v hv => ?_⟩
    · simp only
      rw [rd_set h2.1 h4 h0, if_neg (by intro e; subst e; omega)]
    · simp only [List.mem_append, List.mem_singleton] at hv
      rcases hv with hv | rfl
      · exact .inl hv
      · exact .inr ⟨h2, by simp only; rw [rd_set h2.1 h4 h2.1, if_pos rfl]⟩
    · rcases List.mem_or_eq_of_mem_set hv with h6 | rfl
      · exact hl v h6
      · omega
  · rw [if_neg hc]; exact BExt.rfl'
theorem foldl_ext {w h : Int} {b : List Int} {a d : Int} (hd : 0 ≤ d) : ∀ (l : List Nat) (x : List Int × List Int), (∀ p ∈ l, p < 4) → BExt w h d x (l.foldl (vst w h b a d) x)
  | [], x, _ => BExt.rfl'
  | p :: l, x, hp => (vst_ext (hp p (by simp)) hd).trans hd (foldl_ext hd l _ (fun q hq => hp q (by simp [hq])))
theorem vis_ext {w h : Int} {b : List Int} {a d : Int} (hd : 0 ≤ d) (x : List Int × List Int) : BExt w h d x (vis w h b a d x) := foldl_ext hd _ _ (by simp)
theorem vst_app {w h : Int} {b : List Int} {a d : Int} (s q q' : List Int) (p : Nat) : vst w h b a d (s, q ++ q') p = ((vst w h b a d (s, q') p).1, q ++ (vst w h b a d (s, q') p).2) := by
  unfold vst
  simp only
  split <;> simp
theorem foldl_app {w h : Int} {b : List Int} {a d : Int} (q : List Int) : ∀ (l : List Nat) (s q' : List Int), l.foldl (vst w h b a d) (s, q ++ q') = ((l.foldl (vst w h b a d) (s, q')).1, q ++ (l.foldl (vst w h b a d) (s, q')).2)
  | [], s, q' => rfl
  | p :: l, s, q' => by
    rw [List.foldl_cons, List.foldl_cons, vst_app]
    exact foldl_app q l _ _
theorem vis_app {w h : Int} {b : List Int} {a d : Int} (q s q' : List Int) : vis w h b a d (s, q ++ q') = ((vis w h b a d (s, q')).1, q ++ (vis w h b a d (s, q')).2) := foldl_app q _ _ _
inductive Run (w h : Int) (b : List Int) : List Int → List Int → List Int → Int → List Int → Prop
  | done (s : List Int) (d : Int) : Run w h b s [] [] d s
  | level {s : List Int} {x : Int} {nx : List Int} {d : Int} {r : List Int} : Run w h b s (x :: nx) [] (d + 1) r → Run w h b s [] (x :: nx) d r
  | node {s : List Int} {a : Int} {rest nx : List Int} {d : Int} {r : List Int} : Run w h b (vis w h b a d (s, nx)).1 rest (vis w h b a d (s, nx)).2 d r → Run w h b s (a :: rest) nx d r
structure Inv (w h : Int) (s rest nx : List Int) (d : Int) : Prop where
  len : (s.length : Int) = cnt w h
  fr : ∀ v ∈ rest, isN w h v ∧ rd s v = d - 1
  nw : ∀ v ∈ nx, isN w h v ∧ rd s v = d
  one : 1 ≤ d
  sum : d + neg s + nx.length ≤ cnt w h
  low : ∀ v ∈ s, -1 ≤ v ∧ v ≤ d
theorem Inv.level {w h : Int} {s nx : List Int} {x d : Int} (i : Inv w h s [] (x :: nx) d) : Inv w h s (x :: nx) [] (d + 1) :=
  ⟨i.len, fun v hv => ⟨(i.nw v hv).1, by have := (i.nw v hv).2; omega⟩, by simp, by have := i.one; omega, by have := i.sum; simp at this ⊢; omega, fun v hv => by have := i.low v hv; omega⟩
theorem Inv.node {w h : Int} {b s rest nx : List Int} {a d : Int} (i : Inv w h s (a :: rest) nx d) : Inv w h (vis w h b a d (s, nx)).1 rest (vis w h b a d (s, nx)).2 d := by
  have h1 := i.one
  have e := vis_ext (w := w) (h := h) (b := b) (a := a) (d := d) (by omega) (s, nx)
  refine ⟨by rw [e.len]; exact i.len, fun v hv => ?_, fun v hv => ?_, h1, ?_, e.low i.low⟩
  · obtain ⟨h2, h3⟩ := i.fr v (by simp [hv])
    exact ⟨h2, by rw [e.old v h2.1 (by simp only; omega)]; exact h3⟩
  · rcases e.new v hv with h2 | h2
    · obtain ⟨h3, h4⟩ := i.nw v h2
      exact ⟨h3, by rw [e.old v h3.1 (by simp only; omega)]; exact h4⟩
    · exact h2
  · have := e.sum; have := i.sum; simp only at *; omega
theorem run_ex {w h : Int} {b : List Int} : ∀ (m : Nat) (s rest nx : List Int) (d : Int), 3 * neg s + 2 * nx.length + rest.length ≤ m → Inv w h s rest nx d → ∃ r, Run w h b s rest nx d r := by
  intro m
  induction m with
  | zero =>
    intro s rest nx d hm i
    cases rest with
    | nil => cases nx with
      | nil => exact ⟨s, .done s d⟩
      | cons x nx => simp at hm
    | cons a rest => simp at hm
  | succ m ih =>
    intro s rest nx d hm i
    cases rest with
    | nil => cases nx with
      | nil => exact ⟨s, .done s d⟩
      | cons x nx =>
        obtain ⟨r, hr⟩ := ih s (x :: nx) [] (d + 1) (by simp at hm ⊢; omega) i.level
        exact ⟨r, .level hr⟩
    | cons a rest =>
      have e := (vis_ext (w := w) (h := h) (b := b) (a := a) (d := d) (by have := i.one; omega) (s, nx)).sum
      have e2 := (vis_ext (w := w) (h := h) (b := b) (a := a) (d := d) (by have := i.one; omega) (s, nx))
      have h1 : nx.length ≤ (vis w h b a d (s, nx)).2.length := by
        have := vis_app (w := w) (h := h) (b := b) (a := a) (d := d) nx s []
        rw [List.append_nil] at this; rw [this]; simp
      simp only at e
      obtain ⟨r, hr⟩ := ih (vis w h b a d (s, nx)).1 rest (vis w h b a d (s, nx)).2 d (by simp at hm; omega) i.node
      exact ⟨r, .node hr⟩
def start (w h root : Int) : List Int := (List.replicate (cnt w h).toNat (-1)).set root.toNat 0
theorem start_inv {w h root : Int} (hr : isN w h root) : Inv w h (start w h root) [root] [] 1 ∧ ((neg (start w h root) : Nat) : Int) + 1 = cnt w h := by
  have hc := cnt_range w h
  have hl : root < ((List.replicate (cnt w h).toNat (-1 : Int)).length : Int) := by have := hr.2; simp; omega
  have h0 : rd (List.replicate (cnt w h).toNat (-1 : Int)) root = -1 := by
    have := rd_mem hr.1 hl
    exact List.eq_of_mem_replicate this
  have h1 := neg_set (v := 0) hr.1 hl (by omega) (by omega)
  have h2 : neg (List.replicate (cnt w h).toNat (-1 : Int)) = (cnt w h).toNat := by unfold neg; simp [List.countP_replicate]
  rw [h2] at h1
  have h3 : ((neg (start w h root) : Nat) : Int) + 1 = cnt w h := by unfold start; omega
  refine ⟨⟨by unfold start; simp; omega, fun v hv => ?_, by simp, by omega, by simp; omega, fun v hv => ?_⟩, h3⟩
  · simp only [List.mem_singleton] at hv
    subst hv
    refine ⟨hr, ?_⟩
    unfold start; rw [rd_set hr.1 hl hr.1, if_pos rfl]; omega
  · rcases List.mem_or_eq_of_mem_set hv with h6 | rfl
    · have := List.eq_of_mem_replicate h6; omega
    · omega
theorem Run.inv {w h : Int} {b s rest nx : List Int} {d : Int} {r : List Int} (R : Run w h b s rest nx d r) : Inv w h s rest nx d → ∃ d', Inv w h r [] [] d' := by
  induction R with
  | done s d => exact fun i => ⟨d, i⟩
  | level _ ih => exact fun i => ih i.level
  | node _ ih => exact fun i => ih i.node
def rootOk (w h : Int) (b : List Int) (root : Int) : Prop := meshOk w h b ∧ isN w h root
instance (w h : Int) (b : List Int) (root : Int) : Decidable (rootOk w h b root) := inferInstanceAs (Decidable (_ ∧ _))
theorem run_start {w h : Int} (b : List Int) {root : Int} (hr : isN w h root) : ∃ r, Run w h b (start w h root) [root] [] 1 r := run_ex _ _ _ _ _ (Nat.le_refl _) (start_inv hr).1
noncomputable def depths (w h : Int) (b : List Int) (root : Int) : List Int := if H : rootOk w h b root then Classical.choose (run_start b H.2) else []
theorem depths_run {w h : Int} {b : List Int} {root : Int} (H : rootOk w h b root) : Run w h b (start w h root) [root] [] 1 (depths w h b root) := by
  unfold depths; rw [dif_pos H]; exact Classical.choose_spec (run_start b H.2)
theorem depths_no {w h : Int} {b : List Int} {root : Int} (H : ¬ rootOk w h b root) : depths w h b root = [] := dif_neg H
theorem depths_inv {w h : Int} {b : List Int} {root : Int} (H : rootOk w h b root) : (((depths w h b root).length : Nat) : Int) = cnt w h ∧ ∀ v ∈ depths w h b root, -1 ≤ v ∧ v ≤ 16 := by
  obtain ⟨d, i⟩ := (depths_run H).inv (start_inv H.2).1
  have hc := cnt_range w h
  refine ⟨i.len, fun v hv => ?_⟩
  have := i.low v hv; have := i.sum; omega
theorem depths_length (w h : Int) (b : List Int) (root : Int) : (depths w h b root).length ≤ 16 := by
  have hc := cnt_range w h
  by_cases H : rootOk w h b root
  · have := (depths_inv H).1; omega
  · rw [depths_no H]; simp
theorem depths_mem {w h : Int} {b : List Int} {root : Int} {v : Int} (hv : v ∈ depths w h b root) : -1 ≤ v ∧ v ≤ 16 := by
  by_cases H : rootOk w h b root
  · exact (depths_inv H).2 v hv
  · rw [depths_no H] at hv; simp at hv
theorem okG_isN {w h : Int} (h1 : okG w h) : isN w h 0 := by
  have := mul_small h1
  refine ⟨by omega, ?_⟩
  unfold cnt; rw [if_pos h1]; omega
def conn (w h : Int) (b : List Int) : Prop := meshOk w h b ∧ -1 ∉ depths w h b 0
noncomputable instance (w h : Int) (b : List Int) : Decidable (conn w h b) := inferInstanceAs (Decidable (_ ∧ _))
noncomputable def depthOf (w h : Int) (b : List Int) (root : Int) : Int := (depths w h b root).foldl max (-1)
noncomputable def better (w h : Int) (b : List Int) (best : Int) (root : Nat) : Int := if depthOf w h b (root : Int) < depthOf w h b best then (root : Int) else best
noncomputable def bestRoot (w h : Int) (b : List Int) : Int := if conn w h b then (List.range (cnt w h).toNat).foldl (better w h b) 0 else -1
theorem better_range {w h : Int} {b : List Int} {best : Int} {root : Nat} (h0 : 0 ≤ best) : 0 ≤ better w h b best root := by
  unfold better; split <;> omega
def toRoot (w h : Int) (b d : List Int) (i : Int) (p : Nat) : Prop := link w h b (4 * i + p) ∧ rd d (next w h i p) = rd d i - 1
instance (w h : Int) (b d : List Int) (i : Int) (p : Nat) : Decidable (toRoot w h b d i p) := inferInstanceAs (Decidable (_ ∧ _))
def par (w h : Int) (b d : List Int) (i : Int) : Int :=
  if rd d i > 0 then
    (if toRoot w h b d i 0 then next w h i (0 : Nat) else if toRoot w h b d i 1 then next w h i (1 : Nat) else if toRoot w h b d i 2 then next w h i (2 : Nat) else if toRoot w h b d i 3 then next w h i (3 : Nat) else -1)
  else -1
def pars (w h : Int) (b d : List Int) : List Int := (List.range d.length).map fun i : Nat => par w h b d (i : Int)
noncomputable def parents (w h : Int) (b : List Int) (root : Int) : List Int := pars w h b (depths w h b root)
theorem parents_length (w h : Int) (b : List Int) (root : Int) : (parents w h b root).length = (depths w h b root).length := by simp [parents, pars]
def Hi (d : Int) (x : List Int × List Int) : Prop := ∀ v ∈ x.1, v < d ∨ (v = d ∧ x.2 ≠ [])
theorem vst_hi {w h : Int} {b : List Int} {a d : Int} {x : List Int × List Int} {p : Nat} (hx : Hi d x) : Hi d (vst w h b a d x p) := by
  unfold vst
  split
  · intro v hv
    rcases List.mem_or_eq_of_mem_set hv with h6 | rfl
    · rcases hx v h6 with h7 | h7
      · exact .inl h7
      · exact .inr ⟨h7.1, by simp⟩
    · exact .inr ⟨rfl, by simp⟩
  · exact hx
theorem foldl_hi {w h : Int} {b : List Int} {a d : Int} : ∀ (l : List Nat) (x : List Int × List Int), Hi d x → Hi d (l.foldl (vst w h b a d) x)
  | [], x, hx => hx
  | p :: l, x, hx => foldl_hi l _ (vst_hi hx)
theorem Run.hi {w h : Int} {b s rest nx : List Int} {d : Int} {r : List Int} (R : Run w h b s rest nx d r) : Inv w h s rest nx d → Hi d (s, nx) → ∀ v ∈ r, v < cnt w h := by
  induction R with
  | done s d =>
    intro i hh v hv
    rcases hh v hv with h1 | h1
    · have := i.sum; simp at this; omega
    · exact absurd rfl h1.2
  | level _ ih =>
    exact fun i hh => ih i.level (fun v hv => by rcases hh v hv with h1 | h1 <;> exact .inl (by omega))
  | node _ ih => exact fun i hh => ih i.node (foldl_hi _ _ hh)
theorem depths_lt {w h : Int} {b : List Int} {root : Int} (H : rootOk w h b root) : ∀ v ∈ depths w h b root, v < cnt w h := by
  refine (depths_run H).hi (start_inv H.2).1 (fun v hv => ?_)
  have := (start_inv H.2).1.low v hv
  rcases List.mem_or_eq_of_mem_set hv with h6 | rfl
  · have := List.eq_of_mem_replicate h6; exact .inl (by omega)
  · exact .inl (by omega)
theorem par_cases (w h : Int) (b d : List Int) (i : Int) : par w h b d i = -1 ∨ ∃ p : Nat, p < 4 ∧ par w h b d i = next w h i p ∧ toRoot w h b d i p ∧ rd d i > 0 := by
  unfold par
  by_cases h0 : rd d i > 0
  · rw [if_pos h0]
    by_cases e0 : toRoot w h b d i 0
    · rw [if_pos e0]; exact .inr ⟨0, by omega, rfl, e0, h0⟩
    rw [if_neg e0]
    by_cases e1 : toRoot w h b d i 1
    · rw [if_pos e1]; exact .inr ⟨1, by omega, rfl, e1, h0⟩
    rw [if_neg e1]
    by_cases e2 : toRoot w h b d i 2
    · rw [if_pos e2]; exact .inr ⟨2, by omega, rfl, e2, h0⟩
    rw [if_neg e2]
    by_cases e3 : toRoot w h b d i 3
    · rw [if_pos e3]; exact .inr ⟨3, by omega, rfl, e3, h0⟩
    rw [if_neg e3]; exact .inl rfl
  · rw [if_neg h0]; exact .inl rfl
def Tree (t : List Int) (m : Int → Int) : Prop := ∀ i : Int, 0 ≤ i → i < t.length → m i < t.length ∧ (rd t i = -1 ∨ (0 ≤ rd t i ∧ rd t i < t.length ∧ 0 ≤ m (rd t i) ∧ m (rd t i) + 1 = m i))
theorem parents_tree {w h : Int} {b : List Int} {root : Int} (H : rootOk w h b root) : Tree (parents w h b root) (rd (depths w h b root)) := by
  have hl := parents_length w h b root
  obtain ⟨hc, _⟩ := depths_inv H
  intro i h0 h1
  have h2 : i < ((depths w h b root).length : Int) := by omega
  refine ⟨by have := depths_lt H _ (rd_mem h0 h2); omega, ?_⟩
  have e : rd (parents w h b root) i = par w h b (depths w h b root) i := by
    obtain ⟨j, rfl⟩ := Int.eq_ofNat_of_zero_le h0
    rw [rd_at (by omega)]; simp [parents, pars]
  rw [e]
  rcases par_cases w h b (depths w h b root) i with h3 | ⟨p, hp, h3, h4, h5⟩
  · exact .inl h3
  · obtain ⟨_, hn, _⟩ := link_next hp h4.1
    rw [h3]
    refine .inr ⟨hn.1, by have := hn.2; omega, ?_, ?_⟩
    · have := h4.2; omega
    · have := h4.2; omega

def inP (P : List Int) (a : Int) : Prop := 0 ≤ a ∧ a < P.length
instance (P : List Int) (a : Int) : Decidable (inP P a) := inferInstanceAs (Decidable (_ ∧ _))
@[simp] theorem inP_m1 (P : List Int) : inP P (-1) = False := by simp [inP]
def ancN (P : List Int) : Nat → Int → List Int → List Int
  | 0, a, out => if inP P a then [] else if a = -1 ∧ out ≠ [] then out else []
  | f + 1, a, out => if inP P a then ancN P f (rd P a) (out ++ [a]) else if a = -1 ∧ out ≠ [] then out else []
def anc (P : List Int) (a : Int) : List Int := ancN P P.length a []
theorem ancN_len (P : List Int) : ∀ f a out, (ancN P f a out).length ≤ out.length + f := by
  intro f
  induction f with
  | zero => intro a out; unfold ancN; repeat' split
            all_goals simp
  | succ f ih =>
    intro a out; unfold ancN; split
    · have := ih (rd P a) (out ++ [a]); simp at this; omega
    · split <;> simp
theorem anc_len (P : List Int) (a : Int) : (anc P a).length ≤ P.length := by have := ancN_len P P.length a []; simpa [anc] using this
theorem ancN_in (P : List Int) : ∀ f a out, (∀ x ∈ out, inP P x) → ∀ x ∈ ancN P f a out, inP P x := by
  intro f
  induction f with
  | zero => intro a out ho x hx; unfold ancN at hx; repeat' split at hx
            all_goals first | exact ho x hx | (simp at hx)
  | succ f ih =>
    intro a out ho x hx; unfold ancN at hx; split at hx
    · rename_i h1
      exact ih _ _ (fun y hy => by rcases List.mem_append.1 hy with hy | hy; exact ho y hy; rw [List.mem_singleton.1 hy]; exact h1) x hx
    · split at hx
      · exact ho x hx
      · simp at hx
theorem anc_in {P : List Int} {a x : Int} (h : x ∈ anc P a) : inP P x := ancN_in P P.length a [] (by simp) x h
def common (P : List Int) (a b : Int) : Int := ((anc P a).find? (fun x => decide (x ∈ anc P b))).getD (-1)
theorem common_no {P : List Int} {a b : Int} (h : ∀ x ∈ anc P a, x ∉ anc P b) : common P a b = -1 := by
  unfold common
  rw [List.find?_eq_none.2 (by simpa using h)]; rfl
theorem common_mem {P : List Int} {a b : Int} (h : 0 ≤ common P a b) : common P a b ∈ anc P a ∧ common P a b ∈ anc P b := by
  unfold common at h ⊢
  cases hf : (anc P a).find? (fun x => decide (x ∈ anc P b)) with
  | none => rw [hf] at h; simp at h
  | some u =>
    have h1 := List.mem_of_find?_eq_some hf
    have h2 := List.find?_some hf
    exact ⟨h1, by simpa using h2⟩
/-- the nodes of the way through the tree -/
def treeNodes (P : List Int) (a b : Int) : List Int :=
  if common P a b < 0 then [] else (anc P a).take ((anc P a).idxOf (common P a b) + 1) ++ ((anc P b).take ((anc P b).idxOf (common P a b))).reverse
theorem find_at {l : List Int} {q : Int → Bool} {j : Nat} (h : j < l.length) (hq : ∀ x ∈ l.take j, q x = false) (hx : q l[j] = true) : l.find? q = some l[j] := by
  have e : l = l.take j ++ (l[j] :: l.drop (j + 1)) := by rw [← List.drop_eq_getElem_cons h, List.take_append_drop]
  have e2 := congrArg (List.find? q) e
  rw [e2, List.find?_append, List.find?_eq_none.2 (by simpa using hq), List.find?_cons_of_pos hx]; rfl
def chain (t : List Int) : Nat → Int → List Int
  | 0, _ => []
  | k + 1, v => if inP t v then v :: chain t k (rd t v) else []
def Ends (t : List Int) : Nat → Int → Prop
  | 0, v => v = -1
  | k + 1, v => v = -1 ∨ (inP t v ∧ Ends t k (rd t v))
theorem Tree.ends {t : List Int} {m : Int → Int} (T : Tree t m) : ∀ (k : Nat) (v : Int), 0 ≤ v → v < t.length → m v < k → (0 ≤ m v ∨ 0 < k) → Ends t k v := by
  intro k
  induction k with
  | zero => intro v h0 h1 h2 h3; omega
  | succ k ih =>
    intro v h0 h1 h2 _
    refine .inr ⟨⟨h0, h1⟩, ?_⟩
    rcases (T v h0 h1).2 with h3 | ⟨h3, h4, h5, h6⟩
    · rw [h3]; cases k <;> simp [Ends]
    · exact ih _ h3 h4 (by omega) (.inl h5)
theorem ancN_chain {t : List Int} : ∀ (k : Nat) (v : Int) (out : List Int), Ends t k v → (out ≠ [] ∨ (0 ≤ v ∧ v < t.length)) → ancN t k v out = out ++ chain t k v := by
  intro k
  induction k with
  | zero =>
    intro v out he ho
    have he : v = -1 := he
    subst he
    have ho : out ≠ [] := ho.resolve_right (by omega)
    simp [ancN, chain, ho]
  | succ k ih =>
    intro v out he ho
    rcases he with rfl | ⟨h1, h2⟩
    · have ho : out ≠ [] := ho.resolve_right (by omega)
      simp [ancN, chain, ho]
    · simp only [ancN, chain]
      rw [if_pos h1, if_pos h1, ih _ _ h2 (.inl (by simp))]
      simp
theorem chain_any {t : List Int} : ∀ (k k' : Nat) (v : Int), Ends t k v → Ends t k' v → chain t k v = chain t k' v := by
  intro k
  induction k with
  | zero =>
    intro k' v h1 h2
    have h1 : v = -1 := h1
    subst h1
    cases k' with
    | zero => rfl
    | succ k' => simp [chain]
  | succ k ih =>
    intro k' v h1 h2
    cases k' with
    | zero => have h2 : v = -1 := h2
              subst h2; simp [chain]
    | succ k' =>
      rcases h1 with rfl | ⟨h1, h3⟩
      · simp [chain]
      · rcases h2 with rfl | ⟨_, h4⟩
        · simp at h1
        · simp only [chain]; rw [if_pos h1, if_pos h1, ih _ _ h3 h4]
theorem anc_cons {t : List Int} {m : Int → Int} (T : Tree t m) {v : Int} (h0 : 0 ≤ v) (h1 : v < t.length) : anc t v = v :: (if rd t v = -1 then [] else anc t (rd t v)) := by
  have hE : ∀ u : Int, 0 ≤ u → u < t.length → Ends t t.length u := fun u a b => T.ends t.length u a b (T u a b).1 (.inr (by omega))
  have e : ∀ u : Int, 0 ≤ u → u < t.length → anc t u = chain t t.length u := fun u a b => by
    have := ancN_chain t.length u [] (hE u a b) (.inr ⟨a, b⟩); simpa [anc] using this
  rw [e v h0 h1]
  obtain ⟨n, hn⟩ : ∃ n, t.length = n + 1 := ⟨t.length - 1, by omega⟩
  have h2 := hE v h0 h1
  rw [hn] at h2 ⊢
  rcases h2 with h2 | ⟨_, h3⟩
  · omega
  simp only [chain]
  rw [if_pos (show inP t v from ⟨h0, h1⟩)]
  rcases (T v h0 h1).2 with h4 | ⟨h4, h5, _, _⟩
  · rw [if_pos h4, h4]; cases n <;> simp [chain]
  · rw [if_neg (by omega), e _ h4 h5, chain_any n t.length _ h3 (hE _ h4 h5)]
theorem anc_suffix {t : List Int} {m : Int → Int} (T : Tree t m) : ∀ (n : Nat) (v : Int), 0 ≤ v → v < t.length → m v < n → ∀ u ∈ anc t v, (0 ≤ u ∧ u < t.length) ∧ ∃ l, anc t v = l ++ anc t u ∧ ∀ x ∈ l, m u < m x := by
  intro n
  induction n with
  | zero =>
    intro v h0 h1 h2 u hu
    rw [anc_cons T h0 h1] at hu ⊢
    rcases (T v h0 h1).2 with h4 | ⟨h4, h5, h6, h7⟩
    · rw [if_pos h4] at hu ⊢
      simp only [List.mem_singleton] at hu; subst hu
      refine ⟨⟨h0, h1⟩, [], ?_, by simp⟩
      rw [anc_cons T h0 h1, if_pos h4]; rfl
    · omega
  | succ n ih =>
    intro v h0 h1 h2 u hu
    rcases (T v h0 h1).2 with h4 | ⟨h4, h5, h6, h7⟩
    · have e := anc_cons T h0 h1
      rw [if_pos h4] at e
      rw [e] at hu
      simp only [List.mem_singleton] at hu; subst hu
      exact ⟨⟨h0, h1⟩, [], rfl, by simp⟩
    · have e := anc_cons T h0 h1
      rw [if_neg (by omega)] at e
      rw [e] at hu
      rcases List.mem_cons.1 hu with rfl | hu
      · exact ⟨⟨h0, h1⟩, [], rfl, by simp⟩
      · obtain ⟨hb, l, e1, hx⟩ := ih _ h4 h5 (by omega) u hu
        refine ⟨hb, v :: l, by rw [e, e1]; rfl, fun x hx' => ?_⟩
        have hle : m u ≤ m (rd t v) := by
          cases l with
          | nil =>
            have e2 := anc_cons T h4 h5
            have e3 := anc_cons T hb.1 hb.2
            rw [List.nil_append] at e1
            rw [e1, e3] at e2
            have := (List.cons.inj e2).1
            rw [this]; omega
          | cons y l =>
            have e2 := anc_cons T h4 h5
            rw [e1, List.cons_append] at e2
            have e4 := (List.cons.inj e2).1
            have := hx y (by simp)
            rw [e4] at this; omega
        rcases List.mem_cons.1 hx' with rfl | hx'
        · omega
        · exact hx x hx'

end Go.Proofs.Ytcigpclbhfkgaaa.V
/-! Ancestors. -/
set_option linter.all false
namespace Go.Proofs.Ytcigpclbhfkgaaa.V
open Go Go.VM Go.Proofs
set_option maxRecDepth 10000
variable {frz : Nat} {H : Heap}
end Go.Proofs.Ytcigpclbhfkgaaa.V
/-! CommonAncestor, Reverse; marks. -/
set_option linter.all false
namespace Go.Proofs.Ytcigpclbhfkgaaa.V
open Go Go.VM Go.Proofs
set_option maxRecDepth 10000
variable {frz : Nat} {H : Heap}
theorem made_ret {xs : List Int} {r : Option (Value × Heap)} (h : r = some (if xs = [] then (.slice none 0 0, H) else (.slice (some ⟨H.length, 0, some 0⟩) xs.length 0, H ++ [⟨xs.map (.int .i64), 0, 3⟩]))) : wp r (Made Fl.int 3 H xs) := by
  subst h
  by_cases hx : xs = []
  · simp [hx]; exact ⟨[], by simp, .inl ⟨rfl, rfl⟩, by simp⟩
  · simp [hx]
    exact ⟨_, rfl, Ow.new0 rfl (cellsOf_int xs).symm (by simp) rfl, by simp⟩
theorem made_row {xs : List Int} {r : Option (Value × Heap)} (h : r = some (.slice (some ⟨H.length, 0, some 0⟩) xs.length 0, H ++ [⟨xs.map (.int .i64), 0, 3⟩])) : wp r (Made Fl.int 3 H xs) := by
  subst h
  simp
  exact ⟨_, rfl, Ow.new0 rfl (cellsOf_int xs).symm (by simp) rfl, by simp⟩
theorem common_at {P : List Int} {a b : Int} {i : Nat} (h : i < (anc P a).length) (h1 : ∀ x ∈ (anc P a).take i, x ∉ anc P b) (h2 : (anc P a)[i] ∈ anc P b) : common P a b = (anc P a)[i] := by
  unfold common
  rw [find_at h (by simpa using h1) (by simpa using h2)]; rfl
theorem take_succ_no {xs : List Int} {p : Int → Prop} {i : Nat} (h : i < xs.length) (h1 : ∀ x ∈ xs.take i, p x) (h2 : p xs[i]) : ∀ x ∈ xs.take (i + 1), p x := by
  rw [List.take_succ_eq_append_getElem h]
  intro x hx
  rcases List.mem_append.1 hx with hx | hx
  · exact h1 x hx
  · rw [List.mem_singleton.1 hx]; exact h2
/-- xs, of which the first i and the last i are exchanged -/
def flip (xs : List Int) (i : Nat) : List Int := (List.range xs.length).map fun j => if j < i ∨ xs.length - i ≤ j then rd xs ((xs.length - 1 - j : Nat) : Int) else rd xs (j : Int)
theorem flip_len (xs : List Int) (i : Nat) : (flip xs i).length = xs.length := by simp [flip]
theorem flip_get (xs : List Int) (i j : Nat) (h : j < xs.length) : (flip xs i)[j]'(by rw [flip_len]; exact h) = if j < i ∨ xs.length - i ≤ j then xs[xs.length - 1 - j] else xs[j] := by
  simp only [flip, List.getElem_map, List.getElem_range]
  split
  · rw [rd_at (by omega)]
  · rw [rd_at h]
theorem flip_zero (xs : List Int) : flip xs 0 = xs := by
  apply List.ext_getElem (flip_len _ _)
  intro j h1 h2
  rw [flip_get _ _ _ h2, if_neg (by omega)]
theorem flip_end (xs : List Int) (i : Nat) (h : xs.length ≤ 2 * i + 1) : flip xs i = xs.reverse := by
  apply List.ext_getElem (by rw [flip_len, List.length_reverse])
  intro j h1 h2
  rw [flip_get _ _ _ (by simpa using h2), List.getElem_reverse]
  split
  · rfl
  · congr 1; rw [List.length_reverse] at h2; omega
theorem flip_succ (xs : List Int) (i : Nat) (h : 2 * i + 1 < xs.length) : ((flip xs i).set i ((flip xs i)[xs.length - 1 - i]'(by rw [flip_len]; omega))).set (xs.length - 1 - i) ((flip xs i)[i]'(by rw [flip_len]; omega)) = flip xs (i + 1) := by
  apply List.ext_getElem (by simp [flip_len])
  intro j h1 h2
  rw [flip_len] at h2
  rw [List.getElem_set, List.getElem_set, flip_get _ _ _ h2, flip_get _ _ _ (by omega), flip_get _ _ _ (by omega), flip_get _ _ _ h2]
  by_cases e1 : xs.length - 1 - i = j
  · subst e1
    rw [if_pos rfl, if_neg (by omega), if_pos (by omega)]
    congr 1; omega
  · by_cases e2 : i = j
    · subst e2
      rw [if_neg e1, if_pos rfl, if_neg (by omega), if_pos (by omega)]
    · rw [if_neg e1, if_neg e2]
      by_cases e3 : j < i ∨ xs.length - i ≤ j
      · rw [if_pos e3, if_pos (by omega)]
      · rw [if_neg e3, if_neg (by omega)]
/-- marks -/
def marks (k : Int) (n : Nat) : List Int := (List.range n).map fun i : Nat => k + (i : Int)
@[simp] theorem marks_len (k : Int) (n : Nat) : (marks k n).length = n := by simp [marks]
theorem marks_succ (k : Int) (n : Nat) : marks k (n + 1) = marks k n ++ [k + n] := by simp [marks, List.range_succ]
theorem marks_get (k : Int) (n i : Nat) (h : i < n) : (marks k n)[i]'(by simpa using h) = k + i := by simp [marks]
theorem marks_set (k : Int) (xs : List Int) (i : Nat) (h : i < xs.length) : (marks k i ++ xs.drop i).set i (k + i) = marks k (i + 1) ++ xs.drop (i + 1) := by
  rw [List.set_append_right _ _ (by simp), marks_len, Nat.sub_self, List.drop_eq_getElem_cons h, List.set_cons_zero, marks_succ]; simp
theorem markIntS_w (v : Value) (xs : List Int) (e : TypeId) (k : Int) (h : Ow Fl.int e H v xs) (hl : xs.length ≤ 1073741824) (hk : 0 ≤ k ∧ k ≤ 4611686018427387904) (hf : ∀ i ∈ ids v, frz ≤ i) :
   wp (vcall C frz 85 [v, .int .i64 k] H) (fun r H' => r = .int .i64 (k + xs.length) ∧ Ow Fl.int e H' v (marks k xs.length) ∧ Chg H H' (ids v) ∧ H'.length = H.length) := by
  rw [vcall_go (fn := Try.f85) Try.func85 rfl (by kernel_rfl) rfl]
  simp
  refine wp_inv (fun n t H' => ∃ i : Nat, n = xs.length - i ∧ i ≤ xs.length ∧ t 0 = v ∧ t 1 = .int .i64 (k + i) ∧ t 5 = .int .i64 i ∧ Ow Fl.int e H' v (marks k i ++ xs.drop i) ∧ Chg H H' (ids v) ∧ H'.length = H.length) ?_ (n := xs.length)
    ⟨0, by simp, by omega, by simp, by simp, by simp, by simpa [marks] using h, Chg.refl _, rfl⟩
  rintro n t H' ⟨i, rfl, hi, h0, h1, h5, o, c, l⟩ ih
  have hlen : (marks k i ++ xs.drop i).length = xs.length := by simp; omega
  simp [h0, h1, h5, o.rd.len, hlen]
  have e1 : (i : Int) + ((xs.length - i : Nat) : Int) = xs.length := by omega
  refine wp_dec ?_ ?_ <;> intro h6
  · have i1 := o.rd.isI
    have p1 : i < (marks k i ++ xs.drop i).length := by omega
    obtain ⟨H1, s1, o1, c1, l1⟩ := o.put1 (P := Try.prog) (frz := frz) rfl (et := 3) (ag := false) (by simp) p1 (x := .int .i64 (k + i)) rfl rfl rfl hf
    have q1 := i1.idx (P := Try.prog) (ty := 24) (e := 3) (by simp) (i := (i : Int)) (by omega) (by omega)
    simp only [Int.toNat_natCast] at q1
    simp [h0, h1, h5, q1, s1]
    refine ih (xs.length - (i + 1)) _ _ ⟨i + 1, rfl, by omega, by simp [h0], ?_, ?_, ?_, c.trans c1, by omega⟩ (by omega)
    · simp; rw [w64 (by omega) (by omega)]; omega
    · simp; rw [w64 (by omega) (by omega)]
    · rw [marks_set _ _ _ (by omega)] at o1; exact o1
  · have : i = xs.length := by omega
    subst this
    simp [h0, h1, h5]
    exact ⟨by simpa using o, c, l⟩
theorem heldIntS_c (v : Value) (n : Nat) (k : Int) (h : IsI H v (marks k n)) (hl : n ≤ 1073741824) (hk : 0 ≤ k ∧ k ≤ 4611686018427387904) :
   vcall C frz 90 [v, .int .i64 k] H = some (.int .i64 (k + n), H) := by
  rw [vcall_go (fn := Try.f90) Try.func90 rfl (by kernel_rfl) rfl]
  simp
  refine go_inv (fun m t H' => ∃ i : Nat, m = n - i ∧ i ≤ n ∧ t 0 = v ∧ t 1 = .int .i64 (k + i) ∧ t 5 = .int .i64 i ∧ H' = H) ?_ (n := n) ⟨0, by simp⟩
  rintro m t H' ⟨i, rfl, hi, h0, h1, h5, rfl⟩ ih
  simp [h0, h1, h5, h.len]
  refine br_dec _ ?_ ?_ <;> intro h6
  · have q1 := h.idx (P := Try.prog) (ty := 24) (e := 3) (by simp) (i := (i : Int)) (by omega) (by simpa using h6)
    have q2 := h.load (P := Try.prog) (e := 3) (by simp) (j := i) (by simpa using h6)
    rw [getD_get _ _ (by simpa using h6), marks_get _ _ _ h6] at q2
    simp only [Int.toNat_natCast] at q1
    simp [h0, h1, h5, h6, q1, q2]
    refine ih (n - (i + 1)) _ _ ⟨i + 1, rfl, by omega, by simp [h0], ?_, ?_, rfl⟩ (by omega)
    · simp; rw [w64 (by omega) (by omega)]; omega
    · simp; rw [w64 (by omega) (by omega)]
  · have : i = n := by omega
    subst this
    simp [h0, h1, h5]
end Go.Proofs.Ytcigpclbhfkgaaa.V
/-! The laws' own functions: numbers, meshes, tables. -/
set_option linter.all false
namespace Go.Proofs.Ytcigpclbhfkgaaa.V
open Go Go.VM Go.Proofs
set_option maxRecDepth 10000
variable {frz : Nat} {H : Heap}
def big : Nat := 1073741824
abbrev dIntS : Dt Value (List Int) := dFlat Fl.int 3 1073741824
/-- what a marking function leaves, told by what its reader says of it -/
def Marks {V A : Type} (B : Int) (T : Dt V A) (held : Nat) (H : Heap) (v : V) (a : A) (k : Int) (r : Value) (H' : Heap) : Prop :=
  ∃ (n : Int) (a' : A), r = .int .i64 (k + n) ∧ (0 ≤ n ∧ n ≤ B) ∧ T.val v a' = T.val v a ∧ T.Ow H' v a' ∧ Chg H H' (T.ids v) ∧
    ∀ F H2, T.Ow H2 v a' → vcall C F held [T.val v a', .int .i64 k] H2 = some (.int .i64 (k + n), H2)
/-- a data value and a flag -/
def Made2 {V A : Type} (T : Dt V A) (H : Heap) (a : A) (ok : Bool) (r : Value) (H' : Heap) : Prop := ∃ u, r = .tuple #[u, .bool ok] ∧ T.Made H a u H'
theorem toIntS_w (v : Value) (xs : List Int) (hI : IsI H v xs) (hb : xs.length ≤ 1073741824) : wp (vcall C frz 54 [v] H) (dIntS.Made H xs) := by
  rw [toIntS_c v xs hI hb]
  simp
  exact ⟨_, rfl, ⟨Ow.new0 rfl (cellsOf_int xs).symm (by simp) rfl, hb⟩, Chg.app _, by simp [dFlat], ids_nodup (.slice (some ⟨H.length, 0, some 0⟩) xs.length 0)⟩
theorem eqIntS_d {a b : Value} {xs ys : List Int} (ha : dIntS.Ow H a xs) (hb : dIntS.Ow H b ys) : vcall C frz 58 [a, b] H = some (.bool (decide (xs = ys)), H) :=
  eqIntS_c a b xs ys ha.1.rd.isI hb.1.rd.isI ha.2
theorem markIntS_d {v : Value} {xs : List Int} {k : Int} (h : dIntS.Ow H v xs) (hd : (dIntS.ids v).Nodup) (hk : 0 ≤ k ∧ k ≤ 4611686018427387904) (hf : ∀ i ∈ dIntS.ids v, frz ≤ i) :
    wp (vcall C frz 85 [v, .int .i64 k] H) (Marks 1073741824 dIntS 90 H v xs k) := by
  refine (markIntS_w v xs _ k h.1 h.2 hk hf).mono ?_
  rintro r H' ⟨rfl, o, c, l⟩
  have := h.2
  refine ⟨xs.length, marks k xs.length, rfl, by omega, rfl, ⟨o, by simpa using h.2⟩, c, fun F H2 h2 => ?_⟩
  exact heldIntS_c v xs.length k h2.1.rd.isI h.2 hk
-- meshes
abbrev MeshD := Int × Int × List Int
def dMesh : Dt Value MeshD where
  val v a := .agg #[.int .i64 a.1, .int .i64 a.2.1, v]
  Ow H v a := dIntS.Ow H v a.2.2
  ids := VM.ids
  frame h k := dIntS.frame h k
  lt h := dIntS.lt h
theorem dMesh_val (v : Value) (a : MeshD) : dMesh.val v a = .agg #[.int .i64 a.1, .int .i64 a.2.1, v] := rfl
theorem dMesh_one {v : Value} {a : MeshD} (h : dMesh.Ow H v a) : VM.one v = true ∧ v.cells = #[v] := ⟨h.1.rd.one', h.1.rd.cells⟩
theorem dIntS_one {v : Value} {a : List Int} (h : dIntS.Ow H v a) : VM.one v = true ∧ v.cells = #[v] := ⟨h.1.rd.one', h.1.rd.cells⟩
theorem dIntS_val (v : Value) (a : List Int) : dIntS.val v a = v := rfl
theorem toMesh_w (w h : Int) (v : Value) (b : List Int) (hI : IsI H v b) (hb : b.length ≤ 1073741824) : wp (vcall C frz 14 [.agg #[.int .i64 w, .int .i64 h, v]] H) (dMesh.Made H (w, h, b)) := by
  rw [toMesh_c w h v b hI hb]
  simp
  exact ⟨_, rfl, ⟨Ow.new0 rfl (cellsOf_int b).symm (by simp) rfl, hb⟩, Chg.app _, by simp [dMesh], ids_nodup (.slice (some ⟨H.length, 0, some 0⟩) b.length 0)⟩
theorem eqMesh_d {a b : Value} {x y : MeshD} (ha : dMesh.Ow H a x) (hb : dMesh.Ow H b y) : vcall C frz 18 [dMesh.val a x, dMesh.val b y] H = some (.bool (decide (x = y)), H) := by
  obtain ⟨w, h, b1⟩ := x; obtain ⟨w', h', b2⟩ := y
  rw [dMesh_val, dMesh_val]
  have := eqMesh_c (frz := frz) w h w' h' a b b1 b2 ha.1.rd.isI hb.1.rd.isI ha.2
  rw [this]
  congr 3
  simp [and_assoc]
theorem markMesh_d {v : Value} {a : MeshD} {k : Int} (h : dMesh.Ow H v a) (hd : (dMesh.ids v).Nodup) (hk : 0 ≤ k ∧ k ≤ 4611686018427387904) (hf : ∀ i ∈ dMesh.ids v, frz ≤ i) :
    wp (vcall C frz 83 [dMesh.val v a, .int .i64 k] H) (Marks 1073741824 dMesh 87 H v a k) := by
  obtain ⟨w, g, b⟩ := a
  rw [vcall_go (fn := Try.f83) Try.func83 rfl (by kernel_rfl) rfl]
  rw [dMesh_val]
  have one := dMesh_one h
  simp [one]
  refine wp_thn (markIntS_d (Dt.app h) hd hk hf) ?_
  rintro _ H' ⟨n, a', rfl, hn, _, o, c, he⟩
  simp
  refine ⟨n, (w, g, a'), rfl, hn, rfl, o, (Chg.app _).trans c, fun F H2 h2 => ?_⟩
  rw [vcall_go (fn := Try.f87) Try.func87 rfl (by kernel_rfl) rfl]
  rw [dMesh_val]
  have he' := fun F => he F _ (Dt.app (L := [⟨[.int .i64 w, .int .i64 g, v], 0, 38⟩]) h2)
  simp only [dIntS_val] at he'
  have e0 : ¬ k + n < 0 := by omega
  simp [one, he', e0]
-- tables
def dTable : Dt Value (List Int) where
  val v _ := .agg #[v]
  Ow H v a := dIntS.Ow H v a
  ids := VM.ids
  frame h k := dIntS.frame h k
  lt h := dIntS.lt h
theorem dTable_val (v : Value) (a : List Int) : dTable.val v a = .agg #[v] := rfl
theorem dTable_one {v : Value} {a : List Int} (h : dTable.Ow H v a) : VM.one v = true ∧ v.cells = #[v] := ⟨h.1.rd.one', h.1.rd.cells⟩
theorem szTable_c (v : Value) (xs : List Int) (n : Int) (hI : IsI H v xs) (h0 : 0 ≤ n) (h1 : n ≤ 1048576) (h2 : xs.length ≤ 9223372036854775807) :
    vcall C frz 52 [.agg #[v], .int .i64 n] H = some (.int .i64 (if n < xs.length then -1 else n - xs.length), H) := by
  rw [vcall_go (fn := Try.f52) Try.func52 rfl (by kernel_rfl) rfl]
  simp [szIntS_c _ _ _ (hI.app _) h0 h1 h2, hI.one', hI.cells]
  refine br_dec _ ?_ ?_ <;> intro h <;> simp [h]
  · intro hh; omega
theorem toTable_w (v : Value) (xs : List Int) (hI : IsI H v xs) (hb : xs.length ≤ 1073741824) :
   wp (vcall C frz 55 [.agg #[v]] H) (dTable.Made H xs) := by
  rw [vcall_go (fn := Try.f55) Try.func55 rfl (by kernel_rfl) rfl]
  simp [toIntS_c _ _ (hI.app _) hb, hI.one', hI.cells]
  exact ⟨_, rfl, ⟨Ow.new0 rfl (cellsOf_int xs).symm (by simp) rfl, hb⟩, Chg.app _, by simp [dTable], ids_nodup (.slice (some ⟨H.length, 0, some 0⟩) xs.length 0)⟩
theorem eqTable_d {a b : Value} {x y : List Int} (ha : dTable.Ow H a x) (hb : dTable.Ow H b y) : vcall C frz 59 [dTable.val a x, dTable.val b y] H = some (.bool (decide (x = y)), H) := by
  rw [dTable_val, dTable_val]
  rw [vcall_go (fn := Try.f59) Try.func59 rfl (by kernel_rfl) rfl]
  simp [dTable_one ha, dTable_one hb, eqIntS_c _ _ _ _ (ha.1.rd.isI.app _) (hb.1.rd.isI.app _) ha.2]
  refine br_dec _ ?_ ?_ <;> intro h0 <;> simp [h0]
theorem markTable_d {v : Value} {a : List Int} {k : Int} (h : dTable.Ow H v a) (hd : (dTable.ids v).Nodup) (hk : 0 ≤ k ∧ k ≤ 4611686018427387904) (hf : ∀ i ∈ dTable.ids v, frz ≤ i) :
    wp (vcall C frz 86 [dTable.val v a, .int .i64 k] H) (Marks 1073741824 dTable 135 H v a k) := by
  rw [vcall_go (fn := Try.f86) Try.func86 rfl (by kernel_rfl) rfl]
  rw [dTable_val]
  have one := dTable_one h
  simp [one]
  refine wp_thn (markIntS_d (Dt.app h) hd hk hf) ?_
  rintro _ H' ⟨n, a', rfl, hn, _, o, c, he⟩
  simp
  refine ⟨n, a', rfl, hn, rfl, o, (Chg.app _).trans c, fun F H2 h2 => ?_⟩
  rw [vcall_go (fn := Try.f135) Try.func135 rfl (by kernel_rfl) rfl]
  rw [dTable_val]
  have he' := fun F => he F _ (Dt.app (L := [⟨[v], 0, 40⟩]) h2)
  simp only [dIntS_val] at he'
  have e0 : ¬ k + n < 0 := by omega
  simp [one, he', e0]
end Go.Proofs.Ytcigpclbhfkgaaa.V
/-! Two tables. -/
set_option linter.all false
namespace Go.Proofs.Ytcigpclbhfkgaaa.V
open Go Go.VM Go.Proofs
set_option maxRecDepth 10000
variable {frz : Nat} {H : Heap}
abbrev ClassesD := List Int × List Int
def dClasses : Dt (Value × Value) ClassesD where
  val v _ := .agg #[v.1, v.2]
  Ow H v a := dIntS.Ow H v.1 a.1 ∧ dIntS.Ow H v.2 a.2
  ids v := VM.ids v.1 ++ VM.ids v.2
  frame h k := ⟨dIntS.frame h.1 fun i hi => k i (List.mem_append.2 (.inl hi)), dIntS.frame h.2 fun i hi => k i (List.mem_append.2 (.inr hi))⟩
  lt h i hi := by
    rcases List.mem_append.1 hi with hi | hi
    · exact dIntS.lt h.1 i hi
    · exact dIntS.lt h.2 i hi
theorem dClasses_val (v : Value × Value) (a : ClassesD) : dClasses.val v a = .agg #[v.1, v.2] := rfl
theorem dClasses_one {v : Value × Value} {a : ClassesD} (h : dClasses.Ow H v a) : (VM.one v.1 = true ∧ v.1.cells = #[v.1]) ∧ VM.one v.2 = true ∧ v.2.cells = #[v.2] := ⟨⟨h.1.1.rd.one', h.1.1.rd.cells⟩, h.2.1.rd.one', h.2.1.rd.cells⟩
theorem eqClasses_d {a b : Value × Value} {x y : ClassesD} (ha : dClasses.Ow H a x) (hb : dClasses.Ow H b y) : vcall C frz 19 [dClasses.val a x, dClasses.val b y] H = some (.bool (decide (x = y)), H) := by
  obtain ⟨x1, x2⟩ := x; obtain ⟨y1, y2⟩ := y; obtain ⟨a1, a2⟩ := a; obtain ⟨b1, b2⟩ := b
  rw [dClasses_val, dClasses_val]
  rw [vcall_go (fn := Try.f19) Try.func19 rfl (by kernel_rfl) rfl]
  have one := And.intro (dClasses_one ha) (dClasses_one hb)
  have e1 := fun F L => eqTable_d (frz := F) (H := H ++ L) (a := a1) (b := b1) (x := x1) (y := y1) (Dt.app (T := dIntS) ha.1) (Dt.app (T := dIntS) hb.1)
  have e2 := fun F L => eqTable_d (frz := F) (H := H ++ L) (a := a2) (b := b2) (x := x2) (y := y2) (Dt.app (T := dIntS) ha.2) (Dt.app (T := dIntS) hb.2)
  simp only [dTable_val] at e1 e2
  simp at one
  simp [one, e1]
  refine br_dec _ ?_ ?_ <;> intro h0 <;> simp [h0, one, e2]
  refine br_dec _ ?_ ?_ <;> intro h0 <;> simp [h0]
theorem markClasses_d {v : Value × Value} {a : ClassesD} {k : Int} (h : dClasses.Ow H v a) (hd : (dClasses.ids v).Nodup) (hk : 0 ≤ k ∧ k ≤ 2305843009213693952) (hf : ∀ i ∈ dClasses.ids v, frz ≤ i) :
    wp (vcall C frz 38 [dClasses.val v a, .int .i64 k] H) (Marks 2147483648 dClasses 88 H v a k) := by
  obtain ⟨a1, a2⟩ := a; obtain ⟨v1, v2⟩ := v
  rw [vcall_go (fn := Try.f38) Try.func38 rfl (by kernel_rfl) rfl]
  rw [dClasses_val]
  have one := dClasses_one h
  simp only at one
  obtain ⟨h1, h2⟩ := h
  simp only at h1 h2
  obtain ⟨d1, d2, d3⟩ := List.nodup_append.1 hd
  have dis : ∀ i ∈ VM.ids v2, i ∉ VM.ids v1 := fun i hi hh => d3 i hh i hi rfl
  have dis' : ∀ i ∈ VM.ids v1, i ∉ VM.ids v2 := fun i hi hh => d3 i hi i hh rfl
  have lt1 := dIntS.lt h1
  have lt2 := dIntS.lt h2
  simp [one]
  have m1 := markTable_d (frz := frz) (k := k) (H := H ++ [⟨[v1, v2], 0, 42⟩]) (v := v1) (a := a1) (Dt.app (T := dIntS) h1) d1 (by omega) (fun i hi => hf i (List.mem_append.2 (.inl hi)))
  simp only [dTable_val] at m1
  refine wp_thn m1 ?_
  rintro _ H1 ⟨n1, b1, rfl, hn1, _, o1, c1, he1⟩
  have bx : H1[H.length]? = some ⟨[v1, v2], 0, 42⟩ := box_chg (by simp) c1 (fun hh => by have := lt1 _ hh; omega)
  have o2 := Dt.chg (T := dIntS) (Dt.app (T := dIntS) h2) c1 dis
  simp [VM.look, bx, one]
  have m2 := markTable_d (frz := frz) (k := k + n1) (H := H1) (v := v2) (a := a2) o2 d2 (by omega) (fun i hi => hf i (List.mem_append.2 (.inr hi)))
  simp only [dTable_val] at m2
  refine wp_thn m2 ?_
  rintro _ H2 ⟨n2, b2, rfl, hn2, _, o2', c2, he2⟩
  simp
  refine ⟨n1 + n2, (b1, b2), by rw [Int.add_assoc], by omega, rfl, ⟨Dt.chg (T := dIntS) o1 c2 dis', o2'⟩, ?_, fun F H3 h3 => ?_⟩
  · refine ((Chg.app (dClasses.ids (v1, v2))).trans' (c1.mono fun i hi => List.mem_append.2 (.inl hi)) (fun i hi => .inl hi)).trans' (c2.mono fun i hi => List.mem_append.2 (.inr hi)) (fun i hi => .inl hi)
  · rw [vcall_go (fn := Try.f88) Try.func88 rfl (by kernel_rfl) rfl]
    rw [dClasses_val]
    have g1 := fun F => he1 F (H3 ++ [⟨[v1, v2], 0, 42⟩]) (Dt.app (T := dIntS) h3.1)
    have g2 := fun F => he2 F (H3 ++ [⟨[v1, v2], 0, 42⟩]) (Dt.app (T := dIntS) h3.2)
    simp only [dTable_val] at g1 g2
    have e0 : ¬ k + n1 < 0 := by omega
    have e1 : ¬ k + n1 + n2 < 0 := by omega
    simp [one, g1, e0, g2, e1, Int.add_assoc]
    simp [← Int.add_assoc, e1]
theorem szClasses_c (v1 v2 : Value) (A B : List Int) (n : Int) (h1 : IsI H v1 A) (h2 : IsI H v2 B) (h0 : 0 ≤ n) (hn : n ≤ 1048576) (l1 : A.length ≤ 9223372036854775807) (l2 : B.length ≤ 9223372036854775807) :
    vcall C frz 12 [.agg #[v1, v2], .int .i64 n] H = some (.int .i64 (if n < (A.length : Int) + (B.length : Int) then -1 else n - ((A.length : Int) + (B.length : Int))), H) := by
  rw [vcall_go (fn := Try.f12) Try.func12 rfl (by kernel_rfl) rfl]
  have one := And.intro (And.intro h1.one' h1.cells) (And.intro h2.one' h2.cells)
  simp [one, szTable_c _ _ _ (h1.app _) h0 hn (by omega)]
  by_cases g : n < (A.length : Int)
  · simp [g]; omega
  · have g2 : ¬ n - (A.length : Int) < 0 := by omega
    simp [g, g2, one, szTable_c _ _ _ (h2.app _) (by omega : 0 ≤ n - (A.length : Int)) (by omega) (by omega)]
    by_cases g3 : n - (A.length : Int) < (B.length : Int)
    · simp [g3]; omega
    · have g4 : ¬ n - (A.length : Int) - (B.length : Int) < 0 := by omega
      simp [g3, g4]
      rw [if_neg (by omega)]; omega
theorem toClasses_w (v1 v2 : Value) (A B : List Int) (h1 : IsI H v1 A) (h2 : IsI H v2 B) (l1 : A.length ≤ 1073741824) (l2 : B.length ≤ 1073741824) :
   wp (vcall C frz 15 [.agg #[v1, v2]] H) (dClasses.Made H (A, B)) := by
  rw [vcall_go (fn := Try.f15) Try.func15 rfl (by kernel_rfl) rfl]
  have one := And.intro (And.intro h1.one' h1.cells) (And.intro h2.one' h2.cells)
  simp [one]
  refine wp_thn (toTable_w v1 A (h1.app _) l1) ?_
  rintro _ H1 ⟨u1, rfl, o1, c1, n1, d1⟩
  have b0 : H1[H.length]? = some ⟨[v1, v2], 0, 30⟩ := box_chg (by simp) c1 (by simp)
  have bR : H1[H.length + 1]? = some ⟨[.slice none 0 0, .slice none 0 0], 0, 42⟩ := box_chg (by simp) c1 (by simp)
  have b1 : H1[H.length + 2]? = some ⟨[.slice none 0 0, .slice none 0 0], 0, 42⟩ := box_chg (by simp) c1 (by simp)
  have lc := c1.1
  simp at n1 lc
  have onu := dTable_one o1
  have hF : H.length ≤ H.length + 2 := by omega
  have hF1 : H.length ≤ H.length + 1 := by omega
  have e1 : Chg H1 (H1.set (H.length + 2) ⟨[u1, .slice none 0 0], 0, 42⟩) [H.length + 2] := chg_set _ _
  have cH1 : Chg H (H1.set (H.length + 2) ⟨[u1, .slice none 0 0], 0, 42⟩) [] := ((Chg.app []).trans c1).trans' e1 (fun i hi => .inr (by simp at hi; omega))
  have p1 := set_get (r' := ⟨[u1, .slice none 0 0], 0, 42⟩) b1
  have p0 := box_chg b0 e1 (by simp)
  have pR := box_chg bR e1 (by simp)
  have o1' := Dt.chg (T := dTable) o1 e1 (fun i hi hh => by have := n1 i hi; simp at hh; omega)
  simp [dTable_val, VM.look, b0, b1, onu, one, hF]
  generalize H1.set (H.length + 2) ⟨[u1, .slice none 0 0], 0, 42⟩ = H2 at *
  try simp [VM.look, p0, one]
  refine wp_thn (toTable_w v2 B (Rd.isI (h2.rd.chg cH1 (by simp))) l2) ?_
  rintro _ H3 ⟨u2, rfl, o2, c2, n2, d2⟩
  have b1 := box_chg p1 c2 (by simp)
  have bR := box_chg pR c2 (by simp)
  have l2' := cH1.1
  have lu := dTable.lt o1'
  have onu2 := dTable_one o2
  have o3 := Dt.chg0 (T := dTable) o1' c2
  have e2 : Chg H3 (H3.set (H.length + 2) ⟨[u1, u2], 0, 42⟩) [H.length + 2] := chg_set _ _
  have g1 := set_get (r' := ⟨[u1, u2], 0, 42⟩) b1
  have bR := box_chg bR e2 (by simp)
  have hlt := box_lt p1
  have o4 := Dt.chg (T := dTable) o3 e2 (fun i hi hh => by have := n1 i hi; simp at hh; omega)
  have o5 := Dt.chg (T := dTable) o2 e2 (fun i hi hh => by have := n2 i hi; simp at hh; omega)
  have cH4 := (cH1.trans c2).trans' e2 (fun i hi => .inr (by simp at hi; omega))
  simp [dTable_val, VM.look, b1, onu, onu2, hF]
  generalize H3.set (H.length + 2) ⟨[u1, u2], 0, 42⟩ = H4 at *
  have gR := set_get (r' := ⟨[u1, u2], 0, 42⟩) bR
  simp [VM.look, g1, bR, onu, onu2, hF1, gR]
  refine ⟨(u1, u2), rfl, ⟨Dt.chg (T := dTable) o4 (chg_set _ _) (fun i hi hh => by have := n1 i hi; simp at hh; omega), Dt.chg (T := dTable) o5 (chg_set _ _) (fun i hi hh => by have := n2 i hi; simp at hh; omega)⟩, cH4.trans' (chg_set _ _) (fun i hi => .inr (by simp at hi; omega)), fun i hi => ?_, ?_⟩
  · rcases List.mem_append.1 hi with hi | hi
    · have := n1 i hi; omega
    · have := n2 i hi; omega
  · exact List.nodup_append.2 ⟨d1, d2, fun a ha b hb e => by have := lu a ha; have := n2 b hb; omega⟩
end Go.Proofs.Ytcigpclbhfkgaaa.V
/-! Copies of tables and meshes. -/
set_option linter.all false
namespace Go.Proofs.Ytcigpclbhfkgaaa.V
open Go Go.VM Go.Proofs
set_option maxRecDepth 10000
variable {frz : Nat} {H : Heap}
theorem ones_ints (ys : List Int) : ones (cellsOf Fl.int ys) = true := by
  rw [cellsOf_int]; unfold ones
  rw [List.all_eq_true]
  intro x hx
  obtain ⟨y, _, rfl⟩ := List.mem_map.1 hx
  rfl
theorem copyMesh_w (w h : Int) (v : Value) (b : List Int) (hI : IsI H v b) (hl : b.length ≤ 1073741824) : wp (vcall C frz 127 [.agg #[.int .i64 w, .int .i64 h, v]] H) (dMesh.Made H (w, h, b)) := by
  rw [vcall_go (fn := Try.f127) Try.func127 rfl (by kernel_rfl) rfl]
  have one := And.intro hI.one' hI.cells
  simp [one]
  rw [go_drawE (h := ⟨by kernel_rfl, by kernel_rfl⟩)]
  simp [emps, empOp, empB, one, (hI.app _).src]
  by_cases h0 : b = []
  · subst h0
    simp
    exact ⟨_, rfl, ⟨.inl ⟨rfl, rfl⟩, by simp⟩, Chg.app _, by simp [dMesh], by simp [dMesh]⟩
  · simp [h0, hl]
    exact ⟨_, rfl, ⟨Ow.new (D := Fl.int) (e := 3) (xs := b) (k := 2) (by simp) (cellsOf_int _).symm (by simp) rfl, hl⟩, Chg.app _, by simp [dMesh], ids_nodup (.slice (some ⟨H.length + 2, 0, some 0⟩) b.length 0)⟩
theorem l15Mesh_w (w h : Int) (v : Value) (b : List Int) (hI : IsI H v b) (hl : b.length ≤ 1073741824) : wp (vcall C frz 124 [.agg #[.int .i64 w, .int .i64 h, v]] H) (dMesh.Made H (w, h, b)) := by
  rw [vcall_go (fn := Try.f124) Try.func124 rfl (by kernel_rfl) rfl]
  have one := And.intro hI.one' hI.cells
  simp [one]
  rw [go_drawE (h := ⟨by kernel_rfl, by kernel_rfl⟩)]
  simp [emps, empOp, empB, one, (hI.app _).src]
  by_cases h0 : b = []
  · subst h0
    simp
    exact ⟨_, rfl, ⟨.inl ⟨rfl, rfl⟩, by simp⟩, Chg.app _, by simp [dMesh], by simp [dMesh]⟩
  · simp [h0, hl]
    exact ⟨_, rfl, ⟨Ow.new (D := Fl.int) (e := 3) (xs := b) (k := 2) (by simp) (cellsOf_int _).symm (by simp) rfl, hl⟩, Chg.app _, by simp [dMesh], ids_nodup (.slice (some ⟨H.length + 2, 0, some 0⟩) b.length 0)⟩
theorem copyTable_w (v : Value) (xs : List Int) (hI : IsI H v xs) (hl : xs.length ≤ 1073741824) : wp (vcall C frz 171 [.agg #[v]] H) (dTable.Made H xs) := by
  rw [vcall_go (fn := Try.f171) Try.func171 rfl (by kernel_rfl) rfl]
  have one := And.intro hI.one' hI.cells
  simp [one, (hI.app _).src]
  by_cases h0 : xs = []
  · subst h0
    simp
    exact ⟨_, rfl, ⟨Ow.new (D := Fl.int) (e := 3) (xs := []) (k := 2) (by simp) rfl rfl rfl, by simp⟩, Chg.app _, by simp [dTable], ids_nodup (.slice (some ⟨H.length + 2, 0, some 0⟩) 0 0)⟩
  · simp [h0, hl]
    exact ⟨_, rfl, ⟨Ow.new (D := Fl.int) (e := 3) (xs := xs) (k := 2) (by simp) (cellsOf_int _).symm (by simp) rfl, hl⟩, Chg.app _, by simp [dTable], ids_nodup (.slice (some ⟨H.length + 2, 0, some 1⟩) xs.length 0)⟩
theorem l12Copy_w (v : Value) (xs : List Int) (hI : IsI H v xs) (hl : xs.length ≤ 1073741824) : wp (vcall C frz 169 [.agg #[v]] H) (dTable.Made H xs) := by
  rw [vcall_go (fn := Try.f169) Try.func169 rfl (by kernel_rfl) rfl]
  have one := And.intro hI.one' hI.cells
  simp [one, (hI.app _).src]
  by_cases h0 : xs = []
  · subst h0
    simp
    exact ⟨_, rfl, ⟨Ow.new (D := Fl.int) (e := 3) (xs := []) (k := 2) (by simp) rfl rfl rfl, by simp⟩, Chg.app _, by simp [dTable], ids_nodup (.slice (some ⟨H.length + 2, 0, some 0⟩) 0 0)⟩
  · simp [h0, hl]
    exact ⟨_, rfl, ⟨Ow.new (D := Fl.int) (e := 3) (xs := xs) (k := 2) (by simp) (cellsOf_int _).symm (by simp) rfl, hl⟩, Chg.app _, by simp [dTable], ids_nodup (.slice (some ⟨H.length + 2, 0, some 1⟩) xs.length 0)⟩
end Go.Proofs.Ytcigpclbhfkgaaa.V
/-! Flits: what the laws' own functions do with slices of them. -/
set_option linter.all false
namespace Go.Proofs.Ytcigpclbhfkgaaa.V
open Go Go.VM Go.Proofs
set_option maxRecDepth 10000
variable {frz : Nat} {H : Heap}
abbrev FlitD := Int × Int × Int × Bool × Bool
def flF : Fl FlitD := ⟨5, fun a => [.int .i64 a.1, .int .i64 a.2.1, .int .i64 a.2.2.1, .bool a.2.2.2.1, .bool a.2.2.2.2], fun _ => rfl⟩
@[simp] theorem flF_n : flF.n = 5 := rfl
theorem flF_f (a : FlitD) : flF.f a = [.int .i64 a.1, .int .i64 a.2.1, .int .i64 a.2.2.1, .bool a.2.2.2.1, .bool a.2.2.2.2] := rfl
abbrev knF := Kn.pair (Kn.int .i64) (Kn.pair (Kn.int .i64) (Kn.pair (Kn.int .i64) (Kn.pair Kn.bool Kn.bool)))
theorem knF_is {H : Heap} {x : FlitD} {vs : List Value} (h : knF.Is H x vs) : vs = flF.f x := by
  obtain ⟨v1, v2, rfl, h1, w1, w2, rfl, h2, y1, y2, rfl, h3, z1, z2, rfl, h4, h5⟩ := h
  simp only [Kn.int, Kn.bool] at h1 h2 h3 h4 h5
  rw [h1, h2, h3, h4, h5]; rfl
theorem take_cells {α : Type} {D : Fl α} : ∀ (xs : List α) (l : List Value), (∀ j x, xs[j]? = some x → (l.drop (j * D.n)).take D.n = D.f x) → l.take (xs.length * D.n) = cellsOf D xs
  | [], l, _ => by simp
  | x :: xs, l, h => by
    have h0 := h 0 x rfl
    simp at h0
    have h1 := take_cells xs (l.drop D.n) fun j y hj => by
      have := h (j + 1) y (by simpa using hj)
      rwa [Nat.succ_mul, Nat.add_comm, ← List.drop_drop] at this
    rw [List.length_cons, Nat.succ_mul, Nat.add_comm, List.take_add, h0, h1, cellsOf_cons]
theorem IsS.rd_of {α : Type} {d : Kn α} {D : Fl α} (hz : d.sz = D.n) (hd : ∀ {H x vs}, d.Is H x vs → vs = D.f x) {v : Value} {xs : List α} (h : IsS d H v xs) : Rd D H v xs := by
  rcases h with h | ⟨id, off, r, h1, h2, h3, h4⟩
  · exact .inl h
  · rw [hz] at h3 h4
    exact .inr ⟨id, off, r, h1, h2, take_cells xs _ fun j x hj => by rw [List.drop_drop]; exact hd (h4 j x hj), h3⟩
theorem IsS.rdL_of {α : Type} {d : Kn α} {D : Fl α} (hd : ∀ {v xs}, IsS d H v xs → Rd D H v xs) {v : Value} {xss : List (List α)} (h : IsS (Kn.slice d) H v xss) : ∃ hs, RdL D H v hs xss := by
  rcases h with ⟨rfl, rfl⟩ | ⟨id, off, r, h1, h2, h3, h4⟩
  · exact ⟨[], .inl ⟨rfl, rfl⟩, rfl, by simp⟩
  · have hz : (Kn.slice d).sz = 1 := rfl
    rw [hz] at h3 h4
    simp only [Nat.mul_one] at h3 h4
    have hl : ((r.cells.drop off).take xss.length).length = xss.length := by simp; omega
    refine ⟨(r.cells.drop off).take xss.length, .inr ⟨id, off, r, by rw [hl]; exact h1, h2, by rw [hl, cellsOf_val]; simp, by rw [hl]; simpa using h3⟩, hl, fun j a xs ha hx => ?_⟩
    obtain ⟨u, hu, hs⟩ := h4 j xs hx
    have hj := (List.getElem?_eq_some_iff.1 hx).1
    have e2 := congrArg (·[0]?) hu
    simp at e2
    rw [List.getElem?_take, if_pos hj, List.getElem?_drop, e2] at ha
    cases ha
    exact hd hs
theorem rep_cells {α : Type} {D : Fl α} (a : α) : ∀ n, (List.replicate n (D.f a)).flatten = cellsOf D (List.replicate n a)
  | 0 => rfl
  | n + 1 => by rw [List.replicate_succ, List.replicate_succ, List.flatten_cons, cellsOf_cons, rep_cells a n]
theorem ones_flF (xs : List FlitD) : ones (cellsOf flF xs) = true := by
  induction xs with
  | nil => rfl
  | cons a l ih => rw [cellsOf_cons]; simp [ih, flF_f]
/-- a field of an element that is told by its slice stands as it is; other addresses are reckoned -/
theorem vfa_ptr {P : Program} {H : Heap} {s : TypeId} {f : Nat} (a : Addr) : vfieldAddr P H s f (.pointer (some a)) = match VM.look H a with
    | some _ => (match finfo P s f with | some (o, _, _) => some (.pointer (some ⟨a.block, a.off + o, a.spot⟩)) | none => none)
    | none => none := rfl
/-- a list that is filled from the front -/
theorem fill_set {α : Type} (xs : List α) (z : α) {i : Nat} (h : i < xs.length) : (xs.take i ++ List.replicate (xs.length - i) z).set i xs[i] = xs.take (i + 1) ++ List.replicate (xs.length - (i + 1)) z := by
  rw [List.set_append_right _ _ (by simp; omega), List.take_succ_eq_append_getElem h]
  have e : xs.length - i = (xs.length - (i + 1)) + 1 := by omega
  have e2 : i - (xs.take i).length = 0 := by simp; omega
  rw [e, List.replicate_succ, e2, List.set_cons_zero, List.append_assoc]; rfl
theorem toFlit_c (x : FlitD) : vcall C frz 166 [.agg (flF.f x).toArray] H = some (.agg (flF.f x).toArray, H) := by
  obtain ⟨p, t, c, h, l⟩ := x
  rw [vcall_go (fn := Try.f166) Try.func166 rfl (by kernel_rfl) rfl]
  simp [flF_f]
theorem toFlitS_w (v : Value) (xs : List FlitD) (hI : Rd flF H v xs) (hb : xs.length ≤ 1073741824) :
   wp (vcall C frz 120 [v] H) (fun r H' => Ow flF 134 H' r xs ∧ (∀ i ∈ ids r, H.length ≤ i) ∧ Chg H H' []) := by
  rw [vcall_go (fn := Try.f120) Try.func120 rfl (by kernel_rfl) rfl]
  simp [hI.len]
  refine wp_need (by omega) ?_
  refine wp_inv (fun n t H' => ∃ i : Nat, n = xs.length - i ∧ i ≤ xs.length ∧ t 0 = v ∧ t 3 = .slice (some ⟨H.length, 0, some 0⟩) xs.length 0 ∧ t 4 = .int .i64 i ∧
    Ow flF 134 H' (.slice (some ⟨H.length, 0, some 0⟩) xs.length 0) (xs.take i ++ List.replicate (xs.length - i) (0, 0, 0, false, false)) ∧ Chg H H' []) ?_ (n := xs.length)
    ⟨0, by simp, by omega, by simp, by simp, by simp, Ow.new0 rfl (rep_cells (D := flF) (0, 0, 0, false, false) _) (by rw [rep_cells (D := flF) (0, 0, 0, false, false)]; exact ones_flF _) (by simp), Chg.app _⟩
  rintro n t H' ⟨i, rfl, hi, h0, h3, h4, o, c⟩ ih
  have rd := hI.chg c (by simp)
  simp [h0, h3, h4, rd.len]
  refine wp_dec ?_ ?_ <;> intro h
  · have h' : i < xs.length := by omega
    have q1 := rd.idx (P := Try.prog) (ty := 132) (e := 169) (by simp) (i := (i : Int)) (by omega) (by omega)
    have q2 := rd.load (P := Try.prog) (e := 169) (by simp) h'
    have hl : (xs.take i ++ List.replicate (xs.length - i) ((0, 0, 0, false, false) : FlitD)).length = xs.length := by simp; omega
    have q3 := o.rd.idx (P := Try.prog) (ty := 123) (e := 134) (by simp) (i := (i : Int)) (by omega) (by omega)
    obtain ⟨H2, s1, o1, c1, l1⟩ := o.store (P := Try.prog) (frz := H.length) (et := 134) (ag := true) (x := .agg (flF.f xs[i]).toArray) (by simp) (j := i) (y := xs[i]) (by omega) (by simp [Value.cells]) (by simp [flF_f]) (by simp)
    simp only [Int.toNat_natCast, flF_n] at q1 q2 q3 s1
    simp [h0, h3, h4, q1, q2, toFlit_c, q3, s1]
    refine ih (xs.length - (i + 1)) _ _ ⟨i + 1, rfl, by omega, by simp [h0], by simp [h3], ?_, ?_, c.trans' c1 (by simp)⟩ (by omega)
    · simp; rw [w64 (by omega) (by omega)]
    · rw [fill_set _ _ h'] at o1; exact o1
  · have : i = xs.length := by omega
    subst this
    simp [h0, h3, h4]
    exact ⟨by simpa using o, c⟩
theorem szFlitS_c (v : Value) (xs : List FlitD) (n : Int) (hI : Rd flF H v xs) (h0 : 0 ≤ n) (h1 : n ≤ 1048576) (h2 : xs.length ≤ 9223372036854775807) :
    vcall C frz 116 [v, .int .i64 n] H = some (.int .i64 (if n < xs.length then -1 else n - xs.length), H) := by
  rw [vcall_go (fn := Try.f116) Try.func116 rfl (by kernel_rfl) rfl]
  simp [hI.len]
  rw [w64 (by omega) (by omega)]
  refine br_dec _ ?_ ?_ <;> intro h <;> simp [h]
  · intro hh; omega
  · intro hh; omega
theorem eqFlit_c (x y : FlitD) : vcall C frz 167 [.agg (flF.f x).toArray, .agg (flF.f y).toArray] H = some (.bool (decide (x = y)), H) := by
  obtain ⟨p, t, c, h, l⟩ := x
  obtain ⟨p', t', c', h', l'⟩ := y
  rw [vcall_go (fn := Try.f167) Try.func167 rfl (by kernel_rfl) rfl]
  simp [flF_f]
  by_cases e1 : p = p'
  · by_cases e2 : t = t'
    · by_cases e3 : c = c'
      · cases h <;> cases h' <;> cases l <;> cases l' <;> simp [e1, e2, e3]
      · simp [e1, e2, e3]
    · simp [e1, e2]
  · simp [e1]
theorem eqFlitS_c (a b : Value) (xs ys : List FlitD) (ha : Rd flF H a xs) (hb : Rd flF H b ys) (hl : xs.length ≤ 1073741824) :
   vcall C frz 121 [a, b] H = some (.bool (decide (xs = ys)), H) := by
  refine wp.exact (by simp) ?_ rfl
  rw [vcall_go (fn := Try.f121) Try.func121 rfl (by kernel_rfl) rfl]
  simp [ha.len, hb.len]
  refine wp_dec ?_ ?_ <;> intro h0 <;> simp [h0]
  · refine wp_inv (fun n t H' => ∃ i : Nat, n = xs.length - i ∧ i ≤ xs.length ∧ t 0 = a ∧ t 1 = b ∧ t 5 = .int .i64 i ∧ H' = H ∧ xs.take i = ys.take i) ?_ (n := xs.length) ⟨0, rfl, by omega, by simp, by simp, by simp, rfl, by simp⟩
    rintro n t H' ⟨i, rfl, hi, h1, h2, h3, rfl, h4⟩ ih
    simp [h1, h2, h3, ha.len]
    refine wp_dec ?_ ?_ <;> intro h
    · have hx : i < xs.length := by omega
      have hy : i < ys.length := by omega
      have q1 := ha.idx (P := Try.prog) (ty := 123) (e := 134) (by simp) (i := (i : Int)) (by omega) (by omega)
      have q2 := ha.load (P := Try.prog) (e := 134) (by simp) hx
      have q3 := hb.idx (P := Try.prog) (ty := 123) (e := 134) (by simp) (i := (i : Int)) (by omega) (by omega)
      have q4 := hb.load (P := Try.prog) (e := 134) (by simp) hy
      simp only [Int.toNat_natCast, flF_n] at q1 q2 q3 q4
      simp [h1, h2, h3]
      rw [go_draw (h := by kernel_rfl)]
      simp [h1, h2, h3, q1, q2, q3, q4, eqFlit_c]
      refine wp_dec ?_ ?_ <;> intro h5
      · simp [h1, h2, h3]
        refine ih (xs.length - (i + 1)) _ _ ⟨i + 1, rfl, by omega, by simp [h1], by simp [h2], ?_, rfl, ?_⟩ (by omega)
        · simp; rw [w64 (by omega) (by omega)]
        · rw [List.take_succ_eq_append_getElem hx, List.take_succ_eq_append_getElem hy, h4]; simp [h5]
      · simp [h1, h2, h3]
        intro hh; subst hh; simp at h5
    · have : i = xs.length := by omega
      subst this
      simp [h1, h2, h3]
      rw [List.take_length, List.take_of_length_le (by omega)] at h4
      exact h4
  · intro hh; exact h0 (by rw [hh])
end Go.Proofs.Ytcigpclbhfkgaaa.V
/-! Lists of flits, networks: what the laws' own functions do with them. -/
set_option linter.all false
namespace Go.Proofs.Ytcigpclbhfkgaaa.V
open Go Go.VM Go.Proofs
set_option maxRecDepth 10000
variable {frz : Nat} {H : Heap}
abbrev SSD := List (List FlitD)
abbrev SSV := Value × List Value
def dSS : Dt SSV SSD where
  val v _ := v.1
  Ow H v a := OwL flF 134 123 H v.1 v.2 a ∧ a.length ≤ 2097152 ∧ ∀ xs ∈ a, xs.length ≤ 67108864
  ids v := idsL v.1 v.2
  frame h k := ⟨h.1.frame k, h.2⟩
  lt h := h.1.lt
/-- what szFlitSS counts -/
def tot (xss : SSD) : Nat := xss.length + (xss.map List.length).sum
theorem sum_take {α : Type} (xss : List (List α)) {i : Nat} (h : i < xss.length) : ((xss.take (i + 1)).map List.length).sum = ((xss.take i).map List.length).sum + xss[i].length := by
  rw [List.take_succ_eq_append_getElem h, List.map_append, List.sum_append]; simp
theorem sum_take_le {α : Type} (xss : List (List α)) (i : Nat) : ((xss.take i).map List.length).sum ≤ (xss.map List.length).sum := by
  conv => rhs; rw [← List.take_append_drop i xss, List.map_append, List.sum_append]
  omega
theorem len_le_sum {α : Type} (xss : List (List α)) : ∀ xs ∈ xss, xs.length ≤ (xss.map List.length).sum := by
  induction xss with
  | nil => simp
  | cons a l ih => intro xs hx; rcases List.mem_cons.1 hx with rfl | hx
                   · simp
                   · have := ih xs hx; simp; omega
theorem RdL_at {α : Type} {D : Fl α} {v : Value} {hs : List Value} {xss : List (List α)} (h : RdL D H v hs xss) {ty e : TypeId} (he : eltp Try.prog ty = some (e, 1)) (ht : tsz Try.prog e = some (false, 1)) {j : Nat} (hj : j < xss.length) :
    ∃ a, hs[j]? = some a ∧ vindexAddr Try.prog H ty v (.int .i64 j) = some (elp v j) ∧ vload Try.prog H e (elp v j) = some a ∧ Rd D H a xss[j] := by
  have hj' : j < hs.length := by rw [h.2.1]; exact hj
  have q1 := h.1.idx (P := Try.prog) (ty := ty) (e := e) (by simpa using he) (i := (j : Int)) (by omega) (by omega)
  have q2 := h.1.cell1 (P := Try.prog) rfl ht hj'
  refine ⟨hs[j], by simp [hj'], by simpa using q1, by simpa using q2, h.2.2 j _ _ (by simp [hj']) (by simp [hj])⟩
theorem nd_app {l m : List Nat} {n : Nat} (h1 : l.Nodup) (h2 : m.Nodup) (h3 : ∀ i ∈ l, i < n) (h4 : ∀ i ∈ m, n ≤ i) : (l ++ m).Nodup :=
  List.nodup_append.2 ⟨h1, h2, fun a ha b hb e => by have := h3 a ha; have := h4 b hb; omega⟩
theorem szFlitSS_c (v : Value) (hs : List Value) (xss : SSD) (n : Int) (hI : RdL flF H v hs xss) (h0 : 0 ≤ n) (h1 : n ≤ 1048576) (h2 : xss.length ≤ 9223372036854775807) (h3 : ∀ xs ∈ xss, xs.length ≤ 9223372036854775807) :
    vcall C frz 65 [v, .int .i64 n] H = some (.int .i64 (if n < tot xss then -1 else n - tot xss), H) := by
  refine wp.exact (by simp) ?_ rfl
  rw [vcall_go (fn := Try.f65) Try.func65 rfl (by kernel_rfl) rfl]
  have hl := hI.2.1
  have ht : tot xss = xss.length + (xss.map List.length).sum := rfl
  simp [hI.1.len, hl]
  rw [w64 (by omega) (by omega)]
  refine wp_dec ?_ ?_ <;> intro h
  · simp [h]
    omega
  · simp [h]
    refine wp_inv (fun m t H' => ∃ (i : Nat) (q : Nat), m = xss.length - i ∧ i ≤ xss.length ∧ t 0 = v ∧ t 1 = .int .i64 (n - xss.length - q) ∧ t 5 = .int .i64 i ∧ H' = H ∧ q = ((xss.take i).map List.length).sum ∧ 0 ≤ n - xss.length - q) ?_ (n := xss.length) ⟨0, 0, rfl, by omega, by simp, by simp, by simp, rfl, by simp, by omega⟩
    rintro m t H' ⟨i, q, rfl, hi, t0, t1, t5, rfl, hq, hq0⟩ ih
    simp [t0, t1, t5, hI.1.len, hl]
    refine wp_dec ?_ ?_ <;> intro g
    · have hi' : i < xss.length := by omega
      obtain ⟨a, a1, a2, a3, a4⟩ := RdL_at hI (ty := 49) (e := 132) (by simp) (by simp) hi'
      have sz := fun F => szFlitS_c (frz := F) a xss[i] (n - xss.length - q) a4 hq0 (by omega) (h3 _ (List.getElem_mem hi'))
      have st := sum_take xss hi'
      have sl := sum_take_le xss (i + 1)
      rw [← hq] at st
      simp [t0, t1, t5, a2, a3, sz]
      by_cases h5 : n - xss.length - (q : Int) < (xss[i].length : Int)
      · simp [h5]
        omega
      · have h6 : ¬ n - xss.length - (q : Int) - (xss[i].length : Int) < 0 := by omega
        simp [t0, t1, t5, h5, h6]
        refine ih (xss.length - (i + 1)) _ _ ⟨i + 1, q + xss[i].length, rfl, by omega, by simp [t0], ?_, ?_, rfl, by omega, by omega⟩ (by omega)
        · simp; omega
        · simp; rw [w64 (by omega) (by omega)]
    · have : i = xss.length := by omega
      subst this
      rw [List.take_length] at hq
      simp [t0, t1, t5]
      rw [if_neg (by omega), ht]; omega
theorem toFlitSS_w (v : Value) (hs : List Value) (xss : SSD) (hI : RdL flF H v hs xss) (hb : xss.length ≤ 2097152) (hb2 : ∀ xs ∈ xss, xs.length ≤ 67108864) :
   wp (vcall C frz 67 [v] H) (dSS.Made H xss) := by
  rw [vcall_go (fn := Try.f67) Try.func67 rfl (by kernel_rfl) rfl]
  have hl := hI.2.1
  simp [hI.1.len, hl]
  refine wp_need (by omega) ?_
  refine wp_inv (fun n t H' => ∃ (i : Nat) (gs : List Value), n = xss.length - i ∧ i ≤ xss.length ∧ t 0 = v ∧ t 3 = .slice (some ⟨H.length, 0, some 0⟩) xss.length 0 ∧ t 4 = .int .i64 i ∧ gs.length = i ∧
    Ow Fl.val 123 H' (.slice (some ⟨H.length, 0, some 0⟩) xss.length 0) (gs ++ List.replicate (xss.length - i) (.slice none 0 0)) ∧ Chg H H' [] ∧
    (∀ (j : Nat) (a : Value) (xs : List FlitD), gs[j]? = some a → xss[j]? = some xs → Ow flF 134 H' a xs) ∧ (∀ x ∈ gs.flatMap ids, H.length + 1 ≤ x ∧ x < H'.length) ∧ (gs.flatMap ids).Nodup) ?_ (n := xss.length)
    ⟨0, [], by simp, by omega, by simp, by simp, by simp, rfl, Ow.new0 rfl (by simp [rep_cells (D := Fl.val) (.slice none 0 0)]) (by simp [ones]) (by simp), Chg.app _, by simp, by simp, by simp⟩
  rintro n t H' ⟨i, gs, rfl, hi, h0, h3, h4, hgl, o, c, hin, hids, hnd⟩ ih
  have rd := hI.chg c (by simp)
  have l0 := c.1
  have lo := o.lt H.length (by simp)
  simp [h0, h3, h4, rd.1.len, hl]
  refine wp_dec ?_ ?_ <;> intro h
  · have h' : i < xss.length := by omega
    obtain ⟨a, a1, a2, a3, a4⟩ := RdL_at rd (ty := 49) (e := 132) (by simp) (by simp) h'
    simp [h0, h3, h4, a2, a3]
    refine wp_thn (toFlitS_w a xss[i] a4 (by have := hb2 _ (List.getElem_mem h'); omega)) ?_
    rintro r H1 ⟨or_, nr, c1⟩
    have o' := o.chg c1 (by simp)
    have hll : (gs ++ List.replicate (xss.length - i) (Value.slice none 0 0)).length = xss.length := by simp; omega
    have q3 := o'.rd.idx (P := Try.prog) (ty := 57) (e := 123) (by simp) (i := (i : Int)) (by omega) (by omega)
    have lr := or_.lt
    obtain ⟨H2, s1, o1, c2, l2⟩ := o'.put1 (P := Try.prog) (frz := H.length) rfl (et := 123) (ag := false) (x := r) (by simp) (j := i) (y := r) (by omega) or_.rd.cells or_.rd.one' rfl (by simp)
    simp only [Int.toNat_natCast, Fl.val_n, Nat.mul_one] at q3
    have one := And.intro or_.rd.one' or_.rd.cells
    have l1 := c1.1
    simp [h0, h3, h4, q3, s1]
    have e1 : (gs ++ List.replicate (xss.length - i) (Value.slice none 0 0)).set i r = (gs ++ [r]) ++ List.replicate (xss.length - (i + 1)) (Value.slice none 0 0) := by
      have e : xss.length - i = (xss.length - (i + 1)) + 1 := by omega
      rw [List.set_append_right _ _ (by omega), e, List.replicate_succ, show i - gs.length = 0 by omega, List.set_cons_zero]; simp
    rw [e1] at o1
    refine ih (xss.length - (i + 1)) _ _ ⟨i + 1, gs ++ [r], rfl, by omega, by simp [h0], by simp [h3], ?_, by simp [hgl], o1, (c.trans c1).trans' c2 (by simp), fun j a xs ha hx => ?_, fun x hx => ?_, ?_⟩ (by omega)
    · simp; rw [w64 (by omega) (by omega)]
    · by_cases hj : j < gs.length
      · rw [List.getElem?_append_left hj] at ha
        have ho := (hin j a xs ha hx).chg c1 (by simp)
        refine ho.chg c2 (fun y hy hh => ?_)
        have := hids y (List.mem_flatMap.2 ⟨a, List.mem_of_getElem? ha, hy⟩)
        simp at hh; omega
      · rw [List.getElem?_append_right (by omega)] at ha
        have hj2 := (List.getElem?_eq_some_iff.1 ha).1
        simp at hj2
        have : j = i := by omega
        subst this
        rw [show j - gs.length = 0 by omega] at ha
        simp at ha
        subst ha
        rw [List.getElem?_eq_getElem h'] at hx
        cases hx
        exact or_.chg c2 (fun y hy hh => by have := nr y hy; simp at hh; omega)
    · rw [List.flatMap_append] at hx
      rcases List.mem_append.1 hx with hx | hx
      · have := hids x hx; omega
      · simp at hx
        have := nr x hx; have := lr x hx; omega
    · rw [List.flatMap_append]
      refine nd_app hnd (by simpa using ids_nodup r) (n := H'.length) (fun x hx => (hids x hx).2) (fun x hx => ?_)
      simp at hx; exact nr x hx
  · have : i = xss.length := by omega
    subst this
    simp [h0, h3, h4]
    refine ⟨(.slice (some ⟨H.length, 0, some 0⟩) xss.length 0, gs), rfl, ⟨⟨by simpa using o, hgl, hin⟩, hb, hb2⟩, c, fun x hx => ?_, ?_⟩
    · rcases List.mem_append.1 hx with hx | hx
      · simp at hx; omega
      · have := hids x hx; omega
    · refine nd_app (ids_nodup _) hnd (n := H.length + 1) (by simp) (fun x hx => (hids x hx).1)
theorem eqFlitSS_c (a b : Value) (hs gs : List Value) (xs ys : SSD) (ha : RdL flF H a hs xs) (hb : RdL flF H b gs ys) (hl : xs.length ≤ 1073741824) (hl2 : ∀ l ∈ xs, l.length ≤ 1073741824) :
   vcall C frz 69 [a, b] H = some (.bool (decide (xs = ys)), H) := by
  refine wp.exact (by simp) ?_ rfl
  rw [vcall_go (fn := Try.f69) Try.func69 rfl (by kernel_rfl) rfl]
  have la := ha.2.1
  have lb := hb.2.1
  simp [ha.1.len, hb.1.len, la, lb]
  refine wp_dec ?_ ?_ <;> intro h0 <;> simp [h0]
  · refine wp_inv (fun n t H' => ∃ i : Nat, n = xs.length - i ∧ i ≤ xs.length ∧ t 0 = a ∧ t 1 = b ∧ t 5 = .int .i64 i ∧ H' = H ∧ xs.take i = ys.take i) ?_ (n := xs.length) ⟨0, rfl, by omega, by simp, by simp, by simp, rfl, by simp⟩
    rintro n t H' ⟨i, rfl, hi, h1, h2, h3, rfl, h4⟩ ih
    simp [h1, h2, h3, ha.1.len, la]
    refine wp_dec ?_ ?_ <;> intro h
    · have hx : i < xs.length := by omega
      have hy : i < ys.length := by omega
      obtain ⟨p, _, a2, a3, a4⟩ := RdL_at ha (ty := 57) (e := 123) (by simp) (by simp) hx
      obtain ⟨q, _, b2, b3, b4⟩ := RdL_at hb (ty := 57) (e := 123) (by simp) (by simp) hy
      have eq := fun F => eqFlitS_c (frz := F) p q xs[i] ys[i] a4 b4 (hl2 _ (List.getElem_mem hx))
      simp [h1, h2, h3]
      rw [go_draw (h := by kernel_rfl)]
      simp [h1, h2, h3, a2, a3, b2, b3, eq]
      refine wp_dec ?_ ?_ <;> intro h5
      · simp [h1, h2, h3]
        refine ih (xs.length - (i + 1)) _ _ ⟨i + 1, rfl, by omega, by simp [h1], by simp [h2], ?_, rfl, ?_⟩ (by omega)
        · simp; rw [w64 (by omega) (by omega)]
        · rw [List.take_succ_eq_append_getElem hx, List.take_succ_eq_append_getElem hy, h4]; simp [h5]
      · simp [h1, h2, h3]
        intro hh; subst hh; simp at h5
    · have : i = xs.length := by omega
      subst this
      simp [h1, h2, h3]
      rw [List.take_length, List.take_of_length_le (by omega)] at h4
      exact h4
  · intro hh; exact h0 (by rw [hh])
theorem eqFlitSS_d {a b : SSV} {x y : SSD} (ha : dSS.Ow H a x) (hb : dSS.Ow H b y) : vcall C frz 69 [a.1, b.1] H = some (.bool (decide (x = y)), H) :=
  eqFlitSS_c a.1 b.1 a.2 b.2 x y ha.1.rd hb.1.rd (by have := ha.2.1; omega) (fun l hl => by have := ha.2.2 l hl; omega)
end Go.Proofs.Ytcigpclbhfkgaaa.V
/-! Networks: what the laws' own functions do with them. -/
set_option linter.all false
namespace Go.Proofs.Ytcigpclbhfkgaaa.V
open Go Go.VM Go.Proofs
set_option maxRecDepth 10000
variable {frz : Nat} {H : Heap}
/-- two kinds of data side by side -/
def dAnd {V A W B : Type} (T : Dt V A) (U : Dt W B) : Dt (V × W) (A × B) where
  val _ _ := undef
  Ow H v a := T.Ow H v.1 a.1 ∧ U.Ow H v.2 a.2
  ids v := T.ids v.1 ++ U.ids v.2
  frame h k := ⟨T.frame h.1 fun i hi => k i (List.mem_append.2 (.inl hi)), U.frame h.2 fun i hi => k i (List.mem_append.2 (.inr hi))⟩
  lt h i hi := by
    rcases List.mem_append.1 hi with hi | hi
    · exact T.lt h.1 i hi
    · exact U.lt h.2 i hi
def dNone (A : Type) : Dt Unit A where
  val _ _ := undef
  Ow _ _ _ := True
  ids _ := []
  frame _ _ := trivial
  lt _ i hi := by simp at hi
abbrev NetD := MeshD × ClassesD × SSD × List Int × List Int × SSD × SSD × Int
noncomputable instance : DecidableEq NetD := fun _ _ => Classical.propDecidable _
abbrev NetV := Value × (Value × Value) × SSV × Value × Value × SSV × SSV × Unit
def dNet0 : Dt NetV NetD := dAnd dMesh (dAnd dClasses (dAnd dSS (dAnd dIntS (dAnd dIntS (dAnd dSS (dAnd dSS (dNone Int)))))))
def netVal (v : NetV) (a : NetD) : Value :=
  .agg #[.int .i64 a.1.1, .int .i64 a.1.2.1, v.1, v.2.1.1, v.2.1.2, v.2.2.1.1, v.2.2.2.1, v.2.2.2.2.1, v.2.2.2.2.2.1.1, v.2.2.2.2.2.2.1.1, .int .i64 a.2.2.2.2.2.2.2]
def dNet : Dt NetV NetD := { dNet0 with val := netVal }
theorem dNet_val (v : NetV) (a : NetD) : dNet.val v a =
  .agg #[.int .i64 a.1.1, .int .i64 a.1.2.1, v.1, v.2.1.1, v.2.1.2, v.2.2.1.1, v.2.2.2.1, v.2.2.2.2.1, v.2.2.2.2.2.1.1, v.2.2.2.2.2.2.1.1, .int .i64 a.2.2.2.2.2.2.2] := rfl
theorem dSS_one {v : SSV} {a : SSD} (h : dSS.Ow H v a) : VM.one v.1 = true ∧ v.1.cells = #[v.1] := ⟨h.1.1.rd.one', h.1.1.rd.cells⟩
/-- the cells of a network stand alone -/
theorem dNet_one {v : NetV} {a : NetD} (h : dNet.Ow H v a) : (VM.one v.1 = true ∧ v.1.cells = #[v.1]) ∧ (VM.one v.2.1.1 = true ∧ v.2.1.1.cells = #[v.2.1.1]) ∧ (VM.one v.2.1.2 = true ∧ v.2.1.2.cells = #[v.2.1.2]) ∧ (VM.one v.2.2.1.1 = true ∧ v.2.2.1.1.cells = #[v.2.2.1.1]) ∧
    (VM.one v.2.2.2.1 = true ∧ v.2.2.2.1.cells = #[v.2.2.2.1]) ∧ (VM.one v.2.2.2.2.1 = true ∧ v.2.2.2.2.1.cells = #[v.2.2.2.2.1]) ∧ (VM.one v.2.2.2.2.2.1.1 = true ∧ v.2.2.2.2.2.1.1.cells = #[v.2.2.2.2.2.1.1]) ∧ (VM.one v.2.2.2.2.2.2.1.1 = true ∧ v.2.2.2.2.2.2.1.1.cells = #[v.2.2.2.2.2.2.1.1]) := by
  obtain ⟨h1, h2, h3, h4, h5, h6, h7, _⟩ := h
  exact ⟨dMesh_one h1, (dClasses_one h2).1, (dClasses_one h2).2, dSS_one h3, dIntS_one h4, dIntS_one h5, dSS_one h6, dSS_one h7⟩
theorem tot_len (xss : SSD) : xss.length ≤ tot xss := by unfold tot; omega
theorem tot_in (xss : SSD) : ∀ x ∈ xss, x.length ≤ tot xss := fun x hx => by have := len_le_sum xss x hx; unfold tot; omega
theorem eqNet_d {a b : NetV} {x y : NetD} (ha : dNet.Ow H a x) (hb : dNet.Ow H b y) : vcall C frz 29 [dNet.val a x, dNet.val b y] H = some (.bool (decide (x = y)), H) := by
  have oa := dNet_one ha
  have ob := dNet_one hb
  obtain ⟨a1, ⟨a2, a3⟩, ⟨a4, ha4⟩, a5, a6, ⟨a7, ha7⟩, ⟨a8, ha8⟩, _⟩ := a
  obtain ⟨b1, ⟨b2, b3⟩, ⟨b4, hb4⟩, b5, b6, ⟨b7, hb7⟩, ⟨b8, hb8⟩, _⟩ := b
  obtain ⟨⟨w, h, x1⟩, ⟨x2, x3⟩, x4, x5, x6, x7, x8, tm⟩ := x
  obtain ⟨⟨w', h', y1⟩, ⟨y2, y3⟩, y4, y5, y6, y7, y8, tm'⟩ := y
  obtain ⟨h1, h2, h3, h4, h5, h6, h7, _⟩ := ha
  obtain ⟨k1, k2, k3, k4, k5, k6, k7, _⟩ := hb
  simp only at h1 h2 h3 h4 h5 h6 h7 k1 k2 k3 k4 k5 k6 k7
  obtain ⟨p1, p2, p3, p4, p5, p6, p7, p8⟩ := oa
  obtain ⟨q1, q2, q3, q4, q5, q6, q7, q8⟩ := ob
  simp only at p1 p2 p3 p4 p5 p6 p7 p8 q1 q2 q3 q4 q5 q6 q7 q8
  have e1 := fun F L => eqMesh_d (frz := F) (H := H ++ L) (Dt.app h1) (Dt.app k1)
  have e2 := fun F L => eqClasses_d (frz := F) (H := H ++ L) (Dt.app h2) (Dt.app k2)
  have e3 := fun F L => eqFlitSS_d (frz := F) (H := H ++ L) (Dt.app h3) (Dt.app k3)
  have e4 := fun F L => eqIntS_d (frz := F) (H := H ++ L) (Dt.app h4) (Dt.app k4)
  have e5 := fun F L => eqIntS_d (frz := F) (H := H ++ L) (Dt.app h5) (Dt.app k5)
  have e6 := fun F L => eqFlitSS_d (frz := F) (H := H ++ L) (Dt.app h6) (Dt.app k6)
  have e7 := fun F L => eqFlitSS_d (frz := F) (H := H ++ L) (Dt.app h7) (Dt.app k7)
  simp only [dMesh_val, dClasses_val] at e1 e2
  simp only at e3 e6 e7
  rw [dNet_val, dNet_val]
  refine wp.exact (by simp) ?_ rfl
  rw [vcall_go (fn := Try.f29) Try.func29 rfl (by kernel_rfl) rfl]
  simp [p1, p2, p3, p4, p5, p6, p7, p8, q1, q2, q3, q4, q5, q6, q7, q8, e1, -Prod.mk.injEq]
  refine wp_dec ?_ ?_ <;> intro g1 <;> simp [g1, p1, p2, p3, p4, p5, p6, p7, p8, q1, q2, q3, q4, q5, q6, q7, q8, e2, -Prod.mk.injEq]
  refine wp_dec ?_ ?_ <;> intro g2 <;> simp [g2, p1, p2, p3, p4, p5, p6, p7, p8, q1, q2, q3, q4, q5, q6, q7, q8, e3, -Prod.mk.injEq]
  refine wp_dec ?_ ?_ <;> intro g3 <;> simp [g3, p1, p2, p3, p4, p5, p6, p7, p8, q1, q2, q3, q4, q5, q6, q7, q8, e4, -Prod.mk.injEq]
  refine wp_dec ?_ ?_ <;> intro g4 <;> simp [g4, p1, p2, p3, p4, p5, p6, p7, p8, q1, q2, q3, q4, q5, q6, q7, q8, e5, -Prod.mk.injEq]
  refine wp_dec ?_ ?_ <;> intro g5 <;> simp [g5, p1, p2, p3, p4, p5, p6, p7, p8, q1, q2, q3, q4, q5, q6, q7, q8, e6, -Prod.mk.injEq]
  refine wp_dec ?_ ?_ <;> intro g6 <;> simp [g6, p1, p2, p3, p4, p5, p6, p7, p8, q1, q2, q3, q4, q5, q6, q7, q8, e7, -Prod.mk.injEq]
  refine wp_dec ?_ ?_ <;> intro g7 <;> simp [g7, p1, p2, p3, p4, p5, p6, p7, p8, q1, q2, q3, q4, q5, q6, q7, q8, e7, -Prod.mk.injEq]
  · refine wp_dec ?_ ?_ <;> intro g8 <;> simp [g8]
  · exact fun hh => g7 (congrArg (fun z : NetD => z.2.2.2.2.2.2.1) hh)
  · exact fun hh => g6 (congrArg (fun z : NetD => z.2.2.2.2.2.1) hh)
  · exact fun hh => g5 (congrArg (fun z : NetD => z.2.2.2.2.1) hh)
  · exact fun hh => g4 (congrArg (fun z : NetD => z.2.2.2.1) hh)
  · exact fun hh => g3 (congrArg (fun z : NetD => z.2.2.1) hh)
  · exact fun hh => g2 (congrArg (fun z : NetD => z.2.1) hh)
  · exact fun hh => g1 (congrArg (fun z : NetD => z.1) hh)
theorem toNet_w (w h tm : Int) (u2 u3 u4 u5 u6 u7 u8 u9 : Value) (h5 h8 h9 : List Value) (b A B own turn : List Int) (buf src arr : SSD)
    (r2 : Rd Fl.int H u2 b) (r3 : Rd Fl.int H u3 A) (r4 : Rd Fl.int H u4 B) (r5 : RdL flF H u5 h5 buf) (r6 : Rd Fl.int H u6 own) (r7 : Rd Fl.int H u7 turn) (r8 : RdL flF H u8 h8 src) (r9 : RdL flF H u9 h9 arr)
    (l2 : b.length ≤ 1073741824) (l3 : A.length ≤ 1073741824) (l4 : B.length ≤ 1073741824) (l5 : buf.length ≤ 2097152) (l5' : ∀ x ∈ buf, x.length ≤ 67108864) (l6 : own.length ≤ 1073741824) (l7 : turn.length ≤ 1073741824)
    (l8 : src.length ≤ 2097152) (l8' : ∀ x ∈ src, x.length ≤ 67108864) (l9 : arr.length ≤ 2097152) (l9' : ∀ x ∈ arr, x.length ≤ 67108864) :
   wp (vcall C frz 27 [.agg #[.int .i64 w, .int .i64 h, u2, u3, u4, u5, u6, u7, u8, u9, .int .i64 tm]] H) (dNet.Made H ((w, h, b), (A, B), buf, own, turn, src, arr, tm)) := by
  rw [vcall_go (fn := Try.f27) Try.func27 rfl (by kernel_rfl) rfl]
  have one2 := And.intro r2.one' r2.cells
  have one3 := And.intro r3.one' r3.cells
  have one4 := And.intro r4.one' r4.cells
  have one5 := And.intro r5.1.one' r5.1.cells
  have one6 := And.intro r6.one' r6.cells
  have one7 := And.intro r7.one' r7.cells
  have one8 := And.intro r8.1.one' r8.1.cells
  have one9 := And.intro r9.1.one' r9.1.cells
  have hF : H.length ≤ H.length + 2 := by omega
  have hF1 : H.length ≤ H.length + 1 := by omega
  simp [one2, one3, one4, one5, one6, one7, one8, one9]
  obtain ⟨G0, hG0⟩ : ∃ G, G = H ++ [⟨[.int .i64 w, .int .i64 h, u2, u3, u4, u5, u6, u7, u8, u9, .int .i64 tm], 0, 51⟩, ⟨[.int .i64 0, .int .i64 0, .slice none 0 0, .slice none 0 0, .slice none 0 0, .slice none 0 0, .slice none 0 0, .slice none 0 0, .slice none 0 0, .slice none 0 0, .int .i64 0], 0, 59⟩, ⟨[.int .i64 0, .int .i64 0, .slice none 0 0, .slice none 0 0, .slice none 0 0, .slice none 0 0, .slice none 0 0, .slice none 0 0, .slice none 0 0, .slice none 0 0, .int .i64 0], 0, 59⟩] := ⟨_, rfl⟩
  have b0 : G0[H.length]? = some ⟨[.int .i64 w, .int .i64 h, u2, u3, u4, u5, u6, u7, u8, u9, .int .i64 tm], 0, 51⟩ := by rw [hG0]; simp
  have bR : G0[H.length + 1]? = some ⟨[.int .i64 0, .int .i64 0, .slice none 0 0, .slice none 0 0, .slice none 0 0, .slice none 0 0, .slice none 0 0, .slice none 0 0, .slice none 0 0, .slice none 0 0, .int .i64 0], 0, 59⟩ := by rw [hG0]; simp
  have b1 : G0[H.length + 2]? = some ⟨[.int .i64 0, .int .i64 0, .slice none 0 0, .slice none 0 0, .slice none 0 0, .slice none 0 0, .slice none 0 0, .slice none 0 0, .slice none 0 0, .slice none 0 0, .int .i64 0], 0, 59⟩ := by rw [hG0]; simp
  have cH : Chg H G0 [] := by rw [hG0]; exact Chg.app []
  have lH : H.length + 3 ≤ G0.length := by rw [hG0]; simp
  rw [← hG0]
  clear hG0
  refine wp_thn (toMesh_w w h u2 b (Rd.isI (r2.chg cH (by simp))) l2) ?_
  rintro _ K1 ⟨n1, rfl, o1, c1, m1, d1⟩
  have q1 := dMesh_one o1
  have lt1 := dMesh.lt o1
  have b0 := box_chg b0 c1 (by simp)
  have b1 := box_chg b1 c1 (by simp)
  have bR := box_chg bR c1 (by simp)
  have cH := cH.trans c1
  have lc1 := c1.1
  have e1 : Chg K1 (K1.set (H.length + 2) ⟨[.int .i64 w, .int .i64 h, n1, .slice none 0 0, .slice none 0 0, .slice none 0 0, .slice none 0 0, .slice none 0 0, .slice none 0 0, .slice none 0 0, .int .i64 0], 0, 59⟩) [H.length + 2] := chg_set _ _
  have g1 := set_get (r' := ⟨[.int .i64 w, .int .i64 h, n1, .slice none 0 0, .slice none 0 0, .slice none 0 0, .slice none 0 0, .slice none 0 0, .slice none 0 0, .slice none 0 0, .int .i64 0], 0, 59⟩) b1
  have b0' := box_chg b0 e1 (by simp)
  have bR := box_chg bR e1 (by simp)
  have o1 := Dt.chg (T := dMesh) o1 e1 (fun i hi hh => by have := m1 i hi; simp at hh; omega)
  have cH := cH.trans' e1 (fun i hi => .inr (by simp at hi; omega))
  have ls1 : (K1.set (H.length + 2) ⟨[.int .i64 w, .int .i64 h, n1, .slice none 0 0, .slice none 0 0, .slice none 0 0, .slice none 0 0, .slice none 0 0, .slice none 0 0, .slice none 0 0, .int .i64 0], 0, 59⟩).length = K1.length := by simp
  simp [dMesh_val, VM.look, b0, b1, one2, one3, one4, one5, one6, one7, one8, one9, q1, hF]
  generalize K1.set (H.length + 2) ⟨[.int .i64 w, .int .i64 h, n1, .slice none 0 0, .slice none 0 0, .slice none 0 0, .slice none 0 0, .slice none 0 0, .slice none 0 0, .slice none 0 0, .int .i64 0], 0, 59⟩ = G1 at *
  clear b0 b1
  have b0 := b0'
  have b1 := g1
  clear b0' g1 e1
  try simp [VM.look, b0, one2, one3, one4, one5, one6, one7, one8, one9]
  refine wp_thn (toClasses_w u3 u4 A B (Rd.isI (r3.chg cH (by simp))) (Rd.isI (r4.chg cH (by simp))) l3 l4) ?_
  rintro _ K2 ⟨n2, rfl, o2, c2, m2, d2⟩
  have q2 := dClasses_one o2
  have lt2 := dClasses.lt o2
  have b0 := box_chg b0 c2 (by simp)
  have b1 := box_chg b1 c2 (by simp)
  have bR := box_chg bR c2 (by simp)
  have o1 := Dt.chg0 (T := dMesh) o1 c2
  have cH := cH.trans c2
  have lc2 := c2.1
  have e2 : Chg K2 (K2.set (H.length + 2) ⟨[.int .i64 w, .int .i64 h, n1, n2.1, n2.2, .slice none 0 0, .slice none 0 0, .slice none 0 0, .slice none 0 0, .slice none 0 0, .int .i64 0], 0, 59⟩) [H.length + 2] := chg_set _ _
  have g2 := set_get (r' := ⟨[.int .i64 w, .int .i64 h, n1, n2.1, n2.2, .slice none 0 0, .slice none 0 0, .slice none 0 0, .slice none 0 0, .slice none 0 0, .int .i64 0], 0, 59⟩) b1
  have b0' := box_chg b0 e2 (by simp)
  have bR := box_chg bR e2 (by simp)
  have o1 := Dt.chg (T := dMesh) o1 e2 (fun i hi hh => by have := m1 i hi; simp at hh; omega)
  have o2 := Dt.chg (T := dClasses) o2 e2 (fun i hi hh => by have := m2 i hi; simp at hh; omega)
  have cH := cH.trans' e2 (fun i hi => .inr (by simp at hi; omega))
  have ls2 : (K2.set (H.length + 2) ⟨[.int .i64 w, .int .i64 h, n1, n2.1, n2.2, .slice none 0 0, .slice none 0 0, .slice none 0 0, .slice none 0 0, .slice none 0 0, .int .i64 0], 0, 59⟩).length = K2.length := by simp
  simp [dClasses_val, VM.look, b0, b1, one2, one3, one4, one5, one6, one7, one8, one9, q1, q2, hF]
  generalize K2.set (H.length + 2) ⟨[.int .i64 w, .int .i64 h, n1, n2.1, n2.2, .slice none 0 0, .slice none 0 0, .slice none 0 0, .slice none 0 0, .slice none 0 0, .int .i64 0], 0, 59⟩ = G2 at *
  clear b0 b1
  have b0 := b0'
  have b1 := g2
  clear b0' g2 e2
  try simp [VM.look, b0, one2, one3, one4, one5, one6, one7, one8, one9]
  refine wp_thn (toFlitSS_w u5 h5 buf (r5.chg cH (by simp)) l5 l5') ?_
  rintro _ K3 ⟨n3, rfl, o3, c3, m3, d3⟩
  have q3 := dSS_one o3
  have lt3 := dSS.lt o3
  have b0 := box_chg b0 c3 (by simp)
  have b1 := box_chg b1 c3 (by simp)
  have bR := box_chg bR c3 (by simp)
  have o1 := Dt.chg0 (T := dMesh) o1 c3
  have o2 := Dt.chg0 (T := dClasses) o2 c3
  have cH := cH.trans c3
  have lc3 := c3.1
  have e3 : Chg K3 (K3.set (H.length + 2) ⟨[.int .i64 w, .int .i64 h, n1, n2.1, n2.2, n3.1, .slice none 0 0, .slice none 0 0, .slice none 0 0, .slice none 0 0, .int .i64 0], 0, 59⟩) [H.length + 2] := chg_set _ _
  have g3 := set_get (r' := ⟨[.int .i64 w, .int .i64 h, n1, n2.1, n2.2, n3.1, .slice none 0 0, .slice none 0 0, .slice none 0 0, .slice none 0 0, .int .i64 0], 0, 59⟩) b1
  have b0' := box_chg b0 e3 (by simp)
  have bR := box_chg bR e3 (by simp)
  have o1 := Dt.chg (T := dMesh) o1 e3 (fun i hi hh => by have := m1 i hi; simp at hh; omega)
  have o2 := Dt.chg (T := dClasses) o2 e3 (fun i hi hh => by have := m2 i hi; simp at hh; omega)
  have o3 := Dt.chg (T := dSS) o3 e3 (fun i hi hh => by have := m3 i hi; simp at hh; omega)
  have cH := cH.trans' e3 (fun i hi => .inr (by simp at hi; omega))
  have ls3 : (K3.set (H.length + 2) ⟨[.int .i64 w, .int .i64 h, n1, n2.1, n2.2, n3.1, .slice none 0 0, .slice none 0 0, .slice none 0 0, .slice none 0 0, .int .i64 0], 0, 59⟩).length = K3.length := by simp
  simp [show dSS.val n3 buf = n3.1 from rfl, VM.look, b0, b1, one2, one3, one4, one5, one6, one7, one8, one9, q1, q2, q3, hF]
  generalize K3.set (H.length + 2) ⟨[.int .i64 w, .int .i64 h, n1, n2.1, n2.2, n3.1, .slice none 0 0, .slice none 0 0, .slice none 0 0, .slice none 0 0, .int .i64 0], 0, 59⟩ = G3 at *
  clear b0 b1
  have b0 := b0'
  have b1 := g3
  clear b0' g3 e3
  try simp [VM.look, b0, one2, one3, one4, one5, one6, one7, one8, one9]
  refine wp_thn (toIntS_w u6 own (Rd.isI (r6.chg cH (by simp))) l6) ?_
  rintro w4 K4 ⟨n4, hr4, o4, c4, m4, d4⟩
  have hw4 : n4 = w4 := hr4.symm
  subst hw4
  have q4 := dIntS_one o4
  have lt4 := dIntS.lt o4
  have b0 := box_chg b0 c4 (by simp)
  have b1 := box_chg b1 c4 (by simp)
  have bR := box_chg bR c4 (by simp)
  have o1 := Dt.chg0 (T := dMesh) o1 c4
  have o2 := Dt.chg0 (T := dClasses) o2 c4
  have o3 := Dt.chg0 (T := dSS) o3 c4
  have cH := cH.trans c4
  have lc4 := c4.1
  have e4 : Chg K4 (K4.set (H.length + 2) ⟨[.int .i64 w, .int .i64 h, n1, n2.1, n2.2, n3.1, n4, .slice none 0 0, .slice none 0 0, .slice none 0 0, .int .i64 0], 0, 59⟩) [H.length + 2] := chg_set _ _
  have g4 := set_get (r' := ⟨[.int .i64 w, .int .i64 h, n1, n2.1, n2.2, n3.1, n4, .slice none 0 0, .slice none 0 0, .slice none 0 0, .int .i64 0], 0, 59⟩) b1
  have b0' := box_chg b0 e4 (by simp)
  have bR := box_chg bR e4 (by simp)
  have o1 := Dt.chg (T := dMesh) o1 e4 (fun i hi hh => by have := m1 i hi; simp at hh; omega)
  have o2 := Dt.chg (T := dClasses) o2 e4 (fun i hi hh => by have := m2 i hi; simp at hh; omega)
  have o3 := Dt.chg (T := dSS) o3 e4 (fun i hi hh => by have := m3 i hi; simp at hh; omega)
  have o4 := Dt.chg (T := dIntS) o4 e4 (fun i hi hh => by have := m4 i hi; simp at hh; omega)
  have cH := cH.trans' e4 (fun i hi => .inr (by simp at hi; omega))
  have ls4 : (K4.set (H.length + 2) ⟨[.int .i64 w, .int .i64 h, n1, n2.1, n2.2, n3.1, n4, .slice none 0 0, .slice none 0 0, .slice none 0 0, .int .i64 0], 0, 59⟩).length = K4.length := by simp
  simp [dMesh_val, VM.look, b0, b1, one2, one3, one4, one5, one6, one7, one8, one9, q1, q2, q3, q4, hF]
  generalize K4.set (H.length + 2) ⟨[.int .i64 w, .int .i64 h, n1, n2.1, n2.2, n3.1, n4, .slice none 0 0, .slice none 0 0, .slice none 0 0, .int .i64 0], 0, 59⟩ = G4 at *
  clear b0 b1
  have b0 := b0'
  have b1 := g4
  clear b0' g4 e4
  try simp [VM.look, b0, one2, one3, one4, one5, one6, one7, one8, one9]
  refine wp_thn (toIntS_w u7 turn (Rd.isI (r7.chg cH (by simp))) l7) ?_
  rintro w5 K5 ⟨n5, hr5, o5, c5, m5, d5⟩
  have hw5 : n5 = w5 := hr5.symm
  subst hw5
  have q5 := dIntS_one o5
  have lt5 := dIntS.lt o5
  have b0 := box_chg b0 c5 (by simp)
  have b1 := box_chg b1 c5 (by simp)
  have bR := box_chg bR c5 (by simp)
  have o1 := Dt.chg0 (T := dMesh) o1 c5
  have o2 := Dt.chg0 (T := dClasses) o2 c5
  have o3 := Dt.chg0 (T := dSS) o3 c5
  have o4 := Dt.chg0 (T := dIntS) o4 c5
  have cH := cH.trans c5
  have lc5 := c5.1
  have e5 : Chg K5 (K5.set (H.length + 2) ⟨[.int .i64 w, .int .i64 h, n1, n2.1, n2.2, n3.1, n4, n5, .slice none 0 0, .slice none 0 0, .int .i64 0], 0, 59⟩) [H.length + 2] := chg_set _ _
  have g5 := set_get (r' := ⟨[.int .i64 w, .int .i64 h, n1, n2.1, n2.2, n3.1, n4, n5, .slice none 0 0, .slice none 0 0, .int .i64 0], 0, 59⟩) b1
  have b0' := box_chg b0 e5 (by simp)
  have bR := box_chg bR e5 (by simp)
  have o1 := Dt.chg (T := dMesh) o1 e5 (fun i hi hh => by have := m1 i hi; simp at hh; omega)
  have o2 := Dt.chg (T := dClasses) o2 e5 (fun i hi hh => by have := m2 i hi; simp at hh; omega)
  have o3 := Dt.chg (T := dSS) o3 e5 (fun i hi hh => by have := m3 i hi; simp at hh; omega)
  have o4 := Dt.chg (T := dIntS) o4 e5 (fun i hi hh => by have := m4 i hi; simp at hh; omega)
  have o5 := Dt.chg (T := dIntS) o5 e5 (fun i hi hh => by have := m5 i hi; simp at hh; omega)
  have cH := cH.trans' e5 (fun i hi => .inr (by simp at hi; omega))
  have ls5 : (K5.set (H.length + 2) ⟨[.int .i64 w, .int .i64 h, n1, n2.1, n2.2, n3.1, n4, n5, .slice none 0 0, .slice none 0 0, .int .i64 0], 0, 59⟩).length = K5.length := by simp
  simp [dMesh_val, VM.look, b0, b1, one2, one3, one4, one5, one6, one7, one8, one9, q1, q2, q3, q4, q5, hF]
  generalize K5.set (H.length + 2) ⟨[.int .i64 w, .int .i64 h, n1, n2.1, n2.2, n3.1, n4, n5, .slice none 0 0, .slice none 0 0, .int .i64 0], 0, 59⟩ = G5 at *
  clear b0 b1
  have b0 := b0'
  have b1 := g5
  clear b0' g5 e5
  try simp [VM.look, b0, one2, one3, one4, one5, one6, one7, one8, one9]
  refine wp_thn (toFlitSS_w u8 h8 src (r8.chg cH (by simp)) l8 l8') ?_
  rintro _ K6 ⟨n6, rfl, o6, c6, m6, d6⟩
  have q6 := dSS_one o6
  have lt6 := dSS.lt o6
  have b0 := box_chg b0 c6 (by simp)
  have b1 := box_chg b1 c6 (by simp)
  have bR := box_chg bR c6 (by simp)
  have o1 := Dt.chg0 (T := dMesh) o1 c6
  have o2 := Dt.chg0 (T := dClasses) o2 c6
  have o3 := Dt.chg0 (T := dSS) o3 c6
  have o4 := Dt.chg0 (T := dIntS) o4 c6
  have o5 := Dt.chg0 (T := dIntS) o5 c6
  have cH := cH.trans c6
  have lc6 := c6.1
  have e6 : Chg K6 (K6.set (H.length + 2) ⟨[.int .i64 w, .int .i64 h, n1, n2.1, n2.2, n3.1, n4, n5, n6.1, .slice none 0 0, .int .i64 0], 0, 59⟩) [H.length + 2] := chg_set _ _
  have g6 := set_get (r' := ⟨[.int .i64 w, .int .i64 h, n1, n2.1, n2.2, n3.1, n4, n5, n6.1, .slice none 0 0, .int .i64 0], 0, 59⟩) b1
  have b0' := box_chg b0 e6 (by simp)
  have bR := box_chg bR e6 (by simp)
  have o1 := Dt.chg (T := dMesh) o1 e6 (fun i hi hh => by have := m1 i hi; simp at hh; omega)
  have o2 := Dt.chg (T := dClasses) o2 e6 (fun i hi hh => by have := m2 i hi; simp at hh; omega)
  have o3 := Dt.chg (T := dSS) o3 e6 (fun i hi hh => by have := m3 i hi; simp at hh; omega)
  have o4 := Dt.chg (T := dIntS) o4 e6 (fun i hi hh => by have := m4 i hi; simp at hh; omega)
  have o5 := Dt.chg (T := dIntS) o5 e6 (fun i hi hh => by have := m5 i hi; simp at hh; omega)
  have o6 := Dt.chg (T := dSS) o6 e6 (fun i hi hh => by have := m6 i hi; simp at hh; omega)
  have cH := cH.trans' e6 (fun i hi => .inr (by simp at hi; omega))
  have ls6 : (K6.set (H.length + 2) ⟨[.int .i64 w, .int .i64 h, n1, n2.1, n2.2, n3.1, n4, n5, n6.1, .slice none 0 0, .int .i64 0], 0, 59⟩).length = K6.length := by simp
  simp [show dSS.val n6 src = n6.1 from rfl, VM.look, b0, b1, one2, one3, one4, one5, one6, one7, one8, one9, q1, q2, q3, q4, q5, q6, hF]
  generalize K6.set (H.length + 2) ⟨[.int .i64 w, .int .i64 h, n1, n2.1, n2.2, n3.1, n4, n5, n6.1, .slice none 0 0, .int .i64 0], 0, 59⟩ = G6 at *
  clear b0 b1
  have b0 := b0'
  have b1 := g6
  clear b0' g6 e6
  try simp [VM.look, b0, one2, one3, one4, one5, one6, one7, one8, one9]
  refine wp_thn (toFlitSS_w u9 h9 arr (r9.chg cH (by simp)) l9 l9') ?_
  rintro _ K7 ⟨n7, rfl, o7, c7, m7, d7⟩
  have q7 := dSS_one o7
  have lt7 := dSS.lt o7
  have b0 := box_chg b0 c7 (by simp)
  have b1 := box_chg b1 c7 (by simp)
  have bR := box_chg bR c7 (by simp)
  have o1 := Dt.chg0 (T := dMesh) o1 c7
  have o2 := Dt.chg0 (T := dClasses) o2 c7
  have o3 := Dt.chg0 (T := dSS) o3 c7
  have o4 := Dt.chg0 (T := dIntS) o4 c7
  have o5 := Dt.chg0 (T := dIntS) o5 c7
  have o6 := Dt.chg0 (T := dSS) o6 c7
  have cH := cH.trans c7
  have lc7 := c7.1
  have e7 : Chg K7 (K7.set (H.length + 2) ⟨[.int .i64 w, .int .i64 h, n1, n2.1, n2.2, n3.1, n4, n5, n6.1, n7.1, .int .i64 0], 0, 59⟩) [H.length + 2] := chg_set _ _
  have g7 := set_get (r' := ⟨[.int .i64 w, .int .i64 h, n1, n2.1, n2.2, n3.1, n4, n5, n6.1, n7.1, .int .i64 0], 0, 59⟩) b1
  have b0' := box_chg b0 e7 (by simp)
  have bR := box_chg bR e7 (by simp)
  have o1 := Dt.chg (T := dMesh) o1 e7 (fun i hi hh => by have := m1 i hi; simp at hh; omega)
  have o2 := Dt.chg (T := dClasses) o2 e7 (fun i hi hh => by have := m2 i hi; simp at hh; omega)
  have o3 := Dt.chg (T := dSS) o3 e7 (fun i hi hh => by have := m3 i hi; simp at hh; omega)
  have o4 := Dt.chg (T := dIntS) o4 e7 (fun i hi hh => by have := m4 i hi; simp at hh; omega)
  have o5 := Dt.chg (T := dIntS) o5 e7 (fun i hi hh => by have := m5 i hi; simp at hh; omega)
  have o6 := Dt.chg (T := dSS) o6 e7 (fun i hi hh => by have := m6 i hi; simp at hh; omega)
  have o7 := Dt.chg (T := dSS) o7 e7 (fun i hi hh => by have := m7 i hi; simp at hh; omega)
  have cH := cH.trans' e7 (fun i hi => .inr (by simp at hi; omega))
  have ls7 : (K7.set (H.length + 2) ⟨[.int .i64 w, .int .i64 h, n1, n2.1, n2.2, n3.1, n4, n5, n6.1, n7.1, .int .i64 0], 0, 59⟩).length = K7.length := by simp
  simp [show dSS.val n7 arr = n7.1 from rfl, VM.look, b0, b1, one2, one3, one4, one5, one6, one7, one8, one9, q1, q2, q3, q4, q5, q6, q7, hF]
  generalize K7.set (H.length + 2) ⟨[.int .i64 w, .int .i64 h, n1, n2.1, n2.2, n3.1, n4, n5, n6.1, n7.1, .int .i64 0], 0, 59⟩ = G7 at *
  clear b0 b1
  have b0 := b0'
  have b1 := g7
  clear b0' g7 e7
  try simp [VM.look, b0, one2, one3, one4, one5, one6, one7, one8, one9]
  have e8 : Chg G7 (G7.set (H.length + 2) ⟨[.int .i64 w, .int .i64 h, n1, n2.1, n2.2, n3.1, n4, n5, n6.1, n7.1, .int .i64 tm], 0, 59⟩) [H.length + 2] := chg_set _ _
  have g8 := set_get (r' := ⟨[.int .i64 w, .int .i64 h, n1, n2.1, n2.2, n3.1, n4, n5, n6.1, n7.1, .int .i64 tm], 0, 59⟩) b1
  have o1 := Dt.chg (T := dMesh) o1 e8 (fun i hi hh => by have := m1 i hi; simp at hh; omega)
  have o2 := Dt.chg (T := dClasses) o2 e8 (fun i hi hh => by have := m2 i hi; simp at hh; omega)
  have o3 := Dt.chg (T := dSS) o3 e8 (fun i hi hh => by have := m3 i hi; simp at hh; omega)
  have o4 := Dt.chg (T := dIntS) o4 e8 (fun i hi hh => by have := m4 i hi; simp at hh; omega)
  have o5 := Dt.chg (T := dIntS) o5 e8 (fun i hi hh => by have := m5 i hi; simp at hh; omega)
  have o6 := Dt.chg (T := dSS) o6 e8 (fun i hi hh => by have := m6 i hi; simp at hh; omega)
  have o7 := Dt.chg (T := dSS) o7 e8 (fun i hi hh => by have := m7 i hi; simp at hh; omega)
  have cH := cH.trans' e8 (fun i hi => .inr (by simp at hi; omega))
  have bR := box_chg bR e8 (by simp)
  simp [VM.look, b0, b1, hF, q1, q2, q3, q4, q5, q6, q7]
  generalize G7.set (H.length + 2) ⟨[.int .i64 w, .int .i64 h, n1, n2.1, n2.2, n3.1, n4, n5, n6.1, n7.1, .int .i64 tm], 0, 59⟩ = G8 at *
  have gR := set_get (r' := ⟨[.int .i64 w, .int .i64 h, n1, n2.1, n2.2, n3.1, n4, n5, n6.1, n7.1, .int .i64 tm], 0, 59⟩) bR
  have eR : Chg G8 (G8.set (H.length + 1) ⟨[.int .i64 w, .int .i64 h, n1, n2.1, n2.2, n3.1, n4, n5, n6.1, n7.1, .int .i64 tm], 0, 59⟩) [H.length + 1] := chg_set _ _
  have o1 := Dt.chg (T := dMesh) o1 eR (fun i hi hh => by have := m1 i hi; simp at hh; omega)
  have o2 := Dt.chg (T := dClasses) o2 eR (fun i hi hh => by have := m2 i hi; simp at hh; omega)
  have o3 := Dt.chg (T := dSS) o3 eR (fun i hi hh => by have := m3 i hi; simp at hh; omega)
  have o4 := Dt.chg (T := dIntS) o4 eR (fun i hi hh => by have := m4 i hi; simp at hh; omega)
  have o5 := Dt.chg (T := dIntS) o5 eR (fun i hi hh => by have := m5 i hi; simp at hh; omega)
  have o6 := Dt.chg (T := dSS) o6 eR (fun i hi hh => by have := m6 i hi; simp at hh; omega)
  have o7 := Dt.chg (T := dSS) o7 eR (fun i hi hh => by have := m7 i hi; simp at hh; omega)
  have cH := cH.trans' eR (fun i hi => .inr (by simp at hi; omega))
  try simp [VM.look, g8, bR, gR, hF1, q1, q2, q3, q4, q5, q6, q7]
  refine ⟨(n1, n2, n3, n4, n5, n6, n7, ()), rfl, ⟨o1, o2, o3, o4, o5, o6, o7, trivial⟩, cH, fun i hi => ?_, ?_⟩
  · rcases List.mem_append.1 hi with hi | hi
    · have := m1 i hi; omega
    rcases List.mem_append.1 hi with hi | hi
    · have := m2 i hi; omega
    rcases List.mem_append.1 hi with hi | hi
    · have := m3 i hi; omega
    rcases List.mem_append.1 hi with hi | hi
    · have := m4 i hi; omega
    rcases List.mem_append.1 hi with hi | hi
    · have := m5 i hi; omega
    rcases List.mem_append.1 hi with hi | hi
    · have := m6 i hi; omega
    rcases List.mem_append.1 hi with hi | hi
    · have := m7 i hi; omega
    · simp [dNone] at hi
  · have z7 : (dSS.ids n7 ++ []).Nodup ∧ ∀ i ∈ dSS.ids n7 ++ [], K6.length ≤ i := ⟨by simpa using d7, fun i hi => by simp at hi; have := m7 i hi; omega⟩
    have z6 : (dSS.ids n6 ++ (dSS.ids n7 ++ [])).Nodup ∧ ∀ i ∈ dSS.ids n6 ++ (dSS.ids n7 ++ []), K5.length ≤ i := ⟨nd_app d6 z7.1 lt6 z7.2, fun i hi => by rcases List.mem_append.1 hi with hi | hi; (have := m6 i hi; omega); (have := z7.2 i hi; omega)⟩
    have z5 : (dIntS.ids n5 ++ (dSS.ids n6 ++ (dSS.ids n7 ++ []))).Nodup ∧ ∀ i ∈ dIntS.ids n5 ++ (dSS.ids n6 ++ (dSS.ids n7 ++ [])), K4.length ≤ i := ⟨nd_app d5 z6.1 lt5 z6.2, fun i hi => by rcases List.mem_append.1 hi with hi | hi; (have := m5 i hi; omega); (have := z6.2 i hi; omega)⟩
    have z4 : (dIntS.ids n4 ++ (dIntS.ids n5 ++ (dSS.ids n6 ++ (dSS.ids n7 ++ [])))).Nodup ∧ ∀ i ∈ dIntS.ids n4 ++ (dIntS.ids n5 ++ (dSS.ids n6 ++ (dSS.ids n7 ++ []))), K3.length ≤ i := ⟨nd_app d4 z5.1 lt4 z5.2, fun i hi => by rcases List.mem_append.1 hi with hi | hi; (have := m4 i hi; omega); (have := z5.2 i hi; omega)⟩
    have z3 : (dSS.ids n3 ++ (dIntS.ids n4 ++ (dIntS.ids n5 ++ (dSS.ids n6 ++ (dSS.ids n7 ++ []))))).Nodup ∧ ∀ i ∈ dSS.ids n3 ++ (dIntS.ids n4 ++ (dIntS.ids n5 ++ (dSS.ids n6 ++ (dSS.ids n7 ++ [])))), K2.length ≤ i := ⟨nd_app d3 z4.1 lt3 z4.2, fun i hi => by rcases List.mem_append.1 hi with hi | hi; (have := m3 i hi; omega); (have := z4.2 i hi; omega)⟩
    have z2 : (dClasses.ids n2 ++ (dSS.ids n3 ++ (dIntS.ids n4 ++ (dIntS.ids n5 ++ (dSS.ids n6 ++ (dSS.ids n7 ++ [])))))).Nodup ∧ ∀ i ∈ dClasses.ids n2 ++ (dSS.ids n3 ++ (dIntS.ids n4 ++ (dIntS.ids n5 ++ (dSS.ids n6 ++ (dSS.ids n7 ++ []))))), K1.length ≤ i := ⟨nd_app d2 z3.1 lt2 z3.2, fun i hi => by rcases List.mem_append.1 hi with hi | hi; (have := m2 i hi; omega); (have := z3.2 i hi; omega)⟩
    exact nd_app d1 z2.1 lt1 z2.2
theorem szNet_c (w h tm n : Int) (u2 u3 u4 u5 u6 u7 u8 u9 : Value) (h5 h8 h9 : List Value) (b A B own turn : List Int) (buf src arr : SSD)
    (r2 : Rd Fl.int H u2 b) (r3 : Rd Fl.int H u3 A) (r4 : Rd Fl.int H u4 B) (r5 : RdL flF H u5 h5 buf) (r6 : Rd Fl.int H u6 own) (r7 : Rd Fl.int H u7 turn) (r8 : RdL flF H u8 h8 src) (r9 : RdL flF H u9 h9 arr)
    (l2 : b.length ≤ 9223372036854775807) (l3 : A.length ≤ 9223372036854775807) (l4 : B.length ≤ 9223372036854775807) (l5 : buf.length ≤ 9223372036854775807) (l5' : ∀ x ∈ buf, x.length ≤ 9223372036854775807) (l6 : own.length ≤ 9223372036854775807) (l7 : turn.length ≤ 9223372036854775807)
    (l8 : src.length ≤ 9223372036854775807) (l8' : ∀ x ∈ src, x.length ≤ 9223372036854775807) (l9 : arr.length ≤ 9223372036854775807) (l9' : ∀ x ∈ arr, x.length ≤ 9223372036854775807) (h0 : 0 ≤ n) (h1 : n ≤ 1048576) :
   vcall C frz 25 [.agg #[.int .i64 w, .int .i64 h, u2, u3, u4, u5, u6, u7, u8, u9, .int .i64 tm], .int .i64 n] H = some (.int .i64 (if n < (b.length : Int) + ((A.length : Int) + (B.length : Int)) + (tot buf : Int) + (own.length : Int) + (turn.length : Int) + (tot src : Int) + (tot arr : Int) then -1 else n - ((b.length : Int) + ((A.length : Int) + (B.length : Int)) + (tot buf : Int) + (own.length : Int) + (turn.length : Int) + (tot src : Int) + (tot arr : Int))), H) := by
  refine wp.exact (by simp) ?_ rfl
  rw [vcall_go (fn := Try.f25) Try.func25 rfl (by kernel_rfl) rfl]
  have one2 := And.intro r2.one' r2.cells
  have one3 := And.intro r3.one' r3.cells
  have one4 := And.intro r4.one' r4.cells
  have one5 := And.intro r5.1.one' r5.1.cells
  have one6 := And.intro r6.one' r6.cells
  have one7 := And.intro r7.one' r7.cells
  have one8 := And.intro r8.1.one' r8.1.cells
  have one9 := And.intro r9.1.one' r9.1.cells
  obtain ⟨m0, hm0⟩ : ∃ m, m = n := ⟨_, rfl⟩
  have z0 : 0 ≤ m0 := by omega
  have z1 : m0 ≤ 1048576 := by omega
  rw [show (Value.int .i64 n) = .int .i64 m0 by rw [hm0]]
  simp [one2, one3, one4, one5, one6, one7, one8, one9]
  have s0 := fun F L => szMesh_c (frz := F) w h u2 b m0 (Rd.isI (r2.app (L := L))) z0 z1 (by omega)
  simp [s0, one2, one3, one4, one5, one6, one7, one8, one9]
  by_cases g0 : m0 < (b.length : Int)
  · simp only [if_pos g0]; simp; intro hh; omega
  simp only [if_neg g0]
  obtain ⟨m1, hm1⟩ : ∃ m, m = m0 - (b.length : Int) := ⟨_, rfl⟩
  rw [← hm1]
  have z0 : 0 ≤ m1 := by omega
  have z1 : m1 ≤ 1048576 := by omega
  have f1 : ¬ m1 < 0 := by omega
  simp [f1, one2, one3, one4, one5, one6, one7, one8, one9]
  have s1 := fun F L => szClasses_c (frz := F) u3 u4 A B m1 (Rd.isI (r3.app (L := L))) (Rd.isI (r4.app (L := L))) z0 z1 l3 l4
  simp [s1, one2, one3, one4, one5, one6, one7, one8, one9]
  by_cases g1 : m1 < ((A.length : Int) + (B.length : Int))
  · simp only [if_pos g1]; simp; intro hh; omega
  simp only [if_neg g1]
  obtain ⟨m2, hm2⟩ : ∃ m, m = m1 - ((A.length : Int) + (B.length : Int)) := ⟨_, rfl⟩
  rw [← hm2]
  have z0 : 0 ≤ m2 := by omega
  have z1 : m2 ≤ 1048576 := by omega
  have f2 : ¬ m2 < 0 := by omega
  simp [f2, one2, one3, one4, one5, one6, one7, one8, one9]
  have s2 := fun F L => szFlitSS_c (frz := F) u5 h5 buf m2 (r5.app (L := L)) z0 z1 l5 l5'
  simp [s2, one2, one3, one4, one5, one6, one7, one8, one9]
  by_cases g2 : m2 < (tot buf : Int)
  · simp only [if_pos g2]; simp; intro hh; omega
  simp only [if_neg g2]
  obtain ⟨m3, hm3⟩ : ∃ m, m = m2 - (tot buf : Int) := ⟨_, rfl⟩
  rw [← hm3]
  have z0 : 0 ≤ m3 := by omega
  have z1 : m3 ≤ 1048576 := by omega
  have f3 : ¬ m3 < 0 := by omega
  simp [f3, one2, one3, one4, one5, one6, one7, one8, one9]
  have s3 := fun F L => szIntS_c (frz := F) u6 own m3 (Rd.isI (r6.app (L := L))) z0 z1 (by omega)
  simp [s3, one2, one3, one4, one5, one6, one7, one8, one9]
  by_cases g3 : m3 < (own.length : Int)
  · simp only [if_pos g3]; simp; intro hh; omega
  simp only [if_neg g3]
  obtain ⟨m4, hm4⟩ : ∃ m, m = m3 - (own.length : Int) := ⟨_, rfl⟩
  rw [← hm4]
  have z0 : 0 ≤ m4 := by omega
  have z1 : m4 ≤ 1048576 := by omega
  have f4 : ¬ m4 < 0 := by omega
  simp [f4, one2, one3, one4, one5, one6, one7, one8, one9]
  have s4 := fun F L => szIntS_c (frz := F) u7 turn m4 (Rd.isI (r7.app (L := L))) z0 z1 (by omega)
  simp [s4, one2, one3, one4, one5, one6, one7, one8, one9]
  by_cases g4 : m4 < (turn.length : Int)
  · simp only [if_pos g4]; simp; intro hh; omega
  simp only [if_neg g4]
  obtain ⟨m5, hm5⟩ : ∃ m, m = m4 - (turn.length : Int) := ⟨_, rfl⟩
  rw [← hm5]
  have z0 : 0 ≤ m5 := by omega
  have z1 : m5 ≤ 1048576 := by omega
  have f5 : ¬ m5 < 0 := by omega
  simp [f5, one2, one3, one4, one5, one6, one7, one8, one9]
  have s5 := fun F L => szFlitSS_c (frz := F) u8 h8 src m5 (r8.app (L := L)) z0 z1 l8 l8'
  simp [s5, one2, one3, one4, one5, one6, one7, one8, one9]
  by_cases g5 : m5 < (tot src : Int)
  · simp only [if_pos g5]; simp; intro hh; omega
  simp only [if_neg g5]
  obtain ⟨m6, hm6⟩ : ∃ m, m = m5 - (tot src : Int) := ⟨_, rfl⟩
  rw [← hm6]
  have z0 : 0 ≤ m6 := by omega
  have z1 : m6 ≤ 1048576 := by omega
  have f6 : ¬ m6 < 0 := by omega
  simp [f6, one2, one3, one4, one5, one6, one7, one8, one9]
  have s6 := fun F L => szFlitSS_c (frz := F) u9 h9 arr m6 (r9.app (L := L)) z0 z1 l9 l9'
  simp [s6, one2, one3, one4, one5, one6, one7, one8, one9]
  by_cases g6 : m6 < (tot arr : Int)
  · simp only [if_pos g6]; simp; intro hh; omega
  simp only [if_neg g6]
  obtain ⟨m7, hm7⟩ : ∃ m, m = m6 - (tot arr : Int) := ⟨_, rfl⟩
  rw [← hm7]
  have z0 : 0 ≤ m7 := by omega
  have z1 : m7 ≤ 1048576 := by omega
  have f7 : ¬ m7 < 0 := by omega
  simp [f7, one2, one3, one4, one5, one6, one7, one8, one9]
  rw [if_neg (by omega)]; omega
end Go.Proofs.Ytcigpclbhfkgaaa.V
/-! Marks: flits and lists of flits. -/
set_option linter.all false
namespace Go.Proofs.Ytcigpclbhfkgaaa.V
open Go Go.VM Go.Proofs
set_option maxRecDepth 10000
variable {frz : Nat} {H : Heap}
def mkF (k : Int) : FlitD := (k, k + 1, k + 2, decide ((k + 3).tmod 3 = 0), decide ((k + 4).tmod 3 = 0))
def marksF (k : Int) : Nat → List FlitD
  | 0 => []
  | n + 1 => marksF k n ++ [mkF (k + 5 * n)]
@[simp] theorem marksF_len (k : Int) : ∀ n, (marksF k n).length = n
  | 0 => rfl
  | n + 1 => by simp [marksF, marksF_len k n]
theorem marksF_get (k : Int) {i : Nat} : ∀ n (h : i < n), (marksF k n)[i]'(by simpa using h) = mkF (k + 5 * i)
  | 0, h => by omega
  | n + 1, h => by
    simp only [marksF]
    by_cases hi : i < n
    · rw [List.getElem_append_left (by simpa using hi)]; exact marksF_get k n hi
    · have : i = n := by omega
      subst this
      rw [List.getElem_append_right (by simp)]; simp
theorem marksF_set (k : Int) (xs : List FlitD) {i : Nat} (h : i < xs.length) : (marksF k i ++ xs.drop i).set i (mkF (k + 5 * i)) = marksF k (i + 1) ++ xs.drop (i + 1) := by
  rw [List.set_append_right _ _ (by simp), marksF_len, Nat.sub_self, List.drop_eq_getElem_cons h, List.set_cons_zero, marksF]
  simp
theorem markFlitS_w (v : Value) (xs : List FlitD) (e : TypeId) (k : Int) (h : Ow flF e H v xs) (hl : xs.length ≤ 67108864) (hk : 0 ≤ k ∧ k ≤ 4611686018427387904) (hf : ∀ i ∈ ids v, frz ≤ i) :
   wp (vcall C frz 134 [v, .int .i64 k] H) (fun r H' => r = .int .i64 (k + 5 * xs.length) ∧ Ow flF e H' v (marksF k xs.length) ∧ Chg H H' (ids v) ∧ H'.length = H.length) := by
  rw [vcall_go (fn := Try.f134) Try.func134 rfl (by kernel_rfl) rfl]
  simp
  refine wp_inv (fun n t H' => ∃ i : Nat, n = xs.length - i ∧ i ≤ xs.length ∧ t 0 = v ∧ t 1 = .int .i64 (k + 5 * i) ∧ t 5 = .int .i64 i ∧ Ow flF e H' v (marksF k i ++ xs.drop i) ∧ Chg H H' (ids v) ∧ H'.length = H.length) ?_ (n := xs.length)
    ⟨0, by simp, by omega, by simp, by simp, by simp, by simpa [marksF] using h, Chg.refl _, rfl⟩
  rintro n t H' ⟨i, rfl, hi, h0, h1, h5, o, c, l⟩ ih
  have hlen : (marksF k i ++ xs.drop i).length = xs.length := by simp; omega
  have ll := o.rd.len (P := Try.prog) (ty := 123) (by simp)
  rw [hlen] at ll
  simp [h0, h1, h5, ll]
  refine wp_dec ?_ ?_ <;> intro h6
  · have hi' : i < xs.length := by omega
    have hms := marksF_set k xs hi'
    generalize marksF k i ++ xs.drop i = ys at *
    have hy : i < ys.length := by omega
    obtain ⟨K, hK⟩ : ∃ K, K = k + 5 * (i : Int) := ⟨_, rfl⟩
    obtain ⟨K1, hK1⟩ : ∃ K1, K1 = K + 1 := ⟨_, rfl⟩
    obtain ⟨K2, hK2⟩ : ∃ K1, K1 = K + 2 := ⟨_, rfl⟩
    obtain ⟨K3, hK3⟩ : ∃ K1, K1 = K + 3 := ⟨_, rfl⟩
    obtain ⟨K4, hK4⟩ : ∃ K1, K1 = K + 4 := ⟨_, rfl⟩
    obtain ⟨B3, hB3⟩ : ∃ B, B = decide (K3.tmod 3 = 0) := ⟨_, rfl⟩
    obtain ⟨B4, hB4⟩ : ∃ B, B = decide (K4.tmod 3 = 0) := ⟨_, rfl⟩
    have hmk : mkF K = (K, K1, K2, B3, B4) := by rw [hB3, hB4, hK1, hK2, hK3, hK4]; rfl
    have w1 : ∀ [Inhabited Unit], IntKind.i64.wrap (K + 1) = K1 := by intro _; rw [w64 (by omega) (by omega), hK1]
    have w2 : ∀ [Inhabited Unit], IntKind.i64.wrap (K1 + 1) = K2 := by intro _; rw [w64 (by omega) (by omega)]; omega
    have w3 : ∀ [Inhabited Unit], IntKind.i64.wrap (K2 + 1) = K3 := by intro _; rw [w64 (by omega) (by omega)]; omega
    have w4 : ∀ [Inhabited Unit], IntKind.i64.wrap (K3 + 1) = K4 := by intro _; rw [w64 (by omega) (by omega)]; omega
    have w5 : ∀ [Inhabited Unit], IntKind.i64.wrap (K4 + 1) = k + 5 * ((i + 1 : Nat) : Int) := by intro _; rw [w64 (by omega) (by omega)]; omega
    rw [← hK] at hms h1
    obtain ⟨z, hz⟩ : ∃ z, z = ys[i] := ⟨_, rfl⟩
    have ix := fun {G : Heap} {zs : List FlitD} (oo : Ow flF e G v zs) (hh : i < zs.length) => oo.rd.idx (P := Try.prog) (ty := 123) (e := 134) (by simp) (i := (i : Int)) (by omega) (by omega)
    have fa := fun {G : Heap} {zs : List FlitD} (oo : Ow flF e G v zs) (hh : i < zs.length) => (show _ ∧ _ ∧ _ ∧ _ ∧ _ from
      ⟨oo.rd.field (P := Try.prog) (s := 134) (f := 0) (o := 0) (n := 1) (ag := false) (by simp) (j := i * 5) (by omega), oo.rd.field (P := Try.prog) (s := 134) (f := 1) (o := 1) (n := 1) (ag := false) (by simp) (j := i * 5) (by omega),
       oo.rd.field (P := Try.prog) (s := 134) (f := 2) (o := 2) (n := 1) (ag := false) (by simp) (j := i * 5) (by omega), oo.rd.field (P := Try.prog) (s := 134) (f := 3) (o := 3) (n := 1) (ag := false) (by simp) (j := i * 5) (by omega),
       oo.rd.field (P := Try.prog) (s := 134) (f := 4) (o := 4) (n := 1) (ag := false) (by simp) (j := i * 5) (by omega)⟩)
    obtain ⟨H1, s1, o1, c1, l1⟩ := o.store1 (P := Try.prog) (frz := frz) (et := 3) (ag := false) (x := .int .i64 K) (by simp) (j := i) (c := 0) (y := (K, z.2)) hy (by decide) rfl rfl (by rw [← hz]; rfl) hf
    obtain ⟨H2, s2, o2, c2, l2⟩ := o1.store1 (P := Try.prog) (frz := frz) (et := 3) (ag := false) (x := .int .i64 K1) (by simp) (j := i) (c := 1) (y := (K, K1, z.2.2)) (by simpa using hy) (by decide) rfl rfl (by simp [flF_f]) hf
    obtain ⟨H3, s3, o3, c3, l3⟩ := o2.store1 (P := Try.prog) (frz := frz) (et := 3) (ag := false) (x := .int .i64 K2) (by simp) (j := i) (c := 2) (y := (K, K1, K2, z.2.2.2)) (by simpa using hy) (by decide) rfl rfl (by simp [flF_f]) hf
    obtain ⟨H4, s4, o4, c4, l4⟩ := o3.store1 (P := Try.prog) (frz := frz) (et := 4) (ag := false) (x := .bool B3) (by simp) (j := i) (c := 3) (y := (K, K1, K2, B3, z.2.2.2.2)) (by simpa using hy) (by decide) rfl rfl (by simp [flF_f]) hf
    obtain ⟨H5, s5, o5, c5, l5⟩ := o4.store1 (P := Try.prog) (frz := frz) (et := 4) (ag := false) (x := .bool B4) (by simp) (j := i) (c := 4) (y := (K, K1, K2, B3, B4)) (by simpa using hy) (by decide) rfl rfl (by simp [flF_f]) hf
    have i0 := ix o hy
    have i1 := ix o1 (by simpa using hy)
    have i2 := ix o2 (by simpa using hy)
    have i3 := ix o3 (by simpa using hy)
    have i4 := ix o4 (by simpa using hy)
    have f0 := (fa o hy).1
    have f1 := (fa o1 (by simpa using hy)).2.1
    have f2 := (fa o2 (by simpa using hy)).2.2.1
    have f3 := (fa o3 (by simpa using hy)).2.2.2.1
    have f4 := (fa o4 (by simpa using hy)).2.2.2.2
    simp only [Int.toNat_natCast, flF_n, Nat.add_zero] at i0 i1 i2 i3 i4 s1 s2 s3 s4 s5 f0
    have e3 : ∀ [Inhabited Unit], (decide (K3.tmod 3 = 0)) = B3 := by intro _; exact hB3.symm
    have e4 : ∀ [Inhabited Unit], (decide (K4.tmod 3 = 0)) = B4 := by intro _; exact hB4.symm
    simp [-vfieldAddr, vfa_ptr, h0, h1, h5, i0, i1, i2, i3, i4, f0, f1, f2, f3, f4, s1, s2, s3, s4, s5, w1, w2, w3, w4, w5, e3, e4]
    refine ih (xs.length - (i + 1)) _ _ ⟨i + 1, rfl, by omega, by simp [h0], ?_, ?_, ?_, (((((c.trans c1).trans c2).trans c3).trans c4).trans c5), by omega⟩ (by omega)
    · simp
    · simp; rw [w64 (by omega) (by omega)]
    · rw [← hms, hmk]; simpa only [List.set_set] using o5
  · have : i = xs.length := by omega
    subst this
    simp [h0, h1, h5]
    exact ⟨by simpa using o, c, l⟩
end Go.Proofs.Ytcigpclbhfkgaaa.V
/-! Marks: lists of flits, read again. -/
set_option linter.all false
namespace Go.Proofs.Ytcigpclbhfkgaaa.V
open Go Go.VM Go.Proofs
set_option maxRecDepth 10000
variable {frz : Nat} {H : Heap}
theorem flatMap_disj : ∀ (hs : List Value), (hs.flatMap ids).Nodup → ∀ {i j : Nat} {a b : Value}, i ≠ j → hs[i]? = some a → hs[j]? = some b → ∀ x ∈ ids a, x ∉ ids b
  | [], _, i, j, a, b, _, h1, _ => by simp at h1
  | c :: hs, nd, i, j, a, b, hij, h1, h2 => by
    rw [List.flatMap_cons] at nd
    obtain ⟨n1, n2, n3⟩ := List.nodup_append.1 nd
    intro x hx hx'
    cases i with
    | zero =>
      cases j with
      | zero => exact absurd rfl hij
      | succ j =>
        simp at h1 h2
        subst h1
        exact n3 x hx x (List.mem_flatMap.2 ⟨b, List.mem_of_getElem? h2, hx'⟩) rfl
    | succ i =>
      cases j with
      | zero =>
        simp at h1 h2
        subst h2
        exact n3 x hx' x (List.mem_flatMap.2 ⟨a, List.mem_of_getElem? h1, hx⟩) rfl
      | succ j => exact flatMap_disj hs n2 (i := i) (j := j) (fun e => hij (by omega)) (by simpa using h1) (by simpa using h2) x hx hx'
/-- one inner slice is written -/
theorem OwL_upd {α : Type} {D : Fl α} {e oe : TypeId} {H H' : Heap} {v a : Value} {hs : List Value} {xss : List (List α)} {i : Nat} {ys : List α} (h : OwL D e oe H v hs xss) (hi : i < xss.length) (ha : hs[i]? = some a) (c : Chg H H' (ids a)) (o : Ow D e H' a ys) (nd : (idsL v hs).Nodup) :
    OwL D e oe H' v hs (xss.set i ys) := by
  obtain ⟨n1, n2, n3⟩ := List.nodup_append.1 nd
  refine ⟨h.1.chg c fun x hx hh => n3 x hx x (List.mem_flatMap.2 ⟨a, List.mem_of_getElem? ha, hh⟩) rfl, by simpa using h.2.1, fun j b zs hb hz => ?_⟩
  by_cases hji : i = j
  · subst hji
    rw [ha] at hb; cases hb
    rw [List.getElem?_set_self hi] at hz; cases hz
    exact o
  · rw [List.getElem?_set_ne hji] at hz
    exact (h.2.2 j b zs hb hz).chg c (flatMap_disj hs n2 (Ne.symm hji) hb ha)
/-- how many flits lie ahead of list i -/
def ahead (a : SSD) (i : Nat) : Nat := ((a.take i).map List.length).sum
def mSS (k : Int) (a : SSD) : Nat → SSD
  | 0 => []
  | i + 1 => mSS k a i ++ [marksF (k + 5 * (ahead a i : Int)) (a.getD i []).length]
@[simp] theorem mSS_len (k : Int) (a : SSD) : ∀ i, (mSS k a i).length = i
  | 0 => rfl
  | i + 1 => by simp [mSS, mSS_len k a i]
theorem mSS_get (k : Int) (a : SSD) {i : Nat} : ∀ n (h : i < n), (mSS k a n)[i]'(by simpa using h) = marksF (k + 5 * (ahead a i : Int)) (a.getD i []).length
  | 0, h => by omega
  | n + 1, h => by
    simp only [mSS]
    by_cases hi : i < n
    · rw [List.getElem_append_left (by simpa using hi)]; exact mSS_get k a n hi
    · have : i = n := by omega
      subst this
      rw [List.getElem_append_right (by simp)]; simp
theorem mSS_set (k : Int) (a : SSD) {i : Nat} (h : i < a.length) : (mSS k a i ++ a.drop i).set i (marksF (k + 5 * (ahead a i : Int)) (a.getD i []).length) = mSS k a (i + 1) ++ a.drop (i + 1) := by
  rw [List.set_append_right _ _ (by simp), mSS_len, Nat.sub_self, List.drop_eq_getElem_cons h, List.set_cons_zero, mSS]
  simp
theorem ahead_succ (a : SSD) {i : Nat} (h : i < a.length) : ahead a (i + 1) = ahead a i + (a.getD i []).length := by
  unfold ahead; rw [sum_take a h, List.getD_eq_getElem?_getD, List.getElem?_eq_getElem h]; rfl
theorem ahead_le (a : SSD) (h2 : ∀ xs ∈ a, xs.length ≤ 67108864) : ∀ i, i ≤ a.length → ahead a i ≤ 67108864 * i
  | 0, _ => by simp [ahead]
  | i + 1, h => by
    have := ahead_le a h2 i (by omega)
    have hm := h2 _ (List.getElem_mem (show i < a.length by omega))
    rw [ahead_succ a (by omega), List.getD_eq_getElem?_getD, List.getElem?_eq_getElem (by omega)]
    simp; omega
theorem heldFlitS_c (v : Value) (n : Nat) (k : Int) (h : Rd flF H v (marksF k n)) (hl : n ≤ 67108864) (hk : 0 ≤ k ∧ k ≤ 4611686018427387904) :
   vcall C frz 136 [v, .int .i64 k] H = some (.int .i64 (k + 5 * n), H) := by
  refine wp.exact (by simp) ?_ rfl
  rw [vcall_go (fn := Try.f136) Try.func136 rfl (by kernel_rfl) rfl]
  have ll := h.len (P := Try.prog) (ty := 123) (by simp)
  rw [marksF_len] at ll
  simp
  refine wp_inv (fun m t H' => ∃ i : Nat, m = n - i ∧ i ≤ n ∧ t 0 = v ∧ t 1 = .int .i64 (k + 5 * i) ∧ t 5 = .int .i64 i ∧ H' = H) ?_ (n := n) ⟨0, rfl, by omega, by simp, by simp, by simp, rfl⟩
  rintro m t H' ⟨i, rfl, hi, h0, h1, h5, rfl⟩ ih
  simp [h0, h1, h5, ll]
  refine wp_dec ?_ ?_ <;> intro h6
  · have hi' : i < n := by omega
    have hy : i < (marksF k n).length := by simpa using hi'
    obtain ⟨K, hK⟩ : ∃ K, K = k + 5 * (i : Int) := ⟨_, rfl⟩
    obtain ⟨K1, hK1⟩ : ∃ K1, K1 = K + 1 := ⟨_, rfl⟩
    obtain ⟨K2, hK2⟩ : ∃ K1, K1 = K + 2 := ⟨_, rfl⟩
    obtain ⟨K3, hK3⟩ : ∃ K1, K1 = K + 3 := ⟨_, rfl⟩
    obtain ⟨K4, hK4⟩ : ∃ K1, K1 = K + 4 := ⟨_, rfl⟩
    obtain ⟨B3, hB3⟩ : ∃ B, B = decide (K3.tmod 3 = 0) := ⟨_, rfl⟩
    obtain ⟨B4, hB4⟩ : ∃ B, B = decide (K4.tmod 3 = 0) := ⟨_, rfl⟩
    have hmk : (marksF k n)[i] = (K, K1, K2, B3, B4) := by rw [marksF_get k n hi', hB3, hB4, hK1, hK2, hK3, hK4, hK]; rfl
    have w1 : ∀ [Inhabited Unit], IntKind.i64.wrap (K + 1) = K1 := by intro _; rw [w64 (by omega) (by omega), hK1]
    have w2 : ∀ [Inhabited Unit], IntKind.i64.wrap (K1 + 1) = K2 := by intro _; rw [w64 (by omega) (by omega)]; omega
    have w3 : ∀ [Inhabited Unit], IntKind.i64.wrap (K2 + 1) = K3 := by intro _; rw [w64 (by omega) (by omega)]; omega
    have w4 : ∀ [Inhabited Unit], IntKind.i64.wrap (K3 + 1) = K4 := by intro _; rw [w64 (by omega) (by omega)]; omega
    have w5 : ∀ [Inhabited Unit], IntKind.i64.wrap (K4 + 1) = k + 5 * ((i + 1 : Nat) : Int) := by intro _; rw [w64 (by omega) (by omega)]; omega
    rw [← hK] at h1
    have i0 := h.idx (P := Try.prog) (ty := 123) (e := 134) (by simp) (i := (i : Int)) (by omega) (by omega)
    have f0 := h.field (P := Try.prog) (s := 134) (f := 0) (o := 0) (n := 1) (ag := false) (by simp) (j := i * 5) (by omega)
    have f1 := h.field (P := Try.prog) (s := 134) (f := 1) (o := 1) (n := 1) (ag := false) (by simp) (j := i * 5) (by omega)
    have f2 := h.field (P := Try.prog) (s := 134) (f := 2) (o := 2) (n := 1) (ag := false) (by simp) (j := i * 5) (by omega)
    have f3 := h.field (P := Try.prog) (s := 134) (f := 3) (o := 3) (n := 1) (ag := false) (by simp) (j := i * 5) (by omega)
    have f4 := h.field (P := Try.prog) (s := 134) (f := 4) (o := 4) (n := 1) (ag := false) (by simp) (j := i * 5) (by omega)
    have c0 := h.cell (P := Try.prog) (e := 3) (by simp) hy (c := 0) (by decide)
    have c1 := h.cell (P := Try.prog) (e := 3) (by simp) hy (c := 1) (by decide)
    have c2 := h.cell (P := Try.prog) (e := 3) (by simp) hy (c := 2) (by decide)
    have c3 := h.cell (P := Try.prog) (e := 4) (by simp) hy (c := 3) (by decide)
    have c4 := h.cell (P := Try.prog) (e := 4) (by simp) hy (c := 4) (by decide)
    rw [hmk] at c0 c1 c2 c3 c4
    simp only [Int.toNat_natCast, flF_n, flF_f, Nat.add_zero] at i0 f0 c0 c1 c2 c3 c4
    simp at c0 c1 c2 c3 c4
    have e3 : ∀ [Inhabited Unit], (decide (K3.tmod 3 = 0)) = B3 := by intro _; exact hB3.symm
    have e4 : ∀ [Inhabited Unit], (decide (K4.tmod 3 = 0)) = B4 := by intro _; exact hB4.symm
    simp [-vfieldAddr, vfa_ptr, h0, h1, h5, i0, f0, f1, f2, f3, f4, c0, c1, c2, c3, c4, w1, w2, w3, w4, w5, e3, e4]
    refine ih (n - (i + 1)) _ _ ⟨i + 1, rfl, by omega, by simp [h0], ?_, ?_, rfl⟩ (by omega)
    · simp
    · simp; rw [w64 (by omega) (by omega)]
  · have : i = n := by omega
    subst this
    simp [h0, h1, h5]
theorem heldFlitSS_c (v : SSV) (a : SSD) (k : Int) (h : dSS.Ow H v (mSS k a a.length)) (h1 : a.length ≤ 2097152) (h2 : ∀ xs ∈ a, xs.length ≤ 67108864) (hk : 0 ≤ k ∧ k ≤ 2305843009213693952) :
   vcall C frz 89 [v.1, .int .i64 k] H = some (.int .i64 (k + 5 * (ahead a a.length : Int)), H) := by
  refine wp.exact (by simp) ?_ rfl
  rw [vcall_go (fn := Try.f89) Try.func89 rfl (by kernel_rfl) rfl]
  have rd := h.1.rd
  have ll := rd.1.len (P := Try.prog) (ty := 57) (by simp)
  have el := rd.2.1
  rw [mSS_len] at el
  rw [el] at ll
  simp
  refine wp_inv (fun m t H' => ∃ i : Nat, m = a.length - i ∧ i ≤ a.length ∧ t 0 = v.1 ∧ t 1 = .int .i64 (k + 5 * (ahead a i : Int)) ∧ t 5 = .int .i64 i ∧ H' = H) ?_ (n := a.length) ⟨0, rfl, by omega, by simp, by simp [ahead], by simp, rfl⟩
  rintro m t H' ⟨i, rfl, hi, t0, t1, t5, rfl⟩ ih
  simp [t0, t1, t5, ll]
  refine wp_dec ?_ ?_ <;> intro g
  · have hi' : i < a.length := by omega
    obtain ⟨u, _, a2, a3, a4⟩ := RdL_at rd (ty := 57) (e := 123) (by simp) (by simp) (j := i) (by simpa using hi')
    rw [mSS_get k a a.length hi'] at a4
    have al := ahead_le a h2 i (by omega)
    have asx := ahead_succ a hi'
    have hm := h2 _ (List.getElem_mem hi')
    have hg : a.getD i [] = a[i] := by simp [List.getD_eq_getElem?_getD, hi']
    rw [hg] at a4 asx
    have hh := fun F => heldFlitS_c (frz := F) u a[i].length _ a4 hm ⟨by omega, by omega⟩
    have f0 : ¬ k + 5 * (ahead a i : Int) + 5 * (a[i].length : Int) < 0 := by omega
    simp [t0, t1, t5, a2, a3, hh, f0]
    refine ih (a.length - (i + 1)) _ _ ⟨i + 1, rfl, by omega, by simp [t0], ?_, ?_, rfl⟩ (by omega)
    · simp; rw [asx]; omega
    · simp; rw [w64 (by omega) (by omega)]
  · have : i = a.length := by omega
    subst this
    simp [t0, t1, t5]
theorem markFlitSS_d {v : SSV} {a : SSD} {k : Int} (h : dSS.Ow H v a) (hd : (dSS.ids v).Nodup) (hk : 0 ≤ k ∧ k ≤ 2305843009213693952) (hf : ∀ i ∈ dSS.ids v, frz ≤ i) :
    wp (vcall C frz 84 [v.1, .int .i64 k] H) (Marks 1125899906842624 dSS 89 H v a k) := by
  rw [vcall_go (fn := Try.f84) Try.func84 rfl (by kernel_rfl) rfl]
  obtain ⟨ho, h1, h2⟩ := h
  simp
  refine wp_inv (fun m t H' => ∃ i : Nat, m = a.length - i ∧ i ≤ a.length ∧ t 0 = v.1 ∧ t 1 = .int .i64 (k + 5 * (ahead a i : Int)) ∧ t 5 = .int .i64 i ∧ OwL flF 134 123 H' v.1 v.2 (mSS k a i ++ a.drop i) ∧ Chg H H' (dSS.ids v)) ?_ (n := a.length)
    ⟨0, rfl, by omega, by simp, by simp [ahead], by simp, by simpa [mSS] using ho, Chg.refl _⟩
  rintro m t H' ⟨i, rfl, hi, t0, t1, t5, o, c⟩ ih
  have rd := o.rd
  have ll := rd.1.len (P := Try.prog) (ty := 57) (by simp)
  have el := rd.2.1
  have hll : (mSS k a i ++ a.drop i).length = a.length := by simp; omega
  rw [hll] at el
  rw [el] at ll
  simp [t0, t1, t5, ll]
  refine wp_dec ?_ ?_ <;> intro g
  · have hi' : i < a.length := by omega
    have hset := mSS_set k a hi'
    have hget : (mSS k a i ++ a.drop i)[i]'(by omega) = a[i] := by rw [List.getElem_append_right (by simp)]; simp
    obtain ⟨u, a1, a2, a3, a4⟩ := RdL_at rd (ty := 57) (e := 123) (by simp) (by simp) (j := i) (by omega)
    have al := ahead_le a h2 i (by omega)
    have asx := ahead_succ a hi'
    have hm := h2 _ (List.getElem_mem hi')
    have hg : a.getD i [] = a[i] := by simp [List.getD_eq_getElem?_getD, hi']
    rw [hg] at asx hset
    have ou : Ow flF 134 H' u a[i] := o.2.2 i u _ a1 (by rw [List.getElem?_eq_getElem (by omega), hget])
    have hfu : ∀ x ∈ ids u, frz ≤ x := fun x hx => hf x (mem_idsL a1 hx)
    simp [t0, t1, t5, a2, a3]
    refine wp_thn (markFlitS_w u a[i] _ _ ou hm ⟨by omega, by omega⟩ hfu) ?_
    rintro _ H1 ⟨rfl, o1, c1, l1⟩
    simp [t0, t1, t5]
    refine ih (a.length - (i + 1)) _ _ ⟨i + 1, rfl, by omega, by simp [t0], ?_, ?_, ?_, c.trans (c1.mono fun x hx => mem_idsL a1 hx)⟩ (by omega)
    · simp; rw [asx]; omega
    · simp; rw [w64 (by omega) (by omega)]
    · rw [← hset]; exact OwL_upd o (by omega) a1 c1 o1 hd
  · have : i = a.length := by omega
    subst this
    have al := ahead_le a h2 a.length (by omega)
    simp [t0, t1, t5]
    have hob : dSS.Ow H' v (mSS k a a.length) := ⟨by simpa using o, by simpa using h1, fun xs hx => by
      obtain ⟨j, hj, rfl⟩ := List.mem_iff_getElem.1 hx
      have hj' : j < a.length := by simpa using hj
      rw [mSS_get k a a.length hj', marksF_len]
      have : a.getD j [] = a[j] := by simp [List.getD_eq_getElem?_getD, hj']
      rw [this]; exact h2 _ (List.getElem_mem hj')⟩
    exact ⟨5 * (ahead a a.length : Int), mSS k a a.length, rfl, by omega, rfl, hob, c, fun F H2 h3 => heldFlitSS_c v a k h3 h1 h2 hk⟩
end Go.Proofs.Ytcigpclbhfkgaaa.V
/-! Marks: networks. -/
set_option linter.all false
namespace Go.Proofs.Ytcigpclbhfkgaaa.V
open Go Go.VM Go.Proofs
set_option maxRecDepth 10000
variable {frz : Nat} {H : Heap}
theorem markNet_d {v : NetV} {a : NetD} {k : Int} (h : dNet.Ow H v a) (hd : (dNet.ids v).Nodup) (hk : 0 ≤ k ∧ k ≤ 1152921504606846976) (hf : ∀ i ∈ dNet.ids v, frz ≤ i) :
    wp (vcall C frz 37 [dNet.val v a, .int .i64 k] H) (Marks 4503599627370496 dNet 39 H v a k) := by
  have ones := dNet_one h
  obtain ⟨v1, v2, v3, v4, v5, v6, v7, v8⟩ := v
  obtain ⟨⟨w, g, b⟩, a2, a3, a4, a5, a6, a7, tm⟩ := a
  obtain ⟨h1, h2, h3, h4, h5, h6, h7, _⟩ := h
  simp only at h1 h2 h3 h4 h5 h6 h7 ones
  rw [dNet_val]
  rw [vcall_go (fn := Try.f37) Try.func37 rfl (by kernel_rfl) rfl]
  have rest7 : dNet.ids (v1, v2, v3, v4, v5, v6, v7, v8) = dMesh.ids v1 ++ (dClasses.ids v2 ++ (dSS.ids v3 ++ (dIntS.ids v4 ++ (dIntS.ids v5 ++ (dSS.ids v6 ++ (dSS.ids v7 ++ [])))))) := rfl
  rw [rest7] at hd hf
  obtain ⟨d1, r1, x1⟩ := List.nodup_append.1 hd
  obtain ⟨d2, r2, x2⟩ := List.nodup_append.1 r1
  obtain ⟨d3, r3, x3⟩ := List.nodup_append.1 r2
  obtain ⟨d4, r4, x4⟩ := List.nodup_append.1 r3
  obtain ⟨d5, r5, x5⟩ := List.nodup_append.1 r4
  obtain ⟨d6, r6, x6⟩ := List.nodup_append.1 r5
  obtain ⟨d7, r7, x7⟩ := List.nodup_append.1 r6
  have in1 : ∀ i ∈ dMesh.ids v1, i ∈ dMesh.ids v1 ++ (dClasses.ids v2 ++ (dSS.ids v3 ++ (dIntS.ids v4 ++ (dIntS.ids v5 ++ (dSS.ids v6 ++ (dSS.ids v7 ++ [])))))) := fun i hi => List.mem_append.2 (.inl hi)
  have in2 : ∀ i ∈ dClasses.ids v2, i ∈ dMesh.ids v1 ++ (dClasses.ids v2 ++ (dSS.ids v3 ++ (dIntS.ids v4 ++ (dIntS.ids v5 ++ (dSS.ids v6 ++ (dSS.ids v7 ++ [])))))) := fun i hi => List.mem_append.2 (.inr (List.mem_append.2 (.inl hi)))
  have in3 : ∀ i ∈ dSS.ids v3, i ∈ dMesh.ids v1 ++ (dClasses.ids v2 ++ (dSS.ids v3 ++ (dIntS.ids v4 ++ (dIntS.ids v5 ++ (dSS.ids v6 ++ (dSS.ids v7 ++ [])))))) := fun i hi => List.mem_append.2 (.inr (List.mem_append.2 (.inr (List.mem_append.2 (.inl hi)))))
  have in4 : ∀ i ∈ dIntS.ids v4, i ∈ dMesh.ids v1 ++ (dClasses.ids v2 ++ (dSS.ids v3 ++ (dIntS.ids v4 ++ (dIntS.ids v5 ++ (dSS.ids v6 ++ (dSS.ids v7 ++ [])))))) := fun i hi => List.mem_append.2 (.inr (List.mem_append.2 (.inr (List.mem_append.2 (.inr (List.mem_append.2 (.inl hi)))))))
  have in5 : ∀ i ∈ dIntS.ids v5, i ∈ dMesh.ids v1 ++ (dClasses.ids v2 ++ (dSS.ids v3 ++ (dIntS.ids v4 ++ (dIntS.ids v5 ++ (dSS.ids v6 ++ (dSS.ids v7 ++ [])))))) := fun i hi => List.mem_append.2 (.inr (List.mem_append.2 (.inr (List.mem_append.2 (.inr (List.mem_append.2 (.inr (List.mem_append.2 (.inl hi)))))))))
  have in6 : ∀ i ∈ dSS.ids v6, i ∈ dMesh.ids v1 ++ (dClasses.ids v2 ++ (dSS.ids v3 ++ (dIntS.ids v4 ++ (dIntS.ids v5 ++ (dSS.ids v6 ++ (dSS.ids v7 ++ [])))))) := fun i hi => List.mem_append.2 (.inr (List.mem_append.2 (.inr (List.mem_append.2 (.inr (List.mem_append.2 (.inr (List.mem_append.2 (.inr (List.mem_append.2 (.inl hi)))))))))))
  have in7 : ∀ i ∈ dSS.ids v7, i ∈ dMesh.ids v1 ++ (dClasses.ids v2 ++ (dSS.ids v3 ++ (dIntS.ids v4 ++ (dIntS.ids v5 ++ (dSS.ids v6 ++ (dSS.ids v7 ++ [])))))) := fun i hi => List.mem_append.2 (.inr (List.mem_append.2 (.inr (List.mem_append.2 (.inr (List.mem_append.2 (.inr (List.mem_append.2 (.inr (List.mem_append.2 (.inr (List.mem_append.2 (.inl hi)))))))))))))
  have lt1 := dMesh.lt h1
  have lt2 := dClasses.lt h2
  have lt3 := dSS.lt h3
  have lt4 := dIntS.lt h4
  have lt5 := dIntS.lt h5
  have lt6 := dSS.lt h6
  have lt7 := dSS.lt h7
  have z2_1 : ∀ i ∈ dClasses.ids v2, i ∉ dMesh.ids v1 := fun i hi hh => x1 i hh i (List.mem_append.2 (.inl hi)) rfl
  have z1_2 : ∀ i ∈ dMesh.ids v1, i ∉ dClasses.ids v2 := fun i hh hi => x1 i hh i (List.mem_append.2 (.inl hi)) rfl
  have z3_1 : ∀ i ∈ dSS.ids v3, i ∉ dMesh.ids v1 := fun i hi hh => x1 i hh i (List.mem_append.2 (.inr (List.mem_append.2 (.inl hi)))) rfl
  have z1_3 : ∀ i ∈ dMesh.ids v1, i ∉ dSS.ids v3 := fun i hh hi => x1 i hh i (List.mem_append.2 (.inr (List.mem_append.2 (.inl hi)))) rfl
  have z4_1 : ∀ i ∈ dIntS.ids v4, i ∉ dMesh.ids v1 := fun i hi hh => x1 i hh i (List.mem_append.2 (.inr (List.mem_append.2 (.inr (List.mem_append.2 (.inl hi)))))) rfl
  have z1_4 : ∀ i ∈ dMesh.ids v1, i ∉ dIntS.ids v4 := fun i hh hi => x1 i hh i (List.mem_append.2 (.inr (List.mem_append.2 (.inr (List.mem_append.2 (.inl hi)))))) rfl
  have z5_1 : ∀ i ∈ dIntS.ids v5, i ∉ dMesh.ids v1 := fun i hi hh => x1 i hh i (List.mem_append.2 (.inr (List.mem_append.2 (.inr (List.mem_append.2 (.inr (List.mem_append.2 (.inl hi)))))))) rfl
  have z1_5 : ∀ i ∈ dMesh.ids v1, i ∉ dIntS.ids v5 := fun i hh hi => x1 i hh i (List.mem_append.2 (.inr (List.mem_append.2 (.inr (List.mem_append.2 (.inr (List.mem_append.2 (.inl hi)))))))) rfl
  have z6_1 : ∀ i ∈ dSS.ids v6, i ∉ dMesh.ids v1 := fun i hi hh => x1 i hh i (List.mem_append.2 (.inr (List.mem_append.2 (.inr (List.mem_append.2 (.inr (List.mem_append.2 (.inr (List.mem_append.2 (.inl hi)))))))))) rfl
  have z1_6 : ∀ i ∈ dMesh.ids v1, i ∉ dSS.ids v6 := fun i hh hi => x1 i hh i (List.mem_append.2 (.inr (List.mem_append.2 (.inr (List.mem_append.2 (.inr (List.mem_append.2 (.inr (List.mem_append.2 (.inl hi)))))))))) rfl
  have z7_1 : ∀ i ∈ dSS.ids v7, i ∉ dMesh.ids v1 := fun i hi hh => x1 i hh i (List.mem_append.2 (.inr (List.mem_append.2 (.inr (List.mem_append.2 (.inr (List.mem_append.2 (.inr (List.mem_append.2 (.inr (List.mem_append.2 (.inl hi)))))))))))) rfl
  have z1_7 : ∀ i ∈ dMesh.ids v1, i ∉ dSS.ids v7 := fun i hh hi => x1 i hh i (List.mem_append.2 (.inr (List.mem_append.2 (.inr (List.mem_append.2 (.inr (List.mem_append.2 (.inr (List.mem_append.2 (.inr (List.mem_append.2 (.inl hi)))))))))))) rfl
  have z3_2 : ∀ i ∈ dSS.ids v3, i ∉ dClasses.ids v2 := fun i hi hh => x2 i hh i (List.mem_append.2 (.inl hi)) rfl
  have z2_3 : ∀ i ∈ dClasses.ids v2, i ∉ dSS.ids v3 := fun i hh hi => x2 i hh i (List.mem_append.2 (.inl hi)) rfl
  have z4_2 : ∀ i ∈ dIntS.ids v4, i ∉ dClasses.ids v2 := fun i hi hh => x2 i hh i (List.mem_append.2 (.inr (List.mem_append.2 (.inl hi)))) rfl
  have z2_4 : ∀ i ∈ dClasses.ids v2, i ∉ dIntS.ids v4 := fun i hh hi => x2 i hh i (List.mem_append.2 (.inr (List.mem_append.2 (.inl hi)))) rfl
  have z5_2 : ∀ i ∈ dIntS.ids v5, i ∉ dClasses.ids v2 := fun i hi hh => x2 i hh i (List.mem_append.2 (.inr (List.mem_append.2 (.inr (List.mem_append.2 (.inl hi)))))) rfl
  have z2_5 : ∀ i ∈ dClasses.ids v2, i ∉ dIntS.ids v5 := fun i hh hi => x2 i hh i (List.mem_append.2 (.inr (List.mem_append.2 (.inr (List.mem_append.2 (.inl hi)))))) rfl
  have z6_2 : ∀ i ∈ dSS.ids v6, i ∉ dClasses.ids v2 := fun i hi hh => x2 i hh i (List.mem_append.2 (.inr (List.mem_append.2 (.inr (List.mem_append.2 (.inr (List.mem_append.2 (.inl hi)))))))) rfl
  have z2_6 : ∀ i ∈ dClasses.ids v2, i ∉ dSS.ids v6 := fun i hh hi => x2 i hh i (List.mem_append.2 (.inr (List.mem_append.2 (.inr (List.mem_append.2 (.inr (List.mem_append.2 (.inl hi)))))))) rfl
  have z7_2 : ∀ i ∈ dSS.ids v7, i ∉ dClasses.ids v2 := fun i hi hh => x2 i hh i (List.mem_append.2 (.inr (List.mem_append.2 (.inr (List.mem_append.2 (.inr (List.mem_append.2 (.inr (List.mem_append.2 (.inl hi)))))))))) rfl
  have z2_7 : ∀ i ∈ dClasses.ids v2, i ∉ dSS.ids v7 := fun i hh hi => x2 i hh i (List.mem_append.2 (.inr (List.mem_append.2 (.inr (List.mem_append.2 (.inr (List.mem_append.2 (.inr (List.mem_append.2 (.inl hi)))))))))) rfl
  have z4_3 : ∀ i ∈ dIntS.ids v4, i ∉ dSS.ids v3 := fun i hi hh => x3 i hh i (List.mem_append.2 (.inl hi)) rfl
  have z3_4 : ∀ i ∈ dSS.ids v3, i ∉ dIntS.ids v4 := fun i hh hi => x3 i hh i (List.mem_append.2 (.inl hi)) rfl
  have z5_3 : ∀ i ∈ dIntS.ids v5, i ∉ dSS.ids v3 := fun i hi hh => x3 i hh i (List.mem_append.2 (.inr (List.mem_append.2 (.inl hi)))) rfl
  have z3_5 : ∀ i ∈ dSS.ids v3, i ∉ dIntS.ids v5 := fun i hh hi => x3 i hh i (List.mem_append.2 (.inr (List.mem_append.2 (.inl hi)))) rfl
  have z6_3 : ∀ i ∈ dSS.ids v6, i ∉ dSS.ids v3 := fun i hi hh => x3 i hh i (List.mem_append.2 (.inr (List.mem_append.2 (.inr (List.mem_append.2 (.inl hi)))))) rfl
  have z3_6 : ∀ i ∈ dSS.ids v3, i ∉ dSS.ids v6 := fun i hh hi => x3 i hh i (List.mem_append.2 (.inr (List.mem_append.2 (.inr (List.mem_append.2 (.inl hi)))))) rfl
  have z7_3 : ∀ i ∈ dSS.ids v7, i ∉ dSS.ids v3 := fun i hi hh => x3 i hh i (List.mem_append.2 (.inr (List.mem_append.2 (.inr (List.mem_append.2 (.inr (List.mem_append.2 (.inl hi)))))))) rfl
  have z3_7 : ∀ i ∈ dSS.ids v3, i ∉ dSS.ids v7 := fun i hh hi => x3 i hh i (List.mem_append.2 (.inr (List.mem_append.2 (.inr (List.mem_append.2 (.inr (List.mem_append.2 (.inl hi)))))))) rfl
  have z5_4 : ∀ i ∈ dIntS.ids v5, i ∉ dIntS.ids v4 := fun i hi hh => x4 i hh i (List.mem_append.2 (.inl hi)) rfl
  have z4_5 : ∀ i ∈ dIntS.ids v4, i ∉ dIntS.ids v5 := fun i hh hi => x4 i hh i (List.mem_append.2 (.inl hi)) rfl
  have z6_4 : ∀ i ∈ dSS.ids v6, i ∉ dIntS.ids v4 := fun i hi hh => x4 i hh i (List.mem_append.2 (.inr (List.mem_append.2 (.inl hi)))) rfl
  have z4_6 : ∀ i ∈ dIntS.ids v4, i ∉ dSS.ids v6 := fun i hh hi => x4 i hh i (List.mem_append.2 (.inr (List.mem_append.2 (.inl hi)))) rfl
  have z7_4 : ∀ i ∈ dSS.ids v7, i ∉ dIntS.ids v4 := fun i hi hh => x4 i hh i (List.mem_append.2 (.inr (List.mem_append.2 (.inr (List.mem_append.2 (.inl hi)))))) rfl
  have z4_7 : ∀ i ∈ dIntS.ids v4, i ∉ dSS.ids v7 := fun i hh hi => x4 i hh i (List.mem_append.2 (.inr (List.mem_append.2 (.inr (List.mem_append.2 (.inl hi)))))) rfl
  have z6_5 : ∀ i ∈ dSS.ids v6, i ∉ dIntS.ids v5 := fun i hi hh => x5 i hh i (List.mem_append.2 (.inl hi)) rfl
  have z5_6 : ∀ i ∈ dIntS.ids v5, i ∉ dSS.ids v6 := fun i hh hi => x5 i hh i (List.mem_append.2 (.inl hi)) rfl
  have z7_5 : ∀ i ∈ dSS.ids v7, i ∉ dIntS.ids v5 := fun i hi hh => x5 i hh i (List.mem_append.2 (.inr (List.mem_append.2 (.inl hi)))) rfl
  have z5_7 : ∀ i ∈ dIntS.ids v5, i ∉ dSS.ids v7 := fun i hh hi => x5 i hh i (List.mem_append.2 (.inr (List.mem_append.2 (.inl hi)))) rfl
  have z7_6 : ∀ i ∈ dSS.ids v7, i ∉ dSS.ids v6 := fun i hi hh => x6 i hh i (List.mem_append.2 (.inl hi)) rfl
  have z6_7 : ∀ i ∈ dSS.ids v6, i ∉ dSS.ids v7 := fun i hh hi => x6 i hh i (List.mem_append.2 (.inl hi)) rfl
  clear rest7
  simp [ones]
  obtain ⟨G0, hG0⟩ : ∃ G, G = H ++ [⟨[.int .i64 w, .int .i64 g, v1, v2.1, v2.2, v3.1, v4, v5, v6.1, v7.1, .int .i64 tm], 0, 59⟩] := ⟨_, rfl⟩
  have b0 : G0[H.length]? = some ⟨[.int .i64 w, .int .i64 g, v1, v2.1, v2.2, v3.1, v4, v5, v6.1, v7.1, .int .i64 tm], 0, 59⟩ := by rw [hG0]; simp
  have cH : Chg H G0 (dNet.ids (v1, v2, v3, v4, v5, v6, v7, v8)) := by rw [hG0]; exact Chg.app _
  have h1 := (by rw [hG0]; exact Dt.app (T := dMesh) h1 : dMesh.Ow G0 v1 (w, g, b))
  have h2 := (by rw [hG0]; exact Dt.app (T := dClasses) h2 : dClasses.Ow G0 v2 a2)
  have h3 := (by rw [hG0]; exact Dt.app (T := dSS) h3 : dSS.Ow G0 v3 a3)
  have h4 := (by rw [hG0]; exact Dt.app (T := dIntS) h4 : dIntS.Ow G0 v4 a4)
  have h5 := (by rw [hG0]; exact Dt.app (T := dIntS) h5 : dIntS.Ow G0 v5 a5)
  have h6 := (by rw [hG0]; exact Dt.app (T := dSS) h6 : dSS.Ow G0 v6 a6)
  have h7 := (by rw [hG0]; exact Dt.app (T := dSS) h7 : dSS.Ow G0 v7 a7)
  rw [← hG0]
  clear hG0
  have m1 := markMesh_d (frz := frz) (k := k) h1 d1 (by omega) (fun i hi => hf i (in1 i hi))
  simp only [dMesh_val] at m1
  try simp [VM.look, b0, ones]
  refine wp_thn m1 ?_
  rintro _ G1 ⟨n1, a1', rfl, hn1, hv1, o1, c1, he1⟩
  clear m1
  have b0 := box_chg b0 c1 (fun hh => by have := lt1 _ hh; omega)
  have h2 := Dt.chg (T := dClasses) h2 c1 z2_1
  have h3 := Dt.chg (T := dSS) h3 c1 z3_1
  have h4 := Dt.chg (T := dIntS) h4 c1 z4_1
  have h5 := Dt.chg (T := dIntS) h5 c1 z5_1
  have h6 := Dt.chg (T := dSS) h6 c1 z6_1
  have h7 := Dt.chg (T := dSS) h7 c1 z7_1
  have cH := cH.trans (c1.mono in1)
  have m2 := markClasses_d (frz := frz) (k := k + n1) h2 d2 (by omega) (fun i hi => hf i (in2 i hi))
  simp only [dClasses_val] at m2
  simp [VM.look, b0, ones]
  refine wp_thn m2 ?_
  rintro _ G2 ⟨n2, a2', rfl, hn2, hv2, o2, c2, he2⟩
  clear m2
  have b0 := box_chg b0 c2 (fun hh => by have := lt2 _ hh; omega)
  have o1 := Dt.chg (T := dMesh) o1 c2 z1_2
  have h3 := Dt.chg (T := dSS) h3 c2 z3_2
  have h4 := Dt.chg (T := dIntS) h4 c2 z4_2
  have h5 := Dt.chg (T := dIntS) h5 c2 z5_2
  have h6 := Dt.chg (T := dSS) h6 c2 z6_2
  have h7 := Dt.chg (T := dSS) h7 c2 z7_2
  have cH := cH.trans (c2.mono in2)
  have m3 := markFlitSS_d (frz := frz) (k := k + n1 + n2) h3 d3 (by omega) (fun i hi => hf i (in3 i hi))
  simp [VM.look, b0, ones]
  refine wp_thn m3 ?_
  rintro _ G3 ⟨n3, a3', rfl, hn3, hv3, o3, c3, he3⟩
  clear m3
  have b0 := box_chg b0 c3 (fun hh => by have := lt3 _ hh; omega)
  have o1 := Dt.chg (T := dMesh) o1 c3 z1_3
  have o2 := Dt.chg (T := dClasses) o2 c3 z2_3
  have h4 := Dt.chg (T := dIntS) h4 c3 z4_3
  have h5 := Dt.chg (T := dIntS) h5 c3 z5_3
  have h6 := Dt.chg (T := dSS) h6 c3 z6_3
  have h7 := Dt.chg (T := dSS) h7 c3 z7_3
  have cH := cH.trans (c3.mono in3)
  have m4 := markIntS_d (frz := frz) (k := k + n1 + n2 + n3) h4 d4 (by omega) (fun i hi => hf i (in4 i hi))
  simp [VM.look, b0, ones]
  refine wp_thn m4 ?_
  rintro _ G4 ⟨n4, a4', rfl, hn4, hv4, o4, c4, he4⟩
  clear m4
  have b0 := box_chg b0 c4 (fun hh => by have := lt4 _ hh; omega)
  have o1 := Dt.chg (T := dMesh) o1 c4 z1_4
  have o2 := Dt.chg (T := dClasses) o2 c4 z2_4
  have o3 := Dt.chg (T := dSS) o3 c4 z3_4
  have h5 := Dt.chg (T := dIntS) h5 c4 z5_4
  have h6 := Dt.chg (T := dSS) h6 c4 z6_4
  have h7 := Dt.chg (T := dSS) h7 c4 z7_4
  have cH := cH.trans (c4.mono in4)
  have m5 := markIntS_d (frz := frz) (k := k + n1 + n2 + n3 + n4) h5 d5 (by omega) (fun i hi => hf i (in5 i hi))
  simp [VM.look, b0, ones]
  refine wp_thn m5 ?_
  rintro _ G5 ⟨n5, a5', rfl, hn5, hv5, o5, c5, he5⟩
  clear m5
  have b0 := box_chg b0 c5 (fun hh => by have := lt5 _ hh; omega)
  have o1 := Dt.chg (T := dMesh) o1 c5 z1_5
  have o2 := Dt.chg (T := dClasses) o2 c5 z2_5
  have o3 := Dt.chg (T := dSS) o3 c5 z3_5
  have o4 := Dt.chg (T := dIntS) o4 c5 z4_5
  have h6 := Dt.chg (T := dSS) h6 c5 z6_5
  have h7 := Dt.chg (T := dSS) h7 c5 z7_5
  have cH := cH.trans (c5.mono in5)
  have m6 := markFlitSS_d (frz := frz) (k := k + n1 + n2 + n3 + n4 + n5) h6 d6 (by omega) (fun i hi => hf i (in6 i hi))
  simp [VM.look, b0, ones]
  refine wp_thn m6 ?_
  rintro _ G6 ⟨n6, a6', rfl, hn6, hv6, o6, c6, he6⟩
  clear m6
  have b0 := box_chg b0 c6 (fun hh => by have := lt6 _ hh; omega)
  have o1 := Dt.chg (T := dMesh) o1 c6 z1_6
  have o2 := Dt.chg (T := dClasses) o2 c6 z2_6
  have o3 := Dt.chg (T := dSS) o3 c6 z3_6
  have o4 := Dt.chg (T := dIntS) o4 c6 z4_6
  have o5 := Dt.chg (T := dIntS) o5 c6 z5_6
  have h7 := Dt.chg (T := dSS) h7 c6 z7_6
  have cH := cH.trans (c6.mono in6)
  have m7 := markFlitSS_d (frz := frz) (k := k + n1 + n2 + n3 + n4 + n5 + n6) h7 d7 (by omega) (fun i hi => hf i (in7 i hi))
  simp [VM.look, b0, ones]
  refine wp_thn m7 ?_
  rintro _ G7 ⟨n7, a7', rfl, hn7, hv7, o7, c7, he7⟩
  clear m7
  have b0 := box_chg b0 c7 (fun hh => by have := lt7 _ hh; omega)
  have o1 := Dt.chg (T := dMesh) o1 c7 z1_7
  have o2 := Dt.chg (T := dClasses) o2 c7 z2_7
  have o3 := Dt.chg (T := dSS) o3 c7 z3_7
  have o4 := Dt.chg (T := dIntS) o4 c7 z4_7
  have o5 := Dt.chg (T := dIntS) o5 c7 z5_7
  have o6 := Dt.chg (T := dSS) o6 c7 z6_7
  have cH := cH.trans (c7.mono in7)
  try simp
  obtain ⟨e1, e2⟩ : a1'.1 = w ∧ a1'.2.1 = g := by simpa [dMesh_val] using hv1
  refine ⟨n1 + n2 + n3 + n4 + n5 + n6 + n7, (a1', a2', a3', a4', a5', a6', a7', tm), by congr 1; omega, by omega, by rw [dNet_val, dNet_val]; simp [e1, e2], ⟨o1, o2, o3, o4, o5, o6, o7, trivial⟩, cH, fun F H3 q => ?_⟩
  obtain ⟨p1, p2, p3, p4, p5, p6, p7, _⟩ := q
  simp only at p1 p2 p3 p4 p5 p6 p7
  rw [dNet_val]
  simp only [e1, e2]
  rw [vcall_go (fn := Try.f39) Try.func39 rfl (by kernel_rfl) rfl]
  have y1 := fun F => he1 F (H3 ++ [⟨[.int .i64 w, .int .i64 g, v1, v2.1, v2.2, v3.1, v4, v5, v6.1, v7.1, .int .i64 tm], 0, 59⟩]) (Dt.app (T := dMesh) p1)
  simp only [dMesh_val, e1, e2] at y1
  have f1 : ¬ k + n1 < 0 := by omega
  have y2 := fun F => he2 F (H3 ++ [⟨[.int .i64 w, .int .i64 g, v1, v2.1, v2.2, v3.1, v4, v5, v6.1, v7.1, .int .i64 tm], 0, 59⟩]) (Dt.app (T := dClasses) p2)
  simp only [dClasses_val] at y2
  have f2 : ¬ k + n1 + n2 < 0 := by omega
  have y3 := fun F => he3 F (H3 ++ [⟨[.int .i64 w, .int .i64 g, v1, v2.1, v2.2, v3.1, v4, v5, v6.1, v7.1, .int .i64 tm], 0, 59⟩]) (Dt.app (T := dSS) p3)
  simp only [show ∀ (v : SSV) (a : SSD), dSS.val v a = v.1 from fun _ _ => rfl] at y3
  have f3 : ¬ k + n1 + n2 + n3 < 0 := by omega
  have y4 := fun F => he4 F (H3 ++ [⟨[.int .i64 w, .int .i64 g, v1, v2.1, v2.2, v3.1, v4, v5, v6.1, v7.1, .int .i64 tm], 0, 59⟩]) (Dt.app (T := dIntS) p4)
  simp only [dIntS_val] at y4
  have f4 : ¬ k + n1 + n2 + n3 + n4 < 0 := by omega
  have y5 := fun F => he5 F (H3 ++ [⟨[.int .i64 w, .int .i64 g, v1, v2.1, v2.2, v3.1, v4, v5, v6.1, v7.1, .int .i64 tm], 0, 59⟩]) (Dt.app (T := dIntS) p5)
  simp only [dIntS_val] at y5
  have f5 : ¬ k + n1 + n2 + n3 + n4 + n5 < 0 := by omega
  have y6 := fun F => he6 F (H3 ++ [⟨[.int .i64 w, .int .i64 g, v1, v2.1, v2.2, v3.1, v4, v5, v6.1, v7.1, .int .i64 tm], 0, 59⟩]) (Dt.app (T := dSS) p6)
  simp only [show ∀ (v : SSV) (a : SSD), dSS.val v a = v.1 from fun _ _ => rfl] at y6
  have f6 : ¬ k + n1 + n2 + n3 + n4 + n5 + n6 < 0 := by omega
  have y7 := fun F => he7 F (H3 ++ [⟨[.int .i64 w, .int .i64 g, v1, v2.1, v2.2, v3.1, v4, v5, v6.1, v7.1, .int .i64 tm], 0, 59⟩]) (Dt.app (T := dSS) p7)
  simp only [show ∀ (v : SSV) (a : SSD), dSS.val v a = v.1 from fun _ _ => rfl] at y7
  have f7 : ¬ k + n1 + n2 + n3 + n4 + n5 + n6 + n7 < 0 := by omega
  simp [ones, y1, f1]
  simp [ones, y2, f2]
  simp [ones, y3, f3]
  simp [ones, y4, f4]
  simp [ones, y5, f5]
  simp [ones, y6, f6]
  simp [ones, y7, f7]
  omega
end Go.Proofs.Ytcigpclbhfkgaaa.V
