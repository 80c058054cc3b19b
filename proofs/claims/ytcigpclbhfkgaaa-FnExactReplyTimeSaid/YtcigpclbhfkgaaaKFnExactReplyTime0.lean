/- Texts of a proof, joined. -/
import Derived.Test.YtcigpclbhfkgaaaProg
import Derived.KernelRfl
import Derived.Test.YtcigpclbhfkgaaaKM0
import Derived.Test.YtcigpclbhfkgaaaKM1
/- What the value machine is told of the program: which functions may change rows, and the types' sizes and places. -/
namespace Go.Proofs.Ytcigpclbhfkgaaa.V
open Go Go.VM Go.Proofs
noncomputable def C : Ctx := { P := Try.prog, mode := fun g => if [33, 37, 38, 74, 83, 84, 85, 86, 97, 99, 134, 151, 152, 154, 156, 174, 182, 185, 187].contains g then 2 else if [15, 22, 27, 30, 32, 35, 36, 45, 46, 62, 67, 70, 71, 72, 73, 78, 79, 81, 82, 95, 96, 98, 106, 112, 120, 123, 124, 125, 126, 127, 128, 131, 133, 138, 140, 141, 143, 145, 146, 153, 155, 169, 171, 176, 177, 178, 183, 186, 200, 201, 203, 207, 208].contains g then 1 else 0, ext := fun _ => none }
@[simp] theorem CP : C.P = Try.prog := rfl
theorem drawn : DrawOk C := drawOk_holds C (by kernel_rfl)
@[simp] theorem mode0 : C.mode 0 = 0 := rfl
@[simp] theorem mode1 : C.mode 1 = 0 := rfl
@[simp] theorem mode2 : C.mode 2 = 0 := rfl
@[simp] theorem mode3 : C.mode 3 = 0 := rfl
@[simp] theorem mode4 : C.mode 4 = 0 := rfl
@[simp] theorem mode5 : C.mode 5 = 0 := rfl
@[simp] theorem mode6 : C.mode 6 = 0 := rfl
@[simp] theorem mode7 : C.mode 7 = 0 := rfl
@[simp] theorem mode8 : C.mode 8 = 0 := rfl
@[simp] theorem mode9 : C.mode 9 = 0 := rfl
@[simp] theorem mode10 : C.mode 10 = 0 := rfl
@[simp] theorem mode11 : C.mode 11 = 0 := rfl
@[simp] theorem mode12 : C.mode 12 = 0 := rfl
@[simp] theorem mode13 : C.mode 13 = 0 := rfl
@[simp] theorem mode14 : C.mode 14 = 0 := rfl
@[simp] theorem mode15 : C.mode 15 = 1 := rfl
@[simp] theorem mode16 : C.mode 16 = 0 := rfl
@[simp] theorem mode17 : C.mode 17 = 0 := rfl
@[simp] theorem mode18 : C.mode 18 = 0 := rfl
@[simp] theorem mode19 : C.mode 19 = 0 := rfl
@[simp] theorem mode20 : C.mode 20 = 0 := rfl
@[simp] theorem mode21 : C.mode 21 = 0 := rfl
@[simp] theorem mode22 : C.mode 22 = 1 := rfl
@[simp] theorem mode23 : C.mode 23 = 0 := rfl
@[simp] theorem mode24 : C.mode 24 = 0 := rfl
@[simp] theorem mode25 : C.mode 25 = 0 := rfl
@[simp] theorem mode26 : C.mode 26 = 0 := rfl
@[simp] theorem mode27 : C.mode 27 = 1 := rfl
@[simp] theorem mode28 : C.mode 28 = 0 := rfl
@[simp] theorem mode29 : C.mode 29 = 0 := rfl
@[simp] theorem mode30 : C.mode 30 = 1 := rfl
@[simp] theorem mode31 : C.mode 31 = 0 := rfl
@[simp] theorem mode32 : C.mode 32 = 1 := rfl
@[simp] theorem mode33 : C.mode 33 = 2 := rfl
@[simp] theorem mode34 : C.mode 34 = 0 := rfl
@[simp] theorem mode35 : C.mode 35 = 1 := rfl
@[simp] theorem mode36 : C.mode 36 = 1 := rfl
@[simp] theorem mode37 : C.mode 37 = 2 := rfl
@[simp] theorem mode38 : C.mode 38 = 2 := rfl
@[simp] theorem mode39 : C.mode 39 = 0 := rfl
@[simp] theorem mode40 : C.mode 40 = 0 := rfl
@[simp] theorem mode41 : C.mode 41 = 0 := rfl
@[simp] theorem mode42 : C.mode 42 = 0 := rfl
@[simp] theorem mode43 : C.mode 43 = 0 := rfl
@[simp] theorem mode44 : C.mode 44 = 0 := rfl
@[simp] theorem mode45 : C.mode 45 = 1 := rfl
@[simp] theorem mode46 : C.mode 46 = 1 := rfl
@[simp] theorem mode47 : C.mode 47 = 0 := rfl
@[simp] theorem mode48 : C.mode 48 = 0 := rfl
@[simp] theorem mode49 : C.mode 49 = 0 := rfl
@[simp] theorem mode50 : C.mode 50 = 0 := rfl
@[simp] theorem mode51 : C.mode 51 = 0 := rfl
@[simp] theorem mode52 : C.mode 52 = 0 := rfl
@[simp] theorem mode53 : C.mode 53 = 0 := rfl
@[simp] theorem mode54 : C.mode 54 = 0 := rfl
@[simp] theorem mode55 : C.mode 55 = 0 := rfl
@[simp] theorem mode56 : C.mode 56 = 0 := rfl
@[simp] theorem mode57 : C.mode 57 = 0 := rfl
@[simp] theorem mode58 : C.mode 58 = 0 := rfl
@[simp] theorem mode59 : C.mode 59 = 0 := rfl
@[simp] theorem mode60 : C.mode 60 = 0 := rfl
@[simp] theorem mode61 : C.mode 61 = 0 := rfl
@[simp] theorem mode62 : C.mode 62 = 1 := rfl
@[simp] theorem mode63 : C.mode 63 = 0 := rfl
@[simp] theorem mode64 : C.mode 64 = 0 := rfl
@[simp] theorem mode65 : C.mode 65 = 0 := rfl
@[simp] theorem mode66 : C.mode 66 = 0 := rfl
@[simp] theorem mode67 : C.mode 67 = 1 := rfl
@[simp] theorem mode68 : C.mode 68 = 0 := rfl
@[simp] theorem mode69 : C.mode 69 = 0 := rfl
@[simp] theorem mode70 : C.mode 70 = 1 := rfl
@[simp] theorem mode71 : C.mode 71 = 1 := rfl
@[simp] theorem mode72 : C.mode 72 = 1 := rfl
@[simp] theorem mode73 : C.mode 73 = 1 := rfl
@[simp] theorem mode74 : C.mode 74 = 2 := rfl
@[simp] theorem mode75 : C.mode 75 = 0 := rfl
@[simp] theorem mode76 : C.mode 76 = 0 := rfl
@[simp] theorem mode77 : C.mode 77 = 0 := rfl
@[simp] theorem mode78 : C.mode 78 = 1 := rfl
@[simp] theorem mode79 : C.mode 79 = 1 := rfl
@[simp] theorem mode80 : C.mode 80 = 0 := rfl
@[simp] theorem mode81 : C.mode 81 = 1 := rfl
@[simp] theorem mode82 : C.mode 82 = 1 := rfl
@[simp] theorem mode83 : C.mode 83 = 2 := rfl
@[simp] theorem mode84 : C.mode 84 = 2 := rfl
@[simp] theorem mode85 : C.mode 85 = 2 := rfl
@[simp] theorem mode86 : C.mode 86 = 2 := rfl
@[simp] theorem mode87 : C.mode 87 = 0 := rfl
@[simp] theorem mode88 : C.mode 88 = 0 := rfl
@[simp] theorem mode89 : C.mode 89 = 0 := rfl
@[simp] theorem mode90 : C.mode 90 = 0 := rfl
@[simp] theorem mode91 : C.mode 91 = 0 := rfl
@[simp] theorem mode92 : C.mode 92 = 0 := rfl
@[simp] theorem mode93 : C.mode 93 = 0 := rfl
@[simp] theorem mode94 : C.mode 94 = 0 := rfl
@[simp] theorem mode95 : C.mode 95 = 1 := rfl
@[simp] theorem mode96 : C.mode 96 = 1 := rfl
@[simp] theorem mode97 : C.mode 97 = 2 := rfl
@[simp] theorem mode98 : C.mode 98 = 1 := rfl
@[simp] theorem mode99 : C.mode 99 = 2 := rfl
@[simp] theorem mode100 : C.mode 100 = 0 := rfl
@[simp] theorem mode101 : C.mode 101 = 0 := rfl
@[simp] theorem mode102 : C.mode 102 = 0 := rfl
@[simp] theorem mode103 : C.mode 103 = 0 := rfl
@[simp] theorem mode104 : C.mode 104 = 0 := rfl
@[simp] theorem mode105 : C.mode 105 = 0 := rfl
@[simp] theorem mode106 : C.mode 106 = 1 := rfl
@[simp] theorem mode107 : C.mode 107 = 0 := rfl
@[simp] theorem mode108 : C.mode 108 = 0 := rfl
@[simp] theorem mode109 : C.mode 109 = 0 := rfl
@[simp] theorem mode110 : C.mode 110 = 0 := rfl
@[simp] theorem mode111 : C.mode 111 = 0 := rfl
@[simp] theorem mode112 : C.mode 112 = 1 := rfl
@[simp] theorem mode113 : C.mode 113 = 0 := rfl
@[simp] theorem mode114 : C.mode 114 = 0 := rfl
@[simp] theorem mode115 : C.mode 115 = 0 := rfl
@[simp] theorem mode116 : C.mode 116 = 0 := rfl
@[simp] theorem mode117 : C.mode 117 = 0 := rfl
@[simp] theorem mode118 : C.mode 118 = 0 := rfl
@[simp] theorem mode119 : C.mode 119 = 0 := rfl
@[simp] theorem mode120 : C.mode 120 = 1 := rfl
@[simp] theorem mode121 : C.mode 121 = 0 := rfl
@[simp] theorem mode122 : C.mode 122 = 0 := rfl
@[simp] theorem mode123 : C.mode 123 = 1 := rfl
@[simp] theorem mode124 : C.mode 124 = 1 := rfl
@[simp] theorem mode125 : C.mode 125 = 1 := rfl
@[simp] theorem mode126 : C.mode 126 = 1 := rfl
@[simp] theorem mode127 : C.mode 127 = 1 := rfl
@[simp] theorem mode128 : C.mode 128 = 1 := rfl
@[simp] theorem mode129 : C.mode 129 = 0 := rfl
@[simp] theorem mode130 : C.mode 130 = 0 := rfl
@[simp] theorem mode131 : C.mode 131 = 1 := rfl
@[simp] theorem mode132 : C.mode 132 = 0 := rfl
@[simp] theorem mode133 : C.mode 133 = 1 := rfl
@[simp] theorem mode134 : C.mode 134 = 2 := rfl
@[simp] theorem mode135 : C.mode 135 = 0 := rfl
@[simp] theorem mode136 : C.mode 136 = 0 := rfl
@[simp] theorem mode137 : C.mode 137 = 0 := rfl
@[simp] theorem mode138 : C.mode 138 = 1 := rfl
@[simp] theorem mode139 : C.mode 139 = 0 := rfl
@[simp] theorem mode140 : C.mode 140 = 1 := rfl
@[simp] theorem mode141 : C.mode 141 = 1 := rfl
@[simp] theorem mode142 : C.mode 142 = 0 := rfl
@[simp] theorem mode143 : C.mode 143 = 1 := rfl
@[simp] theorem mode144 : C.mode 144 = 0 := rfl
@[simp] theorem mode145 : C.mode 145 = 1 := rfl
@[simp] theorem mode146 : C.mode 146 = 1 := rfl
@[simp] theorem mode147 : C.mode 147 = 0 := rfl
@[simp] theorem mode148 : C.mode 148 = 0 := rfl
@[simp] theorem mode149 : C.mode 149 = 0 := rfl
@[simp] theorem mode150 : C.mode 150 = 0 := rfl
@[simp] theorem mode151 : C.mode 151 = 2 := rfl
@[simp] theorem mode152 : C.mode 152 = 2 := rfl
@[simp] theorem mode153 : C.mode 153 = 1 := rfl
@[simp] theorem mode154 : C.mode 154 = 2 := rfl
@[simp] theorem mode155 : C.mode 155 = 1 := rfl
@[simp] theorem mode156 : C.mode 156 = 2 := rfl
@[simp] theorem mode157 : C.mode 157 = 0 := rfl
@[simp] theorem mode158 : C.mode 158 = 0 := rfl
@[simp] theorem mode159 : C.mode 159 = 0 := rfl
@[simp] theorem mode160 : C.mode 160 = 0 := rfl
@[simp] theorem mode161 : C.mode 161 = 0 := rfl
@[simp] theorem mode162 : C.mode 162 = 0 := rfl
@[simp] theorem mode163 : C.mode 163 = 0 := rfl
@[simp] theorem mode164 : C.mode 164 = 0 := rfl
@[simp] theorem mode165 : C.mode 165 = 0 := rfl
@[simp] theorem mode166 : C.mode 166 = 0 := rfl
@[simp] theorem mode167 : C.mode 167 = 0 := rfl
@[simp] theorem mode168 : C.mode 168 = 0 := rfl
@[simp] theorem mode169 : C.mode 169 = 1 := rfl
@[simp] theorem mode170 : C.mode 170 = 0 := rfl
@[simp] theorem mode171 : C.mode 171 = 1 := rfl
@[simp] theorem mode172 : C.mode 172 = 0 := rfl
@[simp] theorem mode173 : C.mode 173 = 0 := rfl
@[simp] theorem mode174 : C.mode 174 = 2 := rfl
@[simp] theorem mode175 : C.mode 175 = 0 := rfl
@[simp] theorem mode176 : C.mode 176 = 1 := rfl
@[simp] theorem mode177 : C.mode 177 = 1 := rfl
@[simp] theorem mode178 : C.mode 178 = 1 := rfl
@[simp] theorem mode179 : C.mode 179 = 0 := rfl
@[simp] theorem mode180 : C.mode 180 = 0 := rfl
@[simp] theorem mode181 : C.mode 181 = 0 := rfl
@[simp] theorem mode182 : C.mode 182 = 2 := rfl
@[simp] theorem mode183 : C.mode 183 = 1 := rfl
@[simp] theorem mode184 : C.mode 184 = 0 := rfl
@[simp] theorem mode185 : C.mode 185 = 2 := rfl
@[simp] theorem mode186 : C.mode 186 = 1 := rfl
@[simp] theorem mode187 : C.mode 187 = 2 := rfl
@[simp] theorem mode188 : C.mode 188 = 0 := rfl
@[simp] theorem mode189 : C.mode 189 = 0 := rfl
@[simp] theorem mode190 : C.mode 190 = 0 := rfl
@[simp] theorem mode191 : C.mode 191 = 0 := rfl
@[simp] theorem mode192 : C.mode 192 = 0 := rfl
@[simp] theorem mode193 : C.mode 193 = 0 := rfl
@[simp] theorem mode194 : C.mode 194 = 0 := rfl
@[simp] theorem mode195 : C.mode 195 = 0 := rfl
@[simp] theorem mode196 : C.mode 196 = 0 := rfl
@[simp] theorem mode197 : C.mode 197 = 0 := rfl
@[simp] theorem mode198 : C.mode 198 = 0 := rfl
@[simp] theorem mode199 : C.mode 199 = 0 := rfl
@[simp] theorem mode200 : C.mode 200 = 1 := rfl
@[simp] theorem mode201 : C.mode 201 = 1 := rfl
@[simp] theorem mode202 : C.mode 202 = 0 := rfl
@[simp] theorem mode203 : C.mode 203 = 1 := rfl
@[simp] theorem mode204 : C.mode 204 = 0 := rfl
@[simp] theorem mode205 : C.mode 205 = 0 := rfl
@[simp] theorem mode206 : C.mode 206 = 0 := rfl
@[simp] theorem mode207 : C.mode 207 = 1 := rfl
@[simp] theorem mode208 : C.mode 208 = 1 := rfl
@[simp] theorem mode209 : C.mode 209 = 0 := rfl
@[simp] theorem mode210 : C.mode 210 = 0 := rfl
@[simp] theorem mode211 : C.mode 211 = 0 := rfl
@[simp] theorem mode212 : C.mode 212 = 0 := rfl
@[simp] theorem mode213 : C.mode 213 = 0 := rfl
@[simp] theorem mode214 : C.mode 214 = 0 := rfl
@[simp] theorem mode215 : C.mode 215 = 0 := rfl
@[simp] theorem mode216 : C.mode 216 = 0 := rfl
@[simp] theorem mode217 : C.mode 217 = 0 := rfl
@[simp] theorem mode218 : C.mode 218 = 0 := rfl
@[simp] theorem mode219 : C.mode 219 = 0 := rfl
@[simp] theorem mode220 : C.mode 220 = 0 := rfl
@[simp] theorem mode221 : C.mode 221 = 0 := rfl
@[simp] theorem mode222 : C.mode 222 = 0 := rfl
@[simp] theorem mode223 : C.mode 223 = 0 := rfl
@[simp] theorem mode224 : C.mode 224 = 0 := rfl
@[simp] theorem mode225 : C.mode 225 = 0 := rfl
@[simp] theorem mode226 : C.mode 226 = 0 := rfl
@[simp] theorem mode227 : C.mode 227 = 0 := rfl
@[simp] theorem mode228 : C.mode 228 = 0 := rfl
@[simp] theorem mode229 : C.mode 229 = 0 := rfl
@[simp] theorem tsz2 : tsz Try.prog 2 = some (false, 1) := by kernel_rfl
@[simp] theorem tzero2 : tzero Try.prog 2 = some [.int .i64 0] := by kernel_rfl
@[simp] theorem und2 : Try.prog.underlying 2 = some (.int .i64) := by kernel_rfl
@[simp] theorem tsz3 : tsz Try.prog 3 = some (false, 1) := by kernel_rfl
@[simp] theorem tzero3 : tzero Try.prog 3 = some [.int .i64 0] := by kernel_rfl
@[simp] theorem und3 : Try.prog.underlying 3 = some (.int .i64) := by kernel_rfl
@[simp] theorem tsz4 : tsz Try.prog 4 = some (false, 1) := by kernel_rfl
@[simp] theorem tzero4 : tzero Try.prog 4 = some [.bool false] := by kernel_rfl
@[simp] theorem und4 : Try.prog.underlying 4 = some .bool := by kernel_rfl
@[simp] theorem tsz5 : tsz Try.prog 5 = some (false, 1) := by kernel_rfl
@[simp] theorem tzero5 : tzero Try.prog 5 = some [.int .u8 0] := by kernel_rfl
@[simp] theorem und5 : Try.prog.underlying 5 = some (.int .u8) := by kernel_rfl
@[simp] theorem tsz6 : tsz Try.prog 6 = some (false, 1) := by kernel_rfl
@[simp] theorem tzero6 : tzero Try.prog 6 = some [.int .u8 0] := by kernel_rfl
@[simp] theorem und6 : Try.prog.underlying 6 = some (.int .u8) := by kernel_rfl
@[simp] theorem tsz7 : tsz Try.prog 7 = some (true, 4) := by kernel_rfl
@[simp] theorem tzero7 : tzero Try.prog 7 = some [.int .i64 0, .int .i64 0, .bool false, .int .u8 0] := by kernel_rfl
@[simp] theorem finfo7_0 : finfo Try.prog 7 0 = some (0, false, 1) := by kernel_rfl
@[simp] theorem finfo7_1 : finfo Try.prog 7 1 = some (1, false, 1) := by kernel_rfl
@[simp] theorem finfo7_2 : finfo Try.prog 7 2 = some (2, false, 1) := by kernel_rfl
@[simp] theorem finfo7_3 : finfo Try.prog 7 3 = some (3, false, 1) := by kernel_rfl
@[simp] theorem bplaces7 : bplaces Try.prog 7 = some [(0, 1), (1, 1), (2, 1), (3, 1)] := by kernel_rfl
@[simp] theorem tsz8 : tsz Try.prog 8 = some (true, 4) := by kernel_rfl
@[simp] theorem tzero8 : tzero Try.prog 8 = some [.int .i64 0, .int .i64 0, .bool false, .int .u8 0] := by kernel_rfl
@[simp] theorem finfo8_0 : finfo Try.prog 8 0 = some (0, false, 1) := by kernel_rfl
@[simp] theorem finfo8_1 : finfo Try.prog 8 1 = some (1, false, 1) := by kernel_rfl
@[simp] theorem finfo8_2 : finfo Try.prog 8 2 = some (2, false, 1) := by kernel_rfl
@[simp] theorem finfo8_3 : finfo Try.prog 8 3 = some (3, false, 1) := by kernel_rfl
@[simp] theorem bplaces8 : bplaces Try.prog 8 = some [(0, 1), (1, 1), (2, 1), (3, 1)] := by kernel_rfl
@[simp] theorem tsz9 : tsz Try.prog 9 = some (false, 1) := by kernel_rfl
@[simp] theorem tzero9 : tzero Try.prog 9 = some [.string .empty] := by kernel_rfl
@[simp] theorem isStr9 : isStr Try.prog 9 = true := by kernel_rfl
@[simp] theorem und9 : Try.prog.underlying 9 = some .string := by kernel_rfl
@[simp] theorem tsz10 : tsz Try.prog 10 = some (false, 1) := by kernel_rfl
@[simp] theorem tzero10 : tzero Try.prog 10 = some [.string .empty] := by kernel_rfl
@[simp] theorem isStr10 : isStr Try.prog 10 = true := by kernel_rfl
@[simp] theorem und10 : Try.prog.underlying 10 = some .string := by kernel_rfl
@[simp] theorem tsz11 : tsz Try.prog 11 = some (false, 1) := by kernel_rfl
@[simp] theorem tzero11 : tzero Try.prog 11 = some [.string .empty] := by kernel_rfl
@[simp] theorem isStr11 : isStr Try.prog 11 = true := by kernel_rfl
@[simp] theorem und11 : Try.prog.underlying 11 = some .string := by kernel_rfl
@[simp] theorem tsz12 : tsz Try.prog 12 = some (false, 1) := by kernel_rfl
@[simp] theorem tzero12 : tzero Try.prog 12 = some [.int .u64 0] := by kernel_rfl
@[simp] theorem und12 : Try.prog.underlying 12 = some (.int .u64) := by kernel_rfl
@[simp] theorem tsz13 : tsz Try.prog 13 = some (true, 2) := by kernel_rfl
@[simp] theorem tzero13 : tzero Try.prog 13 = some [.string .empty, .int .u64 0] := by kernel_rfl
@[simp] theorem finfo13_0 : finfo Try.prog 13 0 = some (0, false, 1) := by kernel_rfl
@[simp] theorem finfo13_1 : finfo Try.prog 13 1 = some (1, false, 1) := by kernel_rfl
@[simp] theorem bplaces13 : bplaces Try.prog 13 = some [(0, 1), (1, 1)] := by kernel_rfl
@[simp] theorem tsz14 : tsz Try.prog 14 = some (true, 2) := by kernel_rfl
@[simp] theorem tzero14 : tzero Try.prog 14 = some [.string .empty, .int .u64 0] := by kernel_rfl
@[simp] theorem finfo14_0 : finfo Try.prog 14 0 = some (0, false, 1) := by kernel_rfl
@[simp] theorem finfo14_1 : finfo Try.prog 14 1 = some (1, false, 1) := by kernel_rfl
@[simp] theorem bplaces14 : bplaces Try.prog 14 = some [(0, 1), (1, 1)] := by kernel_rfl
@[simp] theorem tsz15 : tsz Try.prog 15 = some (false, 1) := by kernel_rfl
@[simp] theorem tzero15 : tzero Try.prog 15 = some [.pointer none] := by kernel_rfl
@[simp] theorem tsz16 : tsz Try.prog 16 = some (false, 1) := by kernel_rfl
@[simp] theorem tzero16 : tzero Try.prog 16 = some [.pointer none] := by kernel_rfl
@[simp] theorem tsz17 : tsz Try.prog 17 = some (false, 1) := by kernel_rfl
@[simp] theorem tzero17 : tzero Try.prog 17 = some [.pointer none] := by kernel_rfl
@[simp] theorem tsz18 : tsz Try.prog 18 = some (true, 1) := by kernel_rfl
@[simp] theorem tzero18 : tzero Try.prog 18 = some [.pointer none] := by kernel_rfl
@[simp] theorem finfo18_0 : finfo Try.prog 18 0 = some (0, false, 1) := by kernel_rfl
@[simp] theorem bplaces18 : bplaces Try.prog 18 = some [(0, 1)] := by kernel_rfl
@[simp] theorem tsz19 : tsz Try.prog 19 = some (true, 1) := by kernel_rfl
@[simp] theorem tzero19 : tzero Try.prog 19 = some [.pointer none] := by kernel_rfl
@[simp] theorem finfo19_0 : finfo Try.prog 19 0 = some (0, false, 1) := by kernel_rfl
@[simp] theorem bplaces19 : bplaces Try.prog 19 = some [(0, 1)] := by kernel_rfl
@[simp] theorem tsz21 : tsz Try.prog 21 = some (false, 1) := by kernel_rfl
@[simp] theorem tzero21 : tzero Try.prog 21 = some [.int .i32 0] := by kernel_rfl
@[simp] theorem und21 : Try.prog.underlying 21 = some (.int .i32) := by kernel_rfl
@[simp] theorem tsz22 : tsz Try.prog 22 = some (true, 2) := by kernel_rfl
@[simp] theorem tzero22 : tzero Try.prog 22 = some [.int .i64 0, .int .i64 0] := by kernel_rfl
@[simp] theorem finfo22_0 : finfo Try.prog 22 0 = some (0, false, 1) := by kernel_rfl
@[simp] theorem finfo22_1 : finfo Try.prog 22 1 = some (1, false, 1) := by kernel_rfl
@[simp] theorem bplaces22 : bplaces Try.prog 22 = some [(0, 1), (1, 1)] := by kernel_rfl
@[simp] theorem tsz23 : tsz Try.prog 23 = some (true, 2) := by kernel_rfl
@[simp] theorem tzero23 : tzero Try.prog 23 = some [.int .i64 0, .int .i64 0] := by kernel_rfl
@[simp] theorem finfo23_0 : finfo Try.prog 23 0 = some (0, false, 1) := by kernel_rfl
@[simp] theorem finfo23_1 : finfo Try.prog 23 1 = some (1, false, 1) := by kernel_rfl
@[simp] theorem flatN23 : flatN Try.prog 23 = some [0, 0] := by kernel_rfl
@[simp] theorem bplaces23 : bplaces Try.prog 23 = some [(0, 1), (1, 1)] := by kernel_rfl
@[simp] theorem tsz24 : tsz Try.prog 24 = some (false, 1) := by kernel_rfl
@[simp] theorem tzero24 : tzero Try.prog 24 = some [.slice none 0 0] := by kernel_rfl
@[simp] theorem eltp24 : eltp Try.prog 24 = some (3, 1) := by kernel_rfl
@[simp] theorem isSl24 : isSl Try.prog 24 = true := by kernel_rfl
@[simp] theorem tsz25 : tsz Try.prog 25 = some (true, 3) := by kernel_rfl
@[simp] theorem tzero25 : tzero Try.prog 25 = some [.int .i64 0, .int .i64 0, .slice none 0 0] := by kernel_rfl
@[simp] theorem finfo25_0 : finfo Try.prog 25 0 = some (0, true, 2) := by kernel_rfl
@[simp] theorem finfo25_1 : finfo Try.prog 25 1 = some (2, false, 1) := by kernel_rfl
@[simp] theorem bplaces25 : bplaces Try.prog 25 = some [(0, 2), (2, 1)] := by kernel_rfl
@[simp] theorem tsz26 : tsz Try.prog 26 = some (true, 3) := by kernel_rfl
@[simp] theorem tzero26 : tzero Try.prog 26 = some [.int .i64 0, .int .i64 0, .slice none 0 0] := by kernel_rfl
@[simp] theorem finfo26_0 : finfo Try.prog 26 0 = some (0, true, 2) := by kernel_rfl
@[simp] theorem finfo26_1 : finfo Try.prog 26 1 = some (2, false, 1) := by kernel_rfl
@[simp] theorem bplaces26 : bplaces Try.prog 26 = some [(0, 2), (2, 1)] := by kernel_rfl
@[simp] theorem tsz27 : tsz Try.prog 27 = some (true, 1) := by kernel_rfl
@[simp] theorem tzero27 : tzero Try.prog 27 = some [.slice none 0 0] := by kernel_rfl
@[simp] theorem finfo27_0 : finfo Try.prog 27 0 = some (0, false, 1) := by kernel_rfl
@[simp] theorem bplaces27 : bplaces Try.prog 27 = some [(0, 1)] := by kernel_rfl
@[simp] theorem tsz28 : tsz Try.prog 28 = some (true, 1) := by kernel_rfl
@[simp] theorem tzero28 : tzero Try.prog 28 = some [.slice none 0 0] := by kernel_rfl
@[simp] theorem finfo28_0 : finfo Try.prog 28 0 = some (0, false, 1) := by kernel_rfl
@[simp] theorem bplaces28 : bplaces Try.prog 28 = some [(0, 1)] := by kernel_rfl
@[simp] theorem tsz29 : tsz Try.prog 29 = some (true, 2) := by kernel_rfl
@[simp] theorem tzero29 : tzero Try.prog 29 = some [.slice none 0 0, .slice none 0 0] := by kernel_rfl
@[simp] theorem finfo29_0 : finfo Try.prog 29 0 = some (0, true, 1) := by kernel_rfl
@[simp] theorem finfo29_1 : finfo Try.prog 29 1 = some (1, true, 1) := by kernel_rfl
@[simp] theorem bplaces29 : bplaces Try.prog 29 = some [(0, 1), (1, 1)] := by kernel_rfl
@[simp] theorem tsz30 : tsz Try.prog 30 = some (true, 2) := by kernel_rfl
@[simp] theorem tzero30 : tzero Try.prog 30 = some [.slice none 0 0, .slice none 0 0] := by kernel_rfl
@[simp] theorem finfo30_0 : finfo Try.prog 30 0 = some (0, true, 1) := by kernel_rfl
@[simp] theorem finfo30_1 : finfo Try.prog 30 1 = some (1, true, 1) := by kernel_rfl
@[simp] theorem bplaces30 : bplaces Try.prog 30 = some [(0, 1), (1, 1)] := by kernel_rfl
@[simp] theorem tsz31 : tsz Try.prog 31 = some (true, 5) := by kernel_rfl
@[simp] theorem tzero31 : tzero Try.prog 31 = some [.int .i64 0, .int .i64 0, .int .i64 0, .int .i64 0, .int .i64 0] := by kernel_rfl
@[simp] theorem finfo31_0 : finfo Try.prog 31 0 = some (0, false, 1) := by kernel_rfl
@[simp] theorem finfo31_1 : finfo Try.prog 31 1 = some (1, false, 1) := by kernel_rfl
@[simp] theorem finfo31_2 : finfo Try.prog 31 2 = some (2, false, 1) := by kernel_rfl
@[simp] theorem finfo31_3 : finfo Try.prog 31 3 = some (3, false, 1) := by kernel_rfl
@[simp] theorem finfo31_4 : finfo Try.prog 31 4 = some (4, false, 1) := by kernel_rfl
@[simp] theorem bplaces31 : bplaces Try.prog 31 = some [(0, 1), (1, 1), (2, 1), (3, 1), (4, 1)] := by kernel_rfl
@[simp] theorem tsz32 : tsz Try.prog 32 = some (true, 5) := by kernel_rfl
@[simp] theorem tzero32 : tzero Try.prog 32 = some [.int .i64 0, .int .i64 0, .int .i64 0, .int .i64 0, .int .i64 0] := by kernel_rfl
@[simp] theorem finfo32_0 : finfo Try.prog 32 0 = some (0, false, 1) := by kernel_rfl
@[simp] theorem finfo32_1 : finfo Try.prog 32 1 = some (1, false, 1) := by kernel_rfl
@[simp] theorem finfo32_2 : finfo Try.prog 32 2 = some (2, false, 1) := by kernel_rfl
@[simp] theorem finfo32_3 : finfo Try.prog 32 3 = some (3, false, 1) := by kernel_rfl
@[simp] theorem finfo32_4 : finfo Try.prog 32 4 = some (4, false, 1) := by kernel_rfl
@[simp] theorem flatN32 : flatN Try.prog 32 = some [0, 0, 0, 0, 0] := by kernel_rfl
@[simp] theorem bplaces32 : bplaces Try.prog 32 = some [(0, 1), (1, 1), (2, 1), (3, 1), (4, 1)] := by kernel_rfl
@[simp] theorem tsz36 : tsz Try.prog 36 = some (true, 2) := by kernel_rfl
@[simp] theorem tzero36 : tzero Try.prog 36 = some [.int .i64 0, .int .i64 0] := by kernel_rfl
@[simp] theorem finfo36_0 : finfo Try.prog 36 0 = some (0, false, 1) := by kernel_rfl
@[simp] theorem finfo36_1 : finfo Try.prog 36 1 = some (1, false, 1) := by kernel_rfl
@[simp] theorem flatN36 : flatN Try.prog 36 = some [0, 0] := by kernel_rfl
@[simp] theorem bplaces36 : bplaces Try.prog 36 = some [(0, 1), (1, 1)] := by kernel_rfl
@[simp] theorem tsz37 : tsz Try.prog 37 = some (true, 3) := by kernel_rfl
@[simp] theorem tzero37 : tzero Try.prog 37 = some [.int .i64 0, .int .i64 0, .slice none 0 0] := by kernel_rfl
@[simp] theorem finfo37_0 : finfo Try.prog 37 0 = some (0, true, 2) := by kernel_rfl
@[simp] theorem finfo37_1 : finfo Try.prog 37 1 = some (2, false, 1) := by kernel_rfl
@[simp] theorem bplaces37 : bplaces Try.prog 37 = some [(0, 2), (2, 1)] := by kernel_rfl
@[simp] theorem tsz38 : tsz Try.prog 38 = some (true, 3) := by kernel_rfl
@[simp] theorem tzero38 : tzero Try.prog 38 = some [.int .i64 0, .int .i64 0, .slice none 0 0] := by kernel_rfl
@[simp] theorem finfo38_0 : finfo Try.prog 38 0 = some (0, true, 2) := by kernel_rfl
@[simp] theorem finfo38_1 : finfo Try.prog 38 1 = some (2, false, 1) := by kernel_rfl
@[simp] theorem bplaces38 : bplaces Try.prog 38 = some [(0, 2), (2, 1)] := by kernel_rfl
@[simp] theorem tsz40 : tsz Try.prog 40 = some (true, 1) := by kernel_rfl
@[simp] theorem tzero40 : tzero Try.prog 40 = some [.slice none 0 0] := by kernel_rfl
@[simp] theorem finfo40_0 : finfo Try.prog 40 0 = some (0, false, 1) := by kernel_rfl
@[simp] theorem bplaces40 : bplaces Try.prog 40 = some [(0, 1)] := by kernel_rfl
@[simp] theorem tsz41 : tsz Try.prog 41 = some (true, 2) := by kernel_rfl
@[simp] theorem tzero41 : tzero Try.prog 41 = some [.slice none 0 0, .slice none 0 0] := by kernel_rfl
@[simp] theorem finfo41_0 : finfo Try.prog 41 0 = some (0, true, 1) := by kernel_rfl
@[simp] theorem finfo41_1 : finfo Try.prog 41 1 = some (1, true, 1) := by kernel_rfl
@[simp] theorem bplaces41 : bplaces Try.prog 41 = some [(0, 1), (1, 1)] := by kernel_rfl
@[simp] theorem tsz42 : tsz Try.prog 42 = some (true, 2) := by kernel_rfl
@[simp] theorem tzero42 : tzero Try.prog 42 = some [.slice none 0 0, .slice none 0 0] := by kernel_rfl
@[simp] theorem finfo42_0 : finfo Try.prog 42 0 = some (0, true, 1) := by kernel_rfl
@[simp] theorem finfo42_1 : finfo Try.prog 42 1 = some (1, true, 1) := by kernel_rfl
@[simp] theorem bplaces42 : bplaces Try.prog 42 = some [(0, 1), (1, 1)] := by kernel_rfl
@[simp] theorem tsz44 : tsz Try.prog 44 = some (true, 5) := by kernel_rfl
@[simp] theorem tzero44 : tzero Try.prog 44 = some [.int .i64 0, .int .i64 0, .int .i64 0, .int .i64 0, .int .i64 0] := by kernel_rfl
@[simp] theorem finfo44_0 : finfo Try.prog 44 0 = some (0, false, 1) := by kernel_rfl
@[simp] theorem finfo44_1 : finfo Try.prog 44 1 = some (1, false, 1) := by kernel_rfl
@[simp] theorem finfo44_2 : finfo Try.prog 44 2 = some (2, false, 1) := by kernel_rfl
@[simp] theorem finfo44_3 : finfo Try.prog 44 3 = some (3, false, 1) := by kernel_rfl
@[simp] theorem finfo44_4 : finfo Try.prog 44 4 = some (4, false, 1) := by kernel_rfl
@[simp] theorem flatN44 : flatN Try.prog 44 = some [0, 0, 0, 0, 0] := by kernel_rfl
@[simp] theorem bplaces44 : bplaces Try.prog 44 = some [(0, 1), (1, 1), (2, 1), (3, 1), (4, 1)] := by kernel_rfl
@[simp] theorem tsz49 : tsz Try.prog 49 = some (false, 1) := by kernel_rfl
@[simp] theorem tzero49 : tzero Try.prog 49 = some [.slice none 0 0] := by kernel_rfl
@[simp] theorem eltp49 : eltp Try.prog 49 = some (132, 1) := by kernel_rfl
@[simp] theorem isSl49 : isSl Try.prog 49 = true := by kernel_rfl
@[simp] theorem tsz50 : tsz Try.prog 50 = some (true, 11) := by kernel_rfl
@[simp] theorem tzero50 : tzero Try.prog 50 = some [.int .i64 0, .int .i64 0, .slice none 0 0, .slice none 0 0, .slice none 0 0, .slice none 0 0, .slice none 0 0, .slice none 0 0, .slice none 0 0, .slice none 0 0, .int .i64 0] := by kernel_rfl
@[simp] theorem finfo50_0 : finfo Try.prog 50 0 = some (0, true, 3) := by kernel_rfl
@[simp] theorem finfo50_1 : finfo Try.prog 50 1 = some (3, true, 2) := by kernel_rfl
@[simp] theorem finfo50_2 : finfo Try.prog 50 2 = some (5, false, 1) := by kernel_rfl
@[simp] theorem finfo50_3 : finfo Try.prog 50 3 = some (6, false, 1) := by kernel_rfl
@[simp] theorem finfo50_4 : finfo Try.prog 50 4 = some (7, false, 1) := by kernel_rfl
@[simp] theorem finfo50_5 : finfo Try.prog 50 5 = some (8, false, 1) := by kernel_rfl
@[simp] theorem finfo50_6 : finfo Try.prog 50 6 = some (9, false, 1) := by kernel_rfl
@[simp] theorem finfo50_7 : finfo Try.prog 50 7 = some (10, false, 1) := by kernel_rfl
@[simp] theorem bplaces50 : bplaces Try.prog 50 = some [(0, 3), (3, 2), (5, 1), (6, 1), (7, 1), (8, 1), (9, 1), (10, 1)] := by kernel_rfl
@[simp] theorem tsz51 : tsz Try.prog 51 = some (true, 11) := by kernel_rfl
@[simp] theorem tzero51 : tzero Try.prog 51 = some [.int .i64 0, .int .i64 0, .slice none 0 0, .slice none 0 0, .slice none 0 0, .slice none 0 0, .slice none 0 0, .slice none 0 0, .slice none 0 0, .slice none 0 0, .int .i64 0] := by kernel_rfl
@[simp] theorem finfo51_0 : finfo Try.prog 51 0 = some (0, true, 3) := by kernel_rfl
@[simp] theorem finfo51_1 : finfo Try.prog 51 1 = some (3, true, 2) := by kernel_rfl
@[simp] theorem finfo51_2 : finfo Try.prog 51 2 = some (5, false, 1) := by kernel_rfl
@[simp] theorem finfo51_3 : finfo Try.prog 51 3 = some (6, false, 1) := by kernel_rfl
@[simp] theorem finfo51_4 : finfo Try.prog 51 4 = some (7, false, 1) := by kernel_rfl
@[simp] theorem finfo51_5 : finfo Try.prog 51 5 = some (8, false, 1) := by kernel_rfl
@[simp] theorem finfo51_6 : finfo Try.prog 51 6 = some (9, false, 1) := by kernel_rfl
@[simp] theorem finfo51_7 : finfo Try.prog 51 7 = some (10, false, 1) := by kernel_rfl
@[simp] theorem bplaces51 : bplaces Try.prog 51 = some [(0, 3), (3, 2), (5, 1), (6, 1), (7, 1), (8, 1), (9, 1), (10, 1)] := by kernel_rfl
@[simp] theorem tsz52 : tsz Try.prog 52 = some (false, 1) := by kernel_rfl
@[simp] theorem tzero52 : tzero Try.prog 52 = some [.slice none 0 0] := by kernel_rfl
@[simp] theorem eltp52 : eltp Try.prog 52 = some (32, 5) := by kernel_rfl
@[simp] theorem isSl52 : isSl Try.prog 52 = true := by kernel_rfl
@[simp] theorem tsz53 : tsz Try.prog 53 = some (true, 12) := by kernel_rfl
@[simp] theorem tzero53 : tzero Try.prog 53 = some [.int .i64 0, .int .i64 0, .slice none 0 0, .slice none 0 0, .slice none 0 0, .slice none 0 0, .slice none 0 0, .slice none 0 0, .slice none 0 0, .slice none 0 0, .int .i64 0, .slice none 0 0] := by kernel_rfl
@[simp] theorem finfo53_0 : finfo Try.prog 53 0 = some (0, true, 11) := by kernel_rfl
@[simp] theorem finfo53_1 : finfo Try.prog 53 1 = some (11, false, 1) := by kernel_rfl
@[simp] theorem bplaces53 : bplaces Try.prog 53 = some [(0, 11), (11, 1)] := by kernel_rfl
@[simp] theorem tsz54 : tsz Try.prog 54 = some (true, 12) := by kernel_rfl
@[simp] theorem tzero54 : tzero Try.prog 54 = some [.int .i64 0, .int .i64 0, .slice none 0 0, .slice none 0 0, .slice none 0 0, .slice none 0 0, .slice none 0 0, .slice none 0 0, .slice none 0 0, .slice none 0 0, .int .i64 0, .slice none 0 0] := by kernel_rfl
@[simp] theorem finfo54_0 : finfo Try.prog 54 0 = some (0, true, 11) := by kernel_rfl
@[simp] theorem finfo54_1 : finfo Try.prog 54 1 = some (11, false, 1) := by kernel_rfl
@[simp] theorem bplaces54 : bplaces Try.prog 54 = some [(0, 11), (11, 1)] := by kernel_rfl
@[simp] theorem tsz57 : tsz Try.prog 57 = some (false, 1) := by kernel_rfl
@[simp] theorem tzero57 : tzero Try.prog 57 = some [.slice none 0 0] := by kernel_rfl
@[simp] theorem eltp57 : eltp Try.prog 57 = some (123, 1) := by kernel_rfl
@[simp] theorem isSl57 : isSl Try.prog 57 = true := by kernel_rfl
@[simp] theorem tsz58 : tsz Try.prog 58 = some (true, 11) := by kernel_rfl
@[simp] theorem tzero58 : tzero Try.prog 58 = some [.int .i64 0, .int .i64 0, .slice none 0 0, .slice none 0 0, .slice none 0 0, .slice none 0 0, .slice none 0 0, .slice none 0 0, .slice none 0 0, .slice none 0 0, .int .i64 0] := by kernel_rfl
@[simp] theorem finfo58_0 : finfo Try.prog 58 0 = some (0, true, 3) := by kernel_rfl
@[simp] theorem finfo58_1 : finfo Try.prog 58 1 = some (3, true, 2) := by kernel_rfl
@[simp] theorem finfo58_2 : finfo Try.prog 58 2 = some (5, false, 1) := by kernel_rfl
@[simp] theorem finfo58_3 : finfo Try.prog 58 3 = some (6, false, 1) := by kernel_rfl
@[simp] theorem finfo58_4 : finfo Try.prog 58 4 = some (7, false, 1) := by kernel_rfl
@[simp] theorem finfo58_5 : finfo Try.prog 58 5 = some (8, false, 1) := by kernel_rfl
@[simp] theorem finfo58_6 : finfo Try.prog 58 6 = some (9, false, 1) := by kernel_rfl
@[simp] theorem finfo58_7 : finfo Try.prog 58 7 = some (10, false, 1) := by kernel_rfl
@[simp] theorem bplaces58 : bplaces Try.prog 58 = some [(0, 3), (3, 2), (5, 1), (6, 1), (7, 1), (8, 1), (9, 1), (10, 1)] := by kernel_rfl
@[simp] theorem tsz59 : tsz Try.prog 59 = some (true, 11) := by kernel_rfl
@[simp] theorem tzero59 : tzero Try.prog 59 = some [.int .i64 0, .int .i64 0, .slice none 0 0, .slice none 0 0, .slice none 0 0, .slice none 0 0, .slice none 0 0, .slice none 0 0, .slice none 0 0, .slice none 0 0, .int .i64 0] := by kernel_rfl
@[simp] theorem finfo59_0 : finfo Try.prog 59 0 = some (0, true, 3) := by kernel_rfl
@[simp] theorem finfo59_1 : finfo Try.prog 59 1 = some (3, true, 2) := by kernel_rfl
@[simp] theorem finfo59_2 : finfo Try.prog 59 2 = some (5, false, 1) := by kernel_rfl
@[simp] theorem finfo59_3 : finfo Try.prog 59 3 = some (6, false, 1) := by kernel_rfl
@[simp] theorem finfo59_4 : finfo Try.prog 59 4 = some (7, false, 1) := by kernel_rfl
@[simp] theorem finfo59_5 : finfo Try.prog 59 5 = some (8, false, 1) := by kernel_rfl
@[simp] theorem finfo59_6 : finfo Try.prog 59 6 = some (9, false, 1) := by kernel_rfl
@[simp] theorem finfo59_7 : finfo Try.prog 59 7 = some (10, false, 1) := by kernel_rfl
@[simp] theorem bplaces59 : bplaces Try.prog 59 = some [(0, 3), (3, 2), (5, 1), (6, 1), (7, 1), (8, 1), (9, 1), (10, 1)] := by kernel_rfl
@[simp] theorem tsz60 : tsz Try.prog 60 = some (false, 1) := by kernel_rfl
@[simp] theorem tzero60 : tzero Try.prog 60 = some [.slice none 0 0] := by kernel_rfl
@[simp] theorem eltp60 : eltp Try.prog 60 = some (44, 5) := by kernel_rfl
@[simp] theorem isSl60 : isSl Try.prog 60 = true := by kernel_rfl
@[simp] theorem tsz61 : tsz Try.prog 61 = some (true, 12) := by kernel_rfl
@[simp] theorem tzero61 : tzero Try.prog 61 = some [.int .i64 0, .int .i64 0, .slice none 0 0, .slice none 0 0, .slice none 0 0, .slice none 0 0, .slice none 0 0, .slice none 0 0, .slice none 0 0, .slice none 0 0, .int .i64 0, .slice none 0 0] := by kernel_rfl
@[simp] theorem finfo61_0 : finfo Try.prog 61 0 = some (0, true, 11) := by kernel_rfl
@[simp] theorem finfo61_1 : finfo Try.prog 61 1 = some (11, false, 1) := by kernel_rfl
@[simp] theorem bplaces61 : bplaces Try.prog 61 = some [(0, 11), (11, 1)] := by kernel_rfl
@[simp] theorem tsz62 : tsz Try.prog 62 = some (true, 12) := by kernel_rfl
@[simp] theorem tzero62 : tzero Try.prog 62 = some [.int .i64 0, .int .i64 0, .slice none 0 0, .slice none 0 0, .slice none 0 0, .slice none 0 0, .slice none 0 0, .slice none 0 0, .slice none 0 0, .slice none 0 0, .int .i64 0, .slice none 0 0] := by kernel_rfl
@[simp] theorem finfo62_0 : finfo Try.prog 62 0 = some (0, true, 11) := by kernel_rfl
@[simp] theorem finfo62_1 : finfo Try.prog 62 1 = some (11, false, 1) := by kernel_rfl
@[simp] theorem bplaces62 : bplaces Try.prog 62 = some [(0, 11), (11, 1)] := by kernel_rfl
@[simp] theorem tsz83 : tsz Try.prog 83 = some (false, 1) := by kernel_rfl
@[simp] theorem tzero83 : tzero Try.prog 83 = some [.slice none 0 0] := by kernel_rfl
@[simp] theorem eltp83 : eltp Try.prog 83 = some (5, 1) := by kernel_rfl
@[simp] theorem isSl83 : isSl Try.prog 83 = true := by kernel_rfl
@[simp] theorem tsz118 : tsz Try.prog 118 = some (false, 1) := by kernel_rfl
@[simp] theorem tzero118 : tzero Try.prog 118 = some [.pointer none] := by kernel_rfl
@[simp] theorem tsz123 : tsz Try.prog 123 = some (false, 1) := by kernel_rfl
@[simp] theorem tzero123 : tzero Try.prog 123 = some [.slice none 0 0] := by kernel_rfl
@[simp] theorem eltp123 : eltp Try.prog 123 = some (134, 5) := by kernel_rfl
@[simp] theorem isSl123 : isSl Try.prog 123 = true := by kernel_rfl
@[simp] theorem tsz132 : tsz Try.prog 132 = some (false, 1) := by kernel_rfl
@[simp] theorem tzero132 : tzero Try.prog 132 = some [.slice none 0 0] := by kernel_rfl
@[simp] theorem eltp132 : eltp Try.prog 132 = some (169, 5) := by kernel_rfl
@[simp] theorem isSl132 : isSl Try.prog 132 = true := by kernel_rfl
@[simp] theorem tsz133 : tsz Try.prog 133 = some (true, 5) := by kernel_rfl
@[simp] theorem tzero133 : tzero Try.prog 133 = some [.int .i64 0, .int .i64 0, .int .i64 0, .bool false, .bool false] := by kernel_rfl
@[simp] theorem finfo133_0 : finfo Try.prog 133 0 = some (0, false, 1) := by kernel_rfl
@[simp] theorem finfo133_1 : finfo Try.prog 133 1 = some (1, false, 1) := by kernel_rfl
@[simp] theorem finfo133_2 : finfo Try.prog 133 2 = some (2, false, 1) := by kernel_rfl
@[simp] theorem finfo133_3 : finfo Try.prog 133 3 = some (3, false, 1) := by kernel_rfl
@[simp] theorem finfo133_4 : finfo Try.prog 133 4 = some (4, false, 1) := by kernel_rfl
@[simp] theorem bplaces133 : bplaces Try.prog 133 = some [(0, 1), (1, 1), (2, 1), (3, 1), (4, 1)] := by kernel_rfl
@[simp] theorem tsz134 : tsz Try.prog 134 = some (true, 5) := by kernel_rfl
@[simp] theorem tzero134 : tzero Try.prog 134 = some [.int .i64 0, .int .i64 0, .int .i64 0, .bool false, .bool false] := by kernel_rfl
@[simp] theorem finfo134_0 : finfo Try.prog 134 0 = some (0, false, 1) := by kernel_rfl
@[simp] theorem finfo134_1 : finfo Try.prog 134 1 = some (1, false, 1) := by kernel_rfl
@[simp] theorem finfo134_2 : finfo Try.prog 134 2 = some (2, false, 1) := by kernel_rfl
@[simp] theorem finfo134_3 : finfo Try.prog 134 3 = some (3, false, 1) := by kernel_rfl
@[simp] theorem finfo134_4 : finfo Try.prog 134 4 = some (4, false, 1) := by kernel_rfl
@[simp] theorem flatN134 : flatN Try.prog 134 = some [0, 0, 0, 1, 1] := by kernel_rfl
@[simp] theorem bplaces134 : bplaces Try.prog 134 = some [(0, 1), (1, 1), (2, 1), (3, 1), (4, 1)] := by kernel_rfl
@[simp] theorem tsz161 : tsz Try.prog 161 = some (true, 3) := by kernel_rfl
@[simp] theorem tzero161 : tzero Try.prog 161 = some [.slice none 0 0, .int .i64 0, .int .i64 0] := by kernel_rfl
@[simp] theorem finfo161_0 : finfo Try.prog 161 0 = some (0, false, 1) := by kernel_rfl
@[simp] theorem finfo161_1 : finfo Try.prog 161 1 = some (1, false, 1) := by kernel_rfl
@[simp] theorem finfo161_2 : finfo Try.prog 161 2 = some (2, false, 1) := by kernel_rfl
@[simp] theorem bplaces161 : bplaces Try.prog 161 = some [(0, 1), (1, 1), (2, 1)] := by kernel_rfl
@[simp] theorem tsz162 : tsz Try.prog 162 = some (true, 3) := by kernel_rfl
@[simp] theorem tzero162 : tzero Try.prog 162 = some [.slice none 0 0, .int .i64 0, .int .i64 0] := by kernel_rfl
@[simp] theorem finfo162_0 : finfo Try.prog 162 0 = some (0, false, 1) := by kernel_rfl
@[simp] theorem finfo162_1 : finfo Try.prog 162 1 = some (1, false, 1) := by kernel_rfl
@[simp] theorem finfo162_2 : finfo Try.prog 162 2 = some (2, false, 1) := by kernel_rfl
@[simp] theorem bplaces162 : bplaces Try.prog 162 = some [(0, 1), (1, 1), (2, 1)] := by kernel_rfl
@[simp] theorem tsz163 : tsz Try.prog 163 = some (false, 1) := by kernel_rfl
@[simp] theorem tzero163 : tzero Try.prog 163 = some [.pointer none] := by kernel_rfl
@[simp] theorem tsz169 : tsz Try.prog 169 = some (true, 5) := by kernel_rfl
@[simp] theorem tzero169 : tzero Try.prog 169 = some [.int .i64 0, .int .i64 0, .int .i64 0, .bool false, .bool false] := by kernel_rfl
@[simp] theorem finfo169_0 : finfo Try.prog 169 0 = some (0, false, 1) := by kernel_rfl
@[simp] theorem finfo169_1 : finfo Try.prog 169 1 = some (1, false, 1) := by kernel_rfl
@[simp] theorem finfo169_2 : finfo Try.prog 169 2 = some (2, false, 1) := by kernel_rfl
@[simp] theorem finfo169_3 : finfo Try.prog 169 3 = some (3, false, 1) := by kernel_rfl
@[simp] theorem finfo169_4 : finfo Try.prog 169 4 = some (4, false, 1) := by kernel_rfl
@[simp] theorem flatN169 : flatN Try.prog 169 = some [0, 0, 0, 1, 1] := by kernel_rfl
@[simp] theorem bplaces169 : bplaces Try.prog 169 = some [(0, 1), (1, 1), (2, 1), (3, 1), (4, 1)] := by kernel_rfl
@[simp] theorem tsz186 : tsz Try.prog 186 = some (false, 1) := by kernel_rfl
@[simp] theorem tzero186 : tzero Try.prog 186 = some [.int .u64 0] := by kernel_rfl
@[simp] theorem und186 : Try.prog.underlying 186 = some (.int .u64) := by kernel_rfl
@[simp] theorem tsz188 : tsz Try.prog 188 = some (false, 1) := by kernel_rfl
@[simp] theorem tzero188 : tzero Try.prog 188 = some [.slice none 0 0] := by kernel_rfl
@[simp] theorem eltp188 : eltp Try.prog 188 = some (191, 3) := by kernel_rfl
@[simp] theorem isSl188 : isSl Try.prog 188 = true := by kernel_rfl
@[simp] theorem tsz190 : tsz Try.prog 190 = some (true, 3) := by kernel_rfl
@[simp] theorem tzero190 : tzero Try.prog 190 = some [.int .i64 0, .int .i64 0, .int .i64 0] := by kernel_rfl
@[simp] theorem finfo190_0 : finfo Try.prog 190 0 = some (0, false, 1) := by kernel_rfl
@[simp] theorem finfo190_1 : finfo Try.prog 190 1 = some (1, false, 1) := by kernel_rfl
@[simp] theorem finfo190_2 : finfo Try.prog 190 2 = some (2, false, 1) := by kernel_rfl
@[simp] theorem bplaces190 : bplaces Try.prog 190 = some [(0, 1), (1, 1), (2, 1)] := by kernel_rfl
@[simp] theorem tsz191 : tsz Try.prog 191 = some (true, 3) := by kernel_rfl
@[simp] theorem tzero191 : tzero Try.prog 191 = some [.int .i64 0, .int .i64 0, .int .i64 0] := by kernel_rfl
@[simp] theorem finfo191_0 : finfo Try.prog 191 0 = some (0, false, 1) := by kernel_rfl
@[simp] theorem finfo191_1 : finfo Try.prog 191 1 = some (1, false, 1) := by kernel_rfl
@[simp] theorem finfo191_2 : finfo Try.prog 191 2 = some (2, false, 1) := by kernel_rfl
@[simp] theorem flatN191 : flatN Try.prog 191 = some [0, 0, 0] := by kernel_rfl
@[simp] theorem bplaces191 : bplaces Try.prog 191 = some [(0, 1), (1, 1), (2, 1)] := by kernel_rfl
@[simp] theorem tsz196 : tsz Try.prog 196 = some (false, 1) := by kernel_rfl
@[simp] theorem tzero196 : tzero Try.prog 196 = some [.slice none 0 0] := by kernel_rfl
@[simp] theorem eltp196 : eltp Try.prog 196 = some (4, 1) := by kernel_rfl
@[simp] theorem isSl196 : isSl Try.prog 196 = true := by kernel_rfl
@[simp] theorem tsz200 : tsz Try.prog 200 = some (true, 4) := by kernel_rfl
@[simp] theorem tzero200 : tzero Try.prog 200 = some [.pointer none, .pointer none, .pointer none, .string .empty] := by kernel_rfl
@[simp] theorem finfo200_0 : finfo Try.prog 200 0 = some (0, false, 1) := by kernel_rfl
@[simp] theorem finfo200_1 : finfo Try.prog 200 1 = some (1, false, 1) := by kernel_rfl
@[simp] theorem finfo200_2 : finfo Try.prog 200 2 = some (2, false, 1) := by kernel_rfl
@[simp] theorem finfo200_3 : finfo Try.prog 200 3 = some (3, false, 1) := by kernel_rfl
@[simp] theorem bplaces200 : bplaces Try.prog 200 = some [(0, 1), (1, 1), (2, 1), (3, 1)] := by kernel_rfl
@[simp] theorem tsz201 : tsz Try.prog 201 = some (true, 4) := by kernel_rfl
@[simp] theorem tzero201 : tzero Try.prog 201 = some [.pointer none, .pointer none, .pointer none, .string .empty] := by kernel_rfl
@[simp] theorem finfo201_0 : finfo Try.prog 201 0 = some (0, false, 1) := by kernel_rfl
@[simp] theorem finfo201_1 : finfo Try.prog 201 1 = some (1, false, 1) := by kernel_rfl
@[simp] theorem finfo201_2 : finfo Try.prog 201 2 = some (2, false, 1) := by kernel_rfl
@[simp] theorem finfo201_3 : finfo Try.prog 201 3 = some (3, false, 1) := by kernel_rfl
@[simp] theorem bplaces201 : bplaces Try.prog 201 = some [(0, 1), (1, 1), (2, 1), (3, 1)] := by kernel_rfl
@[simp] theorem tsz202 : tsz Try.prog 202 = some (true, 0) := by kernel_rfl
@[simp] theorem tzero202 : tzero Try.prog 202 = some [] := by kernel_rfl
@[simp] theorem tsz203 : tsz Try.prog 203 = some (true, 0) := by kernel_rfl
@[simp] theorem tzero203 : tzero Try.prog 203 = some [] := by kernel_rfl
@[simp] theorem bplaces203 : bplaces Try.prog 203 = some [(0, 0)] := by kernel_rfl
@[simp] theorem tsz204 : tsz Try.prog 204 = some (true, 0) := by kernel_rfl
@[simp] theorem tzero204 : tzero Try.prog 204 = some [] := by kernel_rfl
@[simp] theorem bplaces204 : bplaces Try.prog 204 = some [(0, 0)] := by kernel_rfl
@[simp] theorem tsz206 : tsz Try.prog 206 = some (false, 1) := by kernel_rfl
@[simp] theorem tzero206 : tzero Try.prog 206 = some [.int .u32 0] := by kernel_rfl
@[simp] theorem und206 : Try.prog.underlying 206 = some (.int .u32) := by kernel_rfl
@[simp] theorem tsz207 : tsz Try.prog 207 = some (false, 1) := by kernel_rfl
@[simp] theorem tzero207 : tzero Try.prog 207 = some [.int .u8 0] := by kernel_rfl
@[simp] theorem und207 : Try.prog.underlying 207 = some (.int .u8) := by kernel_rfl
@[simp] theorem tsz208 : tsz Try.prog 208 = some (false, 1) := by kernel_rfl
@[simp] theorem tzero208 : tzero Try.prog 208 = some [.int .u8 0] := by kernel_rfl
@[simp] theorem und208 : Try.prog.underlying 208 = some (.int .u8) := by kernel_rfl
@[simp] theorem tsz210 : tsz Try.prog 210 = some (false, 1) := by kernel_rfl
@[simp] theorem tzero210 : tzero Try.prog 210 = some [.pointer none] := by kernel_rfl
@[simp] theorem tsz211 : tsz Try.prog 211 = some (false, 1) := by kernel_rfl
@[simp] theorem tzero211 : tzero Try.prog 211 = some [.int .i32 0] := by kernel_rfl
@[simp] theorem und211 : Try.prog.underlying 211 = some (.int .i32) := by kernel_rfl
@[simp] theorem tsz212 : tsz Try.prog 212 = some (false, 1) := by kernel_rfl
@[simp] theorem tzero212 : tzero Try.prog 212 = some [.int .i32 0] := by kernel_rfl
@[simp] theorem und212 : Try.prog.underlying 212 = some (.int .i32) := by kernel_rfl
@[simp] theorem tsz213 : tsz Try.prog 213 = some (true, 11) := by kernel_rfl
@[simp] theorem tzero213 : tzero Try.prog 213 = some [.int .u64 0, .int .u64 0, .int .u32 0, .int .u8 0, .int .u8 0, .int .u8 0, .int .u8 0, .nilFunc, .pointer none, .int .i32 0, .int .i32 0] := by kernel_rfl
@[simp] theorem finfo213_0 : finfo Try.prog 213 0 = some (0, false, 1) := by kernel_rfl
@[simp] theorem finfo213_1 : finfo Try.prog 213 1 = some (1, false, 1) := by kernel_rfl
@[simp] theorem finfo213_2 : finfo Try.prog 213 2 = some (2, false, 1) := by kernel_rfl
@[simp] theorem finfo213_3 : finfo Try.prog 213 3 = some (3, false, 1) := by kernel_rfl
@[simp] theorem finfo213_4 : finfo Try.prog 213 4 = some (4, false, 1) := by kernel_rfl
@[simp] theorem finfo213_5 : finfo Try.prog 213 5 = some (5, false, 1) := by kernel_rfl
@[simp] theorem finfo213_6 : finfo Try.prog 213 6 = some (6, false, 1) := by kernel_rfl
@[simp] theorem finfo213_8 : finfo Try.prog 213 8 = some (8, false, 1) := by kernel_rfl
@[simp] theorem finfo213_9 : finfo Try.prog 213 9 = some (9, false, 1) := by kernel_rfl
@[simp] theorem finfo213_10 : finfo Try.prog 213 10 = some (10, false, 1) := by kernel_rfl
@[simp] theorem tsz214 : tsz Try.prog 214 = some (true, 11) := by kernel_rfl
@[simp] theorem tzero214 : tzero Try.prog 214 = some [.int .u64 0, .int .u64 0, .int .u32 0, .int .u8 0, .int .u8 0, .int .u8 0, .int .u8 0, .nilFunc, .pointer none, .int .i32 0, .int .i32 0] := by kernel_rfl
@[simp] theorem finfo214_0 : finfo Try.prog 214 0 = some (0, false, 1) := by kernel_rfl
@[simp] theorem finfo214_1 : finfo Try.prog 214 1 = some (1, false, 1) := by kernel_rfl
@[simp] theorem finfo214_2 : finfo Try.prog 214 2 = some (2, false, 1) := by kernel_rfl
@[simp] theorem finfo214_3 : finfo Try.prog 214 3 = some (3, false, 1) := by kernel_rfl
@[simp] theorem finfo214_4 : finfo Try.prog 214 4 = some (4, false, 1) := by kernel_rfl
@[simp] theorem finfo214_5 : finfo Try.prog 214 5 = some (5, false, 1) := by kernel_rfl
@[simp] theorem finfo214_6 : finfo Try.prog 214 6 = some (6, false, 1) := by kernel_rfl
@[simp] theorem finfo214_8 : finfo Try.prog 214 8 = some (8, false, 1) := by kernel_rfl
@[simp] theorem finfo214_9 : finfo Try.prog 214 9 = some (9, false, 1) := by kernel_rfl
@[simp] theorem finfo214_10 : finfo Try.prog 214 10 = some (10, false, 1) := by kernel_rfl
end Go.Proofs.Ytcigpclbhfkgaaa.V
/-! The plain side: grids, meshes. -/
set_option linter.all false
namespace Go.Proofs.Ytcigpclbhfkgaaa.V
open Go Go.VM
def rd (b : List Int) (j : Int) : Int := b.getD j.toNat 0
/-- a range, told as one word -/
def inR (lo n hi : Int) : Prop := lo ≤ n ∧ n ≤ hi
instance (lo n hi : Int) : Decidable (inR lo n hi) := inferInstanceAs (Decidable (_ ∧ _))
def okG (w h : Int) : Prop := (1 ≤ w ∧ w ≤ 4) ∧ 1 ≤ h ∧ h ≤ 4
instance (w h : Int) : Decidable (okG w h) := inferInstanceAs (Decidable (_ ∧ _))
def cnt (w h : Int) : Int := if okG w h then w * h else 0
def isN (w h n : Int) : Prop := 0 ≤ n ∧ n < cnt w h
instance (w h n : Int) : Decidable (isN w h n) := inferInstanceAs (Decidable (_ ∧ _))
def nodeAt (w h x y : Int) : Int := if okG w h ∧ (0 ≤ x ∧ x < w) ∧ 0 ≤ y ∧ y < h then y * w + x else -1
def next (w h n p : Int) : Int :=
  if isN w h n then
    (if p = 0 then nodeAt w h (n % w) (n / w - 1) else if p = 1 then nodeAt w h (n % w + 1) (n / w) else if p = 2 then nodeAt w h (n % w) (n / w + 1)
     else if p = 3 then nodeAt w h (n % w - 1) (n / w) else if p = 4 then n else -1)
  else -1
def leads (w h c : Int) : Prop := (0 ≤ c ∧ c < 4 * cnt w h) ∧ 0 ≤ next w h (c / 4) (c % 4)
instance (w h c : Int) : Decidable (leads w h c) := inferInstanceAs (Decidable (_ ∧ _))
def opp (p : Int) : Int := if p = 4 then 4 else if 0 ≤ p ∧ p ≤ 3 then (p + 2) % 4 else -1
def goodAt (w h : Int) (b : List Int) (j : Nat) : Prop := leads w h (b.getD j 0) ∧ (0 < j → b.getD (j - 1) 0 < b.getD j 0)
instance (w h : Int) (b : List Int) (j : Nat) : Decidable (goodAt w h b j) := inferInstanceAs (Decidable (_ ∧ _))
def meshOk (w h : Int) (b : List Int) : Prop := (∀ j, j < b.length → goodAt w h b j) ∧ okG w h
instance (w h : Int) (b : List Int) : Decidable (meshOk w h b) := inferInstanceAs (Decidable (_ ∧ _))
def has (w h : Int) (b : List Int) (c : Int) : Prop := leads w h c ∧ c ∉ b
instance (w h : Int) (b : List Int) (c : Int) : Decidable (has w h b c) := inferInstanceAs (Decidable (_ ∧ _))

theorem mul_small {w h : Int} (h1 : okG w h) : 1 ≤ w * h ∧ w * h ≤ 16 := by
  obtain ⟨⟨a1, a2⟩, b1, b2⟩ := h1
  have c1 : 1 * 1 ≤ w * h := Int.mul_le_mul a1 b1 (by omega) (by omega)
  have c2 : w * h ≤ 4 * 4 := Int.mul_le_mul a2 b2 (by omega) (by omega)
  omega
theorem cnt_range (w h : Int) : 0 ≤ cnt w h ∧ cnt w h ≤ 16 := by
  unfold cnt; split
  · rename_i h1; have := mul_small h1; omega
  · omega
theorem isN_ok {w h n : Int} (h1 : isN w h n) : okG w h ∧ 0 ≤ n ∧ n < w * h ∧ n < 16 := by
  obtain ⟨a, b⟩ := h1
  have := cnt_range w h
  unfold cnt at b; split at b
  · rename_i hg; have := mul_small hg; exact ⟨hg, a, b, by omega⟩
  · omega
theorem w64 {x : Int} (h1 : -9223372036854775808 ≤ x) (h2 : x ≤ 9223372036854775807) : IntKind.i64.wrap x = x := by rw [IntKind.wrap_i64]; omega
end Go.Proofs.Ytcigpclbhfkgaaa.V
/-! What the functions on grids return. -/
set_option linter.all false
namespace Go.Proofs.Ytcigpclbhfkgaaa.V
open Go Go.VM Go.Proofs
set_option maxRecDepth 10000
variable {frz : Nat} {H : Heap}
theorem inside_c (n lo hi : Int) : vcall C frz 108 [.int .i64 n, .int .i64 lo, .int .i64 hi] H = some (.bool (decide (inR lo n hi)), H) := by
  rw [vcall_go (fn := Try.f108) Try.func108 rfl (by kernel_rfl) rfl]
  simp
  repeat' (first | refine gd_dec _ _ ?_ ?_ | refine br_dec _ ?_ ?_) <;> intro h <;> simp [h, inR]
theorem l01In_c (n lo hi : Int) : vcall C frz 118 [.int .i64 n, .int .i64 lo, .int .i64 hi] H = some (.bool (decide (inR lo n hi)), H) := by
  rw [vcall_go (fn := Try.f118) Try.func118 rfl (by kernel_rfl) rfl]
  simp
  repeat' (first | refine gd_dec _ _ ?_ ?_ | refine br_dec _ ?_ ?_) <;> intro h <;> simp [h, inR]
theorem okG_of {w h : Int} (h1 : inR 1 w 4) (h2 : inR 1 h 4) : okG w h := ⟨h1, h2⟩
theorem gridOk_c (w h : Int) : vcall C frz 159 [.agg #[.int .i64 w, .int .i64 h]] H = some (.bool (decide (okG w h)), H) := by
  rw [vcall_go (fn := Try.f159) Try.func159 rfl (by kernel_rfl) rfl]
  simp [inside_c]
  refine gd_dec _ _ ?_ ?_ <;> intro h1 <;> simp [h1, inside_c]
  · have : okG w h ↔ inR 1 h 4 := ⟨fun g => g.2, fun g => ⟨h1, g⟩⟩
    simp [this]
  · exact fun g => h1 g.1
theorem sGridOk_c (w h : Int) : vcall C frz 122 [.agg #[.int .i64 w, .int .i64 h]] H = some (.bool (decide (okG w h)), H) := by
  rw [vcall_go (fn := Try.f122) Try.func122 rfl (by kernel_rfl) rfl]
  simp [l01In_c]
  refine gd_dec _ _ ?_ ?_ <;> intro h1 <;> simp [h1, l01In_c]
  · have : okG w h ↔ inR 1 h 4 := ⟨fun g => g.2, fun g => ⟨h1, g⟩⟩
    simp [this]
  · exact fun g => h1 g.1
theorem nodeCount_c (w h : Int) : vcall C frz 105 [.agg #[.int .i64 w, .int .i64 h]] H = some (.int .i64 (cnt w h), H) := by
  rw [vcall_go (fn := Try.f105) Try.func105 rfl (by kernel_rfl) rfl]
  simp [gridOk_c]
  refine br_dec _ ?_ ?_ <;> intro h1 <;> simp [h1, cnt]
  have := mul_small h1
  exact w64 (by omega) (by omega)
theorem sNodeCount_c (w h : Int) : vcall C frz 117 [.agg #[.int .i64 w, .int .i64 h]] H = some (.int .i64 (cnt w h), H) := by
  rw [vcall_go (fn := Try.f117) Try.func117 rfl (by kernel_rfl) rfl]
  simp [sGridOk_c]
  refine br_dec _ ?_ ?_ <;> intro h1 <;> simp [h1, cnt]
  have := mul_small h1
  exact w64 (by omega) (by omega)
theorem isN_inR (w h n : Int) : inR 0 n (IntKind.i64.wrap (cnt w h - 1)) ↔ isN w h n := by
  have := cnt_range w h
  rw [w64 (by omega) (by omega)]
  simp only [inR, isN]; omega
theorem isNode_c (w h n : Int) : vcall C frz 142 [.agg #[.int .i64 w, .int .i64 h], .int .i64 n] H = some (.bool (decide (isN w h n)), H) := by
  rw [vcall_go (fn := Try.f142) Try.func142 rfl (by kernel_rfl) rfl]
  simp [nodeCount_c, inside_c, isN_inR]
theorem l02Has_c (w h n : Int) : vcall C frz 137 [.agg #[.int .i64 w, .int .i64 h], .int .i64 n] H = some (.bool (decide (isN w h n)), H) := by
  rw [vcall_go (fn := Try.f137) Try.func137 rfl (by kernel_rfl) rfl]
  simp [sNodeCount_c, l01In_c, isN_inR]
end Go.Proofs.Ytcigpclbhfkgaaa.V
/-! What the functions on grids return: places, neighbours, channels. -/
set_option linter.all false
namespace Go.Proofs.Ytcigpclbhfkgaaa.V
open Go Go.VM Go.Proofs
set_option maxRecDepth 10000
variable {frz : Nat} {H : Heap}
theorem at_inR (w h x y : Int) (h1 : okG w h) : (inR 0 x (IntKind.i64.wrap (w - 1)) ↔ 0 ≤ x ∧ x < w) ∧ (inR 0 y (IntKind.i64.wrap (h - 1)) ↔ 0 ≤ y ∧ y < h) := by
  obtain ⟨⟨a1, a2⟩, b1, b2⟩ := h1
  rw [w64 (by omega) (by omega), w64 (by omega) (by omega)]
  simp only [inR]; omega
theorem at_val {w h x y : Int} (h1 : okG w h) (h2 : 0 ≤ x ∧ x < w) (h3 : 0 ≤ y ∧ y < h) : IntKind.i64.wrap (IntKind.i64.wrap (y * w) + x) = y * w + x := by
  have hm := mul_small h1
  obtain ⟨⟨a1, a2⟩, b1, b2⟩ := h1
  have c1 : 0 * 0 ≤ y * w := Int.mul_le_mul h3.1 (by omega) (by omega) (by omega)
  have c2 : y * w ≤ h * w := Int.mul_le_mul_of_nonneg_right (by omega) (by omega)
  rw [Int.mul_comm h w] at c2
  rw [w64 (x := y * w) (by omega) (by omega), w64 (by omega) (by omega)]
theorem nodeAt_c (w h x y : Int) : vcall C frz 206 [.agg #[.int .i64 w, .int .i64 h], .int .i64 x, .int .i64 y] H = some (.int .i64 (nodeAt w h x y), H) := by
  rw [vcall_go (fn := Try.f206) Try.func206 rfl (by kernel_rfl) rfl]
  simp [gridOk_c]
  refine gd_dec _ _ ?_ ?_ <;> intro h1 <;> simp [h1, inside_c, nodeAt]
  obtain ⟨e1, e2⟩ := at_inR w h x y h1
  simp only [e1, e2]
  refine gd_dec _ _ ?_ ?_ <;> intro h2 <;> simp [h2, inside_c]
  simp only [e2]
  refine br_dec _ ?_ ?_ <;> intro h3 <;> simp [h3]
  exact at_val h1 h2 h3
theorem sNodeAt_c (w h x y : Int) : vcall C frz 205 [.agg #[.int .i64 w, .int .i64 h], .int .i64 x, .int .i64 y] H = some (.int .i64 (nodeAt w h x y), H) := by
  rw [vcall_go (fn := Try.f205) Try.func205 rfl (by kernel_rfl) rfl]
  simp [sGridOk_c]
  refine gd_dec _ _ ?_ ?_ <;> intro h1 <;> simp [h1, l01In_c, nodeAt]
  obtain ⟨e1, e2⟩ := at_inR w h x y h1
  simp only [e1, e2]
  refine gd_dec _ _ ?_ ?_ <;> intro h2 <;> simp [h2, l01In_c]
  simp only [e2]
  refine br_dec _ ?_ ?_ <;> intro h3 <;> simp [h3]
  exact at_val h1 h2 h3
theorem nodeAt_range (w h x y : Int) : -1 ≤ nodeAt w h x y ∧ nodeAt w h x y < 16 := by
  unfold nodeAt
  split
  · rename_i h1
    obtain ⟨h1, h2, h3⟩ := h1
    have hm := mul_small h1
    obtain ⟨⟨a1, a2⟩, b1, b2⟩ := h1
    have c1 : 0 * 0 ≤ y * w := Int.mul_le_mul h3.1 (by omega) (by omega) (by omega)
    have c2 : y * w ≤ (h - 1) * w := Int.mul_le_mul_of_nonneg_right (by omega) (by omega)
    rw [Int.sub_mul, Int.mul_comm h w] at c2
    omega
  · omega
theorem tdiv_of {n w : Int} (h : 0 ≤ n) (h1 : 1 ≤ w) (h2 : n < 16) : IntKind.i64.wrap (n.tdiv w) = n / w := by
  rw [Int.tdiv_eq_ediv_of_nonneg h]
  have h3 := Int.ediv_le_self w h
  have h4 := Int.ediv_nonneg h (by omega : 0 ≤ w)
  exact w64 (by omega) (by omega)
theorem tmod_of {n w : Int} (h : 0 ≤ n) : n.tmod w = n % w := Int.tmod_eq_emod_of_nonneg h
theorem div_small {n w : Int} (h : 0 ≤ n) (h1 : 1 ≤ w) (h2 : n < 16) : 0 ≤ n / w ∧ n / w < 16 := ⟨Int.ediv_nonneg h (by omega), by have := Int.ediv_le_self w h; omega⟩
theorem mod_small {n w : Int} (h1 : 1 ≤ w) (h2 : w ≤ 4) : 0 ≤ n % w ∧ n % w < 4 := ⟨Int.emod_nonneg _ (by omega), by have := Int.emod_lt_of_pos n (by omega : 0 < w); omega⟩
theorem nextNode_c (w h n p : Int) : vcall C frz 192 [.agg #[.int .i64 w, .int .i64 h], .int .i64 n, .int .i64 p] H = some (.int .i64 (next w h n p), H) := by
  rw [vcall_go (fn := Try.f192) Try.func192 rfl (by kernel_rfl) rfl]
  simp [isNode_c]
  refine br_dec _ ?_ ?_ <;> intro h1 <;> simp [h1, next]
  obtain ⟨⟨⟨a1, a2⟩, b1, b2⟩, g2, g3, g4⟩ := isN_ok h1
  rw [go_draw (h := by kernel_rfl)]
  simp
  refine vneed_eq (by omega) ?_
  refine vneed_eq (by omega) ?_
  obtain ⟨d1, d2⟩ := div_small g2 a1 g4
  obtain ⟨m1, m2⟩ := mod_small (n := n) a1 a2
  rw [tdiv_of g2 a1 g4, tmod_of g2]
  refine br_dec _ ?_ ?_ <;> intro p0 <;> simp [p0, nodeAt_c]
  · rw [w64 (by omega) (by omega)]
  refine br_dec _ ?_ ?_ <;> intro p1 <;> simp [p1, nodeAt_c]
  · rw [w64 (by omega) (by omega)]
  refine br_dec _ ?_ ?_ <;> intro p2 <;> simp [p2, nodeAt_c]
  · rw [w64 (by omega) (by omega)]
  refine br_dec _ ?_ ?_ <;> intro p3 <;> simp [p3, nodeAt_c]
  · rw [w64 (by omega) (by omega)]
  refine br_dec _ ?_ ?_ <;> intro p4 <;> simp [p4, nodeAt_c]
theorem sNextNode_c (w h n p : Int) : vcall C frz 190 [.agg #[.int .i64 w, .int .i64 h], .int .i64 n, .int .i64 p] H = some (.int .i64 (next w h n p), H) := by
  rw [vcall_go (fn := Try.f190) Try.func190 rfl (by kernel_rfl) rfl]
  simp [l02Has_c]
  refine br_dec _ ?_ ?_ <;> intro h1 <;> simp [h1, next]
  obtain ⟨⟨⟨a1, a2⟩, b1, b2⟩, g2, g3, g4⟩ := isN_ok h1
  refine vneed_eq (by omega) ?_
  refine vneed_eq (by omega) ?_
  obtain ⟨d1, d2⟩ := div_small g2 a1 g4
  obtain ⟨m1, m2⟩ := mod_small (n := n) a1 a2
  rw [tdiv_of g2 a1 g4, tmod_of g2]
  refine br_dec _ ?_ ?_ <;> intro p0 <;> simp [p0, sNodeAt_c]
  · rw [w64 (by omega) (by omega)]
  refine br_dec _ ?_ ?_ <;> intro p1 <;> simp [p1, sNodeAt_c]
  · rw [w64 (by omega) (by omega)]
  refine br_dec _ ?_ ?_ <;> intro p2 <;> simp [p2, sNodeAt_c]
  · rw [w64 (by omega) (by omega)]
  refine br_dec _ ?_ ?_ <;> intro p3 <;> simp [p3, sNodeAt_c]
  · rw [w64 (by omega) (by omega)]
  refine br_dec _ ?_ ?_ <;> intro p4 <;> simp [p4, sNodeAt_c]
theorem next_range (w h n p : Int) : -1 ≤ next w h n p ∧ next w h n p < 16 := by
  unfold next
  split
  · rename_i h1
    have := isN_ok h1
    have a0 := nodeAt_range w h (n % w) (n / w - 1)
    have a1 := nodeAt_range w h (n % w + 1) (n / w)
    have a2 := nodeAt_range w h (n % w) (n / w + 1)
    have a3 := nodeAt_range w h (n % w - 1) (n / w)
    repeat' split
    all_goals omega
  · omega
theorem chan_inR (w h c : Int) : inR 0 c (IntKind.i64.wrap (IntKind.i64.wrap (4 * cnt w h) - 1)) ↔ 0 ≤ c ∧ c < 4 * cnt w h := by
  have := cnt_range w h
  rw [w64 (x := 4 * cnt w h) (by omega) (by omega), w64 (by omega) (by omega)]
  simp only [inR]; omega
theorem chan_div {w h c : Int} (h1 : 0 ≤ c ∧ c < 4 * cnt w h) : IntKind.i64.wrap (c.tdiv 4) = c / 4 ∧ c.tmod 4 = c % 4 := by
  have := cnt_range w h
  rw [Int.tdiv_eq_ediv_of_nonneg h1.1, Int.tmod_eq_emod_of_nonneg h1.1]
  exact ⟨w64 (by omega) (by omega), rfl⟩
theorem leads_c (w h c : Int) : vcall C frz 191 [.agg #[.int .i64 w, .int .i64 h], .int .i64 c] H = some (.bool (decide (leads w h c)), H) := by
  rw [vcall_go (fn := Try.f191) Try.func191 rfl (by kernel_rfl) rfl]
  simp [nodeCount_c, inside_c]
  refine gd_dec _ _ ?_ ?_ <;> intro h1 <;> simp [h1]
  · rw [chan_inR] at h1
    obtain ⟨e1, e2⟩ := chan_div h1
    simp [e1, e2, nextNode_c, leads, h1]
  · rw [chan_inR] at h1
    exact fun g => h1 g.1
theorem l03Leads_c (w h c : Int) : vcall C frz 204 [.agg #[.int .i64 w, .int .i64 h], .int .i64 c] H = some (.bool (decide (leads w h c)), H) := by
  rw [vcall_go (fn := Try.f204) Try.func204 rfl (by kernel_rfl) rfl]
  simp [sNodeCount_c, l01In_c]
  refine gd_dec _ _ ?_ ?_ <;> intro h1 <;> simp [h1]
  · rw [chan_inR] at h1
    obtain ⟨e1, e2⟩ := chan_div h1
    simp [e1, e2, sNextNode_c, leads, h1]
  · rw [chan_inR] at h1
    exact fun g => h1 g.1
end Go.Proofs.Ytcigpclbhfkgaaa.V
/-! What the laws' own functions return: arguments copied, compared, counted. -/
set_option linter.all false
namespace Go.Proofs.Ytcigpclbhfkgaaa.V
open Go Go.VM Go.Proofs
set_option maxRecDepth 10000
variable {frz : Nat} {H : Heap}
theorem getD_get (xs : List Int) (i : Nat) (h : i < xs.length) : xs.getD i 0 = xs[i] := by simp [List.getD_eq_getElem?_getD, h]
theorem szIntS_c (v : Value) (xs : List Int) (n : Int) (hI : IsI H v xs) (h0 : 0 ≤ n) (h1 : n ≤ 1048576) (h2 : xs.length ≤ 9223372036854775807) :
    vcall C frz 51 [v, .int .i64 n] H = some (.int .i64 (if n < xs.length then -1 else n - xs.length), H) := by
  rw [vcall_go (fn := Try.f51) Try.func51 rfl (by kernel_rfl) rfl]
  simp [hI.len]
  rw [w64 (by omega) (by omega)]
  refine br_dec _ ?_ ?_ <;> intro h <;> simp [h]
  · intro hh; omega
  · intro hh; omega
theorem toIntS_c (v : Value) (xs : List Int) (hI : IsI H v xs) (hb : xs.length ≤ 1073741824) :
   vcall C frz 54 [v] H = some (.slice (some ⟨H.length, 0, some 0⟩) xs.length 0, H ++ [⟨xs.map (.int .i64), 0, 3⟩]) := by
  rw [vcall_go (fn := Try.f54) Try.func54 rfl (by kernel_rfl) rfl]
  simp [hI.len]
  refine vneed_eq (by omega) ?_
  refine go_inv (fun n t H' => ∃ i : Nat, n = xs.length - i ∧ i ≤ xs.length ∧ t 0 = v ∧ t 3 = .slice (some ⟨H.length, 0, some 0⟩) xs.length 0 ∧ t 4 = .int .i64 i ∧
    H' = H ++ [⟨(xs.map (.int .i64)).take i ++ List.replicate (xs.length - i) (.int .i64 0), 0, 3⟩]) ?_ (n := xs.length) ⟨0, by simp⟩
  rintro n t H' ⟨i, rfl, hi, h0, h3, h4, rfl⟩ ih
  simp [h0, h3, h4, hI.lenA]
  refine br_dec _ ?_ ?_ <;> intro h
  · simp [h0, h3, h4, h, hI.idxA, hI.loadA, getD_get]
    refine vneed_eq (by omega) ?_
    refine ih (xs.length - (i + 1)) _ _ ⟨i + 1, rfl, by omega, by simp [h0], by simp [h3], ?_, ?_⟩ (by omega)
    · simp; rw [w64 (by omega) (by omega)]
    · rw [splice_fill' _ _ _ _ h]
  · have : i = xs.length := by omega
    subst this
    simp [h0, h3, h4, scrub_ints]
end Go.Proofs.Ytcigpclbhfkgaaa.V
/-! What the laws' own functions return: meshes copied and compared. -/
set_option linter.all false
namespace Go.Proofs.Ytcigpclbhfkgaaa.V
open Go Go.VM Go.Proofs
set_option maxRecDepth 10000
variable {frz : Nat} {H : Heap}
theorem eqIntS_c (a b : Value) (xs ys : List Int) (ha : IsI H a xs) (hb : IsI H b ys) (hl : xs.length ≤ 1073741824) :
   vcall C frz 58 [a, b] H = some (.bool (decide (xs = ys)), H) := by
  rw [vcall_go (fn := Try.f58) Try.func58 rfl (by kernel_rfl) rfl]
  simp [ha.len, hb.len]
  refine br_dec _ ?_ ?_ <;> intro h0 <;> simp [h0]
  · refine go_inv (fun n t H' => ∃ i : Nat, n = xs.length - i ∧ i ≤ xs.length ∧ t 0 = a ∧ t 1 = b ∧ t 5 = .int .i64 i ∧ H' = H ∧ xs.take i = ys.take i) ?_ (n := xs.length) ⟨0, by simp⟩
    rintro n t H' ⟨i, rfl, hi, h1, h2, h3, rfl, h4⟩ ih
    simp [h1, h2, h3, ha.len]
    refine br_dec _ ?_ ?_ <;> intro h
    · have h' : i < ys.length := by omega
      simp [h1, h2, h3, h]
      rw [go_draw (h := by kernel_rfl)]
      simp [h1, h2, h3, h, h', ha.idx, ha.load, hb.idx, hb.load, getD_get]
      refine br_dec _ ?_ ?_ <;> intro h5 <;> simp [h1, h2, h3, h5]
      · refine ih (xs.length - (i + 1)) _ _ ⟨i + 1, rfl, by omega, by simp [h1], by simp [h2], ?_, rfl, ?_⟩ (by omega)
        · simp; rw [w64 (by omega) (by omega)]
        · rw [List.take_succ_eq_append_getElem h, List.take_succ_eq_append_getElem h', h4]; simp [h5]
      · intro hh; subst hh; simp at h5
    · have : i = xs.length := by omega
      subst this
      simp [h1, h2, h3]
      rw [List.take_length, List.take_of_length_le (by omega)] at h4
      exact h4
  · intro hh; exact h0 (by rw [hh])
theorem toGrid_c (w h : Int) : vcall C frz 31 [.agg #[.int .i64 w, .int .i64 h]] H = some (.agg #[.int .i64 w, .int .i64 h], H) := by
  rw [vcall_go (fn := Try.f31) Try.func31 rfl (by kernel_rfl) rfl]
  simp
theorem szMesh_c (w h : Int) (v : Value) (xs : List Int) (n : Int) (hI : IsI H v xs) (h0 : 0 ≤ n) (h1 : n ≤ 1048576) (h2 : xs.length ≤ 9223372036854775807) :
    vcall C frz 11 [.agg #[.int .i64 w, .int .i64 h, v], .int .i64 n] H = some (.int .i64 (if n < xs.length then -1 else n - xs.length), H) := by
  rw [vcall_go (fn := Try.f11) Try.func11 rfl (by kernel_rfl) rfl]
  simp [szIntS_c _ _ _ (hI.app _) h0 h1 h2, hI.one', hI.cells]
  refine br_dec _ ?_ ?_ <;> intro h <;> simp [h]
  · intro hh; omega
theorem toMesh_c (w h : Int) (v : Value) (xs : List Int) (hI : IsI H v xs) (hb : xs.length ≤ 1073741824) :
   vcall C frz 14 [.agg #[.int .i64 w, .int .i64 h, v]] H = some (.agg #[.int .i64 w, .int .i64 h, .slice (some ⟨H.length, 0, some 0⟩) xs.length 0], H ++ [⟨xs.map (.int .i64), 0, 3⟩]) := by
  rw [vcall_go (fn := Try.f14) Try.func14 rfl (by kernel_rfl) rfl]
  simp [toGrid_c, toIntS_c _ _ (hI.app _) hb, hI.one', hI.cells]
theorem eqGrid_c (w h w' h' : Int) : vcall C frz 57 [.agg #[.int .i64 w, .int .i64 h], .agg #[.int .i64 w', .int .i64 h']] H = some (.bool (decide (w = w' ∧ h = h')), H) := by
  rw [vcall_go (fn := Try.f57) Try.func57 rfl (by kernel_rfl) rfl]
  simp
  refine br_dec _ ?_ ?_ <;> intro h0 <;> simp [h0]
  refine br_dec _ ?_ ?_ <;> intro h0 <;> simp [h0]
theorem eqMesh_c (w h w' h' : Int) (a b : Value) (xs ys : List Int) (ha : IsI H a xs) (hb : IsI H b ys) (hl : xs.length ≤ 1073741824) :
   vcall C frz 18 [.agg #[.int .i64 w, .int .i64 h, a], .agg #[.int .i64 w', .int .i64 h', b]] H = some (.bool (decide ((w = w' ∧ h = h') ∧ xs = ys)), H) := by
  rw [vcall_go (fn := Try.f18) Try.func18 rfl (by kernel_rfl) rfl]
  simp [eqGrid_c, ha.one', hb.one', ha.cells, hb.cells, -Bool.decide_and]
  refine br_dec _ ?_ ?_ <;> intro h0 <;> simp [h0, eqIntS_c _ _ _ _ (ha.app _) (hb.app _) hl]
  refine br_dec _ ?_ ?_ <;> intro h0 <;> simp [h0]
end Go.Proofs.Ytcigpclbhfkgaaa.V
/-! What the functions on meshes return. -/
set_option linter.all false
namespace Go.Proofs.Ytcigpclbhfkgaaa.V
open Go Go.VM Go.Proofs
set_option maxRecDepth 10000
variable {frz : Nat} {H : Heap}
theorem goodAt_bad {w h : Int} {b : List Int} {i : Nat} (h5 : i < b.length) (hg : ¬ goodAt w h b i) : ¬ meshOk w h b := fun hh => hg (hh.1 i h5)
theorem goodAt_succ {w h : Int} {b : List Int} {i : Nat} (hj : ∀ j < i, goodAt w h b j) (hg : goodAt w h b i) : ∀ j < i + 1, goodAt w h b j := fun j hh => by
  by_cases hji : j < i
  · exact hj j hji
  · have : j = i := by omega
    rw [this]; exact hg
theorem goodAt_iff {w h : Int} {b : List Int} {i : Nat} (h5 : i < b.length) : goodAt w h b i ↔ leads w h b[i] ∧ (0 < i → b[i - 1] < b[i]) := by
  unfold goodAt
  rw [getD_get _ _ h5]
  refine and_congr Iff.rfl ⟨fun g p => ?_, fun g p => ?_⟩
  · have := g p; rwa [getD_get _ _ (by omega)] at this
  · rw [getD_get _ _ (by omega)]; exact g p
theorem sMeshOk_c (w h : Int) (v : Value) (b : List Int) (hI : IsI H v b) (hl : b.length ≤ 1073741824) :
   vcall C frz 197 [.agg #[.int .i64 w, .int .i64 h, v]] H = some (.bool (decide (meshOk w h b)), H) := by
  rw [vcall_go (fn := Try.f197) Try.func197 rfl (by kernel_rfl) rfl]
  simp [hI.one', hI.cells, hI.lenA, sGridOk_c]
  refine br_dec _ ?_ ?_ <;> intro hg <;> simp [hg]
  · refine go_inv (fun n t H' => ∃ i : Nat, n = b.length - i ∧ i ≤ b.length ∧ t 1 = .pointer (some ⟨H.length, 0, some 0⟩) ∧ t 3 = .int .i64 i ∧
      H' = H ++ [⟨[.int .i64 w, .int .i64 h, v], 0, 38⟩] ∧ ∀ j < i, goodAt w h b j) ?_ (n := b.length) ⟨0, by simp⟩
    rintro n t H' ⟨i, rfl, hi, h1, h3, rfl, hj⟩ ih
    have next := fun (t' : Env) (e1 : t' 1 = .pointer (some ⟨H.length, 0, some 0⟩)) (e2 : t' 3 = .int .i64 (i + 1 : Nat)) (e3 : i < b.length) (e4 : goodAt w h b i) =>
      ih (b.length - (i + 1)) t' _ ⟨i + 1, rfl, by omega, e1, e2, rfl, goodAt_succ hj e4⟩ (by omega)
    simp [h1, h3, hI.lenA]
    refine br_dec _ ?_ ?_ <;> intro h5
    · simp [h1, h3, h5]
      rw [go_draw (h := by kernel_rfl)]
      simp [h1, h3, h5, hI.idxA, hI.loadA, getD_get, l03Leads_c]

      refine gd_dec _ _ ?_ ?_ <;> intro hL <;> simp [h1, h3, h5, hL]
      · refine gd_dec _ _ ?_ ?_ <;> intro h0
        · have e : IntKind.i64.wrap ((i : Int) - 1) = ((i - 1 : Nat) : Int) := by rw [w64 (by omega) (by omega)]; omega
          have e' : i - 1 < b.length := by omega
          simp [h1, h3, h5, h0, hL, hI.idxA, hI.loadA, getD_get, e, e']
          refine br_dec _ ?_ ?_ <;> intro h6
          · simp [h1, h3, h5, h0, hL, h6]
            refine goodAt_bad h5 ?_
            rw [goodAt_iff h5]
            exact fun hh => absurd (hh.2 h0) (by omega)
          · simp [h1, h3, h5, h0, hL, h6]
            refine next _ (by simp [h1]) ?_ h5 ((goodAt_iff h5).2 ⟨hL, fun _ => by omega⟩)
            simp; rw [w64 (by omega) (by omega)]
        · simp [h1, h3, h5, h0, hL]
          refine next _ (by simp [h1]) ?_ h5 ((goodAt_iff h5).2 ⟨hL, fun hh => absurd hh h0⟩)
          simp; rw [w64 (by omega) (by omega)]
      · refine goodAt_bad h5 ?_
        rw [goodAt_iff h5]
        exact fun hh => hL hh.1
    · have : i = b.length := by omega
      subst this
      simp [h1, h3]
      exact ⟨hj, hg⟩
  · exact fun hh => hg hh.2
theorem notin_succ {b : List Int} {c : Int} {i : Nat} (h : i < b.length) (h1 : c ∉ b.take i) (h2 : ¬ b[i] = c) : c ∉ b.take (i + 1) := by
  rw [List.take_succ_eq_append_getElem h]
  simp only [List.mem_append, List.mem_singleton, not_or]
  exact ⟨h1, fun hh => h2 hh.symm⟩
/-- the place of a number, or -1 -/
def place (b : List Int) (c : Int) : Int := if c ∈ b then b.idxOf c else -1
theorem place_range (b : List Int) (c : Int) : -1 ≤ place b c ∧ place b c < b.length ∧ (0 ≤ place b c ↔ c ∈ b) := by
  unfold place
  split
  · rename_i h
    have := List.idxOf_lt_length_iff.2 h
    refine ⟨by omega, by omega, ?_⟩
    simp [h]
  · rename_i h
    refine ⟨by omega, by omega, ?_⟩
    simp [h]
theorem place_at {b : List Int} {c : Int} {i : Nat} (h : i < b.length) (h1 : c ∉ b.take i) (h2 : b[i] = c) : place b c = i := by
  have hm : c ∈ b := h2 ▸ List.getElem_mem h
  unfold place
  rw [if_pos hm]
  have e : b = b.take i ++ b.drop i := (List.take_append_drop i b).symm
  have e2 : b.drop i = c :: b.drop (i + 1) := by rw [List.drop_eq_getElem_cons h, h2]
  rw [e, List.idxOf_append, if_neg h1, e2, List.idxOf_cons_self]
  simp; omega
theorem find_c (v : Value) (b : List Int) (c : Int) (hI : IsI H v b) (hl : b.length ≤ 1073741824) :
   vcall C frz 147 [v, .int .i64 c] H = some (.bool (decide (c ∈ b)), H) := by
  rw [vcall_go (fn := Try.f147) Try.func147 rfl (by kernel_rfl) rfl]
  simp [hI.len]
  refine go_inv (fun n t H' => ∃ i : Nat, n = b.length - i ∧ i ≤ b.length ∧ t 0 = v ∧ t 1 = .int .i64 c ∧ t 5 = .int .i64 i ∧ H' = H ∧ c ∉ b.take i) ?_ (n := b.length) ⟨0, by simp⟩
  rintro n t H' ⟨i, rfl, hi, h1, h2, h3, rfl, hj⟩ ih
  simp [h1, h2, h3, hI.len]
  refine br_dec _ ?_ ?_ <;> intro h5
  · simp [h1, h2, h3, h5, hI.idx, hI.load, getD_get]
    refine br_dec _ ?_ ?_ <;> intro h6 <;> simp [h1, h2, h3, h6]
    · rw [← h6]; exact List.getElem_mem h5
    · refine ih (b.length - (i + 1)) _ _ ⟨i + 1, rfl, by omega, by simp [h1], by simp [h2], ?_, rfl, notin_succ h5 hj h6⟩ (by omega)
      simp; rw [w64 (by omega) (by omega)]
  · have : i = b.length := by omega
    subst this
    simp [h1, h2, h3]
    rwa [List.take_length] at hj
theorem index_c (v : Value) (b : List Int) (c : Int) (hI : IsI H v b) (hl : b.length ≤ 1073741824) :
   vcall C frz 181 [v, .int .i64 c] H = some (.int .i64 (place b c), H) := by
  rw [vcall_go (fn := Try.f181) Try.func181 rfl (by kernel_rfl) rfl]
  simp [hI.len]
  refine go_inv (fun n t H' => ∃ i : Nat, n = b.length - i ∧ i ≤ b.length ∧ t 0 = v ∧ t 1 = .int .i64 c ∧ t 6 = v ∧ t 7 = .int .i64 b.length ∧ t 8 = .int .i64 i ∧ H' = H ∧ c ∉ b.take i) ?_ (n := b.length) ⟨0, by simp⟩
  rintro n t H' ⟨i, rfl, hi, h0, h1, h2, h3, h4, rfl, hj⟩ ih
  simp [h0, h1, h2, h3, h4, hI.len]
  refine br_dec _ ?_ ?_ <;> intro h5
  · simp [h0, h1, h2, h3, h4, h5, hI.idx, hI.load, getD_get]
    refine br_dec _ ?_ ?_ <;> intro h6 <;> simp [h0, h1, h2, h3, h4, h6]
    · rw [place_at (c := b[i]) h5 (by first | exact hj | (rw [h6]; exact hj) | (rw [← h6]; exact hj)) rfl]
    · refine ih (b.length - (i + 1)) _ _ ⟨i + 1, rfl, by omega, by simp [h0], by simp [h1], by simp [h2], by simp [h3], ?_, rfl, notin_succ h5 hj (by omega)⟩ (by omega)
      simp; rw [w64 (by omega) (by omega)]
  · have : i = b.length := by omega
    subst this
    simp [h0, h1, h2, h3]
    rw [List.take_length] at hj
    rw [place, if_neg hj]
theorem contains_c (v : Value) (b : List Int) (c : Int) (hI : IsI H v b) (hl : b.length ≤ 1073741824) :
   vcall C frz 150 [v, .int .i64 c] H = some (.bool (decide (c ∈ b)), H) := by
  rw [vcall_go (fn := Try.f150) Try.func150 rfl (by kernel_rfl) rfl]
  simp [index_c _ _ _ hI hl, place_range]
theorem l03Has_c (w h : Int) (v : Value) (b : List Int) (c : Int) (hI : IsI H v b) (hl : b.length ≤ 1073741824) :
   vcall C frz 189 [.agg #[.int .i64 w, .int .i64 h, v], .int .i64 c] H = some (.bool (decide (has w h b c)), H) := by
  rw [vcall_go (fn := Try.f189) Try.func189 rfl (by kernel_rfl) rfl]
  simp [hI.one', hI.cells, l03Leads_c]
  refine gd_dec _ _ ?_ ?_ <;> intro h1 <;> simp [h1, find_c _ _ _ (hI.app _) hl, has, -Bool.decide_and]
theorem endOf_c (w h : Int) (v : Value) (b : List Int) (c : Int) (hI : IsI H v b) (h0 : leads w h c) :
   vcall C frz 164 [.agg #[.int .i64 w, .int .i64 h, v], .int .i64 c] H = some (.int .i64 (next w h (c / 4) (c % 4)), H) := by
  rw [vcall_go (fn := Try.f164) Try.func164 rfl (by kernel_rfl) rfl]
  obtain ⟨e1, e2⟩ := chan_div h0.1
  simp [hI.one', hI.cells, e1, e2, nextNode_c]
theorem meshOk_c (w h : Int) (v : Value) (b : List Int) (hI : IsI H v b) (hl : b.length ≤ 1073741824) :
   vcall C frz 161 [.agg #[.int .i64 w, .int .i64 h, v]] H = some (.bool (decide (meshOk w h b)), H) := by
  rw [vcall_go (fn := Try.f161) Try.func161 rfl (by kernel_rfl) rfl]
  simp [hI.one', hI.cells, hI.lenA]
  refine go_inv (fun n t H' => ∃ i : Nat, n = b.length - i ∧ i ≤ b.length ∧ t 1 = .pointer (some ⟨H.length, 0, some 0⟩) ∧ t 6 = v ∧ t 7 = .int .i64 b.length ∧ t 8 = .int .i64 i ∧
      H' = H ++ [⟨[.int .i64 w, .int .i64 h, v], 0, 38⟩] ∧ ∀ j < i, goodAt w h b j) ?_ (n := b.length) ⟨0, by simp⟩
  rintro n t H' ⟨i, rfl, hi, h1, h2, h3, h4, rfl, hj⟩ ih
  have next := fun (t' : Env) (e1 : t' 1 = .pointer (some ⟨H.length, 0, some 0⟩)) (e2 : t' 6 = v) (e3 : t' 7 = .int .i64 b.length) (e4 : t' 8 = .int .i64 (i + 1 : Nat)) (e5 : i < b.length) (e6 : goodAt w h b i) =>
      ih (b.length - (i + 1)) t' _ ⟨i + 1, rfl, by omega, e1, e2, e3, e4, rfl, goodAt_succ hj e6⟩ (by omega)
  simp [h1, h2, h3, h4]
  refine br_dec _ ?_ ?_ <;> intro h5
  · simp [h1, h2, h3, h4, h5, hI.idxA, hI.loadA, getD_get, leads_c]
    refine gd_dec _ _ ?_ ?_ <;> intro hL <;> simp [h1, h2, h3, h4, h5, hL]
    · refine gd_dec _ _ ?_ ?_ <;> intro h0
      · have e : IntKind.i64.wrap ((i : Int) - 1) = ((i - 1 : Nat) : Int) := by rw [w64 (by omega) (by omega)]; omega
        have e' : i - 1 < b.length := by omega
        simp [h1, h2, h3, h4, h5, h0, hL, hI.idxA, hI.loadA, getD_get, e, e']
        refine br_dec _ ?_ ?_ <;> intro h6
        · simp [h1, h2, h3, h4, h5, h0, hL, h6]
          refine goodAt_bad h5 ?_
          rw [goodAt_iff h5]
          exact fun hh => absurd (hh.2 h0) (by omega)
        · simp [h1, h2, h3, h4, h5, h0, hL, h6]
          refine next _ (by simp [h1]) (by simp [h2]) (by simp [h3]) ?_ h5 ((goodAt_iff h5).2 ⟨hL, fun _ => by omega⟩)
          simp; rw [w64 (by omega) (by omega)]
      · simp [h1, h2, h3, h4, h5, h0, hL]
        refine next _ (by simp [h1]) (by simp [h2]) (by simp [h3]) ?_ h5 ((goodAt_iff h5).2 ⟨hL, fun hh => absurd hh h0⟩)
        simp; rw [w64 (by omega) (by omega)]
    · refine goodAt_bad h5 ?_
      rw [goodAt_iff h5]
      exact fun hh => hL hh.1
  · have : i = b.length := by omega
    subst this
    simp [h1, h2, h3, h4, gridOk_c]
    exact ⟨fun hg => ⟨hj, hg⟩, fun hh => hh.2⟩
theorem hasChannel_c (w h : Int) (v : Value) (b : List Int) (c : Int) (hI : IsI H v b) (hl : b.length ≤ 1073741824) :
   vcall C frz 163 [.agg #[.int .i64 w, .int .i64 h, v], .int .i64 c] H = some (.bool (decide (meshOk w h b ∧ has w h b c)), H) := by
  rw [vcall_go (fn := Try.f163) Try.func163 rfl (by kernel_rfl) rfl]
  simp [hI.one', hI.cells, meshOk_c _ _ _ _ (hI.app _) hl]
  refine gd_dec _ _ ?_ ?_ <;> intro h1 <;> simp [h1, leads_c, -Bool.decide_and]
  refine gd_dec _ _ ?_ ?_ <;> intro h2 <;> simp [h2, has, contains_c _ _ _ (hI.app _) hl, -Bool.decide_and]
end Go.Proofs.Ytcigpclbhfkgaaa.V
/-! Tables: the plain walk. -/
set_option linter.all false
namespace Go.Proofs.Ytcigpclbhfkgaaa.V
open Go Go.VM Go.Proofs
set_option maxRecDepth 10000
def portOf (w h : Int) (T : List Int) (a to : Int) : Int := rd T (a * cnt w h + to)
def stepOk (w h : Int) (b T : List Int) (a to : Int) : Prop := inR 0 (portOf w h T a to) 3 ∧ has w h b (4 * a + portOf w h T a to)
instance (w h : Int) (b T : List Int) (a to : Int) : Decidable (stepOk w h b T a to) := inferInstanceAs (Decidable (_ ∧ _))
def walkN (w h : Int) (b T : List Int) (to : Int) : Nat → Int → List Int → List Int
  | 0, a, out => if portOf w h T a to = 4 then (if a = to then out else []) else []
  | f + 1, a, out => if portOf w h T a to = 4 then (if a = to then out else []) else
      if stepOk w h b T a to then walkN w h b T to f (next w h a (portOf w h T a to)) (out ++ [4 * a + portOf w h T a to]) else []
/-- the walk of a table -/
def walk (w h : Int) (b T : List Int) (a to : Int) : List Int := walkN w h b T to (cnt w h).toNat a []
def tsized (w h : Int) (b T : List Int) : Prop := meshOk w h b ∧ (T.length : Int) = cnt w h * cnt w h
instance (w h : Int) (b T : List Int) : Decidable (tsized w h b T) := inferInstanceAs (Decidable (_ ∧ _))
def tableOk (w h : Int) (b T : List Int) : Prop := tsized w h b T ∧ ∀ a, a < (cnt w h).toNat → ∀ c, c < (cnt w h).toNat → (a = c → portOf w h T a a = 4) ∧ (a ≠ c → walk w h b T a c ≠ [])
instance (w h : Int) (b T : List Int) : Decidable (tableOk w h b T) := inferInstanceAs (Decidable (_ ∧ _))
theorem walkN_len (w h : Int) (b T : List Int) (to : Int) : ∀ f a out, (walkN w h b T to f a out).length ≤ out.length + f := by
  intro f
  induction f with
  | zero => intro a out; simp only [walkN]; repeat' split
            all_goals simp
  | succ f ih =>
    intro a out; simp only [walkN]; repeat' split
    · omega
    · simp
    · have := ih (next w h a (portOf w h T a to)) (out ++ [4 * a + portOf w h T a to])
      simp at this; omega
    · simp
theorem nodeAt_isN {w h x y : Int} (hx : 0 ≤ nodeAt w h x y) : isN w h (nodeAt w h x y) := by
  refine ⟨hx, ?_⟩
  unfold nodeAt at hx ⊢
  split
  · rename_i h1
    obtain ⟨h1, h2, h3⟩ := h1
    have hm := mul_small h1
    have c2 : y * w ≤ (h - 1) * w := Int.mul_le_mul_of_nonneg_right (by omega) (by have := h1.1.1; omega)
    rw [Int.sub_mul, Int.mul_comm h w] at c2
    rw [cnt, if_pos h1]
    omega
  · rename_i h1; rw [if_neg h1] at hx; omega
theorem next_isN {w h a p : Int} (hx : 0 ≤ next w h a p) : isN w h (next w h a p) := by
  unfold next at hx ⊢
  by_cases h1 : isN w h a
  · rw [if_pos h1] at hx ⊢
    by_cases p0 : p = 0
    · rw [if_pos p0] at hx ⊢; exact nodeAt_isN hx
    rw [if_neg p0] at hx ⊢
    by_cases p1 : p = 1
    · rw [if_pos p1] at hx ⊢; exact nodeAt_isN hx
    rw [if_neg p1] at hx ⊢
    by_cases p2 : p = 2
    · rw [if_pos p2] at hx ⊢; exact nodeAt_isN hx
    rw [if_neg p2] at hx ⊢
    by_cases p3 : p = 3
    · rw [if_pos p3] at hx ⊢; exact nodeAt_isN hx
    rw [if_neg p3] at hx ⊢
    by_cases p4 : p = 4
    · rw [if_pos p4] at hx ⊢; exact h1
    rw [if_neg p4] at hx; omega
  · rw [if_neg h1] at hx; omega
theorem step_next {w h a p : Int} {b : List Int} (h0 : inR 0 p 3) (h1 : has w h b (4 * a + p)) : (4 * a + p) / 4 = a ∧ (4 * a + p) % 4 = p ∧ isN w h (next w h a p) := by
  obtain ⟨h2, h3⟩ := h0
  have e1 : (4 * a + p) / 4 = a := by omega
  have e2 : (4 * a + p) % 4 = p := by omega
  refine ⟨e1, e2, next_isN ?_⟩
  have := h1.1.2
  rwa [e1, e2] at this
theorem at_small {w h a to : Int} (h1 : isN w h a) (h2 : isN w h to) : 0 ≤ a * cnt w h + to ∧ a * cnt w h + to < cnt w h * cnt w h ∧ a * cnt w h ≤ 256 ∧ 0 ≤ a * cnt w h := by
  have hc := cnt_range w h
  obtain ⟨a1, a2⟩ := h1
  obtain ⟨b1, b2⟩ := h2
  have c1 : 0 * 0 ≤ a * cnt w h := Int.mul_le_mul a1 hc.1 (by omega) (by omega)
  have c2 : a * cnt w h ≤ (cnt w h - 1) * cnt w h := Int.mul_le_mul_of_nonneg_right (by omega) hc.1
  rw [Int.sub_mul] at c2
  have c3 : cnt w h * cnt w h ≤ 16 * 16 := Int.mul_le_mul hc.2 hc.2 hc.1 (by omega)
  omega
theorem rd_get {T : List Int} {k : Int} (h0 : 0 ≤ k) (h1 : k < T.length) : T.getD k.toNat 0 = rd T k := rfl
end Go.Proofs.Ytcigpclbhfkgaaa.V
/-! Tables: the walks. -/
set_option linter.all false
namespace Go.Proofs.Ytcigpclbhfkgaaa.V
open Go Go.VM Go.Proofs
set_option maxRecDepth 10000
variable {frz : Nat} {H : Heap}
theorem sWalk_c (w h : Int) (v u : Value) (b T : List Int) (a to : Int) (hI : IsI H v b) (hT : IsI H u T) (hl : b.length ≤ 1073741824) (hz : tsized w h b T) (ha : isN w h a) (hto : isN w h to) :
   vcall C frz 160 [.agg #[.int .i64 w, .int .i64 h, v], .agg #[u], .int .i64 a, .int .i64 to] H =
    some (.slice (some ⟨H.length, 0, some 0⟩) (walk w h b T a to).length 0, H ++ [⟨(walk w h b T a to).map (.int .i64), 0, 3⟩]) := by
  rw [vcall_go (fn := Try.f160) Try.func160 rfl (by kernel_rfl) rfl]
  simp [hI.one', hI.cells, hT.one', hT.cells, sNodeCount_c]
  have hc := cnt_range w h
  refine go_inv (fun n t H' => ∃ (o : List Int) (g : Nat) (x : Int) (G : Heap), n = (cnt w h).toNat + 1 - o.length ∧ t 3 = .int .i64 to ∧ t 4 = .pointer (some ⟨H.length, 0, some 0⟩) ∧ t 5 = .pointer (some ⟨H.length + 1, 0, some 0⟩) ∧
    t 9 = .slice (some ⟨H.length + 2, 0, some g⟩) o.length 0 ∧ t 10 = .int .i64 (cnt w h) ∧ t 11 = .int .i64 x ∧
    H' = H ++ ⟨[.int .i64 w, .int .i64 h, v], 0, 38⟩ :: ⟨[u], 0, 40⟩ :: ⟨o.map (.int .i64), g, 3⟩ :: G ∧
    ((o.length ≤ (cnt w h).toNat ∧ isN w h x ∧ walkN w h b T to ((cnt w h).toNat - o.length) x o = walk w h b T a to) ∨ (o.length = (cnt w h).toNat + 1 ∧ walk w h b T a to = []))) ?_
    (n := (cnt w h).toNat + 1) ⟨[], 0, a, [], by simp [ha, walk]⟩
  rintro n t H' ⟨o, g, x, G, rfl, h3, h4, h5, h9, h10, h11, rfl, ho⟩ ih
  simp [h3, h4, h5, h9, h10, h11]
  refine br_dec _ ?_ ?_ <;> intro hn
  · obtain ⟨ho1, hx, hw⟩ : o.length ≤ (cnt w h).toNat ∧ isN w h x ∧ walkN w h b T to ((cnt w h).toNat - o.length) x o = walk w h b T a to := by
      rcases ho with ho | ho
      · exact ho
      · omega
    obtain ⟨k0, k1, k2, k3⟩ := at_small hx hto
    have hTl := hz.2
    have e1 : IntKind.i64.wrap (x * cnt w h) = x * cnt w h := w64 (by omega) (by omega)
    have e2 : IntKind.i64.wrap (x * cnt w h + to) = x * cnt w h + to := w64 (by omega) (by have := hto.2; omega)
    have q1 : ∀ L, vindexAddr Try.prog (H ++ L) 24 u (.int .i64 (x * cnt w h + to)) = some (elp u (x * cnt w h + to).toNat) := fun L => hT.idxA (e := 3) (by simp) k0 (by omega)
    have q2 : ∀ L, vload Try.prog (H ++ L) 3 (elp u (x * cnt w h + to).toNat) = some (.int .i64 (portOf w h T x to)) := fun L => hT.loadA (by simp) (by omega)
    simp [h3, h4, h5, h9, h10, h11, e1, e2, q1, q2]
    refine br_dec _ ?_ ?_ <;> intro hp
    · have hw' : walk w h b T a to = if x = to then o else [] := by
        rw [← hw]; cases (cnt w h).toNat - o.length <;> simp [walkN, hp]
      simp [h3, h4, h5, h9, h10, h11, hp]
      refine br_dec _ ?_ ?_ <;> intro hq
      · simp [h3, h4, h5, h9, h10, h11, hq] at hw' ⊢
        simp [hw']
      · simp [h3, h4, h5, h9, h10, h11, hq] at hw' ⊢
        simp [hw']
    · simp [h3, h4, h5, h9, h10, h11, hp]
      have hw0 : ¬ stepOk w h b T x to → walk w h b T a to = [] := fun hh => by
        rw [← hw]; cases (cnt w h).toNat - o.length <;> simp [walkN, hp, hh]
      have e3 : IntKind.i64.wrap (4 * x) = 4 * x := w64 (by have := hx.1; omega) (by have := hx.2; omega)
      simp [l01In_c]
      refine gd_dec _ _ ?_ ?_ <;> intro hr
      · have e4 : IntKind.i64.wrap (4 * x + portOf w h T x to) = 4 * x + portOf w h T x to := w64 (by have := hx.1; have := hr.1; omega) (by have := hx.2; have := hr.2; omega)
        simp [h3, h4, h5, h9, h10, h11, hp, hr, e3, e4, l03Has_c _ _ _ _ _ (hI.app _) hl, hI.one', hI.cells]
        refine br_dec _ ?_ ?_ <;> intro hh
        · simp [h3, h4, h5, h9, h10, h11, hp, hr, hh, e3, e4, sNextNode_c, hI.one', hI.cells]
          obtain ⟨s1, s2, s3⟩ := step_next hr hh
          refine vneed_eq (by omega) ?_
          refine ih ((cnt w h).toNat + 1 - (o.length + 1)) _ _ ⟨o ++ [4 * x + portOf w h T x to], g + 1, next w h x (portOf w h T x to), _, by simp, by simp [h3], by simp [h4], by simp [h5], by simp, by simp [h10], by simp, by simp; rfl, ?_⟩ (by omega)
          by_cases hlt : o.length < (cnt w h).toNat
          · refine .inl ⟨by simp; omega, s3, ?_⟩
            rw [show (cnt w h).toNat - o.length = ((cnt w h).toNat - (o ++ [4 * x + portOf w h T x to]).length) + 1 by simp; omega] at hw
            rw [← hw, walkN, if_neg hp, if_pos ⟨hr, hh⟩]
          · refine .inr ⟨by simp; omega, ?_⟩
            rw [show (cnt w h).toNat - o.length = 0 by omega] at hw
            rw [← hw, walkN, if_neg hp]
        · have hw2 := hw0 (fun k => hh k.2)
          simp [h3, h4, h5, h9, h10, h11, hp, hr, hh, e3, e4, hw2]
      · have hw2 := hw0 (fun k => hr k.1)
        simp [h3, h4, h5, h9, h10, h11, hp, hr, hw2]
  · have hw2 : walk w h b T a to = [] := by
      rcases ho with ho | ho
      · omega
      · exact ho.2
    simp [h3, h4, h5, h9, h10, h11, hn, hw2]
end Go.Proofs.Ytcigpclbhfkgaaa.V
/-! Tables: the program's own walk. -/
set_option linter.all false
namespace Go.Proofs.Ytcigpclbhfkgaaa.V
open Go Go.VM Go.Proofs
set_option maxRecDepth 10000
variable {frz : Nat} {H : Heap}
theorem portAt_c (w h : Int) (v u : Value) (b T : List Int) (a to : Int) (hI : IsI H v b) (hT : IsI H u T) (hl : b.length ≤ 1073741824) (hz : tsized w h b T) (ha : isN w h a) (hto : isN w h to) :
   vcall C frz 162 [.agg #[.int .i64 w, .int .i64 h, v], .agg #[u], .int .i64 a, .int .i64 to] H =
    some (.int .i64 (if inR 0 (portOf w h T a to) 4 then portOf w h T a to else -1), H) := by
  rw [vcall_go (fn := Try.f162) Try.func162 rfl (by kernel_rfl) rfl]
  have hc := cnt_range w h
  obtain ⟨k0, k1, k2, k3⟩ := at_small ha hto
  have hTl := hz.2
  have hc2 : cnt w h * cnt w h ≤ 16 * 16 := Int.mul_le_mul hc.2 hc.2 hc.1 (by omega)
  have hc3 : 0 * 0 ≤ cnt w h * cnt w h := Int.mul_le_mul hc.1 hc.1 (by omega) hc.1
  have e0 : IntKind.i64.wrap (cnt w h * cnt w h) = cnt w h * cnt w h := w64 (by omega) (by omega)
  have e1 : IntKind.i64.wrap (a * cnt w h) = a * cnt w h := w64 (by omega) (by omega)
  have e2 : IntKind.i64.wrap (a * cnt w h + to) = a * cnt w h + to := w64 (by omega) (by have := hto.2; omega)
  have q1 : ∀ L, vindexAddr Try.prog (H ++ L) 24 u (.int .i64 (a * cnt w h + to)) = some (elp u (a * cnt w h + to).toNat) := fun L => hT.idxA (e := 3) (by simp) k0 (by omega)
  have q2 : ∀ L, vload Try.prog (H ++ L) 3 (elp u (a * cnt w h + to).toNat) = some (.int .i64 (portOf w h T a to)) := fun L => hT.loadA (by simp) (by omega)
  simp [hI.one', hI.cells, hT.one', hT.cells, nodeCount_c, meshOk_c _ _ _ _ (hI.app _) hl, hz.1, inside_c, isN_inR, ha, hto, e0, e1, e2, q1, q2, hT.lenA, hTl]
  try refine br_dec _ ?_ ?_ <;> intro hr <;> simp [hr, q1, q2, e1, e2]
/-- what the program's walk gives back -/
def ret (H : Heap) (xs : List Int) : Value × Heap := if xs = [] then (.slice none 0 0, H) else (.slice (some ⟨H.length, 0, some 0⟩) xs.length 0, H ++ [⟨xs.map (.int .i64), 0, 3⟩])
theorem walk_c (w h : Int) (v u : Value) (b T : List Int) (a to : Int) (hI : IsI H v b) (hT : IsI H u T) (hl : b.length ≤ 1073741824) (hz : tsized w h b T) (ha : isN w h a) (hto : isN w h to) (hne : a ≠ to) :
   vcall C frz 111 [.agg #[.int .i64 w, .int .i64 h, v], .agg #[u], .int .i64 a, .int .i64 to] H = some (ret H (walk w h b T a to)) := by
  rw [vcall_go (fn := Try.f111) Try.func111 rfl (by kernel_rfl) rfl]
  have hc := cnt_range w h
  simp [hI.one', hI.cells, hT.one', hT.cells, nodeCount_c, meshOk_c _ _ _ _ (hI.app _) hl, hz.1, isNode_c, ha, hto, hne]
  refine go_inv (fun n t H' => ∃ (o : List Int) (g : Nat) (x : Int) (G : Heap), n = (cnt w h).toNat + 1 - o.length ∧ t 3 = .int .i64 to ∧ t 4 = .pointer (some ⟨H.length, 0, some 0⟩) ∧ t 5 = .pointer (some ⟨H.length + 1, 0, some 0⟩) ∧
    t 9 = .slice (some ⟨H.length + 2, 0, some g⟩) o.length 0 ∧ t 10 = .int .i64 x ∧
    H' = H ++ ⟨[.int .i64 w, .int .i64 h, v], 0, 38⟩ :: ⟨[u], 0, 40⟩ :: ⟨o.map (.int .i64), g, 3⟩ :: G ∧
    o.length ≤ (cnt w h).toNat ∧ isN w h x ∧ walkN w h b T to ((cnt w h).toNat - o.length) x o = walk w h b T a to ∧ (o = [] → x ≠ to)) ?_
    (n := (cnt w h).toNat + 1) ⟨[], 0, a, [], by simp [ha, walk, hne]⟩
  rintro n t H' ⟨o, g, x, G, rfl, h3, h4, h5, h9, h10, rfl, ho1, hx, hw, hox⟩ ih
  have hpa := fun F L => portAt_c (frz := F) (H := H ++ L) w h v u b T x to (hI.app _) (hT.app _) hl hz hx hto
  have hw0 : portOf w h T x to ≠ 4 → ¬ stepOk w h b T x to → walk w h b T a to = [] := fun hp hh => by
    rw [← hw]; cases (cnt w h).toNat - o.length <;> simp [walkN, hp, hh]
  simp [h3, h4, h5, h9, h10, hI.one', hI.cells, hT.one', hT.cells, hpa]
  have hnil : walk w h b T a to = [] → (Value.slice none 0 0, H) = ret H (walk w h b T a to) := fun hh => by rw [hh]; rfl
  by_cases hr : inR 0 (portOf w h T x to) 4
  · have hlt : ¬ portOf w h T x to < 0 := by have := hr.1; omega
    simp [hr, hlt]
    refine br_dec _ ?_ ?_ <;> intro hp
    · have hw' : walk w h b T a to = if x = to then o else [] := by
        rw [← hw]; cases (cnt w h).toNat - o.length <;> simp [walkN, hp]
      simp [h3, h4, h5, h9, h10, hp]
      refine br_dec _ ?_ ?_ <;> intro hq
      · have hon : o ≠ [] := fun hh => hox hh hq
        rw [if_pos hq] at hw'
        simp [h3, h4, h5, h9, h10, hq, hw', ret, hon]
      · rw [if_neg hq] at hw'
        simp [h3, h4, h5, h9, h10, hq, hw', ret]
    · have hr3 : inR 0 (portOf w h T x to) 3 := ⟨hr.1, by have := hr.2; omega⟩
      have e3 : IntKind.i64.wrap (4 * x) = 4 * x := w64 (by have := hx.1; omega) (by have := hx.2; omega)
      have e4 : IntKind.i64.wrap (4 * x + portOf w h T x to) = 4 * x + portOf w h T x to := w64 (by have := hx.1; have := hr.1; omega) (by have := hx.2; have := hr.2; omega)
      simp [h3, h4, h5, h9, h10, hp, hI.one', hI.cells, e3, e4, hasChannel_c _ _ _ _ _ (hI.app _) hl, hz.1]
      refine gd_dec _ _ ?_ ?_ <;> intro hh
      · obtain ⟨s1, s2, s3⟩ := step_next hr3 hh
        have he := fun F L => endOf_c (frz := F) (H := H ++ L) w h v b (4 * x + portOf w h T x to) (hI.app _) hh.1
        rw [s1, s2] at he
        simp [h3, h4, h5, h9, h10, hp, hh, hI.one', hI.cells, e3, e4, nodeCount_c]
        refine br_dec _ ?_ ?_ <;> intro hf
        · have hwz : walk w h b T a to = [] := by
            rw [show (cnt w h).toNat - o.length = 0 by omega] at hw
            rw [← hw, walkN, if_neg hp]
          simp [h3, h4, h5, h9, h10, hp, hh, hf, hnil hwz]
        · simp [h3, h4, h5, h9, h10, hp, hh, hf, hI.one', hI.cells, e3, e4]
          refine vneed_eq (by omega) ?_
          simp [h3, h4, h5, h9, h10, hp, hh, hf, hI.one', hI.cells, e3, e4, he]
          refine ih ((cnt w h).toNat + 1 - (o.length + 1)) _ _ ⟨o ++ [4 * x + portOf w h T x to], g + 1, next w h x (portOf w h T x to), _, by simp, by simp [h3], by simp [h4], by simp [h5], by simp, by simp, by simp; rfl, by simp; omega, s3, ?_, by simp⟩ (by omega)
          rw [show (cnt w h).toNat - o.length = ((cnt w h).toNat - (o ++ [4 * x + portOf w h T x to]).length) + 1 by simp; omega] at hw
          rw [← hw, walkN, if_neg hp, if_pos ⟨hr3, hh⟩]
      · simp [h3, h4, h5, h9, h10, hp, hh]
        exact hnil (hw0 hp (fun hs => hh hs.2))
  · simp [hr]
    refine hnil (hw0 (fun hp => hr ?_) fun hs => hr ⟨hs.1.1, by have := hs.1.2; omega⟩)
    rw [hp]; exact ⟨by omega, by omega⟩
end Go.Proofs.Ytcigpclbhfkgaaa.V
/-! Tables that are valid. -/
set_option linter.all false
namespace Go.Proofs.Ytcigpclbhfkgaaa.V
open Go Go.VM Go.Proofs
set_option maxRecDepth 10000
variable {frz : Nat} {H : Heap}
theorem sq_small (w h : Int) : IntKind.i64.wrap (cnt w h * cnt w h) = cnt w h * cnt w h := by
  have hc := cnt_range w h
  have hc2 : cnt w h * cnt w h ≤ 16 * 16 := Int.mul_le_mul hc.2 hc.2 hc.1 (by omega)
  have hc3 : 0 * 0 ≤ cnt w h * cnt w h := Int.mul_le_mul hc.1 hc.1 (by omega) hc.1
  exact w64 (by omega) (by omega)
theorem sized_c (w h : Int) (v u : Value) (b T : List Int) (hI : IsI H v b) (hT : IsI H u T) (hl : b.length ≤ 1073741824) :
   vcall C frz 173 [.agg #[.int .i64 w, .int .i64 h, v], .agg #[u]] H = some (.bool (decide (tsized w h b T)), H) := by
  rw [vcall_go (fn := Try.f173) Try.func173 rfl (by kernel_rfl) rfl]
  simp [hI.one', hI.cells, hT.one', hT.cells, sNodeCount_c, sMeshOk_c _ _ _ _ (hI.app _) hl]
  refine gd_dec _ _ ?_ ?_ <;> intro h1 <;> simp [h1, tsized, hT.lenA, sq_small, hI.one', hI.cells, hT.one', hT.cells, sNodeCount_c, -Bool.decide_and]
def good (w h : Int) (b T : List Int) (a c : Nat) : Prop := ((a : Int) = c → portOf w h T a a = 4) ∧ ((a : Int) ≠ c → walk w h b T a c ≠ [])
theorem tableOk_iff (w h : Int) (b T : List Int) : tableOk w h b T ↔ tsized w h b T ∧ ∀ a, a < (cnt w h).toNat → ∀ c, c < (cnt w h).toNat → good w h b T a c := by
  unfold tableOk good
  refine and_congr Iff.rfl ⟨fun k a ha c hc => ?_, fun k a ha c hc => ?_⟩
  · exact ⟨fun e => (k a ha c hc).1 (by omega), fun e => (k a ha c hc).2 (by omega)⟩
  · exact ⟨fun e => (k a ha c hc).1 (by omega), fun e => (k a ha c hc).2 (by omega)⟩
theorem isN_nat {w h : Int} {a : Nat} (k : a < (cnt w h).toNat) : isN w h a := ⟨by omega, by omega⟩
theorem sTableOk_c (w h : Int) (v u : Value) (b T : List Int) (hI : IsI H v b) (hT : IsI H u T) (hl : b.length ≤ 1073741824) :
   vcall C frz 130 [.agg #[.int .i64 w, .int .i64 h, v], .agg #[u]] H = some (.bool (decide (tableOk w h b T)), H) := by
  rw [vcall_go (fn := Try.f130) Try.func130 rfl (by kernel_rfl) rfl]
  simp [hI.one', hI.cells, hT.one', hT.cells, sNodeCount_c, sized_c _ _ _ _ _ _ (hI.app _) (hT.app _) hl]
  refine br_dec _ ?_ ?_ <;> intro h1
  · simp [h1, hI.one', hI.cells, hT.one', hT.cells, sNodeCount_c]
    have hc := cnt_range w h
    have no : ∀ i j : Nat, i < (cnt w h).toNat → j < (cnt w h).toNat → ¬ good w h b T i j → ¬ tableOk w h b T := fun i j hi hj hg hh => hg (((tableOk_iff w h b T).1 hh).2 i hi j hj)
    refine go_inv (fun n t H' => ∃ (i : Nat) (G : Heap), n = (cnt w h).toNat - i ∧ i ≤ (cnt w h).toNat ∧ t 2 = .pointer (some ⟨H.length, 0, some 0⟩) ∧ t 3 = .pointer (some ⟨H.length + 1, 0, some 0⟩) ∧
      t 5 = .int .i64 (cnt w h) ∧ t 6 = .int .i64 i ∧ H' = H ++ ⟨[.int .i64 w, .int .i64 h, v], 0, 38⟩ :: ⟨[u], 0, 40⟩ :: G ∧ ∀ a, a < i → ∀ c, c < (cnt w h).toNat → good w h b T a c) ?_
      (n := (cnt w h).toNat) ⟨0, [], by simp⟩
    rintro n t H' ⟨i, G, rfl, hi, h2, h3, h5, h6, rfl, hk⟩ ih
    simp [h2, h3, h5, h6]
    refine br_dec _ ?_ ?_ <;> intro hlt
    · simp [h2, h3, h5, h6, hlt]
      refine go_inv (fun n t H' => ∃ (j : Nat) (G : Heap), n = (cnt w h).toNat - j ∧ j ≤ (cnt w h).toNat ∧ t 2 = .pointer (some ⟨H.length, 0, some 0⟩) ∧ t 3 = .pointer (some ⟨H.length + 1, 0, some 0⟩) ∧
        t 5 = .int .i64 (cnt w h) ∧ t 6 = .int .i64 i ∧ t 7 = .int .i64 j ∧ H' = H ++ ⟨[.int .i64 w, .int .i64 h, v], 0, 38⟩ :: ⟨[u], 0, 40⟩ :: G ∧ ∀ c, c < j → good w h b T i c) ?_
        (n := (cnt w h).toNat) ⟨0, G, by simp [h2, h3, h5, h6]⟩
      clear h2 h3 h5 h6
      rintro n t H' ⟨j, G, rfl, hj, h2, h3, h5, h6, h7, rfl, hkj⟩ ih2
      simp [h2, h3, h5, h6, h7]
      refine br_dec _ ?_ ?_ <;> intro hlj
      · have ni : i < (cnt w h).toNat := by omega
        have nj : j < (cnt w h).toNat := by omega
        obtain ⟨k0, k1, k2, k3⟩ := at_small (isN_nat ni) (isN_nat ni)
        have hTl := h1.2
        have e1 : IntKind.i64.wrap (i * cnt w h) = i * cnt w h := w64 (by omega) (by omega)
        have e2 : IntKind.i64.wrap (i * cnt w h + i) = i * cnt w h + i := w64 (by omega) (by omega)
        have q1 : ∀ L, vindexAddr Try.prog (H ++ L) 24 u (.int .i64 (i * cnt w h + i)) = some (elp u (i * cnt w h + i : Int).toNat) := fun L => hT.idxA (e := 3) (by simp) k0 (by omega)
        have q2 : ∀ L, vload Try.prog (H ++ L) 3 (elp u (i * cnt w h + i : Int).toNat) = some (.int .i64 (portOf w h T i i)) := fun L => hT.loadA (by simp) (by omega)
        have sw := fun F L => sWalk_c (frz := F) (H := H ++ L) w h v u b T i j (hI.app _) (hT.app _) hl h1 (isN_nat ni) (isN_nat nj)
        have yes := fun (t' : Env) (G' : Heap) (x2 : t' 2 = .pointer (some ⟨H.length, 0, some 0⟩)) (x3 : t' 3 = .pointer (some ⟨H.length + 1, 0, some 0⟩)) (x5 : t' 5 = .int .i64 (cnt w h)) (x6 : t' 6 = .int .i64 i) (x7 : t' 7 = .int .i64 (j + 1 : Nat)) (hg : good w h b T i j) =>
          ih2 ((cnt w h).toNat - (j + 1)) t' _ ⟨j + 1, G', rfl, by omega, x2, x3, x5, x6, x7, rfl, fun c hc' => by
            by_cases hcj : c < j
            · exact hkj c hcj
            · have : c = j := by omega
              subst this; exact hg⟩ (by omega)
        simp [h2, h3, h5, h6, h7, hlj]
        refine gd_dec _ _ ?_ ?_ <;> intro hij
        · obtain rfl : i = j := by omega
          simp [h2, h3, h5, h6, h7, hlj, e1, e2, q1, q2]
          refine gd_dec _ _ ?_ ?_ <;> intro hp
          · simp [h2, h3, h5, h6, h7, hlj, hp]
            refine yes _ _ (by simp [h2]) (by simp [h3]) (by simp [h5]) (by simp [h6]) ?_ ⟨fun _ => hp, fun hh => absurd rfl hh⟩
            simp; rw [w64 (by omega) (by omega)]
          · simp [h2, h3, h5, h6, h7, hlj, hp]
            exact no i i ni ni (fun hg => hp (hg.1 rfl))
        · simp [h2, h3, h5, h6, h7, hlj, hij, hI.one', hI.cells, hT.one', hT.cells, sw]
          refine br_dec _ ?_ ?_ <;> intro hp
          · simp [h2, h3, h5, h6, h7, hlj, hp]
            exact no i j ni nj (fun hg => hg.2 hij hp)
          · simp [h2, h3, h5, h6, h7, hlj, hp]
            refine yes _ _ (by simp [h2]) (by simp [h3]) (by simp [h5]) (by simp [h6]) ?_ ⟨fun hh => absurd hh hij, fun _ => hp⟩
            simp; rw [w64 (by omega) (by omega)]
      · have : j = (cnt w h).toNat := by omega
        subst this
        simp [h2, h3, h5, h6, h7, hlj]
        refine ih ((cnt w h).toNat - (i + 1)) _ _ ⟨i + 1, G, rfl, by omega, by simp [h2], by simp [h3], by simp [h5], ?_, rfl, fun a ha c hc' => ?_⟩ (by omega)
        · simp; rw [w64 (by omega) (by omega)]
        · by_cases hai : a < i
          · exact hk a hai c hc'
          · have : a = i := by omega
            subst this; exact hkj c hc'
    · simp [h2, h3, h5, h6, hlt]
      have : i = (cnt w h).toNat := by omega
      subst this
      exact (tableOk_iff w h b T).2 ⟨h1, hk⟩
  · simp [h1]
    exact fun k => h1 k.1
theorem areInside_c (v : Value) (xs : List Int) (lo hi : Int) (hI : IsI H v xs) (hl : xs.length ≤ 1073741824) :
   vcall C frz 68 [v, .int .i64 lo, .int .i64 hi] H = some (.bool (decide (∀ x ∈ xs, inR lo x hi)), H) := by
  rw [vcall_go (fn := Try.f68) Try.func68 rfl (by kernel_rfl) rfl]
  simp [hI.len]
  refine go_inv (fun n t H' => ∃ i : Nat, n = xs.length - i ∧ i ≤ xs.length ∧ t 1 = .int .i64 lo ∧ t 2 = .int .i64 hi ∧ t 9 = v ∧ t 10 = .int .i64 xs.length ∧ t 11 = .int .i64 i ∧ H' = H ∧ ∀ x ∈ xs.take i, inR lo x hi) ?_ (n := xs.length) ⟨0, by simp⟩
  rintro n t H' ⟨i, rfl, hi', h1, h2, h3, h4, h5, rfl, hj⟩ ih
  simp [h1, h2, h3, h4, h5]
  refine br_dec _ ?_ ?_ <;> intro h6
  · simp [h1, h2, h3, h4, h5, h6, hI.idx, hI.load, getD_get, inside_c]
    refine br_dec _ ?_ ?_ <;> intro h7 <;> simp [h1, h2, h3, h4, h5, h6, h7]
    · refine ih (xs.length - (i + 1)) _ _ ⟨i + 1, rfl, by omega, by simp [h1], by simp [h2], by simp [h3], by simp [h4], ?_, rfl, fun x hx => ?_⟩ (by omega)
      · simp; rw [w64 (by omega) (by omega)]
      · rw [List.take_succ_eq_append_getElem h6] at hx
        rcases List.mem_append.1 hx with hx | hx
        · exact hj x hx
        · rw [List.mem_singleton.1 hx]; exact h7
    · exact ⟨_, List.getElem_mem h6, h7⟩
  · have : i = xs.length := by omega
    subst this
    simp [h1, h2, h3, h4, h5]
    rwa [List.take_length] at hj
def rowPairs (n a m : Nat) : List (Nat × Nat) := ((List.range m).filter (fun c => a ≠ c)).map fun c => (a, c)
/-- the pairs in the order of the visits -/
def allPairs (n m : Nat) : List (Nat × Nat) := (List.range m).flatMap fun a => rowPairs n a n
theorem rowPairs_eq (n a m : Nat) (h : a = m) : rowPairs n a (m + 1) = rowPairs n a m := by
  simp [rowPairs, List.range_succ, h]
theorem rowPairs_ne (n a m : Nat) (h : a ≠ m) : rowPairs n a (m + 1) = rowPairs n a m ++ [(a, m)] := by
  simp [rowPairs, List.range_succ, h]
theorem allPairs_succ (n m : Nat) : allPairs n (m + 1) = allPairs n m ++ rowPairs n m n := by
  simp [allPairs, List.range_succ]
theorem mem_allPairs {n a c : Nat} : (a, c) ∈ allPairs n n ↔ a < n ∧ c < n ∧ a ≠ c := by
  simp [allPairs, rowPairs]
theorem pairs_w (w h : Int) (f : Value) {Q : Value → Heap → Prop} (Inv : List (Nat × Nat) → Heap → Prop)
    (h0 : Inv [] (H ++ [⟨[.int .i64 w, .int .i64 h], 0, 36⟩]))
    (hs : ∀ (done : List (Nat × Nat)) (a c : Nat) (H' : Heap), a < (cnt w h).toNat → c < (cnt w h).toNat → a ≠ c → Inv done H' → wp (vclos (vcall C frz) f [.int .i64 a, .int .i64 c] H') fun r H'' => (r = .bool true ∧ Inv (done ++ [(a, c)]) H'') ∨ (r = .bool false ∧ Q (.bool false) H''))
    (he : ∀ H', Inv (allPairs (cnt w h).toNat (cnt w h).toNat) H' → Q (.bool true) H') :
    wp (vcall C frz 174 [.agg #[.int .i64 w, .int .i64 h], f] H) Q := by
  rw [vcall_go (fn := Try.f174) Try.func174 rfl (by kernel_rfl) rfl]
  have hc := cnt_range w h
  simp [nodeCount_c]
  refine wp_inv (fun n t H' => ∃ (i : Nat), n = (cnt w h).toNat - i ∧ i ≤ (cnt w h).toNat ∧ t 1 = f ∧ t 5 = .int .i64 (cnt w h) ∧ t 10 = .int .i64 (cnt w h) ∧ t 11 = .int .i64 i ∧
    Inv (allPairs (cnt w h).toNat i) H') ?_ (n := (cnt w h).toNat) ⟨0, by simp [allPairs, h0]⟩
  rintro n t H' ⟨i, rfl, hi, h1, h5, h10, h11, hk⟩ ih
  simp [h1, h5, h10, h11]
  refine wp_dec ?_ ?_ <;> intro hlt
  · simp [h1, h5, h10, h11, hlt]
    refine wp_inv (fun n t H' => ∃ (j : Nat), n = (cnt w h).toNat - j ∧ j ≤ (cnt w h).toNat ∧ t 1 = f ∧ t 5 = .int .i64 (cnt w h) ∧ t 10 = .int .i64 (cnt w h) ∧ t 11 = .int .i64 i ∧ t 6 = .int .i64 i ∧ t 14 = .int .i64 (cnt w h) ∧ t 15 = .int .i64 j ∧
      Inv (allPairs (cnt w h).toNat i ++ rowPairs (cnt w h).toNat i j) H') ?_ (n := (cnt w h).toNat) ⟨0, by simp [h1, h5, h10, h11, rowPairs, hk]⟩
    clear h1 h5 h10 h11 hk
    rintro n t H' ⟨j, rfl, hj, h1, h5, h10, h11, h6, h14, h15, hk⟩ ih2
    simp [h1, h5, h10, h11, h6, h14, h15]
    refine wp_dec ?_ ?_ <;> intro hlj
    · have ni : i < (cnt w h).toNat := by omega
      have nj : j < (cnt w h).toNat := by omega
      have yes := fun (t' : Env) (H' : Heap) (x1 : t' 1 = f) (x5 : t' 5 = .int .i64 (cnt w h)) (x10 : t' 10 = .int .i64 (cnt w h)) (x11 : t' 11 = .int .i64 i) (x6 : t' 6 = .int .i64 i) (x14 : t' 14 = .int .i64 (cnt w h)) (x15 : t' 15 = .int .i64 (j + 1 : Nat)) (hg : Inv (allPairs (cnt w h).toNat i ++ rowPairs (cnt w h).toNat i (j + 1)) H') =>
        ih2 ((cnt w h).toNat - (j + 1)) t' H' ⟨j + 1, rfl, by omega, x1, x5, x10, x11, x6, x14, x15, hg⟩ (by omega)
      simp [h1, h5, h10, h11, h6, h14, h15, hlj]
      refine wpg_dec ?_ ?_ <;> intro hij
      · simp [h1, h5, h10, h11, h6, h14, h15, hlj, hij]
        refine yes _ _ (by simp [h1]) (by simp [h5]) (by simp [h10]) (by simp [h11]) (by simp [h6]) (by simp [h14]) ?_ (by rw [rowPairs_eq _ _ _ (by omega)]; exact hk)
        simp; rw [w64 (by omega) (by omega)]
      · simp [h1, h5, h10, h11, h6, h14, h15, hlj, hij]
        refine wp_thn (hs _ i j H' ni nj (by omega) hk) ?_
        rintro r H'' (⟨rfl, hq⟩ | ⟨rfl, hq⟩)
        · simp [h1, h5, h10, h11, h6, h14, h15, hlj, hij]
          refine yes _ _ (by simp [h1]) (by simp [h5]) (by simp [h10]) (by simp [h11]) (by simp [h6]) (by simp [h14]) ?_ (by rw [rowPairs_ne _ _ _ (by omega), ← List.append_assoc]; exact hq)
          simp; rw [w64 (by omega) (by omega)]
        · simp [h1, h5, h10, h11, h6, h14, h15, hlj, hij]
          exact hq
    · have : j = (cnt w h).toNat := by omega
      subst this
      simp [h1, h5, h10, h11, h6, h14, h15, hlj]
      refine ih ((cnt w h).toNat - (i + 1)) _ _ ⟨i + 1, rfl, by omega, by simp [h1], by simp [h5], by simp [h10], ?_, by rw [allPairs_succ]; exact hk⟩ (by omega)
      · simp; rw [w64 (by omega) (by omega)]
  · simp [h1, h5, h10, h11, hlt]
    have : i = (cnt w h).toNat := by omega
    subst this
    exact he _ hk
theorem tableOk1_c (w h : Int) (v u : Value) (b T : List Int) (a c : Int) (r1 r2 : Nat) (hI : IsI H v b) (hT : IsI H u T) (hl : b.length ≤ 1073741824) (hz : tsized w h b T) (ha : isN w h a) (hto : isN w h c) (hne : a ≠ c)
    (g1 : H[r1]? = some ⟨[.int .i64 w, .int .i64 h, v], 0, 38⟩) (g2 : H[r2]? = some ⟨[u], 0, 40⟩) :
   vcall C frz 175 [.int .i64 a, .int .i64 c, .pointer (some ⟨r1, 0, some 0⟩), .pointer (some ⟨r2, 0, some 0⟩)] H = some (.bool (!decide (walk w h b T a c = [])), H) := by
  rw [vcall_go (fn := Try.f175) Try.func175 rfl (by kernel_rfl) rfl]
  simp [VM.look, g1, g2, hI.one', hI.cells, hT.one', hT.cells, walk_c _ _ _ _ _ _ _ _ hI hT hl hz ha hto hne]
  by_cases hw : walk w h b T a c = []
  · simp [ret, hw]
  · have : 0 < (walk w h b T a c).length := List.length_pos_iff.2 hw
    simp [ret, hw, this]
theorem tableOk_w (w h : Int) (v u : Value) (b T : List Int) (hI : IsI H v b) (hT : IsI H u T) (hl : b.length ≤ 1073741824) :
   wp (vcall C frz 132 [.agg #[.int .i64 w, .int .i64 h, v], .agg #[u]] H) (fun r _ => r = .bool (decide (tableOk w h b T))) := by
  rw [vcall_go (fn := Try.f132) Try.func132 rfl (by kernel_rfl) rfl]
  simp [hI.one', hI.cells, hT.one', hT.cells, nodeCount_c, meshOk_c _ _ _ _ (hI.app _) hl]
  refine wpg_dec ?_ ?_ <;> intro hm
  · simp [hm, hT.lenA, sq_small]
    refine wp_dec ?_ ?_ <;> intro hz
    · simp [hz]
      have hs : tsized w h b T := ⟨hm, hz⟩
      have hc := cnt_range w h
      refine wp_inv (fun n t H' => ∃ (i : Nat), n = (cnt w h).toNat - i ∧ i ≤ (cnt w h).toNat ∧ t 2 = .pointer (some ⟨H.length, 0, some 0⟩) ∧ t 3 = .pointer (some ⟨H.length + 1, 0, some 0⟩) ∧ t 5 = .int .i64 (cnt w h) ∧ t 22 = .int .i64 (cnt w h) ∧ t 23 = .int .i64 i ∧
        H' = H ++ [⟨[.int .i64 w, .int .i64 h, v], 0, 38⟩, ⟨[u], 0, 40⟩] ∧ ∀ a, a < i → portOf w h T a a = 4) ?_ (n := (cnt w h).toNat) ⟨0, by simp⟩
      rintro n t H' ⟨i, rfl, hi, h2, h3, h5, h22, h23, rfl, hk⟩ ih
      simp [h2, h3, h5, h22, h23]
      refine wp_dec ?_ ?_ <;> intro hlt
      · have ni : i < (cnt w h).toNat := by omega
        obtain ⟨k0, k1, k2, k3⟩ := at_small (isN_nat ni) (isN_nat ni)
        have e1 : IntKind.i64.wrap (i * cnt w h) = i * cnt w h := w64 (by omega) (by omega)
        have e2 : IntKind.i64.wrap (i * cnt w h + i) = i * cnt w h + i := w64 (by omega) (by omega)
        have q1 : ∀ L, vindexAddr Try.prog (H ++ L) 24 u (.int .i64 (i * cnt w h + i)) = some (elp u (i * cnt w h + i : Int).toNat) := fun L => hT.idxA (e := 3) (by simp) k0 (by omega)
        have q2 : ∀ L, vload Try.prog (H ++ L) 3 (elp u (i * cnt w h + i : Int).toNat) = some (.int .i64 (portOf w h T i i)) := fun L => hT.loadA (by simp) (by omega)
        simp [h2, h3, h5, h22, h23, hlt, e1, e2, q1, q2]
        refine wp_dec ?_ ?_ <;> intro hp
        · simp [h2, h3, h5, h22, h23, hlt, hp]
          refine ih ((cnt w h).toNat - (i + 1)) _ _ ⟨i + 1, rfl, by omega, by simp [h2], by simp [h3], by simp [h5], by simp [h22], ?_, rfl, fun a ha => ?_⟩ (by omega)
          · simp; rw [w64 (by omega) (by omega)]
          · by_cases hai : a < i
            · exact hk a hai
            · have : a = i := by omega
              subst this; exact hp
        · simp [h2, h3, h5, h22, h23, hlt, hp]
          exact fun hh => hp ((hh.2 i ni i ni).1 rfl)
      · simp [h2, h3, h5, h22, h23, hlt]
        have : i = (cnt w h).toNat := by omega
        subst this
        refine wp_thn (pairs_w w h _ (Q := fun r _ => r = .bool (decide (tableOk w h b T))) (fun done H' => ∃ L, H' = H ++ [⟨[.int .i64 w, .int .i64 h, v], 0, 38⟩, ⟨[u], 0, 40⟩] ++ L ∧ ∀ p ∈ done, walk w h b T p.1 p.2 ≠ []) ⟨_, rfl, by simp⟩ ?_ ?_) ?_
        · rintro done a c _ ha hc' hne ⟨L, rfl, hd⟩
          simp
          rw [tableOk1_c w h v u b T a c _ _ (hI.app _) (hT.app _) hl hs (isN_nat ha) (isN_nat hc') (by omega) (by simp) (by simp)]
          simp
          by_cases hw : walk w h b T a c = []
          · refine .inr ⟨hw, ?_⟩
            exact fun hh => (hh.2 a (by omega) c (by omega)).2 (by omega) hw
          · refine .inl ⟨hw, fun p q hp => ?_⟩
            rcases hp with hp | ⟨rfl, rfl⟩
            · exact hd (p, q) hp
            · exact hw
        · rintro _ ⟨L, rfl, hd⟩
          simp
          exact ⟨hs, fun a ha c hc' => ⟨fun _ => hk a ha, fun hne => hd (a, c) (mem_allPairs.2 ⟨ha, hc', hne⟩)⟩⟩
        · rintro _ H' rfl
          simp
    · simp [hz]
      exact fun hh => hz hh.1.2
  · simp [hm]
    exact fun hh => hm hh.1.1
theorem tableOk_c (w h : Int) (v u : Value) (b T : List Int) (hI : IsI H v b) (hT : IsI H u T) (hl : b.length ≤ 1073741824) :
   vcall C frz 132 [.agg #[.int .i64 w, .int .i64 h, v], .agg #[u]] H = some (.bool (decide (tableOk w h b T)), H) :=
  (tableOk_w w h v u b T hI hT hl).exact (by simp) rfl
end Go.Proofs.Ytcigpclbhfkgaaa.V
/-! What unicasts cost. -/
set_option linter.all false
namespace Go.Proofs.Ytcigpclbhfkgaaa.V
open Go Go.VM Go.Proofs
set_option maxRecDepth 10000
variable {frz : Nat} {H : Heap}
def castOk (w h : Int) (b T : List Int) (a : Int) (ts : List Int) : Prop := tableOk w h b T ∧ isN w h a ∧ ∀ x ∈ ts, isN w h x
instance (w h : Int) (b T : List Int) (a : Int) (ts : List Int) : Decidable (castOk w h b T a ts) := inferInstanceAs (Decidable (_ ∧ _))
/-- what single packets to all targets cost -/
def cost (w h : Int) (b T : List Int) (a : Int) (ts : List Int) : Nat := (ts.map fun x => (walk w h b T a x).length).sum
theorem walk_len (w h : Int) (b T : List Int) (a to : Int) : (walk w h b T a to).length ≤ 16 := by
  have := walkN_len w h b T to (cnt w h).toNat a []
  have hc := cnt_range w h
  simp only [walk] at *
  simp at this; omega
theorem cost_succ {w h : Int} {b T : List Int} {a : Int} {ts : List Int} {i : Nat} (hi : i < ts.length) : cost w h b T a (ts.take (i + 1)) = cost w h b T a (ts.take i) + (walk w h b T a ts[i]).length := by
  unfold cost
  rw [List.take_succ_eq_append_getElem hi, List.map_append, List.sum_append]; simp
theorem cost_le (w h : Int) (b T : List Int) (a : Int) (ts : List Int) : cost w h b T a ts ≤ 16 * ts.length := by
  unfold cost
  induction ts with
  | nil => simp
  | cons x ts ih =>
    have := walk_len w h b T a x
    simp only [List.map_cons, List.sum_cons, List.length_cons]; omega
theorem walk_selfT {w h : Int} {b T : List Int} {a : Int} (ht : tableOk w h b T) (ha : isN w h a) : walk w h b T a a = [] := by
  obtain ⟨a0, a1⟩ := ha
  have := (ht.2 a.toNat (by omega) a.toNat (by omega)).1 rfl
  rw [show ((a.toNat : Nat) : Int) = a by omega] at this
  unfold walk
  cases (cnt w h).toNat <;> simp [walkN, this]
theorem walkT_c (w h : Int) (v u : Value) (b T : List Int) (a to : Int) (hI : IsI H v b) (hT : IsI H u T) (hl : b.length ≤ 1073741824) (hz : tableOk w h b T) (ha : isN w h a) (hto : isN w h to) :
   vcall C frz 111 [.agg #[.int .i64 w, .int .i64 h, v], .agg #[u], .int .i64 a, .int .i64 to] H = some (ret H (walk w h b T a to)) := by
  by_cases hne : a = to
  · subst hne
    rw [walk_selfT hz ha, vcall_go (fn := Try.f111) Try.func111 rfl (by kernel_rfl) rfl]
    simp [hI.one', hI.cells, hT.one', hT.cells, ret]
  · exact walk_c w h v u b T a to hI hT hl hz.1 ha hto hne
end Go.Proofs.Ytcigpclbhfkgaaa.V
/-! slices.Concat on two slices of numbers. -/
set_option linter.all false
namespace Go.Proofs.Ytcigpclbhfkgaaa.V
open Go Go.VM Go.Proofs
set_option maxRecDepth 10000
variable {frz : Nat} {H : Heap}
theorem wr0 : IntKind.i64.wrap 0 = 0 := by decide
end Go.Proofs.Ytcigpclbhfkgaaa.V
/-! Trees: the plain side. -/
set_option linter.all false
namespace Go.Proofs.Ytcigpclbhfkgaaa.V
open Go Go.VM
theorem rd_at {s : List Int} {j : Nat} (h : j < s.length) : rd s (j : Int) = s[j] := by simp [rd, List.getD_eq_getElem?_getD, h]
theorem rd_mem {s : List Int} {k : Int} (h0 : 0 ≤ k) (h1 : k < s.length) : rd s k ∈ s := by
  obtain ⟨i, rfl⟩ := Int.eq_ofNat_of_zero_le h0
  rw [rd_at (by omega)]; exact List.getElem_mem _
theorem meshOk_iff (w h : Int) (b : List Int) : meshOk w h b ↔ okG w h ∧ (∀ c ∈ b, leads w h c) ∧ b.Pairwise (· < ·) := by
  have e : ∀ j, j < b.length → b.getD j 0 = rd b (j : Int) := fun j _ => by simp [rd]
  constructor
  · rintro ⟨h1, h2⟩
    refine ⟨h2, fun c hc => ?_, ?_⟩
    · obtain ⟨j, hj, rfl⟩ := List.getElem_of_mem hc
      have := (h1 j hj).1
      rwa [getD_get _ _ hj] at this
    · rw [List.pairwise_iff_getElem]
      intro i j hi hj hij
      induction j with
      | zero => omega
      | succ j ih =>
        have := (h1 (j + 1) hj).2 (by omega)
        rw [getD_get _ _ hj, Nat.add_sub_cancel, getD_get _ _ (by omega)] at this
        by_cases h3 : i = j
        · subst h3; exact this
        · exact Int.lt_trans (ih (by omega) (by omega)) this
  · rintro ⟨h1, h2, h3⟩
    refine ⟨fun j hj => ⟨by rw [getD_get _ _ hj]; exact h2 _ (List.getElem_mem hj), fun h0 => ?_⟩, h1⟩
    rw [getD_get _ _ hj, getD_get _ _ (by omega)]
    exact List.pairwise_iff_getElem.1 h3 _ _ _ _ (by omega)
def endC (w h c : Int) : Int := next w h (c / 4) (c % 4)
def backC (w h c : Int) : Int := 4 * endC w h c + opp (c % 4)
def link (w h : Int) (b : List Int) (c : Int) : Prop := has w h b c ∧ has w h b (backC w h c)
instance (w h : Int) (b : List Int) (c : Int) : Decidable (link w h b c) := inferInstanceAs (Decidable (_ ∧ _))
theorem asc_length {n : Nat} : ∀ {b : List Int}, b.Pairwise (· < ·) → (∀ c ∈ b, 0 ≤ c ∧ c < (n : Int)) → b.length ≤ n := by
  intro b hb hc
  have key : ∀ (b : List Int) (lo : Int), b.Pairwise (· < ·) → (∀ c ∈ b, lo ≤ c ∧ c < (n : Int)) → 0 ≤ lo → (b.length : Int) ≤ max 0 (n - lo) := by
    intro b
    induction b with
    | nil => intro lo _ _ _; simp; omega
    | cons a l ih =>
      intro lo hp hm h0
      have h1 := hm a (by simp)
      have h2 := ih (a + 1) (List.pairwise_cons.1 hp).2 (fun c hc => ⟨by have := (List.pairwise_cons.1 hp).1 c hc; omega, (hm c (by simp [hc])).2⟩) (by omega)
      simp; omega
  have := key b 0 hb (fun c h => ⟨(hc c h).1, (hc c h).2⟩) (by omega)
  omega
def neg (s : List Int) : Nat := s.countP (· < 0)
theorem rd_set {s : List Int} {k x v : Int} (h0 : 0 ≤ k) (h1 : k < s.length) (hx : 0 ≤ x) : rd (s.set k.toNat v) x = if x = k then v else rd s x := by
  obtain ⟨i, rfl⟩ := Int.eq_ofNat_of_zero_le h0
  obtain ⟨j, rfl⟩ := Int.eq_ofNat_of_zero_le hx
  simp only [Int.toNat_natCast]
  by_cases hj : j < s.length
  · rw [rd_at (by simpa using hj), rd_at hj, List.getElem_set]
    by_cases e : i = j
    · subst e; simp
    · rw [if_neg e, if_neg (by omega)]
  · rw [if_neg (by omega)]
    simp [rd, hj]
theorem rd_neg_lt {s : List Int} {x : Int} (h0 : 0 ≤ x) (h : rd s x < 0) : x < s.length := by
  obtain ⟨j, rfl⟩ := Int.eq_ofNat_of_zero_le h0
  by_cases hj : j < s.length
  · omega
  · simp [rd, hj] at h
theorem neg_set {s : List Int} {k v : Int} (h0 : 0 ≤ k) (h1 : k < s.length) (h : rd s k < 0) (hv : 0 ≤ v) : neg (s.set k.toNat v) + 1 = neg s := by
  obtain ⟨i, rfl⟩ := Int.eq_ofNat_of_zero_le h0
  have hi : i < s.length := by omega
  rw [rd_at hi] at h
  unfold neg
  rw [Int.toNat_natCast, List.countP_set hi]
  have : 0 < s.countP (· < 0) := List.countP_pos_iff.2 ⟨_, List.getElem_mem hi, by simpa using h⟩
  rw [if_pos (by simpa using h), if_neg (by simp; omega)]
  omega
def vst (w h : Int) (b : List Int) (a d : Int) (x : List Int × List Int) (p : Nat) : List Int × List Int :=
  if link w h b (4 * a + p) ∧ rd x.1 (next w h a p) < 0 then (x.1.set (next w h a p).toNat d, x.2 ++ [next w h a p]) else x
def vis (w h : Int) (b : List Int) (a d : Int) (x : List Int × List Int) : List Int × List Int := (List.range 4).foldl (vst w h b a d) x
theorem link_next {w h : Int} {b : List Int} {a : Int} {p : Nat} (hp : p < 4) (h1 : link w h b (4 * a + p)) : isN w h a ∧ isN w h (next w h a p) ∧ endC w h (4 * a + p) = next w h a p := by
  obtain ⟨⟨⟨h2, h3⟩, _⟩, _⟩ := h1
  have e1 : (4 * a + (p : Int)) / 4 = a := by omega
  have e2 : (4 * a + (p : Int)) % 4 = p := by omega
  unfold endC
  rw [e1, e2] at h3 ⊢
  exact ⟨⟨by omega, by omega⟩, next_isN h3, rfl⟩
structure BExt (w h : Int) (d : Int) (x y : List Int × List Int) : Prop where
  len : y.1.length = x.1.length
  old : ∀ v, 0 ≤ v → 0 ≤ rd x.1 v → rd y.1 v = rd x.1 v
  new : ∀ v ∈ y.2, v ∈ x.2 ∨ (isN w h v ∧ rd y.1 v = d)
  sum : neg y.1 + y.2.length = neg x.1 + x.2.length
  pre : ∀ v ∈ x.2, v ∈ y.2
  low : (∀ v ∈ x.1, -1 ≤ v ∧ v ≤ d) → ∀ v ∈ y.1, -1 ≤ v ∧ v ≤ d
theorem BExt.rfl' {w h d : Int} {x : List Int × List Int} : BExt w h d x x := ⟨rfl, fun _ _ _ => rfl, fun _ h => .inl h, rfl, fun _ h => h, fun h => h⟩
theorem BExt.trans {w h d : Int} {x y z : List Int × List Int} (hd : 0 ≤ d) (a : BExt w h d x y) (b : BExt w h d y z) : BExt w h d x z where
  len := b.len.trans a.len
  old v h0 h1 := by
    have e := a.old v h0 h1
    rw [b.old v h0 (by omega), e]
  new v hv := by
    rcases b.new v hv with h1 | h1
    · rcases a.new v h1 with h2 | ⟨h2, h3⟩
      · exact .inl h2
      · exact .inr ⟨h2, by rw [b.old v h2.1 (by omega), h3]⟩
    · exact .inr h1
  sum := b.sum.trans a.sum
  pre v h := b.pre v (a.pre v h)
  low h := b.low (a.low h)
theorem vst_ext {w h : Int} {b : List Int} {a d : Int} {x : List Int × List Int} {p : Nat} (hp : p < 4) (hd : 0 ≤ d) : BExt w h d x (vst w h b a d x p) := by
  unfold vst
  by_cases hc : link w h b (4 * a + p) ∧ rd x.1 (next w h a p) < 0
  · rw [if_pos hc]
    obtain ⟨h1, h2, h3⟩ := link_next hp hc.1
    have h4 := rd_neg_lt h2.1 hc.2
    have := neg_set h2.1 h4 hc.2 hd
    refine ⟨by simp, fun v h0 h5 => ?_, fun v hv => ?_, by simp; omega, fun v hv => by simp [hv], fun hl v hv => ?_⟩
    · simp only
      rw [rd_set h2.1 h4 h0, if_neg (by intro e; subst e; omega)]
    · simp only [List.mem_append, List.mem_singleton] at hv
      rcases hv with hv | rfl
      · exact .inl hv
      · exact .inr ⟨h2, by simp only; rw [rd_set h2.1 h4 h2.1, if_pos rfl]⟩
    · rcases List.mem_or_eq_of_mem_set hv with h6 | rfl
      · exact hl v h6
      · omega
  · rw [if_neg hc]; exact BExt.rfl'
theorem foldl_ext {w h : Int} {b : List Int} {a d : Int} (hd : 0 ≤ d) : ∀ (l : List Nat) (x : List Int × List Int), (∀ p ∈ l, p < 4) → BExt w h d x (l.foldl (vst w h b a d) x)
  | [], x, _ => BExt.rfl'
  | p :: l, x, hp => (vst_ext (hp p (by simp)) hd).trans hd (foldl_ext hd l _ (fun q hq => hp q (by simp [hq])))
theorem vis_ext {w h : Int} {b : List Int} {a d : Int} (hd : 0 ≤ d) (x : List Int × List Int) : BExt w h d x (vis w h b a d x) := foldl_ext hd _ _ (by simp)
theorem vst_app {w h : Int} {b : List Int} {a d : Int} (s q q' : List Int) (p : Nat) : vst w h b a d (s, q ++ q') p = ((vst w h b a d (s, q') p).1, q ++ (vst w h b a d (s, q') p).2) := by
  unfold vst
  simp only
  split <;> simp
theorem foldl_app {w h : Int} {b : List Int} {a d : Int} (q : List Int) : ∀ (l : List Nat) (s q' : List Int), l.foldl (vst w h b a d) (s, q ++ q') = ((l.foldl (vst w h b a d) (s, q')).1, q ++ (l.foldl (vst w h b a d) (s, q')).2)
  | [], s, q' => rfl
  | p :: l, s, q' => by
    rw [List.foldl_cons, List.foldl_cons, vst_app]
    exact foldl_app q l _ _
theorem vis_app {w h : Int} {b : List Int} {a d : Int} (q s q' : List Int) : vis w h b a d (s, q ++ q') = ((vis w h b a d (s, q')).1, q ++ (vis w h b a d (s, q')).2) := foldl_app q _ _ _
inductive Run (w h : Int) (b : List Int) : List Int → List Int → List Int → Int → List Int → Prop
  | done (s : List Int) (d : Int) : Run w h b s [] [] d s
  | level {s : List Int} {x : Int} {nx : List Int} {d : Int} {r : List Int} : Run w h b s (x :: nx) [] (d + 1) r → Run w h b s [] (x :: nx) d r
  | node {s : List Int} {a : Int} {rest nx : List Int} {d : Int} {r : List Int} : Run w h b (vis w h b a d (s, nx)).1 rest (vis w h b a d (s, nx)).2 d r → Run w h b s (a :: rest) nx d r
structure Inv (w h : Int) (s rest nx : List Int) (d : Int) : Prop where
  len : (s.length : Int) = cnt w h
  fr : ∀ v ∈ rest, isN w h v ∧ rd s v = d - 1
  nw : ∀ v ∈ nx, isN w h v ∧ rd s v = d
  one : 1 ≤ d
  sum : d + neg s + nx.length ≤ cnt w h
  low : ∀ v ∈ s, -1 ≤ v ∧ v ≤ d
theorem Inv.level {w h : Int} {s nx : List Int} {x d : Int} (i : Inv w h s [] (x :: nx) d) : Inv w h s (x :: nx) [] (d + 1) :=
  ⟨i.len, fun v hv => ⟨(i.nw v hv).1, by have := (i.nw v hv).2; omega⟩, by simp, by have := i.one; omega, by have := i.sum; simp at this ⊢; omega, fun v hv => by have := i.low v hv; omega⟩
theorem Inv.node {w h : Int} {b s rest nx : List Int} {a d : Int} (i : Inv w h s (a :: rest) nx d) : Inv w h (vis w h b a d (s, nx)).1 rest (vis w h b a d (s, nx)).2 d := by
  have h1 := i.one
  have e := vis_ext (w := w) (h := h) (b := b) (a := a) (d := d) (by omega) (s, nx)
  refine ⟨by rw [e.len]; exact i.len, fun v hv => ?_, fun v hv => ?_, h1, ?_, e.low i.low⟩
  · obtain ⟨h2, h3⟩ := i.fr v (by simp [hv])
    exact ⟨h2, by rw [e.old v h2.1 (by simp only; omega)]; exact h3⟩
  · rcases e.new v hv with h2 | h2
    · obtain ⟨h3, h4⟩ := i.nw v h2
      exact ⟨h3, by rw [e.old v h3.1 (by simp only; omega)]; exact h4⟩
    · exact h2
  · have := e.sum; have := i.sum; simp only at *; omega
theorem run_ex {w h : Int} {b : List Int} : ∀ (m : Nat) (s rest nx : List Int) (d : Int), 3 * neg s + 2 * nx.length + rest.length ≤ m → Inv w h s rest nx d → ∃ r, Run w h b s rest nx d r := by
  intro m
  induction m with
  | zero =>
    intro s rest nx d hm i
    cases rest with
    | nil => cases nx with
      | nil => exact ⟨s, .done s d⟩
      | cons x nx => simp at hm
    | cons a rest => simp at hm
  | succ m ih =>
    intro s rest nx d hm i
    cases rest with
    | nil => cases nx with
      | nil => exact ⟨s, .done s d⟩
      | cons x nx =>
        obtain ⟨r, hr⟩ := ih s (x :: nx) [] (d + 1) (by simp at hm ⊢; omega) i.level
        exact ⟨r, .level hr⟩
    | cons a rest =>
      have e := (vis_ext (w := w) (h := h) (b := b) (a := a) (d := d) (by have := i.one; omega) (s, nx)).sum
      have e2 := (vis_ext (w := w) (h := h) (b := b) (a := a) (d := d) (by have := i.one; omega) (s, nx))
      have h1 : nx.length ≤ (vis w h b a d (s, nx)).2.length := by
        have := vis_app (w := w) (h := h) (b := b) (a := a) (d := d) nx s []
        rw [List.append_nil] at this; rw [this]; simp
      simp only at e
      obtain ⟨r, hr⟩ := ih (vis w h b a d (s, nx)).1 rest (vis w h b a d (s, nx)).2 d (by simp at hm; omega) i.node
      exact ⟨r, .node hr⟩
def start (w h root : Int) : List Int := (List.replicate (cnt w h).toNat (-1)).set root.toNat 0
theorem start_inv {w h root : Int} (hr : isN w h root) : Inv w h (start w h root) [root] [] 1 ∧ ((neg (start w h root) : Nat) : Int) + 1 = cnt w h := by
  have hc := cnt_range w h
  have hl : root < ((List.replicate (cnt w h).toNat (-1 : Int)).length : Int) := by have := hr.2; simp; omega
  have h0 : rd (List.replicate (cnt w h).toNat (-1 : Int)) root = -1 := by
    have := rd_mem hr.1 hl
    exact List.eq_of_mem_replicate this
  have h1 := neg_set (v := 0) hr.1 hl (by omega) (by omega)
  have h2 : neg (List.replicate (cnt w h).toNat (-1 : Int)) = (cnt w h).toNat := by unfold neg; simp [List.countP_replicate]
  rw [h2] at h1
  have h3 : ((neg (start w h root) : Nat) : Int) + 1 = cnt w h := by unfold start; omega
  refine ⟨⟨by unfold start; simp; omega, fun v hv => ?_, by simp, by omega, by simp; omega, fun v hv => ?_⟩, h3⟩
  · simp only [List.mem_singleton] at hv
    subst hv
    refine ⟨hr, ?_⟩
    unfold start; rw [rd_set hr.1 hl hr.1, if_pos rfl]; omega
  · rcases List.mem_or_eq_of_mem_set hv with h6 | rfl
    · have := List.eq_of_mem_replicate h6; omega
    · omega
theorem Run.inv {w h : Int} {b s rest nx : List Int} {d : Int} {r : List Int} (R : Run w h b s rest nx d r) : Inv w h s rest nx d → ∃ d', Inv w h r [] [] d' := by
  induction R with
  | done s d => exact fun i => ⟨d, i⟩
  | level _ ih => exact fun i => ih i.level
  | node _ ih => exact fun i => ih i.node
def rootOk (w h : Int) (b : List Int) (root : Int) : Prop := meshOk w h b ∧ isN w h root
instance (w h : Int) (b : List Int) (root : Int) : Decidable (rootOk w h b root) := inferInstanceAs (Decidable (_ ∧ _))
theorem run_start {w h : Int} (b : List Int) {root : Int} (hr : isN w h root) : ∃ r, Run w h b (start w h root) [root] [] 1 r := run_ex _ _ _ _ _ (Nat.le_refl _) (start_inv hr).1
noncomputable def depths (w h : Int) (b : List Int) (root : Int) : List Int := if H : rootOk w h b root then Classical.choose (run_start b H.2) else []
theorem depths_run {w h : Int} {b : List Int} {root : Int} (H : rootOk w h b root) : Run w h b (start w h root) [root] [] 1 (depths w h b root) := by
  unfold depths; rw [dif_pos H]; exact Classical.choose_spec (run_start b H.2)
theorem depths_no {w h : Int} {b : List Int} {root : Int} (H : ¬ rootOk w h b root) : depths w h b root = [] := dif_neg H
theorem depths_inv {w h : Int} {b : List Int} {root : Int} (H : rootOk w h b root) : (((depths w h b root).length : Nat) : Int) = cnt w h ∧ ∀ v ∈ depths w h b root, -1 ≤ v ∧ v ≤ 16 := by
  obtain ⟨d, i⟩ := (depths_run H).inv (start_inv H.2).1
  have hc := cnt_range w h
  refine ⟨i.len, fun v hv => ?_⟩
  have := i.low v hv; have := i.sum; omega
theorem depths_length (w h : Int) (b : List Int) (root : Int) : (depths w h b root).length ≤ 16 := by
  have hc := cnt_range w h
  by_cases H : rootOk w h b root
  · have := (depths_inv H).1; omega
  · rw [depths_no H]; simp
theorem depths_mem {w h : Int} {b : List Int} {root : Int} {v : Int} (hv : v ∈ depths w h b root) : -1 ≤ v ∧ v ≤ 16 := by
  by_cases H : rootOk w h b root
  · exact (depths_inv H).2 v hv
  · rw [depths_no H] at hv; simp at hv
theorem okG_isN {w h : Int} (h1 : okG w h) : isN w h 0 := by
  have := mul_small h1
  refine ⟨by omega, ?_⟩
  unfold cnt; rw [if_pos h1]; omega
def conn (w h : Int) (b : List Int) : Prop := meshOk w h b ∧ -1 ∉ depths w h b 0
noncomputable instance (w h : Int) (b : List Int) : Decidable (conn w h b) := inferInstanceAs (Decidable (_ ∧ _))
noncomputable def depthOf (w h : Int) (b : List Int) (root : Int) : Int := (depths w h b root).foldl max (-1)
noncomputable def better (w h : Int) (b : List Int) (best : Int) (root : Nat) : Int := if depthOf w h b (root : Int) < depthOf w h b best then (root : Int) else best
noncomputable def bestRoot (w h : Int) (b : List Int) : Int := if conn w h b then (List.range (cnt w h).toNat).foldl (better w h b) 0 else -1
theorem better_range {w h : Int} {b : List Int} {best : Int} {root : Nat} (h0 : 0 ≤ best) : 0 ≤ better w h b best root := by
  unfold better; split <;> omega
def toRoot (w h : Int) (b d : List Int) (i : Int) (p : Nat) : Prop := link w h b (4 * i + p) ∧ rd d (next w h i p) = rd d i - 1
instance (w h : Int) (b d : List Int) (i : Int) (p : Nat) : Decidable (toRoot w h b d i p) := inferInstanceAs (Decidable (_ ∧ _))
def par (w h : Int) (b d : List Int) (i : Int) : Int :=
  if rd d i > 0 then
    (if toRoot w h b d i 0 then next w h i (0 : Nat) else if toRoot w h b d i 1 then next w h i (1 : Nat) else if toRoot w h b d i 2 then next w h i (2 : Nat) else if toRoot w h b d i 3 then next w h i (3 : Nat) else -1)
  else -1
def pars (w h : Int) (b d : List Int) : List Int := (List.range d.length).map fun i : Nat => par w h b d (i : Int)
noncomputable def parents (w h : Int) (b : List Int) (root : Int) : List Int := pars w h b (depths w h b root)
theorem parents_length (w h : Int) (b : List Int) (root : Int) : (parents w h b root).length = (depths w h b root).length := by simp [parents, pars]
def Hi (d : Int) (x : List Int × List Int) : Prop := ∀ v ∈ x.1, v < d ∨ (v = d ∧ x.2 ≠ [])
theorem vst_hi {w h : Int} {b : List Int} {a d : Int} {x : List Int × List Int} {p : Nat} (hx : Hi d x) : Hi d (vst w h b a d x p) := by
  unfold vst
  split
  · intro v hv
    rcases List.mem_or_eq_of_mem_set hv with h6 | rfl
    · rcases hx v h6 with h7 | h7
      · exact .inl h7
      · exact .inr ⟨h7.1, by simp⟩
    · exact .inr ⟨rfl, by simp⟩
  · exact hx
theorem foldl_hi {w h : Int} {b : List Int} {a d : Int} : ∀ (l : List Nat) (x : List Int × List Int), Hi d x → Hi d (l.foldl (vst w h b a d) x)
  | [], x, hx => hx
  | p :: l, x, hx => foldl_hi l _ (vst_hi hx)
theorem Run.hi {w h : Int} {b s rest nx : List Int} {d : Int} {r : List Int} (R : Run w h b s rest nx d r) : Inv w h s rest nx d → Hi d (s, nx) → ∀ v ∈ r, v < cnt w h := by
  induction R with
  | done s d =>
    intro i hh v hv
    rcases hh v hv with h1 | h1
    · have := i.sum; simp at this; omega
    · exact absurd rfl h1.2
  | level _ ih =>
    exact fun i hh => ih i.level (fun v hv => by rcases hh v hv with h1 | h1 <;> exact .inl (by omega))
  | node _ ih => exact fun i hh => ih i.node (foldl_hi _ _ hh)
theorem depths_lt {w h : Int} {b : List Int} {root : Int} (H : rootOk w h b root) : ∀ v ∈ depths w h b root, v < cnt w h := by
  refine (depths_run H).hi (start_inv H.2).1 (fun v hv => ?_)
  have := (start_inv H.2).1.low v hv
  rcases List.mem_or_eq_of_mem_set hv with h6 | rfl
  · have := List.eq_of_mem_replicate h6; exact .inl (by omega)
  · exact .inl (by omega)
theorem par_cases (w h : Int) (b d : List Int) (i : Int) : par w h b d i = -1 ∨ ∃ p : Nat, p < 4 ∧ par w h b d i = next w h i p ∧ toRoot w h b d i p ∧ rd d i > 0 := by
  unfold par
  by_cases h0 : rd d i > 0
  · rw [if_pos h0]
    by_cases e0 : toRoot w h b d i 0
    · rw [if_pos e0]; exact .inr ⟨0, by omega, rfl, e0, h0⟩
    rw [if_neg e0]
    by_cases e1 : toRoot w h b d i 1
    · rw [if_pos e1]; exact .inr ⟨1, by omega, rfl, e1, h0⟩
    rw [if_neg e1]
    by_cases e2 : toRoot w h b d i 2
    · rw [if_pos e2]; exact .inr ⟨2, by omega, rfl, e2, h0⟩
    rw [if_neg e2]
    by_cases e3 : toRoot w h b d i 3
    · rw [if_pos e3]; exact .inr ⟨3, by omega, rfl, e3, h0⟩
    rw [if_neg e3]; exact .inl rfl
  · rw [if_neg h0]; exact .inl rfl
def Tree (t : List Int) (m : Int → Int) : Prop := ∀ i : Int, 0 ≤ i → i < t.length → m i < t.length ∧ (rd t i = -1 ∨ (0 ≤ rd t i ∧ rd t i < t.length ∧ 0 ≤ m (rd t i) ∧ m (rd t i) + 1 = m i))
theorem parents_tree {w h : Int} {b : List Int} {root : Int} (H : rootOk w h b root) : Tree (parents w h b root) (rd (depths w h b root)) := by
  have hl := parents_length w h b root
  obtain ⟨hc, _⟩ := depths_inv H
  intro i h0 h1
  have h2 : i < ((depths w h b root).length : Int) := by omega
  refine ⟨by have := depths_lt H _ (rd_mem h0 h2); omega, ?_⟩
  have e : rd (parents w h b root) i = par w h b (depths w h b root) i := by
    obtain ⟨j, rfl⟩ := Int.eq_ofNat_of_zero_le h0
    rw [rd_at (by omega)]; simp [parents, pars]
  rw [e]
  rcases par_cases w h b (depths w h b root) i with h3 | ⟨p, hp, h3, h4, h5⟩
  · exact .inl h3
  · obtain ⟨_, hn, _⟩ := link_next hp h4.1
    rw [h3]
    refine .inr ⟨hn.1, by have := hn.2; omega, ?_, ?_⟩
    · have := h4.2; omega
    · have := h4.2; omega

def inP (P : List Int) (a : Int) : Prop := 0 ≤ a ∧ a < P.length
instance (P : List Int) (a : Int) : Decidable (inP P a) := inferInstanceAs (Decidable (_ ∧ _))
@[simp] theorem inP_m1 (P : List Int) : inP P (-1) = False := by simp [inP]
def ancN (P : List Int) : Nat → Int → List Int → List Int
  | 0, a, out => if inP P a then [] else if a = -1 ∧ out ≠ [] then out else []
  | f + 1, a, out => if inP P a then ancN P f (rd P a) (out ++ [a]) else if a = -1 ∧ out ≠ [] then out else []
def anc (P : List Int) (a : Int) : List Int := ancN P P.length a []
theorem ancN_len (P : List Int) : ∀ f a out, (ancN P f a out).length ≤ out.length + f := by
  intro f
  induction f with
  | zero => intro a out; unfold ancN; repeat' split
            all_goals simp
  | succ f ih =>
    intro a out; unfold ancN; split
    · have := ih (rd P a) (out ++ [a]); simp at this; omega
    · split <;> simp
theorem anc_len (P : List Int) (a : Int) : (anc P a).length ≤ P.length := by have := ancN_len P P.length a []; simpa [anc] using this
theorem ancN_in (P : List Int) : ∀ f a out, (∀ x ∈ out, inP P x) → ∀ x ∈ ancN P f a out, inP P x := by
  intro f
  induction f with
  | zero => intro a out ho x hx; unfold ancN at hx; repeat' split at hx
            all_goals first | exact ho x hx | (simp at hx)
  | succ f ih =>
    intro a out ho x hx; unfold ancN at hx; split at hx
    · rename_i h1
      exact ih _ _ (fun y hy => by rcases List.mem_append.1 hy with hy | hy; exact ho y hy; rw [List.mem_singleton.1 hy]; exact h1) x hx
    · split at hx
      · exact ho x hx
      · simp at hx
theorem anc_in {P : List Int} {a x : Int} (h : x ∈ anc P a) : inP P x := ancN_in P P.length a [] (by simp) x h
def common (P : List Int) (a b : Int) : Int := ((anc P a).find? (fun x => decide (x ∈ anc P b))).getD (-1)
theorem common_no {P : List Int} {a b : Int} (h : ∀ x ∈ anc P a, x ∉ anc P b) : common P a b = -1 := by
  unfold common
  rw [List.find?_eq_none.2 (by simpa using h)]; rfl
theorem common_mem {P : List Int} {a b : Int} (h : 0 ≤ common P a b) : common P a b ∈ anc P a ∧ common P a b ∈ anc P b := by
  unfold common at h ⊢
  cases hf : (anc P a).find? (fun x => decide (x ∈ anc P b)) with
  | none => rw [hf] at h; simp at h
  | some u =>
    have h1 := List.mem_of_find?_eq_some hf
    have h2 := List.find?_some hf
    exact ⟨h1, by simpa using h2⟩
/-- the nodes of the way through the tree -/
def treeNodes (P : List Int) (a b : Int) : List Int :=
  if common P a b < 0 then [] else (anc P a).take ((anc P a).idxOf (common P a b) + 1) ++ ((anc P b).take ((anc P b).idxOf (common P a b))).reverse
theorem find_at {l : List Int} {q : Int → Bool} {j : Nat} (h : j < l.length) (hq : ∀ x ∈ l.take j, q x = false) (hx : q l[j] = true) : l.find? q = some l[j] := by
  have e : l = l.take j ++ (l[j] :: l.drop (j + 1)) := by rw [← List.drop_eq_getElem_cons h, List.take_append_drop]
  have e2 := congrArg (List.find? q) e
  rw [e2, List.find?_append, List.find?_eq_none.2 (by simpa using hq), List.find?_cons_of_pos hx]; rfl
def chain (t : List Int) : Nat → Int → List Int
  | 0, _ => []
  | k + 1, v => if inP t v then v :: chain t k (rd t v) else []
def Ends (t : List Int) : Nat → Int → Prop
  | 0, v => v = -1
  | k + 1, v => v = -1 ∨ (inP t v ∧ Ends t k (rd t v))
theorem Tree.ends {t : List Int} {m : Int → Int} (T : Tree t m) : ∀ (k : Nat) (v : Int), 0 ≤ v → v < t.length → m v < k → (0 ≤ m v ∨ 0 < k) → Ends t k v := by
  intro k
  induction k with
  | zero => intro v h0 h1 h2 h3; omega
  | succ k ih =>
    intro v h0 h1 h2 _
    refine .inr ⟨⟨h0, h1⟩, ?_⟩
    rcases (T v h0 h1).2 with h3 | ⟨h3, h4, h5, h6⟩
    · rw [h3]; cases k <;> simp [Ends]
    · exact ih _ h3 h4 (by omega) (.inl h5)
theorem ancN_chain {t : List Int} : ∀ (k : Nat) (v : Int) (out : List Int), Ends t k v → (out ≠ [] ∨ (0 ≤ v ∧ v < t.length)) → ancN t k v out = out ++ chain t k v := by
  intro k
  induction k with
  | zero =>
    intro v out he ho
    have he : v = -1 := he
    subst he
    have ho : out ≠ [] := ho.resolve_right (by omega)
    simp [ancN, chain, ho]
  | succ k ih =>
    intro v out he ho
    rcases he with rfl | ⟨h1, h2⟩
    · have ho : out ≠ [] := ho.resolve_right (by omega)
      simp [ancN, chain, ho]
    · simp only [ancN, chain]
      rw [if_pos h1, if_pos h1, ih _ _ h2 (.inl (by simp))]
      simp
theorem chain_any {t : List Int} : ∀ (k k' : Nat) (v : Int), Ends t k v → Ends t k' v → chain t k v = chain t k' v := by
  intro k
  induction k with
  | zero =>
    intro k' v h1 h2
    have h1 : v = -1 := h1
    subst h1
    cases k' with
    | zero => rfl
    | succ k' => simp [chain]
  | succ k ih =>
    intro k' v h1 h2
    cases k' with
    | zero => have h2 : v = -1 := h2
              subst h2; simp [chain]
    | succ k' =>
      rcases h1 with rfl | ⟨h1, h3⟩
      · simp [chain]
      · rcases h2 with rfl | ⟨_, h4⟩
        · simp at h1
        · simp only [chain]; rw [if_pos h1, if_pos h1, ih _ _ h3 h4]
theorem anc_cons {t : List Int} {m : Int → Int} (T : Tree t m) {v : Int} (h0 : 0 ≤ v) (h1 : v < t.length) : anc t v = v :: (if rd t v = -1 then [] else anc t (rd t v)) := by
  have hE : ∀ u : Int, 0 ≤ u → u < t.length → Ends t t.length u := fun u a b => T.ends t.length u a b (T u a b).1 (.inr (by omega))
  have e : ∀ u : Int, 0 ≤ u → u < t.length → anc t u = chain t t.length u := fun u a b => by
    have := ancN_chain t.length u [] (hE u a b) (.inr ⟨a, b⟩); simpa [anc] using this
  rw [e v h0 h1]
  obtain ⟨n, hn⟩ : ∃ n, t.length = n + 1 := ⟨t.length - 1, by omega⟩
  have h2 := hE v h0 h1
  rw [hn] at h2 ⊢
  rcases h2 with h2 | ⟨_, h3⟩
  · omega
  simp only [chain]
  rw [if_pos (show inP t v from ⟨h0, h1⟩)]
  rcases (T v h0 h1).2 with h4 | ⟨h4, h5, _, _⟩
  · rw [if_pos h4, h4]; cases n <;> simp [chain]
  · rw [if_neg (by omega), e _ h4 h5, chain_any n t.length _ h3 (hE _ h4 h5)]
theorem anc_suffix {t : List Int} {m : Int → Int} (T : Tree t m) : ∀ (n : Nat) (v : Int), 0 ≤ v → v < t.length → m v < n → ∀ u ∈ anc t v, (0 ≤ u ∧ u < t.length) ∧ ∃ l, anc t v = l ++ anc t u ∧ ∀ x ∈ l, m u < m x := by
  intro n
  induction n with
  | zero =>
    intro v h0 h1 h2 u hu
    rw [anc_cons T h0 h1] at hu ⊢
    rcases (T v h0 h1).2 with h4 | ⟨h4, h5, h6, h7⟩
    · rw [if_pos h4] at hu ⊢
      simp only [List.mem_singleton] at hu; subst hu
      refine ⟨⟨h0, h1⟩, [], ?_, by simp⟩
      rw [anc_cons T h0 h1, if_pos h4]; rfl
    · omega
  | succ n ih =>
    intro v h0 h1 h2 u hu
    rcases (T v h0 h1).2 with h4 | ⟨h4, h5, h6, h7⟩
    · have e := anc_cons T h0 h1
      rw [if_pos h4] at e
      rw [e] at hu
      simp only [List.mem_singleton] at hu; subst hu
      exact ⟨⟨h0, h1⟩, [], rfl, by simp⟩
    · have e := anc_cons T h0 h1
      rw [if_neg (by omega)] at e
      rw [e] at hu
      rcases List.mem_cons.1 hu with rfl | hu
      · exact ⟨⟨h0, h1⟩, [], rfl, by simp⟩
      · obtain ⟨hb, l, e1, hx⟩ := ih _ h4 h5 (by omega) u hu
        refine ⟨hb, v :: l, by rw [e, e1]; rfl, fun x hx' => ?_⟩
        have hle : m u ≤ m (rd t v) := by
          cases l with
          | nil =>
            have e2 := anc_cons T h4 h5
            have e3 := anc_cons T hb.1 hb.2
            rw [List.nil_append] at e1
            rw [e1, e3] at e2
            have := (List.cons.inj e2).1
            rw [this]; omega
          | cons y l =>
            have e2 := anc_cons T h4 h5
            rw [e1, List.cons_append] at e2
            have e4 := (List.cons.inj e2).1
            have := hx y (by simp)
            rw [e4] at this; omega
        rcases List.mem_cons.1 hx' with rfl | hx'
        · omega
        · exact hx x hx'

end Go.Proofs.Ytcigpclbhfkgaaa.V
/-! Ancestors. -/
set_option linter.all false
namespace Go.Proofs.Ytcigpclbhfkgaaa.V
open Go Go.VM Go.Proofs
set_option maxRecDepth 10000
variable {frz : Nat} {H : Heap}
end Go.Proofs.Ytcigpclbhfkgaaa.V
/-! CommonAncestor, Reverse; marks. -/
set_option linter.all false
namespace Go.Proofs.Ytcigpclbhfkgaaa.V
open Go Go.VM Go.Proofs
set_option maxRecDepth 10000
variable {frz : Nat} {H : Heap}
theorem made_ret {xs : List Int} {r : Option (Value × Heap)} (h : r = some (if xs = [] then (.slice none 0 0, H) else (.slice (some ⟨H.length, 0, some 0⟩) xs.length 0, H ++ [⟨xs.map (.int .i64), 0, 3⟩]))) : wp r (Made Fl.int 3 H xs) := by
  subst h
  by_cases hx : xs = []
  · simp [hx]; exact ⟨[], by simp, .inl ⟨rfl, rfl⟩, by simp⟩
  · simp [hx]
    exact ⟨_, rfl, Ow.new0 rfl (cellsOf_int xs).symm (by simp) rfl, by simp⟩
theorem made_row {xs : List Int} {r : Option (Value × Heap)} (h : r = some (.slice (some ⟨H.length, 0, some 0⟩) xs.length 0, H ++ [⟨xs.map (.int .i64), 0, 3⟩])) : wp r (Made Fl.int 3 H xs) := by
  subst h
  simp
  exact ⟨_, rfl, Ow.new0 rfl (cellsOf_int xs).symm (by simp) rfl, by simp⟩
theorem common_at {P : List Int} {a b : Int} {i : Nat} (h : i < (anc P a).length) (h1 : ∀ x ∈ (anc P a).take i, x ∉ anc P b) (h2 : (anc P a)[i] ∈ anc P b) : common P a b = (anc P a)[i] := by
  unfold common
  rw [find_at h (by simpa using h1) (by simpa using h2)]; rfl
theorem take_succ_no {xs : List Int} {p : Int → Prop} {i : Nat} (h : i < xs.length) (h1 : ∀ x ∈ xs.take i, p x) (h2 : p xs[i]) : ∀ x ∈ xs.take (i + 1), p x := by
  rw [List.take_succ_eq_append_getElem h]
  intro x hx
  rcases List.mem_append.1 hx with hx | hx
  · exact h1 x hx
  · rw [List.mem_singleton.1 hx]; exact h2
/-- xs, of which the first i and the last i are exchanged -/
def flip (xs : List Int) (i : Nat) : List Int := (List.range xs.length).map fun j => if j < i ∨ xs.length - i ≤ j then rd xs ((xs.length - 1 - j : Nat) : Int) else rd xs (j : Int)
theorem flip_len (xs : List Int) (i : Nat) : (flip xs i).length = xs.length := by simp [flip]
theorem flip_get (xs : List Int) (i j : Nat) (h : j < xs.length) : (flip xs i)[j]'(by rw [flip_len]; exact h) = if j < i ∨ xs.length - i ≤ j then xs[xs.length - 1 - j] else xs[j] := by
  simp only [flip, List.getElem_map, List.getElem_range]
  split
  · rw [rd_at (by omega)]
  · rw [rd_at h]
theorem flip_zero (xs : List Int) : flip xs 0 = xs := by
  apply List.ext_getElem (flip_len _ _)
  intro j h1 h2
  rw [flip_get _ _ _ h2, if_neg (by omega)]
theorem flip_end (xs : List Int) (i : Nat) (h : xs.length ≤ 2 * i + 1) : flip xs i = xs.reverse := by
  apply List.ext_getElem (by rw [flip_len, List.length_reverse])
  intro j h1 h2
  rw [flip_get _ _ _ (by simpa using h2), List.getElem_reverse]
  split
  · rfl
  · congr 1; rw [List.length_reverse] at h2; omega
theorem flip_succ (xs : List Int) (i : Nat) (h : 2 * i + 1 < xs.length) : ((flip xs i).set i ((flip xs i)[xs.length - 1 - i]'(by rw [flip_len]; omega))).set (xs.length - 1 - i) ((flip xs i)[i]'(by rw [flip_len]; omega)) = flip xs (i + 1) := by
  apply List.ext_getElem (by simp [flip_len])
  intro j h1 h2
  rw [flip_len] at h2
  rw [List.getElem_set, List.getElem_set, flip_get _ _ _ h2, flip_get _ _ _ (by omega), flip_get _ _ _ (by omega), flip_get _ _ _ h2]
  by_cases e1 : xs.length - 1 - i = j
  · subst e1
    rw [if_pos rfl, if_neg (by omega), if_pos (by omega)]
    congr 1; omega
  · by_cases e2 : i = j
    · subst e2
      rw [if_neg e1, if_pos rfl, if_neg (by omega), if_pos (by omega)]
    · rw [if_neg e1, if_neg e2]
      by_cases e3 : j < i ∨ xs.length - i ≤ j
      · rw [if_pos e3, if_pos (by omega)]
      · rw [if_neg e3, if_neg (by omega)]
/-- marks -/
def marks (k : Int) (n : Nat) : List Int := (List.range n).map fun i : Nat => k + (i : Int)
@[simp] theorem marks_len (k : Int) (n : Nat) : (marks k n).length = n := by simp [marks]
theorem marks_succ (k : Int) (n : Nat) : marks k (n + 1) = marks k n ++ [k + n] := by simp [marks, List.range_succ]
theorem marks_get (k : Int) (n i : Nat) (h : i < n) : (marks k n)[i]'(by simpa using h) = k + i := by simp [marks]
theorem marks_set (k : Int) (xs : List Int) (i : Nat) (h : i < xs.length) : (marks k i ++ xs.drop i).set i (k + i) = marks k (i + 1) ++ xs.drop (i + 1) := by
  rw [List.set_append_right _ _ (by simp), marks_len, Nat.sub_self, List.drop_eq_getElem_cons h, List.set_cons_zero, marks_succ]; simp
theorem markIntS_w (v : Value) (xs : List Int) (e : TypeId) (k : Int) (h : Ow Fl.int e H v xs) (hl : xs.length ≤ 1073741824) (hk : 0 ≤ k ∧ k ≤ 4611686018427387904) (hf : ∀ i ∈ ids v, frz ≤ i) :
   wp (vcall C frz 85 [v, .int .i64 k] H) (fun r H' => r = .int .i64 (k + xs.length) ∧ Ow Fl.int e H' v (marks k xs.length) ∧ Chg H H' (ids v) ∧ H'.length = H.length) := by
  rw [vcall_go (fn := Try.f85) Try.func85 rfl (by kernel_rfl) rfl]
  simp
  refine wp_inv (fun n t H' => ∃ i : Nat, n = xs.length - i ∧ i ≤ xs.length ∧ t 0 = v ∧ t 1 = .int .i64 (k + i) ∧ t 5 = .int .i64 i ∧ Ow Fl.int e H' v (marks k i ++ xs.drop i) ∧ Chg H H' (ids v) ∧ H'.length = H.length) ?_ (n := xs.length)
    ⟨0, by simp, by omega, by simp, by simp, by simp, by simpa [marks] using h, Chg.refl _, rfl⟩
  rintro n t H' ⟨i, rfl, hi, h0, h1, h5, o, c, l⟩ ih
  have hlen : (marks k i ++ xs.drop i).length = xs.length := by simp; omega
  simp [h0, h1, h5, o.rd.len, hlen]
  have e1 : (i : Int) + ((xs.length - i : Nat) : Int) = xs.length := by omega
  refine wp_dec ?_ ?_ <;> intro h6
  · have i1 := o.rd.isI
    have p1 : i < (marks k i ++ xs.drop i).length := by omega
    obtain ⟨H1, s1, o1, c1, l1⟩ := o.put1 (P := Try.prog) (frz := frz) rfl (et := 3) (ag := false) (by simp) p1 (x := .int .i64 (k + i)) rfl rfl rfl hf
    have q1 := i1.idx (P := Try.prog) (ty := 24) (e := 3) (by simp) (i := (i : Int)) (by omega) (by omega)
    simp only [Int.toNat_natCast] at q1
    simp [h0, h1, h5, q1, s1]
    refine ih (xs.length - (i + 1)) _ _ ⟨i + 1, rfl, by omega, by simp [h0], ?_, ?_, ?_, c.trans c1, by omega⟩ (by omega)
    · simp; rw [w64 (by omega) (by omega)]; omega
    · simp; rw [w64 (by omega) (by omega)]
    · rw [marks_set _ _ _ (by omega)] at o1; exact o1
  · have : i = xs.length := by omega
    subst this
    simp [h0, h1, h5]
    exact ⟨by simpa using o, c, l⟩
theorem heldIntS_c (v : Value) (n : Nat) (k : Int) (h : IsI H v (marks k n)) (hl : n ≤ 1073741824) (hk : 0 ≤ k ∧ k ≤ 4611686018427387904) :
   vcall C frz 90 [v, .int .i64 k] H = some (.int .i64 (k + n), H) := by
  rw [vcall_go (fn := Try.f90) Try.func90 rfl (by kernel_rfl) rfl]
  simp
  refine go_inv (fun m t H' => ∃ i : Nat, m = n - i ∧ i ≤ n ∧ t 0 = v ∧ t 1 = .int .i64 (k + i) ∧ t 5 = .int .i64 i ∧ H' = H) ?_ (n := n) ⟨0, by simp⟩
  rintro m t H' ⟨i, rfl, hi, h0, h1, h5, rfl⟩ ih
  simp [h0, h1, h5, h.len]
  refine br_dec _ ?_ ?_ <;> intro h6
  · have q1 := h.idx (P := Try.prog) (ty := 24) (e := 3) (by simp) (i := (i : Int)) (by omega) (by simpa using h6)
    have q2 := h.load (P := Try.prog) (e := 3) (by simp) (j := i) (by simpa using h6)
    rw [getD_get _ _ (by simpa using h6), marks_get _ _ _ h6] at q2
    simp only [Int.toNat_natCast] at q1
    simp [h0, h1, h5, h6, q1, q2]
    refine ih (n - (i + 1)) _ _ ⟨i + 1, rfl, by omega, by simp [h0], ?_, ?_, rfl⟩ (by omega)
    · simp; rw [w64 (by omega) (by omega)]; omega
    · simp; rw [w64 (by omega) (by omega)]
  · have : i = n := by omega
    subst this
    simp [h0, h1, h5]
end Go.Proofs.Ytcigpclbhfkgaaa.V
/-! The laws' own functions: numbers, meshes, tables. -/
set_option linter.all false
namespace Go.Proofs.Ytcigpclbhfkgaaa.V
open Go Go.VM Go.Proofs
set_option maxRecDepth 10000
variable {frz : Nat} {H : Heap}
def big : Nat := 1073741824
abbrev dIntS : Dt Value (List Int) := dFlat Fl.int 3 1073741824
/-- what a marking function leaves, told by what its reader says of it -/
def Marks {V A : Type} (B : Int) (T : Dt V A) (held : Nat) (H : Heap) (v : V) (a : A) (k : Int) (r : Value) (H' : Heap) : Prop :=
  ∃ (n : Int) (a' : A), r = .int .i64 (k + n) ∧ (0 ≤ n ∧ n ≤ B) ∧ T.val v a' = T.val v a ∧ T.Ow H' v a' ∧ Chg H H' (T.ids v) ∧
    ∀ F H2, T.Ow H2 v a' → vcall C F held [T.val v a', .int .i64 k] H2 = some (.int .i64 (k + n), H2)
theorem toIntS_w (v : Value) (xs : List Int) (hI : IsI H v xs) (hb : xs.length ≤ 1073741824) : wp (vcall C frz 54 [v] H) (dIntS.Made H xs) := by
  rw [toIntS_c v xs hI hb]
  simp
  exact ⟨_, rfl, ⟨Ow.new0 rfl (cellsOf_int xs).symm (by simp) rfl, hb⟩, Chg.app _, by simp [dFlat], ids_nodup (.slice (some ⟨H.length, 0, some 0⟩) xs.length 0)⟩
theorem eqIntS_d {a b : Value} {xs ys : List Int} (ha : dIntS.Ow H a xs) (hb : dIntS.Ow H b ys) : vcall C frz 58 [a, b] H = some (.bool (decide (xs = ys)), H) :=
  eqIntS_c a b xs ys ha.1.rd.isI hb.1.rd.isI ha.2
theorem markIntS_d {v : Value} {xs : List Int} {k : Int} (h : dIntS.Ow H v xs) (hd : (dIntS.ids v).Nodup) (hk : 0 ≤ k ∧ k ≤ 4611686018427387904) (hf : ∀ i ∈ dIntS.ids v, frz ≤ i) :
    wp (vcall C frz 85 [v, .int .i64 k] H) (Marks 1073741824 dIntS 90 H v xs k) := by
  refine (markIntS_w v xs _ k h.1 h.2 hk hf).mono ?_
  rintro r H' ⟨rfl, o, c, l⟩
  have := h.2
  refine ⟨xs.length, marks k xs.length, rfl, by omega, rfl, ⟨o, by simpa using h.2⟩, c, fun F H2 h2 => ?_⟩
  exact heldIntS_c v xs.length k h2.1.rd.isI h.2 hk
-- meshes
abbrev MeshD := Int × Int × List Int
def dMesh : Dt Value MeshD where
  val v a := .agg #[.int .i64 a.1, .int .i64 a.2.1, v]
  Ow H v a := dIntS.Ow H v a.2.2
  ids := VM.ids
  frame h k := dIntS.frame h k
  lt h := dIntS.lt h
theorem dMesh_val (v : Value) (a : MeshD) : dMesh.val v a = .agg #[.int .i64 a.1, .int .i64 a.2.1, v] := rfl
theorem dMesh_one {v : Value} {a : MeshD} (h : dMesh.Ow H v a) : VM.one v = true ∧ v.cells = #[v] := ⟨h.1.rd.one', h.1.rd.cells⟩
theorem dIntS_one {v : Value} {a : List Int} (h : dIntS.Ow H v a) : VM.one v = true ∧ v.cells = #[v] := ⟨h.1.rd.one', h.1.rd.cells⟩
theorem dIntS_val (v : Value) (a : List Int) : dIntS.val v a = v := rfl
theorem toMesh_w (w h : Int) (v : Value) (b : List Int) (hI : IsI H v b) (hb : b.length ≤ 1073741824) : wp (vcall C frz 14 [.agg #[.int .i64 w, .int .i64 h, v]] H) (dMesh.Made H (w, h, b)) := by
  rw [toMesh_c w h v b hI hb]
  simp
  exact ⟨_, rfl, ⟨Ow.new0 rfl (cellsOf_int b).symm (by simp) rfl, hb⟩, Chg.app _, by simp [dMesh], ids_nodup (.slice (some ⟨H.length, 0, some 0⟩) b.length 0)⟩
theorem eqMesh_d {a b : Value} {x y : MeshD} (ha : dMesh.Ow H a x) (hb : dMesh.Ow H b y) : vcall C frz 18 [dMesh.val a x, dMesh.val b y] H = some (.bool (decide (x = y)), H) := by
  obtain ⟨w, h, b1⟩ := x; obtain ⟨w', h', b2⟩ := y
  rw [dMesh_val, dMesh_val]
  have := eqMesh_c (frz := frz) w h w' h' a b b1 b2 ha.1.rd.isI hb.1.rd.isI ha.2
  rw [this]
  congr 3
  simp [and_assoc]
theorem markMesh_d {v : Value} {a : MeshD} {k : Int} (h : dMesh.Ow H v a) (hd : (dMesh.ids v).Nodup) (hk : 0 ≤ k ∧ k ≤ 4611686018427387904) (hf : ∀ i ∈ dMesh.ids v, frz ≤ i) :
    wp (vcall C frz 83 [dMesh.val v a, .int .i64 k] H) (Marks 1073741824 dMesh 87 H v a k) := by
  obtain ⟨w, g, b⟩ := a
  rw [vcall_go (fn := Try.f83) Try.func83 rfl (by kernel_rfl) rfl]
  rw [dMesh_val]
  have one := dMesh_one h
  simp [one]
  refine wp_thn (markIntS_d (Dt.app h) hd hk hf) ?_
  rintro _ H' ⟨n, a', rfl, hn, _, o, c, he⟩
  simp
  refine ⟨n, (w, g, a'), rfl, hn, rfl, o, (Chg.app _).trans c, fun F H2 h2 => ?_⟩
  rw [vcall_go (fn := Try.f87) Try.func87 rfl (by kernel_rfl) rfl]
  rw [dMesh_val]
  have he' := fun F => he F _ (Dt.app (L := [⟨[.int .i64 w, .int .i64 g, v], 0, 38⟩]) h2)
  simp only [dIntS_val] at he'
  have e0 : ¬ k + n < 0 := by omega
  simp [one, he', e0]
-- tables
def dTable : Dt Value (List Int) where
  val v _ := .agg #[v]
  Ow H v a := dIntS.Ow H v a
  ids := VM.ids
  frame h k := dIntS.frame h k
  lt h := dIntS.lt h
theorem dTable_val (v : Value) (a : List Int) : dTable.val v a = .agg #[v] := rfl
theorem dTable_one {v : Value} {a : List Int} (h : dTable.Ow H v a) : VM.one v = true ∧ v.cells = #[v] := ⟨h.1.rd.one', h.1.rd.cells⟩
theorem szTable_c (v : Value) (xs : List Int) (n : Int) (hI : IsI H v xs) (h0 : 0 ≤ n) (h1 : n ≤ 1048576) (h2 : xs.length ≤ 9223372036854775807) :
    vcall C frz 52 [.agg #[v], .int .i64 n] H = some (.int .i64 (if n < xs.length then -1 else n - xs.length), H) := by
  rw [vcall_go (fn := Try.f52) Try.func52 rfl (by kernel_rfl) rfl]
  simp [szIntS_c _ _ _ (hI.app _) h0 h1 h2, hI.one', hI.cells]
  refine br_dec _ ?_ ?_ <;> intro h <;> simp [h]
  · intro hh; omega
theorem toTable_w (v : Value) (xs : List Int) (hI : IsI H v xs) (hb : xs.length ≤ 1073741824) :
   wp (vcall C frz 55 [.agg #[v]] H) (dTable.Made H xs) := by
  rw [vcall_go (fn := Try.f55) Try.func55 rfl (by kernel_rfl) rfl]
  simp [toIntS_c _ _ (hI.app _) hb, hI.one', hI.cells]
  exact ⟨_, rfl, ⟨Ow.new0 rfl (cellsOf_int xs).symm (by simp) rfl, hb⟩, Chg.app _, by simp [dTable], ids_nodup (.slice (some ⟨H.length, 0, some 0⟩) xs.length 0)⟩
theorem eqTable_d {a b : Value} {x y : List Int} (ha : dTable.Ow H a x) (hb : dTable.Ow H b y) : vcall C frz 59 [dTable.val a x, dTable.val b y] H = some (.bool (decide (x = y)), H) := by
  rw [dTable_val, dTable_val]
  rw [vcall_go (fn := Try.f59) Try.func59 rfl (by kernel_rfl) rfl]
  simp [dTable_one ha, dTable_one hb, eqIntS_c _ _ _ _ (ha.1.rd.isI.app _) (hb.1.rd.isI.app _) ha.2]
  refine br_dec _ ?_ ?_ <;> intro h0 <;> simp [h0]
theorem markTable_d {v : Value} {a : List Int} {k : Int} (h : dTable.Ow H v a) (hd : (dTable.ids v).Nodup) (hk : 0 ≤ k ∧ k ≤ 4611686018427387904) (hf : ∀ i ∈ dTable.ids v, frz ≤ i) :
    wp (vcall C frz 86 [dTable.val v a, .int .i64 k] H) (Marks 1073741824 dTable 135 H v a k) := by
  rw [vcall_go (fn := Try.f86) Try.func86 rfl (by kernel_rfl) rfl]
  rw [dTable_val]
  have one := dTable_one h
  simp [one]
  refine wp_thn (markIntS_d (Dt.app h) hd hk hf) ?_
  rintro _ H' ⟨n, a', rfl, hn, _, o, c, he⟩
  simp
  refine ⟨n, a', rfl, hn, rfl, o, (Chg.app _).trans c, fun F H2 h2 => ?_⟩
  rw [vcall_go (fn := Try.f135) Try.func135 rfl (by kernel_rfl) rfl]
  rw [dTable_val]
  have he' := fun F => he F _ (Dt.app (L := [⟨[v], 0, 40⟩]) h2)
  simp only [dIntS_val] at he'
  have e0 : ¬ k + n < 0 := by omega
  simp [one, he', e0]
end Go.Proofs.Ytcigpclbhfkgaaa.V
/-! Two tables. -/
set_option linter.all false
namespace Go.Proofs.Ytcigpclbhfkgaaa.V
open Go Go.VM Go.Proofs
set_option maxRecDepth 10000
variable {frz : Nat} {H : Heap}
abbrev ClassesD := List Int × List Int
def dClasses : Dt (Value × Value) ClassesD where
  val v _ := .agg #[v.1, v.2]
  Ow H v a := dIntS.Ow H v.1 a.1 ∧ dIntS.Ow H v.2 a.2
  ids v := VM.ids v.1 ++ VM.ids v.2
  frame h k := ⟨dIntS.frame h.1 fun i hi => k i (List.mem_append.2 (.inl hi)), dIntS.frame h.2 fun i hi => k i (List.mem_append.2 (.inr hi))⟩
  lt h i hi := by
    rcases List.mem_append.1 hi with hi | hi
    · exact dIntS.lt h.1 i hi
    · exact dIntS.lt h.2 i hi
theorem dClasses_val (v : Value × Value) (a : ClassesD) : dClasses.val v a = .agg #[v.1, v.2] := rfl
theorem dClasses_one {v : Value × Value} {a : ClassesD} (h : dClasses.Ow H v a) : (VM.one v.1 = true ∧ v.1.cells = #[v.1]) ∧ VM.one v.2 = true ∧ v.2.cells = #[v.2] := ⟨⟨h.1.1.rd.one', h.1.1.rd.cells⟩, h.2.1.rd.one', h.2.1.rd.cells⟩
theorem eqClasses_d {a b : Value × Value} {x y : ClassesD} (ha : dClasses.Ow H a x) (hb : dClasses.Ow H b y) : vcall C frz 19 [dClasses.val a x, dClasses.val b y] H = some (.bool (decide (x = y)), H) := by
  obtain ⟨x1, x2⟩ := x; obtain ⟨y1, y2⟩ := y; obtain ⟨a1, a2⟩ := a; obtain ⟨b1, b2⟩ := b
  rw [dClasses_val, dClasses_val]
  rw [vcall_go (fn := Try.f19) Try.func19 rfl (by kernel_rfl) rfl]
  have one := And.intro (dClasses_one ha) (dClasses_one hb)
  have e1 := fun F L => eqTable_d (frz := F) (H := H ++ L) (a := a1) (b := b1) (x := x1) (y := y1) (Dt.app (T := dIntS) ha.1) (Dt.app (T := dIntS) hb.1)
  have e2 := fun F L => eqTable_d (frz := F) (H := H ++ L) (a := a2) (b := b2) (x := x2) (y := y2) (Dt.app (T := dIntS) ha.2) (Dt.app (T := dIntS) hb.2)
  simp only [dTable_val] at e1 e2
  simp at one
  simp [one, e1]
  refine br_dec _ ?_ ?_ <;> intro h0 <;> simp [h0, one, e2]
  refine br_dec _ ?_ ?_ <;> intro h0 <;> simp [h0]
theorem markClasses_d {v : Value × Value} {a : ClassesD} {k : Int} (h : dClasses.Ow H v a) (hd : (dClasses.ids v).Nodup) (hk : 0 ≤ k ∧ k ≤ 2305843009213693952) (hf : ∀ i ∈ dClasses.ids v, frz ≤ i) :
    wp (vcall C frz 38 [dClasses.val v a, .int .i64 k] H) (Marks 2147483648 dClasses 88 H v a k) := by
  obtain ⟨a1, a2⟩ := a; obtain ⟨v1, v2⟩ := v
  rw [vcall_go (fn := Try.f38) Try.func38 rfl (by kernel_rfl) rfl]
  rw [dClasses_val]
  have one := dClasses_one h
  simp only at one
  obtain ⟨h1, h2⟩ := h
  simp only at h1 h2
  obtain ⟨d1, d2, d3⟩ := List.nodup_append.1 hd
  have dis : ∀ i ∈ VM.ids v2, i ∉ VM.ids v1 := fun i hi hh => d3 i hh i hi rfl
  have dis' : ∀ i ∈ VM.ids v1, i ∉ VM.ids v2 := fun i hi hh => d3 i hi i hh rfl
  have lt1 := dIntS.lt h1
  have lt2 := dIntS.lt h2
  simp [one]
  have m1 := markTable_d (frz := frz) (k := k) (H := H ++ [⟨[v1, v2], 0, 42⟩]) (v := v1) (a := a1) (Dt.app (T := dIntS) h1) d1 (by omega) (fun i hi => hf i (List.mem_append.2 (.inl hi)))
  simp only [dTable_val] at m1
  refine wp_thn m1 ?_
  rintro _ H1 ⟨n1, b1, rfl, hn1, _, o1, c1, he1⟩
  have bx : H1[H.length]? = some ⟨[v1, v2], 0, 42⟩ := box_chg (by simp) c1 (fun hh => by have := lt1 _ hh; omega)
  have o2 := Dt.chg (T := dIntS) (Dt.app (T := dIntS) h2) c1 dis
  simp [VM.look, bx, one]
  have m2 := markTable_d (frz := frz) (k := k + n1) (H := H1) (v := v2) (a := a2) o2 d2 (by omega) (fun i hi => hf i (List.mem_append.2 (.inr hi)))
  simp only [dTable_val] at m2
  refine wp_thn m2 ?_
  rintro _ H2 ⟨n2, b2, rfl, hn2, _, o2', c2, he2⟩
  simp
  refine ⟨n1 + n2, (b1, b2), by rw [Int.add_assoc], by omega, rfl, ⟨Dt.chg (T := dIntS) o1 c2 dis', o2'⟩, ?_, fun F H3 h3 => ?_⟩
  · refine ((Chg.app (dClasses.ids (v1, v2))).trans' (c1.mono fun i hi => List.mem_append.2 (.inl hi)) (fun i hi => .inl hi)).trans' (c2.mono fun i hi => List.mem_append.2 (.inr hi)) (fun i hi => .inl hi)
  · rw [vcall_go (fn := Try.f88) Try.func88 rfl (by kernel_rfl) rfl]
    rw [dClasses_val]
    have g1 := fun F => he1 F (H3 ++ [⟨[v1, v2], 0, 42⟩]) (Dt.app (T := dIntS) h3.1)
    have g2 := fun F => he2 F (H3 ++ [⟨[v1, v2], 0, 42⟩]) (Dt.app (T := dIntS) h3.2)
    simp only [dTable_val] at g1 g2
    have e0 : ¬ k + n1 < 0 := by omega
    have e1 : ¬ k + n1 + n2 < 0 := by omega
    simp [one, g1, e0, g2, e1, Int.add_assoc]
    simp [← Int.add_assoc, e1]
theorem szClasses_c (v1 v2 : Value) (A B : List Int) (n : Int) (h1 : IsI H v1 A) (h2 : IsI H v2 B) (h0 : 0 ≤ n) (hn : n ≤ 1048576) (l1 : A.length ≤ 9223372036854775807) (l2 : B.length ≤ 9223372036854775807) :
    vcall C frz 12 [.agg #[v1, v2], .int .i64 n] H = some (.int .i64 (if n < (A.length : Int) + (B.length : Int) then -1 else n - ((A.length : Int) + (B.length : Int))), H) := by
  rw [vcall_go (fn := Try.f12) Try.func12 rfl (by kernel_rfl) rfl]
  have one := And.intro (And.intro h1.one' h1.cells) (And.intro h2.one' h2.cells)
  simp [one, szTable_c _ _ _ (h1.app _) h0 hn (by omega)]
  by_cases g : n < (A.length : Int)
  · simp [g]; omega
  · have g2 : ¬ n - (A.length : Int) < 0 := by omega
    simp [g, g2, one, szTable_c _ _ _ (h2.app _) (by omega : 0 ≤ n - (A.length : Int)) (by omega) (by omega)]
    by_cases g3 : n - (A.length : Int) < (B.length : Int)
    · simp [g3]; omega
    · have g4 : ¬ n - (A.length : Int) - (B.length : Int) < 0 := by omega
      simp [g3, g4]
      rw [if_neg (by omega)]; omega
theorem toClasses_w (v1 v2 : Value) (A B : List Int) (h1 : IsI H v1 A) (h2 : IsI H v2 B) (l1 : A.length ≤ 1073741824) (l2 : B.length ≤ 1073741824) :
   wp (vcall C frz 15 [.agg #[v1, v2]] H) (dClasses.Made H (A, B)) := by
  rw [vcall_go (fn := Try.f15) Try.func15 rfl (by kernel_rfl) rfl]
  have one := And.intro (And.intro h1.one' h1.cells) (And.intro h2.one' h2.cells)
  simp [one]
  refine wp_thn (toTable_w v1 A (h1.app _) l1) ?_
  rintro _ H1 ⟨u1, rfl, o1, c1, n1, d1⟩
  have b0 : H1[H.length]? = some ⟨[v1, v2], 0, 30⟩ := box_chg (by simp) c1 (by simp)
  have bR : H1[H.length + 1]? = some ⟨[.slice none 0 0, .slice none 0 0], 0, 42⟩ := box_chg (by simp) c1 (by simp)
  have b1 : H1[H.length + 2]? = some ⟨[.slice none 0 0, .slice none 0 0], 0, 42⟩ := box_chg (by simp) c1 (by simp)
  have lc := c1.1
  simp at n1 lc
  have onu := dTable_one o1
  have hF : H.length ≤ H.length + 2 := by omega
  have hF1 : H.length ≤ H.length + 1 := by omega
  have e1 : Chg H1 (H1.set (H.length + 2) ⟨[u1, .slice none 0 0], 0, 42⟩) [H.length + 2] := chg_set _ _
  have cH1 : Chg H (H1.set (H.length + 2) ⟨[u1, .slice none 0 0], 0, 42⟩) [] := ((Chg.app []).trans c1).trans' e1 (fun i hi => .inr (by simp at hi; omega))
  have p1 := set_get (r' := ⟨[u1, .slice none 0 0], 0, 42⟩) b1
  have p0 := box_chg b0 e1 (by simp)
  have pR := box_chg bR e1 (by simp)
  have o1' := Dt.chg (T := dTable) o1 e1 (fun i hi hh => by have := n1 i hi; simp at hh; omega)
  simp [dTable_val, VM.look, b0, b1, onu, one, hF]
  generalize H1.set (H.length + 2) ⟨[u1, .slice none 0 0], 0, 42⟩ = H2 at *
  try simp [VM.look, p0, one]
  refine wp_thn (toTable_w v2 B (Rd.isI (h2.rd.chg cH1 (by simp))) l2) ?_
  rintro _ H3 ⟨u2, rfl, o2, c2, n2, d2⟩
  have b1 := box_chg p1 c2 (by simp)
  have bR := box_chg pR c2 (by simp)
  have l2' := cH1.1
  have lu := dTable.lt o1'
  have onu2 := dTable_one o2
  have o3 := Dt.chg0 (T := dTable) o1' c2
  have e2 : Chg H3 (H3.set (H.length + 2) ⟨[u1, u2], 0, 42⟩) [H.length + 2] := chg_set _ _
  have g1 := set_get (r' := ⟨[u1, u2], 0, 42⟩) b1
  have bR := box_chg bR e2 (by simp)
  have hlt := box_lt p1
  have o4 := Dt.chg (T := dTable) o3 e2 (fun i hi hh => by have := n1 i hi; simp at hh; omega)
  have o5 := Dt.chg (T := dTable) o2 e2 (fun i hi hh => by have := n2 i hi; simp at hh; omega)
  have cH4 := (cH1.trans c2).trans' e2 (fun i hi => .inr (by simp at hi; omega))
  simp [dTable_val, VM.look, b1, onu, onu2, hF]
  generalize H3.set (H.length + 2) ⟨[u1, u2], 0, 42⟩ = H4 at *
  have gR := set_get (r' := ⟨[u1, u2], 0, 42⟩) bR
  simp [VM.look, g1, bR, onu, onu2, hF1, gR]
  refine ⟨(u1, u2), rfl, ⟨Dt.chg (T := dTable) o4 (chg_set _ _) (fun i hi hh => by have := n1 i hi; simp at hh; omega), Dt.chg (T := dTable) o5 (chg_set _ _) (fun i hi hh => by have := n2 i hi; simp at hh; omega)⟩, cH4.trans' (chg_set _ _) (fun i hi => .inr (by simp at hi; omega)), fun i hi => ?_, ?_⟩
  · rcases List.mem_append.1 hi with hi | hi
    · have := n1 i hi; omega
    · have := n2 i hi; omega
  · exact List.nodup_append.2 ⟨d1, d2, fun a ha b hb e => by have := lu a ha; have := n2 b hb; omega⟩
end Go.Proofs.Ytcigpclbhfkgaaa.V
/-! Latency without load; requests and replies. -/
set_option linter.all false
namespace Go.Proofs.Ytcigpclbhfkgaaa.V
open Go Go.VM Go.Proofs
set_option maxRecDepth 10000
variable {frz : Nat} {H : Heap}
def classesOk (w h : Int) (b A B : List Int) : Prop := tableOk w h b A ∧ tableOk w h b B
instance (w h : Int) (b A B : List Int) : Decidable (classesOk w h b A B) := inferInstanceAs (Decidable (_ ∧ _))
/-- a packet: its number, whence, whither, class, length -/
abbrev PkD := Int × Int × Int × Int × Int
def packetOk (w h : Int) (p : PkD) : Prop := inR 1 p.1 9999 ∧ isN w h p.2.1 ∧ isN w h p.2.2.1 ∧ p.2.1 ≠ p.2.2.1 ∧ inR 0 p.2.2.2.1 1 ∧ inR 1 p.2.2.2.2 5
instance (w h : Int) (p : PkD) : Decidable (packetOk w h p) := inferInstanceAs (Decidable (_ ∧ _))
def pkV (p : PkD) : Value := .agg #[.int .i64 p.1, .int .i64 p.2.1, .int .i64 p.2.2.1, .int .i64 p.2.2.2.1, .int .i64 p.2.2.2.2]
theorem classesOk_c (w h : Int) (v u1 u2 : Value) (b A B : List Int) (hI : IsI H v b) (h1 : IsI H u1 A) (h2 : IsI H u2 B) (hl : b.length ≤ 1073741824) :
   vcall C frz 80 [.agg #[.int .i64 w, .int .i64 h, v], .agg #[u1, u2]] H = some (.bool (decide (classesOk w h b A B)), H) := by
  rw [vcall_go (fn := Try.f80) Try.func80 rfl (by kernel_rfl) rfl]
  have one := And.intro (And.intro h1.one' h1.cells) (And.intro h2.one' h2.cells)
  simp [hI.one', hI.cells, one, tableOk_c _ _ _ _ _ _ (hI.app _) (h1.app _) hl]
  refine gd_dec _ _ ?_ ?_ <;> intro g <;> simp [g, classesOk, hI.one', hI.cells, one, tableOk_c _ _ _ _ _ _ (hI.app _) (h2.app _) hl]
theorem sClassesOk_c (w h : Int) (v u1 u2 : Value) (b A B : List Int) (hI : IsI H v b) (h1 : IsI H u1 A) (h2 : IsI H u2 B) (hl : b.length ≤ 1073741824) :
   vcall C frz 77 [.agg #[.int .i64 w, .int .i64 h, v], .agg #[u1, u2]] H = some (.bool (decide (classesOk w h b A B)), H) := by
  rw [vcall_go (fn := Try.f77) Try.func77 rfl (by kernel_rfl) rfl]
  have one := And.intro (And.intro h1.one' h1.cells) (And.intro h2.one' h2.cells)
  simp [hI.one', hI.cells, one, sTableOk_c _ _ _ _ _ _ (hI.app _) (h1.app _) hl]
  refine gd_dec _ _ ?_ ?_ <;> intro g <;> simp [g, classesOk, hI.one', hI.cells, one, sTableOk_c _ _ _ _ _ _ (hI.app _) (h2.app _) hl]
theorem packetOk_c (w h : Int) (p : PkD) : vcall C frz 93 [.agg #[.int .i64 w, .int .i64 h], pkV p] H = some (.bool (decide (packetOk w h p)), H) := by
  obtain ⟨i, a, b, c, l⟩ := p
  rw [vcall_go (fn := Try.f93) Try.func93 rfl (by kernel_rfl) rfl]
  by_cases g1 : inR 1 i 9999
  · by_cases g2 : isN w h a
    · by_cases g3 : isN w h b
      · by_cases g4 : a = b
        · simp [pkV, inside_c, isNode_c, g1, g2, g3, g4, packetOk]
        · by_cases g5 : inR 0 c 1
          · by_cases g6 : inR 1 l 5 <;> simp [pkV, inside_c, isNode_c, g1, g2, g3, g4, g5, g6, packetOk]
          · simp [pkV, inside_c, isNode_c, g1, g2, g3, g4, g5, packetOk]
      · simp [pkV, inside_c, isNode_c, g1, g2, g3, packetOk]
    · simp [pkV, inside_c, isNode_c, g1, g2, packetOk]
  · simp [pkV, inside_c, isNode_c, g1, packetOk]
theorem sPacketOk_c (w h : Int) (p : PkD) : vcall C frz 91 [.agg #[.int .i64 w, .int .i64 h], pkV p] H = some (.bool (decide (packetOk w h p)), H) := by
  obtain ⟨i, a, b, c, l⟩ := p
  rw [vcall_go (fn := Try.f91) Try.func91 rfl (by kernel_rfl) rfl]
  by_cases g1 : inR 1 i 9999
  · by_cases g2 : isN w h a
    · by_cases g3 : isN w h b
      · by_cases g4 : a = b
        · simp [pkV, l01In_c, l02Has_c, g1, g2, g3, g4, packetOk]
        · by_cases g5 : inR 0 c 1
          · by_cases g6 : inR 1 l 5 <;> simp [pkV, l01In_c, l02Has_c, g1, g2, g3, g4, g5, g6, packetOk]
          · simp [pkV, l01In_c, l02Has_c, g1, g2, g3, g4, g5, packetOk]
      · simp [pkV, l01In_c, l02Has_c, g1, g2, g3, packetOk]
    · simp [pkV, l01In_c, l02Has_c, g1, g2, packetOk]
  · simp [pkV, l01In_c, l02Has_c, g1, packetOk]
def zeroLoad (w h : Int) (b A B : List Int) (p : PkD) : Int :=
  if classesOk w h b A B ∧ packetOk w h p then ((walk w h b (if p.2.2.2.1 = 1 then B else A) p.2.1 p.2.2.1).length : Int) + p.2.2.2.2 + 1 else -1
theorem zeroLoad_range (w h : Int) (b A B : List Int) (p : PkD) : -1 ≤ zeroLoad w h b A B p ∧ zeroLoad w h b A B p ≤ 100 := by
  unfold zeroLoad; split
  · rename_i g
    have h1 := g.2.2.2.2.2.2
    have := walk_len w h b (if p.2.2.2.1 = 1 then B else A) p.2.1 p.2.2.1
    unfold inR at h1; omega
  · omega
theorem tableFor_w (u1 u2 : Value) (A B : List Int) (c : Int) (h1 : IsI H u1 A) (h2 : IsI H u2 B) :
   wp (vcall C frz 112 [.agg #[u1, u2], .int .i64 c] H) (fun r H' => r = .agg #[if c = 1 then u2 else u1] ∧ ∃ L, H' = H ++ L) := by
  rw [vcall_go (fn := Try.f112) Try.func112 rfl (by kernel_rfl) rfl]
  have one := And.intro (And.intro h1.one' h1.cells) (And.intro h2.one' h2.cells)
  simp [one]
  refine wp_dec ?_ ?_ <;> intro g <;> simp [g, one]
theorem zeroLoad_c (w h : Int) (v u1 u2 : Value) (b A B : List Int) (p : PkD) (hI : IsI H v b) (h1 : IsI H u1 A) (h2 : IsI H u2 B) (hl : b.length ≤ 1073741824) :
   vcall C frz 56 [.agg #[.int .i64 w, .int .i64 h, v], .agg #[u1, u2], pkV p] H = some (.int .i64 (zeroLoad w h b A B p), H) := by
  refine wp.exact (by simp) ?_ rfl
  rw [vcall_go (fn := Try.f56) Try.func56 rfl (by kernel_rfl) rfl]
  have one := And.intro (And.intro h1.one' h1.cells) (And.intro h2.one' h2.cells)
  have onev := And.intro hI.one' hI.cells
  have pk := fun F L => packetOk_c (frz := F) (H := L) w h p
  have hz : zeroLoad w h b A B p = if classesOk w h b A B ∧ packetOk w h p then ((walk w h b (if p.2.2.2.1 = 1 then B else A) p.2.1 p.2.2.1).length : Int) + p.2.2.2.2 + 1 else -1 := rfl
  obtain ⟨i, a, c, k, l⟩ := p
  simp only [pkV] at pk ⊢
  simp [onev, one, classesOk_c _ _ _ _ _ _ _ _ (hI.app _) (h1.app _) (h2.app _) hl]
  by_cases g1 : classesOk w h b A B
  · by_cases g2 : packetOk w h (i, a, c, k, l)
    · simp [g1, g2, pk, onev, one]
      rw [if_pos ⟨g1, g2⟩] at hz
      obtain ⟨k1, k2, k3, k4, k5, k6⟩ := g2
      simp only at k1 k2 k3 k4 k5 k6 hz
      rw [go_draw (h := by kernel_rfl)]
      simp [onev, one]
      refine wp_thn (tableFor_w u1 u2 A B k (h1.app _) (h2.app _)) ?_
      rintro _ H1 ⟨rfl, L, rfl⟩
      have hT : IsI H (if k = 1 then u2 else u1) (if k = 1 then B else A) := by split <;> assumption
      have hok : tableOk w h b (if k = 1 then B else A) := by split; exact g1.2; exact g1.1
      have hwl := walk_len w h b (if k = 1 then B else A) a c
      generalize (if k = 1 then u2 else u1) = uT at *
      generalize (if k = 1 then B else A) = T at *
      have wt := fun F L => walkT_c (frz := F) (H := H ++ L) w h v uT b T a c (hI.app _) (hT.app _) hl hok k2 k3
      simp only [List.append_assoc]
      unfold inR at k6
      have f0 : ∀ [Inhabited Unit], IntKind.i64.wrap l = l := by intro _; exact w64 (by omega) (by omega)
      have f1 : ∀ [Inhabited Unit], IntKind.i64.wrap (l + 1) = l + 1 := by intro _; exact w64 (by omega) (by omega)
      have f2 : ∀ [Inhabited Unit], IntKind.i64.wrap ((walk w h b T a c).length + l) = (walk w h b T a c).length + l := by intro _; exact w64 (by omega) (by omega)
      have f3 : ∀ [Inhabited Unit], IntKind.i64.wrap ((walk w h b T a c).length + l + 1) = (walk w h b T a c).length + l + 1 := by intro _; exact w64 (by omega) (by omega)
      simp [onev, one, hT.one', hT.cells, wt, hz]
      unfold ret
      by_cases h0 : walk w h b T a c = []
      · simp [h0, f0, f1]
      · simp [h0, f2, f3]
    · simp [g1, g2, pk, onev, one, hz]
  · by_cases g2 : packetOk w h (i, a, c, k, l) <;> simp [g1, g2, pk, onev, one, hz]
theorem sL27_c (w h : Int) (v u1 u2 : Value) (b A B : List Int) (i a c k l : Int) (hI : IsI H v b) (h1 : IsI H u1 A) (h2 : IsI H u2 B) (hl : b.length ≤ 1073741824) (g1 : classesOk w h b A B) (k2 : isN w h a) (k3 : isN w h c) (k4 : a ≠ c) (k6 : inR 1 l 5) :
   vcall C frz 110 [.agg #[.int .i64 w, .int .i64 h, v], .agg #[u1, u2], .agg #[.int .i64 i, .int .i64 a, .int .i64 c, .int .i64 k, .int .i64 l]] H = some (.int .i64 (((walk w h b (if k = 1 then B else A) a c).length : Int) + l + 1), H) := by
  refine wp.exact (by simp) ?_ rfl
  rw [vcall_go (fn := Try.f110) Try.func110 rfl (by kernel_rfl) rfl]
  have one := And.intro (And.intro h1.one' h1.cells) (And.intro h2.one' h2.cells)
  have onev := And.intro hI.one' hI.cells
  simp [onev, one]
  have core : ∀ (T : List Int), tableOk w h b T → ∀ [Inhabited Unit], IntKind.i64.wrap ((walk w h b T a c).length + l) = (walk w h b T a c).length + l ∧ IntKind.i64.wrap ((walk w h b T a c).length + l + 1) = (walk w h b T a c).length + l + 1 := fun T hT => by
    intro _
    have hwl := walk_len w h b T a c
    unfold inR at k6
    exact ⟨w64 (by omega) (by omega), w64 (by omega) (by omega)⟩
  refine wp_dec ?_ ?_ <;> intro g
  · simp [g, onev, one]
    have sw := fun F L => sWalk_c (frz := F) (H := H ++ L) w h v u2 b B a c (hI.app _) (h2.app _) hl g1.2.1 k2 k3
    rw [go_draw (h := by kernel_rfl)]
    simp [onev, one, sw, core B g1.2]
  · simp [g, onev, one]
    have sw := fun F L => sWalk_c (frz := F) (H := H ++ L) w h v u1 b A a c (hI.app _) (h1.app _) hl g1.1.1 k2 k3
    rw [go_draw (h := by kernel_rfl)]
    simp [onev, one, sw, core A g1.1]
theorem sZeroLoad_c (w h : Int) (v u1 u2 : Value) (b A B : List Int) (p : PkD) (hI : IsI H v b) (h1 : IsI H u1 A) (h2 : IsI H u2 B) (hl : b.length ≤ 1073741824) :
   vcall C frz 53 [.agg #[.int .i64 w, .int .i64 h, v], .agg #[u1, u2], pkV p] H = some (.int .i64 (zeroLoad w h b A B p), H) := by
  refine wp.exact (by simp) ?_ rfl
  rw [vcall_go (fn := Try.f53) Try.func53 rfl (by kernel_rfl) rfl]
  have one := And.intro (And.intro h1.one' h1.cells) (And.intro h2.one' h2.cells)
  have onev := And.intro hI.one' hI.cells
  have pk := fun F L => sPacketOk_c (frz := F) (H := L) w h p
  have hz : zeroLoad w h b A B p = if classesOk w h b A B ∧ packetOk w h p then ((walk w h b (if p.2.2.2.1 = 1 then B else A) p.2.1 p.2.2.1).length : Int) + p.2.2.2.2 + 1 else -1 := rfl
  obtain ⟨i, a, c, k, l⟩ := p
  simp only [pkV] at pk ⊢
  simp [onev, one, sClassesOk_c _ _ _ _ _ _ _ _ (hI.app _) (h1.app _) (h2.app _) hl]
  by_cases g1 : classesOk w h b A B
  · by_cases g2 : packetOk w h (i, a, c, k, l)
    · simp [g1, g2, pk, onev, one]
      rw [if_pos ⟨g1, g2⟩] at hz
      obtain ⟨k1, k2, k3, k4, k5, k6⟩ := g2
      simp only at k1 k2 k3 k4 k5 k6 hz
      have lz := fun F L => sL27_c (frz := F) (H := H ++ L) w h v u1 u2 b A B i a c k l (hI.app _) (h1.app _) (h2.app _) hl g1 k2 k3 k4 k6
      simp [lz, hz]
    · simp [g1, g2, pk, onev, one, hz]
  · by_cases g2 : packetOk w h (i, a, c, k, l) <;> simp [g1, g2, pk, onev, one, hz]
/-- a request and its reply -/
def replyTime (w h : Int) (b A B : List Int) (p : PkD) (n : Int) : Int :=
  if zeroLoad w h b A B p < 0 ∨ zeroLoad w h b A B (p.1, p.2.2.1, p.2.1, IntKind.i64.wrap (1 - p.2.2.2.1), n) < 0 then -1 else zeroLoad w h b A B p + zeroLoad w h b A B (p.1, p.2.2.1, p.2.1, IntKind.i64.wrap (1 - p.2.2.2.1), n)
theorem zeroLoad_id {w h : Int} {b A B : List Int} {i j a c k l : Int} (h1 : inR 1 i 9999) (h2 : inR 1 j 9999) : zeroLoad w h b A B (i, a, c, k, l) = zeroLoad w h b A B (j, a, c, k, l) := by
  unfold zeroLoad packetOk
  simp only [h1, h2]
theorem replyTime_c (w h : Int) (v u1 u2 : Value) (b A B : List Int) (i a c k l n : Int) (hI : IsI H v b) (h1 : IsI H u1 A) (h2 : IsI H u2 B) (hl : b.length ≤ 1073741824) :
   vcall C frz 17 [.agg #[.int .i64 w, .int .i64 h, v], .agg #[u1, u2], .agg #[.int .i64 i, .int .i64 a, .int .i64 c, .int .i64 k, .int .i64 l], .int .i64 n] H = some (.int .i64 (replyTime w h b A B (i, a, c, k, l) n), H) := by
  refine wp.exact (by simp) ?_ rfl
  rw [vcall_go (fn := Try.f17) Try.func17 rfl (by kernel_rfl) rfl]
  have one := And.intro (And.intro h1.one' h1.cells) (And.intro h2.one' h2.cells)
  have onev := And.intro hI.one' hI.cells
  have z1 := fun F L => zeroLoad_c (frz := F) (H := H ++ L) w h v u1 u2 b A B (i, a, c, k, l) (hI.app _) (h1.app _) (h2.app _) hl
  have z2 := fun F L => zeroLoad_c (frz := F) (H := H ++ L) w h v u1 u2 b A B (i, c, a, IntKind.i64.wrap (1 - k), n) (hI.app _) (h1.app _) (h2.app _) hl
  simp only [pkV] at z1 z2
  have r1 := zeroLoad_range w h b A B (i, a, c, k, l)
  have r2 := zeroLoad_range w h b A B (i, c, a, IntKind.i64.wrap (1 - k), n)
  unfold replyTime
  simp only
  generalize hq : IntKind.i64.wrap (1 - k) = kk at *
  generalize zeroLoad w h b A B (i, a, c, k, l) = Z1 at *
  generalize zeroLoad w h b A B (i, c, a, kk, n) = Z2 at *
  have e1 : ∀ [Inhabited Unit], IntKind.i64.wrap (Z1 + Z2) = Z1 + Z2 := by intro _; exact w64 (by omega) (by omega)
  simp [onev, one, hq]
  rw [go_draw (h := by kernel_rfl)]
  simp [onev, one, z1, z2]
  by_cases g1 : Z1 < 0
  · simp [g1]
  · by_cases g2 : Z2 < 0 <;> simp [g1, g2, e1]
theorem replyTime_d {v : Value} {u : Value × Value} {w h : Int} {b A B : List Int} {i a c k l n : Int} (o1 : dMesh.Ow H v (w, h, b)) (o2 : dClasses.Ow H u (A, B)) :
   vcall C frz 17 [dMesh.val v (w, h, b), dClasses.val u (A, B), .agg #[.int .i64 i, .int .i64 a, .int .i64 c, .int .i64 k, .int .i64 l], .int .i64 n] H = some (.int .i64 (replyTime w h b A B (i, a, c, k, l) n), H) :=
  replyTime_c w h v u.1 u.2 b A B i a c k l n o1.1.rd.isI o2.1.1.rd.isI o2.2.1.rd.isI o1.2
theorem sReplyTime_c (w h : Int) (v u1 u2 : Value) (b A B : List Int) (i a c k l n : Int) (hI : IsI H v b) (h1 : IsI H u1 A) (h2 : IsI H u2 B) (hl : b.length ≤ 1073741824) :
   vcall C frz 13 [.agg #[.int .i64 w, .int .i64 h, v], .agg #[u1, u2], .agg #[.int .i64 i, .int .i64 a, .int .i64 c, .int .i64 k, .int .i64 l], .int .i64 n] H = some (.int .i64 (replyTime w h b A B (i, a, c, k, l) n), H) := by
  refine wp.exact (by simp) ?_ rfl
  rw [vcall_go (fn := Try.f13) Try.func13 rfl (by kernel_rfl) rfl]
  have one := And.intro (And.intro h1.one' h1.cells) (And.intro h2.one' h2.cells)
  have onev := And.intro hI.one' hI.cells
  have z1 := fun F L => sZeroLoad_c (frz := F) (H := H ++ L) w h v u1 u2 b A B (i, a, c, k, l) (hI.app _) (h1.app _) (h2.app _) hl
  have z2 := fun F L => sZeroLoad_c (frz := F) (H := H ++ L) w h v u1 u2 b A B (1, c, a, IntKind.i64.wrap (1 - k), n) (hI.app _) (h1.app _) (h2.app _) hl
  simp only [pkV] at z1 z2
  have r1 := zeroLoad_range w h b A B (i, a, c, k, l)
  have r2 := zeroLoad_range w h b A B (1, c, a, IntKind.i64.wrap (1 - k), n)
  have same : ¬ zeroLoad w h b A B (i, a, c, k, l) < 0 → zeroLoad w h b A B (i, c, a, IntKind.i64.wrap (1 - k), n) = zeroLoad w h b A B (1, c, a, IntKind.i64.wrap (1 - k), n) := fun hz => by
    refine zeroLoad_id ?_ (by decide)
    unfold zeroLoad at hz
    split at hz
    · rename_i g; exact g.2.1
    · omega
  unfold replyTime
  simp only
  generalize hq : IntKind.i64.wrap (1 - k) = kk at *
  generalize zeroLoad w h b A B (i, a, c, k, l) = Z1 at *
  generalize zeroLoad w h b A B (1, c, a, kk, n) = Z2 at *
  generalize zeroLoad w h b A B (i, c, a, kk, n) = Z3 at *
  have e1 : ∀ [Inhabited Unit], IntKind.i64.wrap (Z1 + Z2) = Z1 + Z2 := by intro _; exact w64 (by omega) (by omega)
  simp [onev, one, z1, hq, z2]
  by_cases g1 : Z1 < 0
  · simp [g1]
  · rw [same g1]
    by_cases g2 : Z2 < 0 <;> simp [g1, g2, e1]
theorem sReplyTime_d {v : Value} {u : Value × Value} {w h : Int} {b A B : List Int} {i a c k l n : Int} (o1 : dMesh.Ow H v (w, h, b)) (o2 : dClasses.Ow H u (A, B)) :
   vcall C frz 13 [dMesh.val v (w, h, b), dClasses.val u (A, B), .agg #[.int .i64 i, .int .i64 a, .int .i64 c, .int .i64 k, .int .i64 l], .int .i64 n] H = some (.int .i64 (replyTime w h b A B (i, a, c, k, l) n), H) :=
  sReplyTime_c w h v u.1 u.2 b A B i a c k l n o1.1.rd.isI o2.1.1.rd.isI o2.2.1.rd.isI o1.2
theorem toPacket_c (i a c k l : Int) : vcall C frz 16 [.agg #[.int .i64 i, .int .i64 a, .int .i64 c, .int .i64 k, .int .i64 l]] H = some (.agg #[.int .i64 i, .int .i64 a, .int .i64 c, .int .i64 k, .int .i64 l], H) := by
  rw [vcall_go (fn := Try.f16) Try.func16 rfl (by kernel_rfl) rfl]
  simp
end Go.Proofs.Ytcigpclbhfkgaaa.V
/-! The law FnExactReplyTime. -/
set_option linter.all false
namespace Go.Proofs.Ytcigpclbhfkgaaa.V
open Go Go.VM Go.Proofs
set_option maxRecDepth 10000
variable {frz : Nat} {H : Heap}
theorem law_FnExactReplyTime_w {a0_0 : Int} {a0_1 : Int} {a0_2 : List (Int)} {u0_2 : Value} {a1_0 : List (Int)} {u1_0 : Value} {a1_1 : List (Int)} {u1_1 : Value} {a2_0 : Int} {a2_1 : Int} {a2_2 : Int} {a2_3 : Int} {a2_4 : Int} {a3 : Int} (s0_2 : IsS (Kn.int .i64) H u0_2 a0_2) (s1_0 : IsS (Kn.int .i64) H u1_0 a1_0) (s1_1 : IsS (Kn.int .i64) H u1_1 a1_1)
    (w0 : (((Lit.int .i64 a0_0).wf = true) ∧ ((Lit.int .i64 a0_1).wf = true)) ∧ (a0_2.length ≤ maxLen ∧ ∀ x1 ∈ a0_2, (Lit.int .i64 x1).wf = true)) (w1 : ((a1_0.length ≤ maxLen ∧ ∀ x2 ∈ a1_0, (Lit.int .i64 x2).wf = true)) ∧ ((a1_1.length ≤ maxLen ∧ ∀ x3 ∈ a1_1, (Lit.int .i64 x3).wf = true))) (w2 : ((Lit.int .i64 a2_0).wf = true) ∧ ((Lit.int .i64 a2_1).wf = true) ∧ ((Lit.int .i64 a2_2).wf = true) ∧ ((Lit.int .i64 a2_3).wf = true) ∧ ((Lit.int .i64 a2_4).wf = true)) (w3 : (Lit.int .i64 a3).wf = true) :
    wp (vcall C frz 3 [.agg #[.int .i64 a0_0, .int .i64 a0_1, u0_2], .agg #[u1_0, u1_1], .agg #[.int .i64 a2_0, .int .i64 a2_1, .int .i64 a2_2, .int .i64 a2_3, .int .i64 a2_4], .int .i64 a3] H) (fun r _ => r = .bool true) := by
  have r0_2 := s0_2.ints.rd
  have r1_0 := s1_0.ints.rd
  have r1_1 := s1_1.ints.rd
  have rl0_2 := fun (L : Heap) => (Rd.app (L := L) r0_2).len (P := Try.prog) (ty := 24) (by simp)
  have rm0_2 := r0_2.len (P := Try.prog) (ty := 24) (by simp)
  have rl1_0 := fun (L : Heap) => (Rd.app (L := L) r1_0).len (P := Try.prog) (ty := 24) (by simp)
  have rm1_0 := r1_0.len (P := Try.prog) (ty := 24) (by simp)
  have rl1_1 := fun (L : Heap) => (Rd.app (L := L) r1_1).len (P := Try.prog) (ty := 24) (by simp)
  have rm1_1 := r1_1.len (P := Try.prog) (ty := 24) (by simp)
  rw [vcall_go (fn := Try.f3) Try.func3 rfl (by kernel_rfl) rfl]
  have ro0_2 := And.intro r0_2.one' r0_2.cells
  have ro1_0 := And.intro r1_0.one' r1_0.cells
  have ro1_1 := And.intro r1_1.one' r1_1.cells
  simp [VM.look, ro0_2, rl0_2, rm0_2, ro1_0, rl1_0, rm1_0, ro1_1, rl1_1, rm1_1]
  have sz0 := fun F (L : Heap) => szMesh_c (frz := F) (H := H ++ L) a0_0 a0_1 u0_2 a0_2 1048576 (Rd.isI (Rd.chg r0_2 ((Chg.refl (H := H) []).trans (Chg.app [])) (by simp))) (by omega) (by omega) w0.2.1
  simp [VM.look, ro0_2, rl0_2, rm0_2, ro1_0, rl1_0, rm1_0, ro1_1, rl1_1, rm1_1, sz0]
  refine wp_dec ?_ ?_ <;> intro g1 <;> simp [g1]
  have t0 : (a0_2.length : Int) ≤ 1048576 := by split at g1 <;> omega
  have f0 : ¬ (1048576 : Int) < (a0_2.length : Int) := by omega
  simp only [if_neg f0]
  try simp [VM.look, ro0_2, rl0_2, rm0_2, ro1_0, rl1_0, rm1_0, ro1_1, rl1_1, rm1_1, f0]
  have sz1 := fun F (L : Heap) => szClasses_c (frz := F) (H := H ++ L) u1_0 u1_1 a1_0 a1_1 (1048576 - (a0_2.length : Int)) (Rd.isI (Rd.chg r1_0 ((Chg.refl (H := H) []).trans (Chg.app [])) (by simp))) (Rd.isI (Rd.chg r1_1 ((Chg.refl (H := H) []).trans (Chg.app [])) (by simp))) (by omega) (by omega) (by have := w1.1.1; simpa [maxLen] using this) (by have := w1.2.1; simpa [maxLen] using this)
  simp [VM.look, ro0_2, rl0_2, rm0_2, ro1_0, rl1_0, rm1_0, ro1_1, rl1_1, rm1_1, sz1, f0]
  refine wp_dec ?_ ?_ <;> intro g2 <;> simp [g2]
  have t1 : ((a1_0.length : Int) + (a1_1.length : Int)) ≤ (1048576 - (a0_2.length : Int)) := by split at g2 <;> omega
  have f1 : ¬ ((1048576 - (a0_2.length : Int)) : Int) < ((a1_0.length : Int) + (a1_1.length : Int)) := by omega
  simp only [if_neg f1]
  try simp [VM.look, ro0_2, rl0_2, rm0_2, ro1_0, rl1_0, rm1_0, ro1_1, rl1_1, rm1_1, f0, f1]
  rw [go_draw (h := by kernel_rfl)]
  simp [VM.look, ro0_2, rl0_2, rm0_2, ro1_0, rl1_0, rm1_0, ro1_1, rl1_1, rm1_1, f0, f1]
  refine wp_thn (toMesh_w a0_0 a0_1 u0_2 a0_2 (Rd.isI (Rd.chg r0_2 ((Chg.refl (H := H) []).trans (Chg.app [])) (by simp))) (by omega)) ?_
  rintro _ H1 ⟨v_x0, rfl, o_x0, c1, n_x0, d_x0⟩
  have l1 := c1.1
  try simp at l1
  have b1_4 := box_chg ((app_get0 _ _).trans rfl) c1 (by simp)
  have b1_5 := box_chg ((app_get _ _ 1).trans rfl) c1 (by simp)
  have b1_6 := box_chg ((app_get _ _ 2).trans rfl) c1 (by simp)
  have cH1 : Chg H H1 [] := ((Chg.refl (H := H) []).trans (Chg.app [])).trans c1
  have h_x0 := dMesh.lt o_x0
  try simp at n_x0
  have one_x0 := dMesh_one o_x0
  simp [VM.look, b1_4, b1_5, b1_6, get_app' b1_4, get_app' b1_5, get_app' b1_6, cH1.1, Nat.le_add_right_of_le cH1.1, one_x0, ro0_2, ro1_0, ro1_1, dMesh_val, f0, f1]
  refine wp_thn (toClasses_w u1_0 u1_1 a1_0 a1_1 (Rd.isI (Rd.chg r1_0 cH1 (by simp))) (Rd.isI (Rd.chg r1_1 cH1 (by simp))) (by omega) (by omega)) ?_
  rintro _ H2 ⟨v_x1, rfl, o_x1, c2, n_x1, d_x1⟩
  have l2 := c2.1
  try simp at l2
  have b2_4 := box_chg b1_4 c2 (by simp)
  have b2_5 := box_chg b1_5 c2 (by simp)
  have b2_6 := box_chg b1_6 c2 (by simp)
  have o2_x0 := Dt.chg0 o_x0 c2
  have cH2 : Chg H H2 [] := (cH1).trans c2
  have h_x1 := dClasses.lt o_x1
  try simp at n_x1
  have one_x1 := dClasses_one o_x1
  simp [VM.look, b2_4, b2_5, b2_6, get_app' b2_4, get_app' b2_5, get_app' b2_6, cH2.1, Nat.le_add_right_of_le cH2.1, one_x0, one_x1, ro0_2, ro1_0, ro1_1, dMesh_val, dClasses_val, f0, f1]
  simp [VM.look, b2_4, b2_5, b2_6, get_app' b2_4, get_app' b2_5, get_app' b2_6, cH2.1, Nat.le_add_right_of_le cH2.1, one_x0, one_x1, ro0_2, ro1_0, ro1_1, dMesh_val, dClasses_val, toPacket_c, f0, f1]
  have ex3 := fun F => sReplyTime_d (frz := F) (i := a2_0) (a := a2_1) (c := a2_2) (k := a2_3) (l := a2_4) (n := a3) o2_x0 o_x1
  try simp only [dMesh_val] at ex3
  try simp only [dClasses_val] at ex3
  simp [VM.look, b2_4, b2_5, b2_6, get_app' b2_4, get_app' b2_5, get_app' b2_6, cH2.1, Nat.le_add_right_of_le cH2.1, one_x0, one_x1, ro0_2, ro1_0, ro1_1, dMesh_val, dClasses_val, ex3, f0, f1]
  refine wp_thn (toMesh_w a0_0 a0_1 u0_2 a0_2 (Rd.isI (Rd.chg r0_2 cH2 (by simp))) (by omega)) ?_
  rintro _ H4 ⟨v_x2, rfl, o_x2, c4, n_x2, d_x2⟩
  have l4 := c4.1
  try simp at l4
  have b4_4 := box_chg b2_4 c4 (by simp)
  have b4_5 := box_chg b2_5 c4 (by simp)
  have b4_6 := box_chg b2_6 c4 (by simp)
  have o4_x0 := Dt.chg0 o2_x0 c4
  have o4_x1 := Dt.chg0 o_x1 c4
  have cH4 : Chg H H4 [] := (cH2).trans c4
  have h_x2 := dMesh.lt o_x2
  try simp at n_x2
  have one_x2 := dMesh_one o_x2
  simp [VM.look, b4_4, b4_5, b4_6, get_app' b4_4, get_app' b4_5, get_app' b4_6, cH4.1, Nat.le_add_right_of_le cH4.1, one_x0, one_x1, one_x2, ro0_2, ro1_0, ro1_1, dMesh_val, dClasses_val, f0, f1]
  refine wp_thn (toClasses_w u1_0 u1_1 a1_0 a1_1 (Rd.isI (Rd.chg r1_0 (cH4.trans (Chg.app [])) (by simp))) (Rd.isI (Rd.chg r1_1 (cH4.trans (Chg.app [])) (by simp))) (by omega) (by omega)) ?_
  rintro _ H5 ⟨v_x3, rfl, o_x3, c5, n_x3, d_x3⟩
  have l5 := c5.1
  try simp at l5
  have b5_11 := box_chg ((app_get0 _ _).trans rfl) c5 (by simp)
  have b5_4 := box_chg (get_app' b4_4 _) c5 (by simp)
  have b5_5 := box_chg (get_app' b4_5 _) c5 (by simp)
  have b5_6 := box_chg (get_app' b4_6 _) c5 (by simp)
  have o5_x0 := Dt.chg0 (Dt.app o4_x0) c5
  have o5_x1 := Dt.chg0 (Dt.app o4_x1) c5
  have o5_x2 := Dt.chg0 (Dt.app o_x2) c5
  have cH5 : Chg H H5 [] := (cH4.trans (Chg.app [])).trans c5
  have h_x3 := dClasses.lt o_x3
  try simp at n_x3
  have one_x3 := dClasses_one o_x3
  simp [VM.look, b5_4, b5_5, b5_6, b5_11, get_app' b5_4, get_app' b5_5, get_app' b5_6, get_app' b5_11, cH5.1, Nat.le_add_right_of_le cH5.1, one_x0, one_x1, one_x2, one_x3, ro0_2, ro1_0, ro1_1, dMesh_val, dClasses_val, f0, f1]
  rw [go_draw (h := by kernel_rfl)]
  simp [VM.look, b5_4, b5_5, b5_6, b5_11, get_app' b5_4, get_app' b5_5, get_app' b5_6, get_app' b5_11, cH5.1, Nat.le_add_right_of_le cH5.1, one_x0, one_x1, one_x2, one_x3, ro0_2, ro1_0, ro1_1, dMesh_val, dClasses_val, f0, f1]
  simp [VM.look, b5_4, b5_5, b5_6, b5_11, get_app' b5_4, get_app' b5_5, get_app' b5_6, get_app' b5_11, cH5.1, Nat.le_add_right_of_le cH5.1, one_x0, one_x1, one_x2, one_x3, ro0_2, ro1_0, ro1_1, dMesh_val, dClasses_val, toPacket_c, f0, f1]
  have ex6 := fun F (L : Heap) => replyTime_d (frz := F) (H := H5 ++ L) (i := a2_0) (a := a2_1) (c := a2_2) (k := a2_3) (l := a2_4) (n := a3) (Dt.app o5_x2) (Dt.app o_x3)
  try simp only [dMesh_val] at ex6
  try simp only [dClasses_val] at ex6
  simp [VM.look, b5_4, b5_5, b5_6, b5_11, get_app' b5_4, get_app' b5_5, get_app' b5_6, get_app' b5_11, cH5.1, Nat.le_add_right_of_le cH5.1, one_x0, one_x1, one_x2, one_x3, ro0_2, ro1_0, ro1_1, dMesh_val, dClasses_val, ex6, f0, f1]
  rw [go_draw (h := by kernel_rfl)]
  simp [VM.look, b5_4, b5_5, b5_6, b5_11, get_app' b5_4, get_app' b5_5, get_app' b5_6, get_app' b5_11, cH5.1, Nat.le_add_right_of_le cH5.1, one_x0, one_x1, one_x2, one_x3, ro0_2, ro1_0, ro1_1, dMesh_val, dClasses_val, f0, f1]
  refine wp_thn (toMesh_w a0_0 a0_1 u0_2 a0_2 (Rd.isI (Rd.chg r0_2 (cH5.trans (Chg.app [])) (by simp))) (by omega)) ?_
  rintro _ H7 ⟨v_x4, rfl, o_x4, c7, n_x4, d_x4⟩
  have l7 := c7.1
  try simp at l7
  have b7_12 := box_chg ((app_get0 _ _).trans rfl) c7 (by simp)
  have b7_4 := box_chg (get_app' b5_4 _) c7 (by simp)
  have b7_5 := box_chg (get_app' b5_5 _) c7 (by simp)
  have b7_6 := box_chg (get_app' b5_6 _) c7 (by simp)
  have b7_11 := box_chg (get_app' b5_11 _) c7 (by simp)
  have o7_x0 := Dt.chg0 (Dt.app o5_x0) c7
  have o7_x1 := Dt.chg0 (Dt.app o5_x1) c7
  have o7_x2 := Dt.chg0 (Dt.app o5_x2) c7
  have o7_x3 := Dt.chg0 (Dt.app o_x3) c7
  have cH7 : Chg H H7 [] := (cH5.trans (Chg.app [])).trans c7
  have h_x4 := dMesh.lt o_x4
  try simp at n_x4
  have one_x4 := dMesh_one o_x4
  simp [VM.look, b7_4, b7_5, b7_6, b7_11, b7_12, get_app' b7_4, get_app' b7_5, get_app' b7_6, get_app' b7_11, get_app' b7_12, cH7.1, Nat.le_add_right_of_le cH7.1, one_x0, one_x1, one_x2, one_x3, one_x4, ro0_2, ro1_0, ro1_1, dMesh_val, dClasses_val, f0, f1]
  have eq8 := fun F => eqMesh_d (frz := F) o7_x2 o_x4
  try simp only [dMesh_val] at eq8
  simp [eq8, VM.look, b7_4, b7_5, b7_6, b7_11, b7_12, get_app' b7_4, get_app' b7_5, get_app' b7_6, get_app' b7_11, get_app' b7_12, cH7.1, Nat.le_add_right_of_le cH7.1, one_x0, one_x1, one_x2, one_x3, one_x4, ro0_2, ro1_0, ro1_1, dMesh_val, dClasses_val, f0, f1]
  rw [go_draw (h := by kernel_rfl)]
  simp [VM.look, b7_4, b7_5, b7_6, b7_11, b7_12, get_app' b7_4, get_app' b7_5, get_app' b7_6, get_app' b7_11, get_app' b7_12, cH7.1, Nat.le_add_right_of_le cH7.1, one_x0, one_x1, one_x2, one_x3, one_x4, ro0_2, ro1_0, ro1_1, dMesh_val, dClasses_val, f0, f1]
  refine wp_thn (toClasses_w u1_0 u1_1 a1_0 a1_1 (Rd.isI (Rd.chg r1_0 cH7 (by simp))) (Rd.isI (Rd.chg r1_1 cH7 (by simp))) (by omega) (by omega)) ?_
  rintro _ H9 ⟨v_x5, rfl, o_x5, c9, n_x5, d_x5⟩
  have l9 := c9.1
  try simp at l9
  have b9_4 := box_chg b7_4 c9 (by simp)
  have b9_5 := box_chg b7_5 c9 (by simp)
  have b9_6 := box_chg b7_6 c9 (by simp)
  have b9_11 := box_chg b7_11 c9 (by simp)
  have b9_12 := box_chg b7_12 c9 (by simp)
  have o9_x0 := Dt.chg0 o7_x0 c9
  have o9_x1 := Dt.chg0 o7_x1 c9
  have o9_x2 := Dt.chg0 o7_x2 c9
  have o9_x3 := Dt.chg0 o7_x3 c9
  have o9_x4 := Dt.chg0 o_x4 c9
  have cH9 : Chg H H9 [] := (cH7).trans c9
  have h_x5 := dClasses.lt o_x5
  try simp at n_x5
  have one_x5 := dClasses_one o_x5
  simp [VM.look, b9_4, b9_5, b9_6, b9_11, b9_12, get_app' b9_4, get_app' b9_5, get_app' b9_6, get_app' b9_11, get_app' b9_12, cH9.1, Nat.le_add_right_of_le cH9.1, one_x0, one_x1, one_x2, one_x3, one_x4, one_x5, ro0_2, ro1_0, ro1_1, dMesh_val, dClasses_val, f0, f1]
  have eq10 := fun F => eqClasses_d (frz := F) o9_x3 o_x5
  try simp only [dClasses_val] at eq10
  simp [eq10, VM.look, b9_4, b9_5, b9_6, b9_11, b9_12, get_app' b9_4, get_app' b9_5, get_app' b9_6, get_app' b9_11, get_app' b9_12, cH9.1, Nat.le_add_right_of_le cH9.1, one_x0, one_x1, one_x2, one_x3, one_x4, one_x5, ro0_2, ro1_0, ro1_1, dMesh_val, dClasses_val, f0, f1]
theorem law_FnExactReplyTime {a0_0 : Int} {a0_1 : Int} {a0_2 : List (Int)} {u0_2 : Value} {a1_0 : List (Int)} {u1_0 : Value} {a1_1 : List (Int)} {u1_1 : Value} {a2_0 : Int} {a2_1 : Int} {a2_2 : Int} {a2_3 : Int} {a2_4 : Int} {a3 : Int} (s0_2 : IsS (Kn.int .i64) H u0_2 a0_2) (s1_0 : IsS (Kn.int .i64) H u1_0 a1_0) (s1_1 : IsS (Kn.int .i64) H u1_1 a1_1)
    (w0 : (((Lit.int .i64 a0_0).wf = true) ∧ ((Lit.int .i64 a0_1).wf = true)) ∧ (a0_2.length ≤ maxLen ∧ ∀ x1 ∈ a0_2, (Lit.int .i64 x1).wf = true)) (w1 : ((a1_0.length ≤ maxLen ∧ ∀ x2 ∈ a1_0, (Lit.int .i64 x2).wf = true)) ∧ ((a1_1.length ≤ maxLen ∧ ∀ x3 ∈ a1_1, (Lit.int .i64 x3).wf = true))) (w2 : ((Lit.int .i64 a2_0).wf = true) ∧ ((Lit.int .i64 a2_1).wf = true) ∧ ((Lit.int .i64 a2_2).wf = true) ∧ ((Lit.int .i64 a2_3).wf = true) ∧ ((Lit.int .i64 a2_4).wf = true)) (w3 : (Lit.int .i64 a3).wf = true) :
    vcall C frz 3 [.agg #[.int .i64 a0_0, .int .i64 a0_1, u0_2], .agg #[u1_0, u1_1], .agg #[.int .i64 a2_0, .int .i64 a2_1, .int .i64 a2_2, .int .i64 a2_3, .int .i64 a2_4], .int .i64 a3] H = some (.bool true, H) :=
  (law_FnExactReplyTime_w s0_2 s1_0 s1_1 w0 w1 w2 w3).exact (by simp) rfl
end Go.Proofs.Ytcigpclbhfkgaaa.V
