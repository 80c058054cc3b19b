/- Texts of a proof, joined. -/
import Derived.Test.YtlbbalmeaedbdaaGreatProg
import Derived.KernelRfl
import Derived.Test.YtlbbalmeaedbdaaGreatKM0
import Derived.Test.YtlbbalmeaedbdaaGreatKM1
import Derived.Test.YtlbbalmeaedbdaaGreatKM2
/- What the value machine is told of the program: which functions may change rows, and the types' sizes and places. -/
namespace Go.Proofs.YtlbbalmeaedbdaaGreat.V
open Go Go.VM Go.Proofs
noncomputable def C : Ctx := { P := Tryz.prog, mode := fun g => if [19, 21, 29, 39, 42, 45, 46, 54, 65, 66, 67, 71, 87, 88, 90, 92, 105, 109, 110, 111, 112, 113, 114, 115, 116, 119, 121, 122, 123, 124].contains g then 2 else if [6, 7, 8, 13, 14, 18, 20, 23, 25, 26, 34, 35, 36, 37, 41, 43, 57, 63, 64, 69, 70, 72, 86, 91, 103, 104, 107].contains g then 1 else 0, ext := fun _ => none }
@[simp] theorem CP : C.P = Tryz.prog := rfl
theorem drawn : DrawOk C := drawOk_holds C (by kernel_rfl)
@[simp] theorem mode0 : C.mode 0 = 0 := rfl
@[simp] theorem mode1 : C.mode 1 = 0 := rfl
@[simp] theorem mode2 : C.mode 2 = 0 := rfl
@[simp] theorem mode3 : C.mode 3 = 0 := rfl
@[simp] theorem mode4 : C.mode 4 = 0 := rfl
@[simp] theorem mode5 : C.mode 5 = 0 := rfl
@[simp] theorem mode6 : C.mode 6 = 1 := rfl
@[simp] theorem mode7 : C.mode 7 = 1 := rfl
@[simp] theorem mode8 : C.mode 8 = 1 := rfl
@[simp] theorem mode9 : C.mode 9 = 0 := rfl
@[simp] theorem mode10 : C.mode 10 = 0 := rfl
@[simp] theorem mode11 : C.mode 11 = 0 := rfl
@[simp] theorem mode12 : C.mode 12 = 0 := rfl
@[simp] theorem mode13 : C.mode 13 = 1 := rfl
@[simp] theorem mode14 : C.mode 14 = 1 := rfl
@[simp] theorem mode15 : C.mode 15 = 0 := rfl
@[simp] theorem mode16 : C.mode 16 = 0 := rfl
@[simp] theorem mode17 : C.mode 17 = 0 := rfl
@[simp] theorem mode18 : C.mode 18 = 1 := rfl
@[simp] theorem mode19 : C.mode 19 = 2 := rfl
@[simp] theorem mode20 : C.mode 20 = 1 := rfl
@[simp] theorem mode21 : C.mode 21 = 2 := rfl
@[simp] theorem mode22 : C.mode 22 = 0 := rfl
@[simp] theorem mode23 : C.mode 23 = 1 := rfl
@[simp] theorem mode24 : C.mode 24 = 0 := rfl
@[simp] theorem mode25 : C.mode 25 = 1 := rfl
@[simp] theorem mode26 : C.mode 26 = 1 := rfl
@[simp] theorem mode27 : C.mode 27 = 0 := rfl
@[simp] theorem mode28 : C.mode 28 = 0 := rfl
@[simp] theorem mode29 : C.mode 29 = 2 := rfl
@[simp] theorem mode30 : C.mode 30 = 0 := rfl
@[simp] theorem mode31 : C.mode 31 = 0 := rfl
@[simp] theorem mode32 : C.mode 32 = 0 := rfl
@[simp] theorem mode33 : C.mode 33 = 0 := rfl
@[simp] theorem mode34 : C.mode 34 = 1 := rfl
@[simp] theorem mode35 : C.mode 35 = 1 := rfl
@[simp] theorem mode36 : C.mode 36 = 1 := rfl
@[simp] theorem mode37 : C.mode 37 = 1 := rfl
@[simp] theorem mode38 : C.mode 38 = 0 := rfl
@[simp] theorem mode39 : C.mode 39 = 2 := rfl
@[simp] theorem mode40 : C.mode 40 = 0 := rfl
@[simp] theorem mode41 : C.mode 41 = 1 := rfl
@[simp] theorem mode42 : C.mode 42 = 2 := rfl
@[simp] theorem mode43 : C.mode 43 = 1 := rfl
@[simp] theorem mode44 : C.mode 44 = 0 := rfl
@[simp] theorem mode45 : C.mode 45 = 2 := rfl
@[simp] theorem mode46 : C.mode 46 = 2 := rfl
@[simp] theorem mode47 : C.mode 47 = 0 := rfl
@[simp] theorem mode48 : C.mode 48 = 0 := rfl
@[simp] theorem mode49 : C.mode 49 = 0 := rfl
@[simp] theorem mode50 : C.mode 50 = 0 := rfl
@[simp] theorem mode51 : C.mode 51 = 0 := rfl
@[simp] theorem mode52 : C.mode 52 = 0 := rfl
@[simp] theorem mode53 : C.mode 53 = 0 := rfl
@[simp] theorem mode54 : C.mode 54 = 2 := rfl
@[simp] theorem mode55 : C.mode 55 = 0 := rfl
@[simp] theorem mode56 : C.mode 56 = 0 := rfl
@[simp] theorem mode57 : C.mode 57 = 1 := rfl
@[simp] theorem mode58 : C.mode 58 = 0 := rfl
@[simp] theorem mode59 : C.mode 59 = 0 := rfl
@[simp] theorem mode60 : C.mode 60 = 0 := rfl
@[simp] theorem mode61 : C.mode 61 = 0 := rfl
@[simp] theorem mode62 : C.mode 62 = 0 := rfl
@[simp] theorem mode63 : C.mode 63 = 1 := rfl
@[simp] theorem mode64 : C.mode 64 = 1 := rfl
@[simp] theorem mode65 : C.mode 65 = 2 := rfl
@[simp] theorem mode66 : C.mode 66 = 2 := rfl
@[simp] theorem mode67 : C.mode 67 = 2 := rfl
@[simp] theorem mode68 : C.mode 68 = 0 := rfl
@[simp] theorem mode69 : C.mode 69 = 1 := rfl
@[simp] theorem mode70 : C.mode 70 = 1 := rfl
@[simp] theorem mode71 : C.mode 71 = 2 := rfl
@[simp] theorem mode72 : C.mode 72 = 1 := rfl
@[simp] theorem mode73 : C.mode 73 = 0 := rfl
@[simp] theorem mode74 : C.mode 74 = 0 := rfl
@[simp] theorem mode75 : C.mode 75 = 0 := rfl
@[simp] theorem mode76 : C.mode 76 = 0 := rfl
@[simp] theorem mode77 : C.mode 77 = 0 := rfl
@[simp] theorem mode78 : C.mode 78 = 0 := rfl
@[simp] theorem mode79 : C.mode 79 = 0 := rfl
@[simp] theorem mode80 : C.mode 80 = 0 := rfl
@[simp] theorem mode81 : C.mode 81 = 0 := rfl
@[simp] theorem mode82 : C.mode 82 = 0 := rfl
@[simp] theorem mode83 : C.mode 83 = 0 := rfl
@[simp] theorem mode84 : C.mode 84 = 0 := rfl
@[simp] theorem mode85 : C.mode 85 = 0 := rfl
@[simp] theorem mode86 : C.mode 86 = 1 := rfl
@[simp] theorem mode87 : C.mode 87 = 2 := rfl
@[simp] theorem mode88 : C.mode 88 = 2 := rfl
@[simp] theorem mode89 : C.mode 89 = 0 := rfl
@[simp] theorem mode90 : C.mode 90 = 2 := rfl
@[simp] theorem mode91 : C.mode 91 = 1 := rfl
@[simp] theorem mode92 : C.mode 92 = 2 := rfl
@[simp] theorem mode93 : C.mode 93 = 0 := rfl
@[simp] theorem mode94 : C.mode 94 = 0 := rfl
@[simp] theorem mode95 : C.mode 95 = 0 := rfl
@[simp] theorem mode96 : C.mode 96 = 0 := rfl
@[simp] theorem mode97 : C.mode 97 = 0 := rfl
@[simp] theorem mode98 : C.mode 98 = 0 := rfl
@[simp] theorem mode99 : C.mode 99 = 0 := rfl
@[simp] theorem mode100 : C.mode 100 = 0 := rfl
@[simp] theorem mode101 : C.mode 101 = 0 := rfl
@[simp] theorem mode102 : C.mode 102 = 0 := rfl
@[simp] theorem mode103 : C.mode 103 = 1 := rfl
@[simp] theorem mode104 : C.mode 104 = 1 := rfl
@[simp] theorem mode105 : C.mode 105 = 2 := rfl
@[simp] theorem mode106 : C.mode 106 = 0 := rfl
@[simp] theorem mode107 : C.mode 107 = 1 := rfl
@[simp] theorem mode108 : C.mode 108 = 0 := rfl
@[simp] theorem mode109 : C.mode 109 = 2 := rfl
@[simp] theorem mode110 : C.mode 110 = 2 := rfl
@[simp] theorem mode111 : C.mode 111 = 2 := rfl
@[simp] theorem mode112 : C.mode 112 = 2 := rfl
@[simp] theorem mode113 : C.mode 113 = 2 := rfl
@[simp] theorem mode114 : C.mode 114 = 2 := rfl
@[simp] theorem mode115 : C.mode 115 = 2 := rfl
@[simp] theorem mode116 : C.mode 116 = 2 := rfl
@[simp] theorem mode117 : C.mode 117 = 0 := rfl
@[simp] theorem mode118 : C.mode 118 = 0 := rfl
@[simp] theorem mode119 : C.mode 119 = 2 := rfl
@[simp] theorem mode120 : C.mode 120 = 0 := rfl
@[simp] theorem mode121 : C.mode 121 = 2 := rfl
@[simp] theorem mode122 : C.mode 122 = 2 := rfl
@[simp] theorem mode123 : C.mode 123 = 2 := rfl
@[simp] theorem mode124 : C.mode 124 = 2 := rfl
@[simp] theorem mode125 : C.mode 125 = 0 := rfl
@[simp] theorem mode126 : C.mode 126 = 0 := rfl
@[simp] theorem mode127 : C.mode 127 = 0 := rfl
@[simp] theorem mode128 : C.mode 128 = 0 := rfl
@[simp] theorem mode129 : C.mode 129 = 0 := rfl
@[simp] theorem mode130 : C.mode 130 = 0 := rfl
@[simp] theorem mode131 : C.mode 131 = 0 := rfl
@[simp] theorem mode132 : C.mode 132 = 0 := rfl
@[simp] theorem mode133 : C.mode 133 = 0 := rfl
@[simp] theorem mode134 : C.mode 134 = 0 := rfl
@[simp] theorem mode135 : C.mode 135 = 0 := rfl
@[simp] theorem mode136 : C.mode 136 = 0 := rfl
@[simp] theorem mode137 : C.mode 137 = 0 := rfl
@[simp] theorem mode138 : C.mode 138 = 0 := rfl
@[simp] theorem mode139 : C.mode 139 = 0 := rfl
@[simp] theorem mode140 : C.mode 140 = 0 := rfl
@[simp] theorem tsz1 : tsz Tryz.prog 1 = some (false, 1) := by kernel_rfl
@[simp] theorem tsz2 : tsz Tryz.prog 2 = some (false, 1) := by kernel_rfl
@[simp] theorem tzero2 : tzero Tryz.prog 2 = some [.int .i64 0] := by kernel_rfl
@[simp] theorem und2 : Tryz.prog.underlying 2 = some (.int .i64) := by kernel_rfl
@[simp] theorem tsz3 : tsz Tryz.prog 3 = some (false, 1) := by kernel_rfl
@[simp] theorem tzero3 : tzero Tryz.prog 3 = some [.int .i64 0] := by kernel_rfl
@[simp] theorem und3 : Tryz.prog.underlying 3 = some (.int .i64) := by kernel_rfl
@[simp] theorem tsz4 : tsz Tryz.prog 4 = some (false, 1) := by kernel_rfl
@[simp] theorem tzero4 : tzero Tryz.prog 4 = some [.bool false] := by kernel_rfl
@[simp] theorem und4 : Tryz.prog.underlying 4 = some .bool := by kernel_rfl
@[simp] theorem tsz5 : tsz Tryz.prog 5 = some (false, 1) := by kernel_rfl
@[simp] theorem tzero5 : tzero Tryz.prog 5 = some [.int .u8 0] := by kernel_rfl
@[simp] theorem und5 : Tryz.prog.underlying 5 = some (.int .u8) := by kernel_rfl
@[simp] theorem tsz6 : tsz Tryz.prog 6 = some (false, 1) := by kernel_rfl
@[simp] theorem tzero6 : tzero Tryz.prog 6 = some [.int .u8 0] := by kernel_rfl
@[simp] theorem und6 : Tryz.prog.underlying 6 = some (.int .u8) := by kernel_rfl
@[simp] theorem tsz7 : tsz Tryz.prog 7 = some (true, 4) := by kernel_rfl
@[simp] theorem tzero7 : tzero Tryz.prog 7 = some [.int .i64 0, .int .i64 0, .bool false, .int .u8 0] := by kernel_rfl
@[simp] theorem finfo7_0 : finfo Tryz.prog 7 0 = some (0, false, 1) := by kernel_rfl
@[simp] theorem finfo7_1 : finfo Tryz.prog 7 1 = some (1, false, 1) := by kernel_rfl
@[simp] theorem finfo7_2 : finfo Tryz.prog 7 2 = some (2, false, 1) := by kernel_rfl
@[simp] theorem finfo7_3 : finfo Tryz.prog 7 3 = some (3, false, 1) := by kernel_rfl
@[simp] theorem bplaces7 : bplaces Tryz.prog 7 = some [(0, 1), (1, 1), (2, 1), (3, 1)] := by kernel_rfl
@[simp] theorem tsz8 : tsz Tryz.prog 8 = some (true, 4) := by kernel_rfl
@[simp] theorem tzero8 : tzero Tryz.prog 8 = some [.int .i64 0, .int .i64 0, .bool false, .int .u8 0] := by kernel_rfl
@[simp] theorem finfo8_0 : finfo Tryz.prog 8 0 = some (0, false, 1) := by kernel_rfl
@[simp] theorem finfo8_1 : finfo Tryz.prog 8 1 = some (1, false, 1) := by kernel_rfl
@[simp] theorem finfo8_2 : finfo Tryz.prog 8 2 = some (2, false, 1) := by kernel_rfl
@[simp] theorem finfo8_3 : finfo Tryz.prog 8 3 = some (3, false, 1) := by kernel_rfl
@[simp] theorem bplaces8 : bplaces Tryz.prog 8 = some [(0, 1), (1, 1), (2, 1), (3, 1)] := by kernel_rfl
@[simp] theorem tsz9 : tsz Tryz.prog 9 = some (false, 1) := by kernel_rfl
@[simp] theorem tzero9 : tzero Tryz.prog 9 = some [.string .empty] := by kernel_rfl
@[simp] theorem isStr9 : isStr Tryz.prog 9 = true := by kernel_rfl
@[simp] theorem und9 : Tryz.prog.underlying 9 = some .string := by kernel_rfl
@[simp] theorem tsz10 : tsz Tryz.prog 10 = some (false, 1) := by kernel_rfl
@[simp] theorem tzero10 : tzero Tryz.prog 10 = some [.string .empty] := by kernel_rfl
@[simp] theorem isStr10 : isStr Tryz.prog 10 = true := by kernel_rfl
@[simp] theorem und10 : Tryz.prog.underlying 10 = some .string := by kernel_rfl
@[simp] theorem tsz11 : tsz Tryz.prog 11 = some (false, 1) := by kernel_rfl
@[simp] theorem tzero11 : tzero Tryz.prog 11 = some [.string .empty] := by kernel_rfl
@[simp] theorem isStr11 : isStr Tryz.prog 11 = true := by kernel_rfl
@[simp] theorem und11 : Tryz.prog.underlying 11 = some .string := by kernel_rfl
@[simp] theorem tsz12 : tsz Tryz.prog 12 = some (false, 1) := by kernel_rfl
@[simp] theorem tzero12 : tzero Tryz.prog 12 = some [.int .u64 0] := by kernel_rfl
@[simp] theorem und12 : Tryz.prog.underlying 12 = some (.int .u64) := by kernel_rfl
@[simp] theorem tsz13 : tsz Tryz.prog 13 = some (true, 2) := by kernel_rfl
@[simp] theorem tzero13 : tzero Tryz.prog 13 = some [.string .empty, .int .u64 0] := by kernel_rfl
@[simp] theorem finfo13_0 : finfo Tryz.prog 13 0 = some (0, false, 1) := by kernel_rfl
@[simp] theorem finfo13_1 : finfo Tryz.prog 13 1 = some (1, false, 1) := by kernel_rfl
@[simp] theorem bplaces13 : bplaces Tryz.prog 13 = some [(0, 1), (1, 1)] := by kernel_rfl
@[simp] theorem tsz14 : tsz Tryz.prog 14 = some (true, 2) := by kernel_rfl
@[simp] theorem tzero14 : tzero Tryz.prog 14 = some [.string .empty, .int .u64 0] := by kernel_rfl
@[simp] theorem finfo14_0 : finfo Tryz.prog 14 0 = some (0, false, 1) := by kernel_rfl
@[simp] theorem finfo14_1 : finfo Tryz.prog 14 1 = some (1, false, 1) := by kernel_rfl
@[simp] theorem bplaces14 : bplaces Tryz.prog 14 = some [(0, 1), (1, 1)] := by kernel_rfl
@[simp] theorem tsz15 : tsz Tryz.prog 15 = some (false, 1) := by kernel_rfl
@[simp] theorem tzero15 : tzero Tryz.prog 15 = some [.pointer none] := by kernel_rfl
@[simp] theorem tsz16 : tsz Tryz.prog 16 = some (false, 1) := by kernel_rfl
@[simp] theorem tzero16 : tzero Tryz.prog 16 = some [.pointer none] := by kernel_rfl
@[simp] theorem tsz17 : tsz Tryz.prog 17 = some (false, 1) := by kernel_rfl
@[simp] theorem tzero17 : tzero Tryz.prog 17 = some [.pointer none] := by kernel_rfl
@[simp] theorem tsz18 : tsz Tryz.prog 18 = some (true, 1) := by kernel_rfl
@[simp] theorem tzero18 : tzero Tryz.prog 18 = some [.pointer none] := by kernel_rfl
@[simp] theorem finfo18_0 : finfo Tryz.prog 18 0 = some (0, false, 1) := by kernel_rfl
@[simp] theorem bplaces18 : bplaces Tryz.prog 18 = some [(0, 1)] := by kernel_rfl
@[simp] theorem tsz19 : tsz Tryz.prog 19 = some (true, 1) := by kernel_rfl
@[simp] theorem tzero19 : tzero Tryz.prog 19 = some [.pointer none] := by kernel_rfl
@[simp] theorem finfo19_0 : finfo Tryz.prog 19 0 = some (0, false, 1) := by kernel_rfl
@[simp] theorem bplaces19 : bplaces Tryz.prog 19 = some [(0, 1)] := by kernel_rfl
@[simp] theorem tsz21 : tsz Tryz.prog 21 = some (false, 1) := by kernel_rfl
@[simp] theorem tzero21 : tzero Tryz.prog 21 = some [.int .i32 0] := by kernel_rfl
@[simp] theorem und21 : Tryz.prog.underlying 21 = some (.int .i32) := by kernel_rfl
@[simp] theorem tsz22 : tsz Tryz.prog 22 = some (false, 1) := by kernel_rfl
@[simp] theorem tzero22 : tzero Tryz.prog 22 = some [.slice none 0 0] := by kernel_rfl
@[simp] theorem eltp22 : eltp Tryz.prog 22 = some (5, 1) := by kernel_rfl
@[simp] theorem isSl22 : isSl Tryz.prog 22 = true := by kernel_rfl
@[simp] theorem und22 : Tryz.prog.underlying 22 = some (.slice 5) := by kernel_rfl
@[simp] theorem tsz23 : tsz Tryz.prog 23 = some (false, 1) := by kernel_rfl
@[simp] theorem tsz24 : tsz Tryz.prog 24 = some (true, 2) := by kernel_rfl
@[simp] theorem tzero24 : tzero Tryz.prog 24 = some [.int .i64 0, .int .i64 0] := by kernel_rfl
@[simp] theorem finfo24_0 : finfo Tryz.prog 24 0 = some (0, false, 1) := by kernel_rfl
@[simp] theorem finfo24_1 : finfo Tryz.prog 24 1 = some (1, false, 1) := by kernel_rfl
@[simp] theorem bplaces24 : bplaces Tryz.prog 24 = some [(0, 1), (1, 1)] := by kernel_rfl
@[simp] theorem tsz25 : tsz Tryz.prog 25 = some (true, 2) := by kernel_rfl
@[simp] theorem tzero25 : tzero Tryz.prog 25 = some [.int .i64 0, .int .i64 0] := by kernel_rfl
@[simp] theorem finfo25_0 : finfo Tryz.prog 25 0 = some (0, false, 1) := by kernel_rfl
@[simp] theorem finfo25_1 : finfo Tryz.prog 25 1 = some (1, false, 1) := by kernel_rfl
@[simp] theorem flatN25 : flatN Tryz.prog 25 = some [0, 0] := by kernel_rfl
@[simp] theorem bplaces25 : bplaces Tryz.prog 25 = some [(0, 1), (1, 1)] := by kernel_rfl
@[simp] theorem tsz26 : tsz Tryz.prog 26 = some (false, 1) := by kernel_rfl
@[simp] theorem tzero26 : tzero Tryz.prog 26 = some [.slice none 0 0] := by kernel_rfl
@[simp] theorem eltp26 : eltp Tryz.prog 26 = some (3, 1) := by kernel_rfl
@[simp] theorem isSl26 : isSl Tryz.prog 26 = true := by kernel_rfl
@[simp] theorem und26 : Tryz.prog.underlying 26 = some (.slice 3) := by kernel_rfl
@[simp] theorem tsz27 : tsz Tryz.prog 27 = some (true, 3) := by kernel_rfl
@[simp] theorem tzero27 : tzero Tryz.prog 27 = some [.int .i64 0, .int .i64 0, .slice none 0 0] := by kernel_rfl
@[simp] theorem finfo27_0 : finfo Tryz.prog 27 0 = some (0, true, 2) := by kernel_rfl
@[simp] theorem finfo27_1 : finfo Tryz.prog 27 1 = some (2, false, 1) := by kernel_rfl
@[simp] theorem bplaces27 : bplaces Tryz.prog 27 = some [(0, 2), (2, 1)] := by kernel_rfl
@[simp] theorem tsz28 : tsz Tryz.prog 28 = some (true, 3) := by kernel_rfl
@[simp] theorem tzero28 : tzero Tryz.prog 28 = some [.int .i64 0, .int .i64 0, .slice none 0 0] := by kernel_rfl
@[simp] theorem finfo28_0 : finfo Tryz.prog 28 0 = some (0, true, 2) := by kernel_rfl
@[simp] theorem finfo28_1 : finfo Tryz.prog 28 1 = some (2, false, 1) := by kernel_rfl
@[simp] theorem bplaces28 : bplaces Tryz.prog 28 = some [(0, 2), (2, 1)] := by kernel_rfl
@[simp] theorem tsz29 : tsz Tryz.prog 29 = some (false, 1) := by kernel_rfl
@[simp] theorem tsz30 : tsz Tryz.prog 30 = some (false, 1) := by kernel_rfl
@[simp] theorem tsz31 : tsz Tryz.prog 31 = some (true, 1) := by kernel_rfl
@[simp] theorem tzero31 : tzero Tryz.prog 31 = some [.slice none 0 0] := by kernel_rfl
@[simp] theorem finfo31_0 : finfo Tryz.prog 31 0 = some (0, false, 1) := by kernel_rfl
@[simp] theorem bplaces31 : bplaces Tryz.prog 31 = some [(0, 1)] := by kernel_rfl
@[simp] theorem tsz32 : tsz Tryz.prog 32 = some (true, 1) := by kernel_rfl
@[simp] theorem tzero32 : tzero Tryz.prog 32 = some [.slice none 0 0] := by kernel_rfl
@[simp] theorem finfo32_0 : finfo Tryz.prog 32 0 = some (0, false, 1) := by kernel_rfl
@[simp] theorem bplaces32 : bplaces Tryz.prog 32 = some [(0, 1)] := by kernel_rfl
@[simp] theorem tsz34 : tsz Tryz.prog 34 = some (false, 1) := by kernel_rfl
@[simp] theorem tsz35 : tsz Tryz.prog 35 = some (false, 1) := by kernel_rfl
@[simp] theorem tsz36 : tsz Tryz.prog 36 = some (false, 1) := by kernel_rfl
@[simp] theorem tsz37 : tsz Tryz.prog 37 = some (false, 1) := by kernel_rfl
@[simp] theorem tsz38 : tsz Tryz.prog 38 = some (false, 1) := by kernel_rfl
@[simp] theorem tsz39 : tsz Tryz.prog 39 = some (true, 3) := by kernel_rfl
@[simp] theorem tzero39 : tzero Tryz.prog 39 = some [.int .i64 0, .slice none 0 0, .slice none 0 0] := by kernel_rfl
@[simp] theorem finfo39_0 : finfo Tryz.prog 39 0 = some (0, false, 1) := by kernel_rfl
@[simp] theorem finfo39_1 : finfo Tryz.prog 39 1 = some (1, false, 1) := by kernel_rfl
@[simp] theorem finfo39_2 : finfo Tryz.prog 39 2 = some (2, false, 1) := by kernel_rfl
@[simp] theorem bplaces39 : bplaces Tryz.prog 39 = some [(0, 1), (1, 1), (2, 1)] := by kernel_rfl
@[simp] theorem tsz40 : tsz Tryz.prog 40 = some (true, 3) := by kernel_rfl
@[simp] theorem tzero40 : tzero Tryz.prog 40 = some [.int .i64 0, .slice none 0 0, .slice none 0 0] := by kernel_rfl
@[simp] theorem finfo40_0 : finfo Tryz.prog 40 0 = some (0, false, 1) := by kernel_rfl
@[simp] theorem finfo40_1 : finfo Tryz.prog 40 1 = some (1, false, 1) := by kernel_rfl
@[simp] theorem finfo40_2 : finfo Tryz.prog 40 2 = some (2, false, 1) := by kernel_rfl
@[simp] theorem bplaces40 : bplaces Tryz.prog 40 = some [(0, 1), (1, 1), (2, 1)] := by kernel_rfl
@[simp] theorem tsz41 : tsz Tryz.prog 41 = some (false, 1) := by kernel_rfl
@[simp] theorem tsz42 : tsz Tryz.prog 42 = some (true, 2) := by kernel_rfl
@[simp] theorem tzero42 : tzero Tryz.prog 42 = some [.slice none 0 0, .slice none 0 0] := by kernel_rfl
@[simp] theorem finfo42_0 : finfo Tryz.prog 42 0 = some (0, true, 1) := by kernel_rfl
@[simp] theorem finfo42_1 : finfo Tryz.prog 42 1 = some (1, true, 1) := by kernel_rfl
@[simp] theorem bplaces42 : bplaces Tryz.prog 42 = some [(0, 1), (1, 1)] := by kernel_rfl
@[simp] theorem tsz43 : tsz Tryz.prog 43 = some (true, 2) := by kernel_rfl
@[simp] theorem tzero43 : tzero Tryz.prog 43 = some [.slice none 0 0, .slice none 0 0] := by kernel_rfl
@[simp] theorem finfo43_0 : finfo Tryz.prog 43 0 = some (0, true, 1) := by kernel_rfl
@[simp] theorem finfo43_1 : finfo Tryz.prog 43 1 = some (1, true, 1) := by kernel_rfl
@[simp] theorem bplaces43 : bplaces Tryz.prog 43 = some [(0, 1), (1, 1)] := by kernel_rfl
@[simp] theorem tsz45 : tsz Tryz.prog 45 = some (false, 1) := by kernel_rfl
@[simp] theorem tsz46 : tsz Tryz.prog 46 = some (false, 1) := by kernel_rfl
@[simp] theorem tsz47 : tsz Tryz.prog 47 = some (false, 1) := by kernel_rfl
@[simp] theorem tsz48 : tsz Tryz.prog 48 = some (false, 1) := by kernel_rfl
@[simp] theorem tsz49 : tsz Tryz.prog 49 = some (false, 1) := by kernel_rfl
@[simp] theorem tzero49 : tzero Tryz.prog 49 = some [.pointer none] := by kernel_rfl
@[simp] theorem tsz50 : tsz Tryz.prog 50 = some (false, 1) := by kernel_rfl
@[simp] theorem tsz51 : tsz Tryz.prog 51 = some (false, 1) := by kernel_rfl
@[simp] theorem tsz52 : tsz Tryz.prog 52 = some (false, 1) := by kernel_rfl
@[simp] theorem tsz53 : tsz Tryz.prog 53 = some (false, 1) := by kernel_rfl
@[simp] theorem tsz54 : tsz Tryz.prog 54 = some (false, 1) := by kernel_rfl
@[simp] theorem tsz55 : tsz Tryz.prog 55 = some (false, 1) := by kernel_rfl
@[simp] theorem tsz56 : tsz Tryz.prog 56 = some (false, 1) := by kernel_rfl
@[simp] theorem tsz57 : tsz Tryz.prog 57 = some (false, 1) := by kernel_rfl
@[simp] theorem tsz58 : tsz Tryz.prog 58 = some (false, 1) := by kernel_rfl
@[simp] theorem tsz59 : tsz Tryz.prog 59 = some (false, 1) := by kernel_rfl
@[simp] theorem tsz60 : tsz Tryz.prog 60 = some (false, 1) := by kernel_rfl
@[simp] theorem tsz61 : tsz Tryz.prog 61 = some (false, 1) := by kernel_rfl
@[simp] theorem tsz62 : tsz Tryz.prog 62 = some (false, 1) := by kernel_rfl
@[simp] theorem tsz63 : tsz Tryz.prog 63 = some (false, 1) := by kernel_rfl
@[simp] theorem tzero63 : tzero Tryz.prog 63 = some [.slice none 0 0] := by kernel_rfl
@[simp] theorem eltp63 : eltp Tryz.prog 63 = some (88, 2) := by kernel_rfl
@[simp] theorem isSl63 : isSl Tryz.prog 63 = true := by kernel_rfl
@[simp] theorem und63 : Tryz.prog.underlying 63 = some (.slice 88) := by kernel_rfl
@[simp] theorem tsz64 : tsz Tryz.prog 64 = some (false, 1) := by kernel_rfl
@[simp] theorem tsz65 : tsz Tryz.prog 65 = some (false, 1) := by kernel_rfl
@[simp] theorem tsz66 : tsz Tryz.prog 66 = some (false, 1) := by kernel_rfl
@[simp] theorem tsz67 : tsz Tryz.prog 67 = some (false, 1) := by kernel_rfl
@[simp] theorem tsz68 : tsz Tryz.prog 68 = some (false, 1) := by kernel_rfl
@[simp] theorem tsz70 : tsz Tryz.prog 70 = some (false, 1) := by kernel_rfl
@[simp] theorem tsz71 : tsz Tryz.prog 71 = some (false, 1) := by kernel_rfl
@[simp] theorem tsz72 : tsz Tryz.prog 72 = some (true, 3) := by kernel_rfl
@[simp] theorem tzero72 : tzero Tryz.prog 72 = some [.slice none 0 0, .int .i64 0, .int .i64 0] := by kernel_rfl
@[simp] theorem finfo72_0 : finfo Tryz.prog 72 0 = some (0, false, 1) := by kernel_rfl
@[simp] theorem finfo72_1 : finfo Tryz.prog 72 1 = some (1, false, 1) := by kernel_rfl
@[simp] theorem finfo72_2 : finfo Tryz.prog 72 2 = some (2, false, 1) := by kernel_rfl
@[simp] theorem bplaces72 : bplaces Tryz.prog 72 = some [(0, 1), (1, 1), (2, 1)] := by kernel_rfl
@[simp] theorem tsz73 : tsz Tryz.prog 73 = some (true, 3) := by kernel_rfl
@[simp] theorem tzero73 : tzero Tryz.prog 73 = some [.slice none 0 0, .int .i64 0, .int .i64 0] := by kernel_rfl
@[simp] theorem finfo73_0 : finfo Tryz.prog 73 0 = some (0, false, 1) := by kernel_rfl
@[simp] theorem finfo73_1 : finfo Tryz.prog 73 1 = some (1, false, 1) := by kernel_rfl
@[simp] theorem finfo73_2 : finfo Tryz.prog 73 2 = some (2, false, 1) := by kernel_rfl
@[simp] theorem bplaces73 : bplaces Tryz.prog 73 = some [(0, 1), (1, 1), (2, 1)] := by kernel_rfl
@[simp] theorem tsz74 : tsz Tryz.prog 74 = some (false, 1) := by kernel_rfl
@[simp] theorem tsz75 : tsz Tryz.prog 75 = some (false, 1) := by kernel_rfl
@[simp] theorem tsz76 : tsz Tryz.prog 76 = some (false, 1) := by kernel_rfl
@[simp] theorem tsz77 : tsz Tryz.prog 77 = some (false, 1) := by kernel_rfl
@[simp] theorem tsz78 : tsz Tryz.prog 78 = some (false, 1) := by kernel_rfl
@[simp] theorem tsz79 : tsz Tryz.prog 79 = some (false, 1) := by kernel_rfl
@[simp] theorem tsz80 : tsz Tryz.prog 80 = some (false, 1) := by kernel_rfl
@[simp] theorem tsz81 : tsz Tryz.prog 81 = some (false, 1) := by kernel_rfl
@[simp] theorem tsz82 : tsz Tryz.prog 82 = some (false, 1) := by kernel_rfl
@[simp] theorem tsz84 : tsz Tryz.prog 84 = some (false, 1) := by kernel_rfl
@[simp] theorem tsz85 : tsz Tryz.prog 85 = some (false, 1) := by kernel_rfl
@[simp] theorem tsz86 : tsz Tryz.prog 86 = some (false, 1) := by kernel_rfl
@[simp] theorem tsz87 : tsz Tryz.prog 87 = some (true, 2) := by kernel_rfl
@[simp] theorem tzero87 : tzero Tryz.prog 87 = some [.int .i64 0, .int .i64 0] := by kernel_rfl
@[simp] theorem finfo87_0 : finfo Tryz.prog 87 0 = some (0, false, 1) := by kernel_rfl
@[simp] theorem finfo87_1 : finfo Tryz.prog 87 1 = some (1, false, 1) := by kernel_rfl
@[simp] theorem bplaces87 : bplaces Tryz.prog 87 = some [(0, 1), (1, 1)] := by kernel_rfl
@[simp] theorem tsz88 : tsz Tryz.prog 88 = some (true, 2) := by kernel_rfl
@[simp] theorem tzero88 : tzero Tryz.prog 88 = some [.int .i64 0, .int .i64 0] := by kernel_rfl
@[simp] theorem finfo88_0 : finfo Tryz.prog 88 0 = some (0, false, 1) := by kernel_rfl
@[simp] theorem finfo88_1 : finfo Tryz.prog 88 1 = some (1, false, 1) := by kernel_rfl
@[simp] theorem flatN88 : flatN Tryz.prog 88 = some [0, 0] := by kernel_rfl
@[simp] theorem bplaces88 : bplaces Tryz.prog 88 = some [(0, 1), (1, 1)] := by kernel_rfl
@[simp] theorem tsz89 : tsz Tryz.prog 89 = some (false, 1) := by kernel_rfl
@[simp] theorem tsz90 : tsz Tryz.prog 90 = some (false, 1) := by kernel_rfl
@[simp] theorem tsz91 : tsz Tryz.prog 91 = some (false, 1) := by kernel_rfl
@[simp] theorem tsz92 : tsz Tryz.prog 92 = some (false, 1) := by kernel_rfl
@[simp] theorem tsz93 : tsz Tryz.prog 93 = some (false, 1) := by kernel_rfl
@[simp] theorem tsz94 : tsz Tryz.prog 94 = some (false, 1) := by kernel_rfl
@[simp] theorem tsz95 : tsz Tryz.prog 95 = some (false, 1) := by kernel_rfl
@[simp] theorem tzero95 : tzero Tryz.prog 95 = some [.int .u64 0] := by kernel_rfl
@[simp] theorem und95 : Tryz.prog.underlying 95 = some (.int .u64) := by kernel_rfl
@[simp] theorem tsz96 : tsz Tryz.prog 96 = some (false, 1) := by kernel_rfl
@[simp] theorem tzero96 : tzero Tryz.prog 96 = some [.slice none 0 0] := by kernel_rfl
@[simp] theorem eltp96 : eltp Tryz.prog 96 = some (26, 1) := by kernel_rfl
@[simp] theorem isSl96 : isSl Tryz.prog 96 = true := by kernel_rfl
@[simp] theorem und96 : Tryz.prog.underlying 96 = some (.slice 26) := by kernel_rfl
@[simp] theorem tsz98 : tsz Tryz.prog 98 = some (false, 1) := by kernel_rfl
@[simp] theorem tsz99 : tsz Tryz.prog 99 = some (false, 1) := by kernel_rfl
@[simp] theorem tsz100 : tsz Tryz.prog 100 = some (false, 1) := by kernel_rfl
@[simp] theorem tsz101 : tsz Tryz.prog 101 = some (false, 1) := by kernel_rfl
@[simp] theorem tsz102 : tsz Tryz.prog 102 = some (false, 1) := by kernel_rfl
@[simp] theorem tsz103 : tsz Tryz.prog 103 = some (false, 1) := by kernel_rfl
@[simp] theorem tsz104 : tsz Tryz.prog 104 = some (false, 1) := by kernel_rfl
@[simp] theorem tsz105 : tsz Tryz.prog 105 = some (false, 1) := by kernel_rfl
@[simp] theorem tsz106 : tsz Tryz.prog 106 = some (false, 1) := by kernel_rfl
@[simp] theorem tsz107 : tsz Tryz.prog 107 = some (false, 1) := by kernel_rfl
@[simp] theorem tsz108 : tsz Tryz.prog 108 = some (false, 1) := by kernel_rfl
@[simp] theorem tzero108 : tzero Tryz.prog 108 = some [.int .u32 0] := by kernel_rfl
@[simp] theorem und108 : Tryz.prog.underlying 108 = some (.int .u32) := by kernel_rfl
@[simp] theorem tsz110 : tsz Tryz.prog 110 = some (false, 1) := by kernel_rfl
@[simp] theorem tsz111 : tsz Tryz.prog 111 = some (false, 1) := by kernel_rfl
@[simp] theorem tzero111 : tzero Tryz.prog 111 = some [.int .u64 0] := by kernel_rfl
@[simp] theorem und111 : Tryz.prog.underlying 111 = some (.int .u64) := by kernel_rfl
@[simp] theorem tsz113 : tsz Tryz.prog 113 = some (false, 1) := by kernel_rfl
@[simp] theorem tsz114 : tsz Tryz.prog 114 = some (false, 1) := by kernel_rfl
@[simp] theorem tsz115 : tsz Tryz.prog 115 = some (false, 1) := by kernel_rfl
@[simp] theorem tsz116 : tsz Tryz.prog 116 = some (false, 1) := by kernel_rfl
@[simp] theorem tsz117 : tsz Tryz.prog 117 = some (false, 1) := by kernel_rfl
@[simp] theorem tsz118 : tsz Tryz.prog 118 = some (false, 1) := by kernel_rfl
@[simp] theorem tsz119 : tsz Tryz.prog 119 = some (false, 1) := by kernel_rfl
@[simp] theorem tzero119 : tzero Tryz.prog 119 = some [.slice none 0 0] := by kernel_rfl
@[simp] theorem eltp119 : eltp Tryz.prog 119 = some (63, 1) := by kernel_rfl
@[simp] theorem isSl119 : isSl Tryz.prog 119 = true := by kernel_rfl
@[simp] theorem und119 : Tryz.prog.underlying 119 = some (.slice 63) := by kernel_rfl
@[simp] theorem tsz120 : tsz Tryz.prog 120 = some (false, 1) := by kernel_rfl
@[simp] theorem tsz121 : tsz Tryz.prog 121 = some (false, 1) := by kernel_rfl
@[simp] theorem tzero121 : tzero Tryz.prog 121 = some [.int .i64 0] := by kernel_rfl
@[simp] theorem und121 : Tryz.prog.underlying 121 = some (.int .i64) := by kernel_rfl
@[simp] theorem tsz123 : tsz Tryz.prog 123 = some (false, 1) := by kernel_rfl
@[simp] theorem tsz124 : tsz Tryz.prog 124 = some (false, 1) := by kernel_rfl
@[simp] theorem tsz125 : tsz Tryz.prog 125 = some (false, 1) := by kernel_rfl
@[simp] theorem tsz127 : tsz Tryz.prog 127 = some (false, 1) := by kernel_rfl
@[simp] theorem tsz128 : tsz Tryz.prog 128 = some (false, 1) := by kernel_rfl
@[simp] theorem tsz129 : tsz Tryz.prog 129 = some (false, 1) := by kernel_rfl
@[simp] theorem tsz130 : tsz Tryz.prog 130 = some (false, 1) := by kernel_rfl
@[simp] theorem tzero130 : tzero Tryz.prog 130 = some [.int .u64 0] := by kernel_rfl
@[simp] theorem und130 : Tryz.prog.underlying 130 = some (.int .u64) := by kernel_rfl
@[simp] theorem tsz131 : tsz Tryz.prog 131 = some (false, 1) := by kernel_rfl
@[simp] theorem tsz132 : tsz Tryz.prog 132 = some (false, 1) := by kernel_rfl
@[simp] theorem tsz133 : tsz Tryz.prog 133 = some (false, 1) := by kernel_rfl
@[simp] theorem tsz134 : tsz Tryz.prog 134 = some (false, 1) := by kernel_rfl
@[simp] theorem tzero134 : tzero Tryz.prog 134 = some [.pointer none] := by kernel_rfl
@[simp] theorem tsz135 : tsz Tryz.prog 135 = some (false, 1) := by kernel_rfl
@[simp] theorem tsz136 : tsz Tryz.prog 136 = some (false, 1) := by kernel_rfl
@[simp] theorem tzero136 : tzero Tryz.prog 136 = some [.pointer none] := by kernel_rfl
@[simp] theorem tsz138 : tsz Tryz.prog 138 = some (false, 1) := by kernel_rfl
@[simp] theorem tsz139 : tsz Tryz.prog 139 = some (false, 1) := by kernel_rfl
@[simp] theorem tsz140 : tsz Tryz.prog 140 = some (true, 4) := by kernel_rfl
@[simp] theorem tzero140 : tzero Tryz.prog 140 = some [.pointer none, .pointer none, .pointer none, .string .empty] := by kernel_rfl
@[simp] theorem finfo140_0 : finfo Tryz.prog 140 0 = some (0, false, 1) := by kernel_rfl
@[simp] theorem finfo140_1 : finfo Tryz.prog 140 1 = some (1, false, 1) := by kernel_rfl
@[simp] theorem finfo140_2 : finfo Tryz.prog 140 2 = some (2, false, 1) := by kernel_rfl
@[simp] theorem finfo140_3 : finfo Tryz.prog 140 3 = some (3, false, 1) := by kernel_rfl
@[simp] theorem bplaces140 : bplaces Tryz.prog 140 = some [(0, 1), (1, 1), (2, 1), (3, 1)] := by kernel_rfl
@[simp] theorem tsz141 : tsz Tryz.prog 141 = some (true, 4) := by kernel_rfl
@[simp] theorem tzero141 : tzero Tryz.prog 141 = some [.pointer none, .pointer none, .pointer none, .string .empty] := by kernel_rfl
@[simp] theorem finfo141_0 : finfo Tryz.prog 141 0 = some (0, false, 1) := by kernel_rfl
@[simp] theorem finfo141_1 : finfo Tryz.prog 141 1 = some (1, false, 1) := by kernel_rfl
@[simp] theorem finfo141_2 : finfo Tryz.prog 141 2 = some (2, false, 1) := by kernel_rfl
@[simp] theorem finfo141_3 : finfo Tryz.prog 141 3 = some (3, false, 1) := by kernel_rfl
@[simp] theorem bplaces141 : bplaces Tryz.prog 141 = some [(0, 1), (1, 1), (2, 1), (3, 1)] := by kernel_rfl
@[simp] theorem tsz142 : tsz Tryz.prog 142 = some (true, 0) := by kernel_rfl
@[simp] theorem tzero142 : tzero Tryz.prog 142 = some [] := by kernel_rfl
@[simp] theorem arrp142 : arrp Tryz.prog 142 = some (0, 1) := by kernel_rfl
@[simp] theorem tsz143 : tsz Tryz.prog 143 = some (true, 0) := by kernel_rfl
@[simp] theorem tzero143 : tzero Tryz.prog 143 = some [] := by kernel_rfl
@[simp] theorem bplaces143 : bplaces Tryz.prog 143 = some [(0, 0)] := by kernel_rfl
@[simp] theorem tsz144 : tsz Tryz.prog 144 = some (true, 0) := by kernel_rfl
@[simp] theorem tzero144 : tzero Tryz.prog 144 = some [] := by kernel_rfl
@[simp] theorem bplaces144 : bplaces Tryz.prog 144 = some [(0, 0)] := by kernel_rfl
@[simp] theorem tsz145 : tsz Tryz.prog 145 = some (false, 1) := by kernel_rfl
@[simp] theorem tsz146 : tsz Tryz.prog 146 = some (false, 1) := by kernel_rfl
@[simp] theorem tzero146 : tzero Tryz.prog 146 = some [.int .u8 0] := by kernel_rfl
@[simp] theorem und146 : Tryz.prog.underlying 146 = some (.int .u8) := by kernel_rfl
@[simp] theorem tsz147 : tsz Tryz.prog 147 = some (false, 1) := by kernel_rfl
@[simp] theorem tzero147 : tzero Tryz.prog 147 = some [.int .u8 0] := by kernel_rfl
@[simp] theorem und147 : Tryz.prog.underlying 147 = some (.int .u8) := by kernel_rfl
@[simp] theorem tsz148 : tsz Tryz.prog 148 = some (false, 1) := by kernel_rfl
@[simp] theorem tsz149 : tsz Tryz.prog 149 = some (false, 1) := by kernel_rfl
@[simp] theorem tzero149 : tzero Tryz.prog 149 = some [.pointer none] := by kernel_rfl
@[simp] theorem tsz150 : tsz Tryz.prog 150 = some (false, 1) := by kernel_rfl
@[simp] theorem tzero150 : tzero Tryz.prog 150 = some [.int .i32 0] := by kernel_rfl
@[simp] theorem und150 : Tryz.prog.underlying 150 = some (.int .i32) := by kernel_rfl
@[simp] theorem tsz151 : tsz Tryz.prog 151 = some (false, 1) := by kernel_rfl
@[simp] theorem tzero151 : tzero Tryz.prog 151 = some [.int .i32 0] := by kernel_rfl
@[simp] theorem und151 : Tryz.prog.underlying 151 = some (.int .i32) := by kernel_rfl
@[simp] theorem tsz152 : tsz Tryz.prog 152 = some (true, 11) := by kernel_rfl
@[simp] theorem tzero152 : tzero Tryz.prog 152 = some [.int .u64 0, .int .u64 0, .int .u32 0, .int .u8 0, .int .u8 0, .int .u8 0, .int .u8 0, .nilFunc, .pointer none, .int .i32 0, .int .i32 0] := by kernel_rfl
@[simp] theorem finfo152_0 : finfo Tryz.prog 152 0 = some (0, false, 1) := by kernel_rfl
@[simp] theorem finfo152_1 : finfo Tryz.prog 152 1 = some (1, false, 1) := by kernel_rfl
@[simp] theorem finfo152_2 : finfo Tryz.prog 152 2 = some (2, false, 1) := by kernel_rfl
@[simp] theorem finfo152_3 : finfo Tryz.prog 152 3 = some (3, false, 1) := by kernel_rfl
@[simp] theorem finfo152_4 : finfo Tryz.prog 152 4 = some (4, false, 1) := by kernel_rfl
@[simp] theorem finfo152_5 : finfo Tryz.prog 152 5 = some (5, false, 1) := by kernel_rfl
@[simp] theorem finfo152_6 : finfo Tryz.prog 152 6 = some (6, false, 1) := by kernel_rfl
@[simp] theorem finfo152_8 : finfo Tryz.prog 152 8 = some (8, false, 1) := by kernel_rfl
@[simp] theorem finfo152_9 : finfo Tryz.prog 152 9 = some (9, false, 1) := by kernel_rfl
@[simp] theorem finfo152_10 : finfo Tryz.prog 152 10 = some (10, false, 1) := by kernel_rfl
@[simp] theorem tsz153 : tsz Tryz.prog 153 = some (true, 11) := by kernel_rfl
@[simp] theorem tzero153 : tzero Tryz.prog 153 = some [.int .u64 0, .int .u64 0, .int .u32 0, .int .u8 0, .int .u8 0, .int .u8 0, .int .u8 0, .nilFunc, .pointer none, .int .i32 0, .int .i32 0] := by kernel_rfl
@[simp] theorem finfo153_0 : finfo Tryz.prog 153 0 = some (0, false, 1) := by kernel_rfl
@[simp] theorem finfo153_1 : finfo Tryz.prog 153 1 = some (1, false, 1) := by kernel_rfl
@[simp] theorem finfo153_2 : finfo Tryz.prog 153 2 = some (2, false, 1) := by kernel_rfl
@[simp] theorem finfo153_3 : finfo Tryz.prog 153 3 = some (3, false, 1) := by kernel_rfl
@[simp] theorem finfo153_4 : finfo Tryz.prog 153 4 = some (4, false, 1) := by kernel_rfl
@[simp] theorem finfo153_5 : finfo Tryz.prog 153 5 = some (5, false, 1) := by kernel_rfl
@[simp] theorem finfo153_6 : finfo Tryz.prog 153 6 = some (6, false, 1) := by kernel_rfl
@[simp] theorem finfo153_8 : finfo Tryz.prog 153 8 = some (8, false, 1) := by kernel_rfl
@[simp] theorem finfo153_9 : finfo Tryz.prog 153 9 = some (9, false, 1) := by kernel_rfl
@[simp] theorem finfo153_10 : finfo Tryz.prog 153 10 = some (10, false, 1) := by kernel_rfl
end Go.Proofs.YtlbbalmeaedbdaaGreat.V
/-! The plain side: grids, meshes. -/
set_option linter.all false
namespace Go.Proofs.YtlbbalmeaedbdaaGreat.V
open Go Go.VM
def rd (b : List Int) (j : Int) : Int := b.getD j.toNat 0
/-- a range, told as one word -/
def inR (lo n hi : Int) : Prop := lo ≤ n ∧ n ≤ hi
instance (lo n hi : Int) : Decidable (inR lo n hi) := inferInstanceAs (Decidable (_ ∧ _))
def okG (w h : Int) : Prop := (1 ≤ w ∧ w ≤ 4) ∧ 1 ≤ h ∧ h ≤ 4
instance (w h : Int) : Decidable (okG w h) := inferInstanceAs (Decidable (_ ∧ _))
def cnt (w h : Int) : Int := if okG w h then w * h else 0
def isN (w h n : Int) : Prop := 0 ≤ n ∧ n < cnt w h
instance (w h n : Int) : Decidable (isN w h n) := inferInstanceAs (Decidable (_ ∧ _))
def nodeAt (w h x y : Int) : Int := if okG w h ∧ (0 ≤ x ∧ x < w) ∧ 0 ≤ y ∧ y < h then y * w + x else -1
def next (w h n p : Int) : Int :=
  if isN w h n then
    (if p = 0 then nodeAt w h (n % w) (n / w - 1) else if p = 1 then nodeAt w h (n % w + 1) (n / w) else if p = 2 then nodeAt w h (n % w) (n / w + 1)
     else if p = 3 then nodeAt w h (n % w - 1) (n / w) else if p = 4 then n else -1)
  else -1
def leads (w h c : Int) : Prop := (0 ≤ c ∧ c < 4 * cnt w h) ∧ 0 ≤ next w h (c / 4) (c % 4)
instance (w h c : Int) : Decidable (leads w h c) := inferInstanceAs (Decidable (_ ∧ _))
def opp (p : Int) : Int := if p = 4 then 4 else if 0 ≤ p ∧ p ≤ 3 then (p + 2) % 4 else -1
def goodAt (w h : Int) (b : List Int) (j : Nat) : Prop := leads w h (b.getD j 0) ∧ (0 < j → b.getD (j - 1) 0 < b.getD j 0)
instance (w h : Int) (b : List Int) (j : Nat) : Decidable (goodAt w h b j) := inferInstanceAs (Decidable (_ ∧ _))
def meshOk (w h : Int) (b : List Int) : Prop := (∀ j, j < b.length → goodAt w h b j) ∧ okG w h
instance (w h : Int) (b : List Int) : Decidable (meshOk w h b) := inferInstanceAs (Decidable (_ ∧ _))
def has (w h : Int) (b : List Int) (c : Int) : Prop := leads w h c ∧ c ∉ b
instance (w h : Int) (b : List Int) (c : Int) : Decidable (has w h b c) := inferInstanceAs (Decidable (_ ∧ _))

theorem mul_small {w h : Int} (h1 : okG w h) : 1 ≤ w * h ∧ w * h ≤ 16 := by
  obtain ⟨⟨a1, a2⟩, b1, b2⟩ := h1
  have c1 : 1 * 1 ≤ w * h := Int.mul_le_mul a1 b1 (by omega) (by omega)
  have c2 : w * h ≤ 4 * 4 := Int.mul_le_mul a2 b2 (by omega) (by omega)
  omega
theorem cnt_range (w h : Int) : 0 ≤ cnt w h ∧ cnt w h ≤ 16 := by
  unfold cnt; split
  · rename_i h1; have := mul_small h1; omega
  · omega
theorem isN_ok {w h n : Int} (h1 : isN w h n) : okG w h ∧ 0 ≤ n ∧ n < w * h ∧ n < 16 := by
  obtain ⟨a, b⟩ := h1
  have := cnt_range w h
  unfold cnt at b; split at b
  · rename_i hg; have := mul_small hg; exact ⟨hg, a, b, by omega⟩
  · omega
theorem w64 {x : Int} (h1 : -9223372036854775808 ≤ x) (h2 : x ≤ 9223372036854775807) : IntKind.i64.wrap x = x := by rw [IntKind.wrap_i64]; omega
end Go.Proofs.YtlbbalmeaedbdaaGreat.V
/-! What the functions on grids return. -/
set_option linter.all false
namespace Go.Proofs.YtlbbalmeaedbdaaGreat.V
open Go Go.VM Go.Proofs
set_option maxRecDepth 10000
variable {frz : Nat} {H : Heap}
theorem inside_c (n lo hi : Int) : vcall C frz 47 [.int .i64 n, .int .i64 lo, .int .i64 hi] H = some (.bool (decide (inR lo n hi)), H) := by
  rw [vcall_go (fn := Tryz.f47) Tryz.func47 rfl (by kernel_rfl) rfl]
  simp
  repeat' (first | refine gd_dec _ _ ?_ ?_ | refine br_dec _ ?_ ?_) <;> intro h <;> simp [h, inR]
theorem l01In_c (n lo hi : Int) : vcall C frz 94 [.int .i64 n, .int .i64 lo, .int .i64 hi] H = some (.bool (decide (inR lo n hi)), H) := by
  rw [vcall_go (fn := Tryz.f94) Tryz.func94 rfl (by kernel_rfl) rfl]
  simp
  repeat' (first | refine gd_dec _ _ ?_ ?_ | refine br_dec _ ?_ ?_) <;> intro h <;> simp [h, inR]
theorem okG_of {w h : Int} (h1 : inR 1 w 4) (h2 : inR 1 h 4) : okG w h := ⟨h1, h2⟩
theorem gridOk_c (w h : Int) : vcall C frz 58 [.agg #[.int .i64 w, .int .i64 h]] H = some (.bool (decide (okG w h)), H) := by
  rw [vcall_go (fn := Tryz.f58) Tryz.func58 rfl (by kernel_rfl) rfl]
  simp [inside_c]
  refine gd_dec _ _ ?_ ?_ <;> intro h1 <;> simp [h1, inside_c]
  · have : okG w h ↔ inR 1 h 4 := ⟨fun g => g.2, fun g => ⟨h1, g⟩⟩
    simp [this]
  · exact fun g => h1 g.1
theorem sGridOk_c (w h : Int) : vcall C frz 74 [.agg #[.int .i64 w, .int .i64 h]] H = some (.bool (decide (okG w h)), H) := by
  rw [vcall_go (fn := Tryz.f74) Tryz.func74 rfl (by kernel_rfl) rfl]
  simp [l01In_c]
  refine gd_dec _ _ ?_ ?_ <;> intro h1 <;> simp [h1, l01In_c]
  · have : okG w h ↔ inR 1 h 4 := ⟨fun g => g.2, fun g => ⟨h1, g⟩⟩
    simp [this]
  · exact fun g => h1 g.1
theorem nodeCount_c (w h : Int) : vcall C frz 27 [.agg #[.int .i64 w, .int .i64 h]] H = some (.int .i64 (cnt w h), H) := by
  rw [vcall_go (fn := Tryz.f27) Tryz.func27 rfl (by kernel_rfl) rfl]
  simp [gridOk_c]
  refine br_dec _ ?_ ?_ <;> intro h1 <;> simp [h1, cnt]
  have := mul_small h1
  exact w64 (by omega) (by omega)
theorem sNodeCount_c (w h : Int) : vcall C frz 44 [.agg #[.int .i64 w, .int .i64 h]] H = some (.int .i64 (cnt w h), H) := by
  rw [vcall_go (fn := Tryz.f44) Tryz.func44 rfl (by kernel_rfl) rfl]
  simp [sGridOk_c]
  refine br_dec _ ?_ ?_ <;> intro h1 <;> simp [h1, cnt]
  have := mul_small h1
  exact w64 (by omega) (by omega)
theorem isN_inR (w h n : Int) : inR 0 n (IntKind.i64.wrap (cnt w h - 1)) ↔ isN w h n := by
  have := cnt_range w h
  rw [w64 (by omega) (by omega)]
  simp only [inR, isN]; omega
theorem isNode_c (w h n : Int) : vcall C frz 22 [.agg #[.int .i64 w, .int .i64 h], .int .i64 n] H = some (.bool (decide (isN w h n)), H) := by
  rw [vcall_go (fn := Tryz.f22) Tryz.func22 rfl (by kernel_rfl) rfl]
  simp [nodeCount_c, inside_c, isN_inR]
theorem l02Has_c (w h n : Int) : vcall C frz 79 [.agg #[.int .i64 w, .int .i64 h], .int .i64 n] H = some (.bool (decide (isN w h n)), H) := by
  rw [vcall_go (fn := Tryz.f79) Tryz.func79 rfl (by kernel_rfl) rfl]
  simp [sNodeCount_c, l01In_c, isN_inR]
end Go.Proofs.YtlbbalmeaedbdaaGreat.V
/-! What the functions on grids return: places, neighbours, channels. -/
set_option linter.all false
namespace Go.Proofs.YtlbbalmeaedbdaaGreat.V
open Go Go.VM Go.Proofs
set_option maxRecDepth 10000
variable {frz : Nat} {H : Heap}
theorem at_inR (w h x y : Int) (h1 : okG w h) : (inR 0 x (IntKind.i64.wrap (w - 1)) ↔ 0 ≤ x ∧ x < w) ∧ (inR 0 y (IntKind.i64.wrap (h - 1)) ↔ 0 ≤ y ∧ y < h) := by
  obtain ⟨⟨a1, a2⟩, b1, b2⟩ := h1
  rw [w64 (by omega) (by omega), w64 (by omega) (by omega)]
  simp only [inR]; omega
theorem at_val {w h x y : Int} (h1 : okG w h) (h2 : 0 ≤ x ∧ x < w) (h3 : 0 ≤ y ∧ y < h) : IntKind.i64.wrap (IntKind.i64.wrap (y * w) + x) = y * w + x := by
  have hm := mul_small h1
  obtain ⟨⟨a1, a2⟩, b1, b2⟩ := h1
  have c1 : 0 * 0 ≤ y * w := Int.mul_le_mul h3.1 (by omega) (by omega) (by omega)
  have c2 : y * w ≤ h * w := Int.mul_le_mul_of_nonneg_right (by omega) (by omega)
  rw [Int.mul_comm h w] at c2
  rw [w64 (x := y * w) (by omega) (by omega), w64 (by omega) (by omega)]
theorem nodeAt_c (w h x y : Int) : vcall C frz 76 [.agg #[.int .i64 w, .int .i64 h], .int .i64 x, .int .i64 y] H = some (.int .i64 (nodeAt w h x y), H) := by
  rw [vcall_go (fn := Tryz.f76) Tryz.func76 rfl (by kernel_rfl) rfl]
  simp [gridOk_c]
  refine gd_dec _ _ ?_ ?_ <;> intro h1 <;> simp [h1, inside_c, nodeAt]
  obtain ⟨e1, e2⟩ := at_inR w h x y h1
  simp only [e1, e2]
  refine gd_dec _ _ ?_ ?_ <;> intro h2 <;> simp [h2, inside_c]
  simp only [e2]
  refine br_dec _ ?_ ?_ <;> intro h3 <;> simp [h3]
  exact at_val h1 h2 h3
theorem sNodeAt_c (w h x y : Int) : vcall C frz 98 [.agg #[.int .i64 w, .int .i64 h], .int .i64 x, .int .i64 y] H = some (.int .i64 (nodeAt w h x y), H) := by
  rw [vcall_go (fn := Tryz.f98) Tryz.func98 rfl (by kernel_rfl) rfl]
  simp [sGridOk_c]
  refine gd_dec _ _ ?_ ?_ <;> intro h1 <;> simp [h1, l01In_c, nodeAt]
  obtain ⟨e1, e2⟩ := at_inR w h x y h1
  simp only [e1, e2]
  refine gd_dec _ _ ?_ ?_ <;> intro h2 <;> simp [h2, l01In_c]
  simp only [e2]
  refine br_dec _ ?_ ?_ <;> intro h3 <;> simp [h3]
  exact at_val h1 h2 h3
theorem nodeAt_range (w h x y : Int) : -1 ≤ nodeAt w h x y ∧ nodeAt w h x y < 16 := by
  unfold nodeAt
  split
  · rename_i h1
    obtain ⟨h1, h2, h3⟩ := h1
    have hm := mul_small h1
    obtain ⟨⟨a1, a2⟩, b1, b2⟩ := h1
    have c1 : 0 * 0 ≤ y * w := Int.mul_le_mul h3.1 (by omega) (by omega) (by omega)
    have c2 : y * w ≤ (h - 1) * w := Int.mul_le_mul_of_nonneg_right (by omega) (by omega)
    rw [Int.sub_mul, Int.mul_comm h w] at c2
    omega
  · omega
theorem tdiv_of {n w : Int} (h : 0 ≤ n) (h1 : 1 ≤ w) (h2 : n < 16) : IntKind.i64.wrap (n.tdiv w) = n / w := by
  rw [Int.tdiv_eq_ediv_of_nonneg h]
  have h3 := Int.ediv_le_self w h
  have h4 := Int.ediv_nonneg h (by omega : 0 ≤ w)
  exact w64 (by omega) (by omega)
theorem tmod_of {n w : Int} (h : 0 ≤ n) : n.tmod w = n % w := Int.tmod_eq_emod_of_nonneg h
theorem div_small {n w : Int} (h : 0 ≤ n) (h1 : 1 ≤ w) (h2 : n < 16) : 0 ≤ n / w ∧ n / w < 16 := ⟨Int.ediv_nonneg h (by omega), by have := Int.ediv_le_self w h; omega⟩
theorem mod_small {n w : Int} (h1 : 1 ≤ w) (h2 : w ≤ 4) : 0 ≤ n % w ∧ n % w < 4 := ⟨Int.emod_nonneg _ (by omega), by have := Int.emod_lt_of_pos n (by omega : 0 < w); omega⟩
theorem nextNode_c (w h n p : Int) : vcall C frz 50 [.agg #[.int .i64 w, .int .i64 h], .int .i64 n, .int .i64 p] H = some (.int .i64 (next w h n p), H) := by
  rw [vcall_go (fn := Tryz.f50) Tryz.func50 rfl (by kernel_rfl) rfl]
  simp [isNode_c]
  refine br_dec _ ?_ ?_ <;> intro h1 <;> simp [h1, next]
  obtain ⟨⟨⟨a1, a2⟩, b1, b2⟩, g2, g3, g4⟩ := isN_ok h1
  rw [go_draw (h := by kernel_rfl)]
  simp
  refine vneed_eq (by omega) ?_
  refine vneed_eq (by omega) ?_
  obtain ⟨d1, d2⟩ := div_small g2 a1 g4
  obtain ⟨m1, m2⟩ := mod_small (n := n) a1 a2
  rw [tdiv_of g2 a1 g4, tmod_of g2]
  refine br_dec _ ?_ ?_ <;> intro p0 <;> simp [p0, nodeAt_c]
  · rw [w64 (by omega) (by omega)]
  refine br_dec _ ?_ ?_ <;> intro p1 <;> simp [p1, nodeAt_c]
  · rw [w64 (by omega) (by omega)]
  refine br_dec _ ?_ ?_ <;> intro p2 <;> simp [p2, nodeAt_c]
  · rw [w64 (by omega) (by omega)]
  refine br_dec _ ?_ ?_ <;> intro p3 <;> simp [p3, nodeAt_c]
  · rw [w64 (by omega) (by omega)]
  refine br_dec _ ?_ ?_ <;> intro p4 <;> simp [p4, nodeAt_c]
theorem sNextNode_c (w h n p : Int) : vcall C frz 81 [.agg #[.int .i64 w, .int .i64 h], .int .i64 n, .int .i64 p] H = some (.int .i64 (next w h n p), H) := by
  rw [vcall_go (fn := Tryz.f81) Tryz.func81 rfl (by kernel_rfl) rfl]
  simp [l02Has_c]
  refine br_dec _ ?_ ?_ <;> intro h1 <;> simp [h1, next]
  obtain ⟨⟨⟨a1, a2⟩, b1, b2⟩, g2, g3, g4⟩ := isN_ok h1
  refine vneed_eq (by omega) ?_
  refine vneed_eq (by omega) ?_
  obtain ⟨d1, d2⟩ := div_small g2 a1 g4
  obtain ⟨m1, m2⟩ := mod_small (n := n) a1 a2
  rw [tdiv_of g2 a1 g4, tmod_of g2]
  refine br_dec _ ?_ ?_ <;> intro p0 <;> simp [p0, sNodeAt_c]
  · rw [w64 (by omega) (by omega)]
  refine br_dec _ ?_ ?_ <;> intro p1 <;> simp [p1, sNodeAt_c]
  · rw [w64 (by omega) (by omega)]
  refine br_dec _ ?_ ?_ <;> intro p2 <;> simp [p2, sNodeAt_c]
  · rw [w64 (by omega) (by omega)]
  refine br_dec _ ?_ ?_ <;> intro p3 <;> simp [p3, sNodeAt_c]
  · rw [w64 (by omega) (by omega)]
  refine br_dec _ ?_ ?_ <;> intro p4 <;> simp [p4, sNodeAt_c]
theorem next_range (w h n p : Int) : -1 ≤ next w h n p ∧ next w h n p < 16 := by
  unfold next
  split
  · rename_i h1
    have := isN_ok h1
    have a0 := nodeAt_range w h (n % w) (n / w - 1)
    have a1 := nodeAt_range w h (n % w + 1) (n / w)
    have a2 := nodeAt_range w h (n % w) (n / w + 1)
    have a3 := nodeAt_range w h (n % w - 1) (n / w)
    repeat' split
    all_goals omega
  · omega
theorem chan_inR (w h c : Int) : inR 0 c (IntKind.i64.wrap (IntKind.i64.wrap (4 * cnt w h) - 1)) ↔ 0 ≤ c ∧ c < 4 * cnt w h := by
  have := cnt_range w h
  rw [w64 (x := 4 * cnt w h) (by omega) (by omega), w64 (by omega) (by omega)]
  simp only [inR]; omega
theorem chan_div {w h c : Int} (h1 : 0 ≤ c ∧ c < 4 * cnt w h) : IntKind.i64.wrap (c.tdiv 4) = c / 4 ∧ c.tmod 4 = c % 4 := by
  have := cnt_range w h
  rw [Int.tdiv_eq_ediv_of_nonneg h1.1, Int.tmod_eq_emod_of_nonneg h1.1]
  exact ⟨w64 (by omega) (by omega), rfl⟩
theorem leads_c (w h c : Int) : vcall C frz 59 [.agg #[.int .i64 w, .int .i64 h], .int .i64 c] H = some (.bool (decide (leads w h c)), H) := by
  rw [vcall_go (fn := Tryz.f59) Tryz.func59 rfl (by kernel_rfl) rfl]
  simp [nodeCount_c, inside_c]
  refine gd_dec _ _ ?_ ?_ <;> intro h1 <;> simp [h1]
  · rw [chan_inR] at h1
    obtain ⟨e1, e2⟩ := chan_div h1
    simp [e1, e2, nextNode_c, leads, h1]
  · rw [chan_inR] at h1
    exact fun g => h1 g.1
theorem l03Leads_c (w h c : Int) : vcall C frz 96 [.agg #[.int .i64 w, .int .i64 h], .int .i64 c] H = some (.bool (decide (leads w h c)), H) := by
  rw [vcall_go (fn := Tryz.f96) Tryz.func96 rfl (by kernel_rfl) rfl]
  simp [sNodeCount_c, l01In_c]
  refine gd_dec _ _ ?_ ?_ <;> intro h1 <;> simp [h1]
  · rw [chan_inR] at h1
    obtain ⟨e1, e2⟩ := chan_div h1
    simp [e1, e2, sNextNode_c, leads, h1]
  · rw [chan_inR] at h1
    exact fun g => h1 g.1
end Go.Proofs.YtlbbalmeaedbdaaGreat.V
/-! What the laws' own functions return: arguments copied, compared, counted. -/
set_option linter.all false
namespace Go.Proofs.YtlbbalmeaedbdaaGreat.V
open Go Go.VM Go.Proofs
set_option maxRecDepth 10000
variable {frz : Nat} {H : Heap}
theorem getD_get (xs : List Int) (i : Nat) (h : i < xs.length) : xs.getD i 0 = xs[i] := by simp [List.getD_eq_getElem?_getD, h]
end Go.Proofs.YtlbbalmeaedbdaaGreat.V
/-! What the laws' own functions return: meshes copied and compared. -/
set_option linter.all false
namespace Go.Proofs.YtlbbalmeaedbdaaGreat.V
open Go Go.VM Go.Proofs
set_option maxRecDepth 10000
variable {frz : Nat} {H : Heap}
end Go.Proofs.YtlbbalmeaedbdaaGreat.V
/-! slices.Concat on two slices of numbers. -/
set_option linter.all false
namespace Go.Proofs.YtlbbalmeaedbdaaGreat.V
open Go Go.VM Go.Proofs
set_option maxRecDepth 10000
variable {frz : Nat} {H : Heap}
theorem wr0 : IntKind.i64.wrap 0 = 0 := by decide
theorem grow0_c : vcall C frz 77 [.slice none 0 0, .int .i64 0] H = some (.slice none 0 0, H) := by
  rw [vcall_go (fn := Tryz.f77) Tryz.func77 rfl (by kernel_rfl) rfl]
  simp [wr0]
theorem grow_c (n : Int) (h0 : 0 < n) (h1 : n ≤ 1073741824) :
   vcall C frz 77 [.slice none 0 0, .int .i64 n] H = some (.slice (some ⟨H.length, 0, some 0⟩) 0 0, H ++ [⟨[], 0, 3⟩]) := by
  rw [vcall_go (fn := Tryz.f77) Tryz.func77 rfl (by kernel_rfl) rfl]
  have e : IntKind.i64.wrap n = n := w64 (by omega) (by omega)
  simp [wr0, e, h0]
  refine br_dec _ ?_ ?_ <;> intro h2
  · omega
  simp [h2, wr0, e, h0]
  exact vneed_eq h1 (vneed_eq (by omega) rfl)
theorem concat_c (id : Nat) (x y : Value) (xs ys : List Int) (hr : H[id]? = some ⟨[x, y], 0, 26⟩) (hx : IsI H x xs) (hy : IsI H y ys) (hl : xs.length + ys.length ≤ 1073741824) :
   vcall C frz 55 [.slice (some ⟨id, 0, some 0⟩) 2 0] H = some (if xs ++ ys = [] then (.slice none 0 0, H) else (.slice (some ⟨H.length, 0, some 0⟩) (xs ++ ys).length 0, H ++ [⟨(xs ++ ys).map (.int .i64), 0, 3⟩])) := by
  rw [vcall_go (fn := Tryz.f55) Tryz.func55 rfl (by kernel_rfl) rfl]
  simp [VM.look, hr]
  have lk0 : ∀ o, VM.look H ⟨id, o, some 0⟩ = some ⟨[x, y], 0, 26⟩ := fun o => by simp [VM.look, hr]
  have lk : ∀ L o, VM.look (H ++ L) ⟨id, o, some 0⟩ = some ⟨[x, y], 0, 26⟩ := fun L o => by
    simp [VM.look, List.getElem?_append_left (List.getElem?_eq_some_iff.1 hr).1, hr]
  have e1 : IntKind.i64.wrap (xs.length : Int) = xs.length := w64 (by omega) (by omega)
  have e2 : IntKind.i64.wrap ((xs.length : Int) + ys.length) = xs.length + ys.length := w64 (by omega) (by omega)
  have n1 : ¬ (xs.length : Int) < 0 := by omega
  have n2 : ¬ (xs.length : Int) + ys.length < 0 := by omega
  have wr1 : IntKind.i64.wrap 1 = 1 := by decide
  have wr2 : IntKind.i64.wrap 2 = 2 := by decide
  rw [go_loop]
  simp [VM.look, hr, hx.len, hy.len, wr0, wr1, wr2, e1, n1]
  rw [go_again, go_loop]
  simp [VM.look, hr, hx.len, hy.len, wr0, wr1, wr2, e1, e2, n1, n2]
  rw [go_again, go_loop]
  simp [VM.look, hr, hx.len, hy.len, wr0, wr1, wr2, e1, e2, n1, n2]
  by_cases h0 : xs.length + ys.length = 0
  · obtain rfl : xs = [] := List.length_eq_zero_iff.1 (by omega)
    obtain rfl : ys = [] := List.length_eq_zero_iff.1 (by omega)
    simp [grow0_c, lk0]
    rw [go_loop]
    simp [lk0, hx.src, wr0, wr1]
    rw [go_again, go_loop]
    simp [lk0, hy.src, wr0, wr1, wr2]
    rw [go_again, go_loop]
    simp [lk0, wr0, wr1, wr2]
  · have hno : ¬ (xs = [] ∧ ys = []) := fun ⟨a, b⟩ => h0 (by rw [a, b]; rfl)
    simp [grow_c _ (show (0 : Int) < xs.length + ys.length by omega) (by omega), hno, lk]
    rw [go_loop]
    simp [lk, (hx.app _).src, wr0, wr1]
    by_cases hx0 : xs = []
    · have hy0 : ys ≠ [] := fun hh => hno ⟨hx0, hh⟩
      have hyl : ys.length ≤ 1073741824 := by omega
      simp [hx0]
      rw [go_again, go_loop]
      simp [lk, (hy.app _).src, wr0, wr1, wr2, hy0, hyl]
      rw [go_again, go_loop]
      simp [lk, wr0, wr1, wr2]
    · have hxl : xs.length ≤ 1073741824 := by omega
      simp [hx0, hxl]
      rw [go_again, go_loop]
      simp [lk, (hy.app _).src, wr0, wr1, wr2]
      by_cases hy0 : ys = []
      · simp [hy0]
        rw [go_again, go_loop]
        simp [lk, wr0, wr1, wr2]
      · simp [hy0, hl]
        rw [go_again, go_loop]
        simp [lk, wr0, wr1, wr2]
end Go.Proofs.YtlbbalmeaedbdaaGreat.V
/-! What the functions on meshes return. -/
set_option linter.all false
namespace Go.Proofs.YtlbbalmeaedbdaaGreat.V
open Go Go.VM Go.Proofs
set_option maxRecDepth 10000
variable {frz : Nat} {H : Heap}
theorem goodAt_bad {w h : Int} {b : List Int} {i : Nat} (h5 : i < b.length) (hg : ¬ goodAt w h b i) : ¬ meshOk w h b := fun hh => hg (hh.1 i h5)
theorem goodAt_succ {w h : Int} {b : List Int} {i : Nat} (hj : ∀ j < i, goodAt w h b j) (hg : goodAt w h b i) : ∀ j < i + 1, goodAt w h b j := fun j hh => by
  by_cases hji : j < i
  · exact hj j hji
  · have : j = i := by omega
    rw [this]; exact hg
theorem goodAt_iff {w h : Int} {b : List Int} {i : Nat} (h5 : i < b.length) : goodAt w h b i ↔ leads w h b[i] ∧ (0 < i → b[i - 1] < b[i]) := by
  unfold goodAt
  rw [getD_get _ _ h5]
  refine and_congr Iff.rfl ⟨fun g p => ?_, fun g p => ?_⟩
  · have := g p; rwa [getD_get _ _ (by omega)] at this
  · rw [getD_get _ _ (by omega)]; exact g p
theorem sMeshOk_c (w h : Int) (v : Value) (b : List Int) (hI : IsI H v b) (hl : b.length ≤ 1073741824) :
   vcall C frz 78 [.agg #[.int .i64 w, .int .i64 h, v]] H = some (.bool (decide (meshOk w h b)), H) := by
  rw [vcall_go (fn := Tryz.f78) Tryz.func78 rfl (by kernel_rfl) rfl]
  simp [hI.one', hI.cells, hI.lenA, sGridOk_c]
  refine br_dec _ ?_ ?_ <;> intro hg <;> simp [hg]
  · refine go_inv (fun n t H' => ∃ i : Nat, n = b.length - i ∧ i ≤ b.length ∧ t 1 = .pointer (some ⟨H.length, 0, some 0⟩) ∧ t 3 = .int .i64 i ∧
      H' = H ++ [⟨[.int .i64 w, .int .i64 h, v], 0, 28⟩] ∧ ∀ j < i, goodAt w h b j) ?_ (n := b.length) ⟨0, by simp⟩
    rintro n t H' ⟨i, rfl, hi, h1, h3, rfl, hj⟩ ih
    have next := fun (t' : Env) (e1 : t' 1 = .pointer (some ⟨H.length, 0, some 0⟩)) (e2 : t' 3 = .int .i64 (i + 1 : Nat)) (e3 : i < b.length) (e4 : goodAt w h b i) =>
      ih (b.length - (i + 1)) t' _ ⟨i + 1, rfl, by omega, e1, e2, rfl, goodAt_succ hj e4⟩ (by omega)
    simp [h1, h3, hI.lenA]
    refine br_dec _ ?_ ?_ <;> intro h5
    · simp [h1, h3, h5]
      rw [go_draw (h := by kernel_rfl)]
      simp [h1, h3, h5, hI.idxA, hI.loadA, getD_get, l03Leads_c]

      refine gd_dec _ _ ?_ ?_ <;> intro hL <;> simp [h1, h3, h5, hL]
      · refine gd_dec _ _ ?_ ?_ <;> intro h0
        · have e : IntKind.i64.wrap ((i : Int) - 1) = ((i - 1 : Nat) : Int) := by rw [w64 (by omega) (by omega)]; omega
          have e' : i - 1 < b.length := by omega
          simp [h1, h3, h5, h0, hL, hI.idxA, hI.loadA, getD_get, e, e']
          refine br_dec _ ?_ ?_ <;> intro h6
          · simp [h1, h3, h5, h0, hL, h6]
            refine goodAt_bad h5 ?_
            rw [goodAt_iff h5]
            exact fun hh => absurd (hh.2 h0) (by omega)
          · simp [h1, h3, h5, h0, hL, h6]
            refine next _ (by simp [h1]) ?_ h5 ((goodAt_iff h5).2 ⟨hL, fun _ => by omega⟩)
            simp; rw [w64 (by omega) (by omega)]
        · simp [h1, h3, h5, h0, hL]
          refine next _ (by simp [h1]) ?_ h5 ((goodAt_iff h5).2 ⟨hL, fun hh => absurd hh h0⟩)
          simp; rw [w64 (by omega) (by omega)]
      · refine goodAt_bad h5 ?_
        rw [goodAt_iff h5]
        exact fun hh => hL hh.1
    · have : i = b.length := by omega
      subst this
      simp [h1, h3]
      exact ⟨hj, hg⟩
  · exact fun hh => hg hh.2
theorem notin_succ {b : List Int} {c : Int} {i : Nat} (h : i < b.length) (h1 : c ∉ b.take i) (h2 : ¬ b[i] = c) : c ∉ b.take (i + 1) := by
  rw [List.take_succ_eq_append_getElem h]
  simp only [List.mem_append, List.mem_singleton, not_or]
  exact ⟨h1, fun hh => h2 hh.symm⟩
/-- the place of a number, or -1 -/
def place (b : List Int) (c : Int) : Int := if c ∈ b then b.idxOf c else -1
theorem place_range (b : List Int) (c : Int) : -1 ≤ place b c ∧ place b c < b.length ∧ (0 ≤ place b c ↔ c ∈ b) := by
  unfold place
  split
  · rename_i h
    have := List.idxOf_lt_length_iff.2 h
    refine ⟨by omega, by omega, ?_⟩
    simp [h]
  · rename_i h
    refine ⟨by omega, by omega, ?_⟩
    simp [h]
theorem place_at {b : List Int} {c : Int} {i : Nat} (h : i < b.length) (h1 : c ∉ b.take i) (h2 : b[i] = c) : place b c = i := by
  have hm : c ∈ b := h2 ▸ List.getElem_mem h
  unfold place
  rw [if_pos hm]
  have e : b = b.take i ++ b.drop i := (List.take_append_drop i b).symm
  have e2 : b.drop i = c :: b.drop (i + 1) := by rw [List.drop_eq_getElem_cons h, h2]
  rw [e, List.idxOf_append, if_neg h1, e2, List.idxOf_cons_self]
  simp; omega
theorem find_c (v : Value) (b : List Int) (c : Int) (hI : IsI H v b) (hl : b.length ≤ 1073741824) :
   vcall C frz 108 [v, .int .i64 c] H = some (.bool (decide (c ∈ b)), H) := by
  rw [vcall_go (fn := Tryz.f108) Tryz.func108 rfl (by kernel_rfl) rfl]
  simp [hI.len]
  refine go_inv (fun n t H' => ∃ i : Nat, n = b.length - i ∧ i ≤ b.length ∧ t 0 = v ∧ t 1 = .int .i64 c ∧ t 5 = .int .i64 i ∧ H' = H ∧ c ∉ b.take i) ?_ (n := b.length) ⟨0, by simp⟩
  rintro n t H' ⟨i, rfl, hi, h1, h2, h3, rfl, hj⟩ ih
  simp [h1, h2, h3, hI.len]
  refine br_dec _ ?_ ?_ <;> intro h5
  · simp [h1, h2, h3, h5, hI.idx, hI.load, getD_get]
    refine br_dec _ ?_ ?_ <;> intro h6 <;> simp [h1, h2, h3, h6]
    · rw [← h6]; exact List.getElem_mem h5
    · refine ih (b.length - (i + 1)) _ _ ⟨i + 1, rfl, by omega, by simp [h1], by simp [h2], ?_, rfl, notin_succ h5 hj h6⟩ (by omega)
      simp; rw [w64 (by omega) (by omega)]
  · have : i = b.length := by omega
    subst this
    simp [h1, h2, h3]
    rwa [List.take_length] at hj
theorem index_c (v : Value) (b : List Int) (c : Int) (hI : IsI H v b) (hl : b.length ≤ 1073741824) :
   vcall C frz 53 [v, .int .i64 c] H = some (.int .i64 (place b c), H) := by
  rw [vcall_go (fn := Tryz.f53) Tryz.func53 rfl (by kernel_rfl) rfl]
  simp [hI.len]
  refine go_inv (fun n t H' => ∃ i : Nat, n = b.length - i ∧ i ≤ b.length ∧ t 0 = v ∧ t 1 = .int .i64 c ∧ t 6 = v ∧ t 7 = .int .i64 b.length ∧ t 8 = .int .i64 i ∧ H' = H ∧ c ∉ b.take i) ?_ (n := b.length) ⟨0, by simp⟩
  rintro n t H' ⟨i, rfl, hi, h0, h1, h2, h3, h4, rfl, hj⟩ ih
  simp [h0, h1, h2, h3, h4, hI.len]
  refine br_dec _ ?_ ?_ <;> intro h5
  · simp [h0, h1, h2, h3, h4, h5, hI.idx, hI.load, getD_get]
    refine br_dec _ ?_ ?_ <;> intro h6 <;> simp [h0, h1, h2, h3, h4, h6]
    · rw [place_at (c := b[i]) h5 (by first | exact hj | (rw [h6]; exact hj) | (rw [← h6]; exact hj)) rfl]
    · refine ih (b.length - (i + 1)) _ _ ⟨i + 1, rfl, by omega, by simp [h0], by simp [h1], by simp [h2], by simp [h3], ?_, rfl, notin_succ h5 hj (by omega)⟩ (by omega)
      simp; rw [w64 (by omega) (by omega)]
  · have : i = b.length := by omega
    subst this
    simp [h0, h1, h2, h3]
    rw [List.take_length] at hj
    rw [place, if_neg hj]
theorem contains_c (v : Value) (b : List Int) (c : Int) (hI : IsI H v b) (hl : b.length ≤ 1073741824) :
   vcall C frz 38 [v, .int .i64 c] H = some (.bool (decide (c ∈ b)), H) := by
  rw [vcall_go (fn := Tryz.f38) Tryz.func38 rfl (by kernel_rfl) rfl]
  simp [index_c _ _ _ hI hl, place_range]
theorem l03Has_c (w h : Int) (v : Value) (b : List Int) (c : Int) (hI : IsI H v b) (hl : b.length ≤ 1073741824) :
   vcall C frz 93 [.agg #[.int .i64 w, .int .i64 h, v], .int .i64 c] H = some (.bool (decide (has w h b c)), H) := by
  rw [vcall_go (fn := Tryz.f93) Tryz.func93 rfl (by kernel_rfl) rfl]
  simp [hI.one', hI.cells, l03Leads_c]
  refine gd_dec _ _ ?_ ?_ <;> intro h1 <;> simp [h1, find_c _ _ _ (hI.app _) hl, has, -Bool.decide_and]
theorem l31Ok_c (w h : Int) (v : Value) (b : List Int) (r : Int) (hI : IsI H v b) (hl : b.length ≤ 1073741824) :
   vcall C frz 56 [.agg #[.int .i64 w, .int .i64 h, v], .int .i64 r] H = some (.bool (decide (meshOk w h b ∧ isN w h r)), H) := by
  rw [vcall_go (fn := Tryz.f56) Tryz.func56 rfl (by kernel_rfl) rfl]
  simp [hI.one', hI.cells, sMeshOk_c _ _ _ _ (hI.app _) hl]
  refine gd_dec _ _ ?_ ?_ <;> intro h1 <;> simp [h1, l02Has_c, -Bool.decide_and]
theorem endOf_c (w h : Int) (v : Value) (b : List Int) (c : Int) (hI : IsI H v b) (h0 : leads w h c) :
   vcall C frz 49 [.agg #[.int .i64 w, .int .i64 h, v], .int .i64 c] H = some (.int .i64 (next w h (c / 4) (c % 4)), H) := by
  rw [vcall_go (fn := Tryz.f49) Tryz.func49 rfl (by kernel_rfl) rfl]
  obtain ⟨e1, e2⟩ := chan_div h0.1
  simp [hI.one', hI.cells, e1, e2, nextNode_c]
theorem meshOk_c (w h : Int) (v : Value) (b : List Int) (hI : IsI H v b) (hl : b.length ≤ 1073741824) :
   vcall C frz 28 [.agg #[.int .i64 w, .int .i64 h, v]] H = some (.bool (decide (meshOk w h b)), H) := by
  rw [vcall_go (fn := Tryz.f28) Tryz.func28 rfl (by kernel_rfl) rfl]
  simp [hI.one', hI.cells, hI.lenA]
  refine go_inv (fun n t H' => ∃ i : Nat, n = b.length - i ∧ i ≤ b.length ∧ t 1 = .pointer (some ⟨H.length, 0, some 0⟩) ∧ t 6 = v ∧ t 7 = .int .i64 b.length ∧ t 8 = .int .i64 i ∧
      H' = H ++ [⟨[.int .i64 w, .int .i64 h, v], 0, 28⟩] ∧ ∀ j < i, goodAt w h b j) ?_ (n := b.length) ⟨0, by simp⟩
  rintro n t H' ⟨i, rfl, hi, h1, h2, h3, h4, rfl, hj⟩ ih
  have next := fun (t' : Env) (e1 : t' 1 = .pointer (some ⟨H.length, 0, some 0⟩)) (e2 : t' 6 = v) (e3 : t' 7 = .int .i64 b.length) (e4 : t' 8 = .int .i64 (i + 1 : Nat)) (e5 : i < b.length) (e6 : goodAt w h b i) =>
      ih (b.length - (i + 1)) t' _ ⟨i + 1, rfl, by omega, e1, e2, e3, e4, rfl, goodAt_succ hj e6⟩ (by omega)
  simp [h1, h2, h3, h4]
  refine br_dec _ ?_ ?_ <;> intro h5
  · simp [h1, h2, h3, h4, h5, hI.idxA, hI.loadA, getD_get, leads_c]
    refine gd_dec _ _ ?_ ?_ <;> intro hL <;> simp [h1, h2, h3, h4, h5, hL]
    · refine gd_dec _ _ ?_ ?_ <;> intro h0
      · have e : IntKind.i64.wrap ((i : Int) - 1) = ((i - 1 : Nat) : Int) := by rw [w64 (by omega) (by omega)]; omega
        have e' : i - 1 < b.length := by omega
        simp [h1, h2, h3, h4, h5, h0, hL, hI.idxA, hI.loadA, getD_get, e, e']
        refine br_dec _ ?_ ?_ <;> intro h6
        · simp [h1, h2, h3, h4, h5, h0, hL, h6]
          refine goodAt_bad h5 ?_
          rw [goodAt_iff h5]
          exact fun hh => absurd (hh.2 h0) (by omega)
        · simp [h1, h2, h3, h4, h5, h0, hL, h6]
          refine next _ (by simp [h1]) (by simp [h2]) (by simp [h3]) ?_ h5 ((goodAt_iff h5).2 ⟨hL, fun _ => by omega⟩)
          simp; rw [w64 (by omega) (by omega)]
      · simp [h1, h2, h3, h4, h5, h0, hL]
        refine next _ (by simp [h1]) (by simp [h2]) (by simp [h3]) ?_ h5 ((goodAt_iff h5).2 ⟨hL, fun hh => absurd hh h0⟩)
        simp; rw [w64 (by omega) (by omega)]
    · refine goodAt_bad h5 ?_
      rw [goodAt_iff h5]
      exact fun hh => hL hh.1
  · have : i = b.length := by omega
    subst this
    simp [h1, h2, h3, h4, gridOk_c]
    exact ⟨fun hg => ⟨hj, hg⟩, fun hh => hh.2⟩
theorem isRoot_c (w h : Int) (v : Value) (b : List Int) (r : Int) (hI : IsI H v b) (hl : b.length ≤ 1073741824) :
   vcall C frz 32 [.agg #[.int .i64 w, .int .i64 h, v], .int .i64 r] H = some (.bool (decide (meshOk w h b ∧ isN w h r)), H) := by
  rw [vcall_go (fn := Tryz.f32) Tryz.func32 rfl (by kernel_rfl) rfl]
  simp [hI.one', hI.cells, meshOk_c _ _ _ _ (hI.app _) hl]
  refine gd_dec _ _ ?_ ?_ <;> intro h1 <;> simp [h1, isNode_c, -Bool.decide_and]
theorem hasChannel_c (w h : Int) (v : Value) (b : List Int) (c : Int) (hI : IsI H v b) (hl : b.length ≤ 1073741824) :
   vcall C frz 61 [.agg #[.int .i64 w, .int .i64 h, v], .int .i64 c] H = some (.bool (decide (meshOk w h b ∧ has w h b c)), H) := by
  rw [vcall_go (fn := Tryz.f61) Tryz.func61 rfl (by kernel_rfl) rfl]
  simp [hI.one', hI.cells, meshOk_c _ _ _ _ (hI.app _) hl]
  refine gd_dec _ _ ?_ ?_ <;> intro h1 <;> simp [h1, leads_c, -Bool.decide_and]
  refine gd_dec _ _ ?_ ?_ <;> intro h2 <;> simp [h2, has, contains_c _ _ _ (hI.app _) hl, -Bool.decide_and]
end Go.Proofs.YtlbbalmeaedbdaaGreat.V
/-! Tables: the plain walk. -/
set_option linter.all false
namespace Go.Proofs.YtlbbalmeaedbdaaGreat.V
open Go Go.VM Go.Proofs
set_option maxRecDepth 10000
def portOf (w h : Int) (T : List Int) (a to : Int) : Int := rd T (a * cnt w h + to)
def stepOk (w h : Int) (b T : List Int) (a to : Int) : Prop := inR 0 (portOf w h T a to) 3 ∧ has w h b (4 * a + portOf w h T a to)
instance (w h : Int) (b T : List Int) (a to : Int) : Decidable (stepOk w h b T a to) := inferInstanceAs (Decidable (_ ∧ _))
def walkN (w h : Int) (b T : List Int) (to : Int) : Nat → Int → List Int → List Int
  | 0, a, out => if portOf w h T a to = 4 then (if a = to then out else []) else []
  | f + 1, a, out => if portOf w h T a to = 4 then (if a = to then out else []) else
      if stepOk w h b T a to then walkN w h b T to f (next w h a (portOf w h T a to)) (out ++ [4 * a + portOf w h T a to]) else []
/-- the walk of a table -/
def walk (w h : Int) (b T : List Int) (a to : Int) : List Int := walkN w h b T to (cnt w h).toNat a []
def tsized (w h : Int) (b T : List Int) : Prop := meshOk w h b ∧ (T.length : Int) = cnt w h * cnt w h
instance (w h : Int) (b T : List Int) : Decidable (tsized w h b T) := inferInstanceAs (Decidable (_ ∧ _))
def tableOk (w h : Int) (b T : List Int) : Prop := tsized w h b T ∧ ∀ a, a < (cnt w h).toNat → ∀ c, c < (cnt w h).toNat → (a = c → portOf w h T a a = 4) ∧ (a ≠ c → walk w h b T a c ≠ [])
instance (w h : Int) (b T : List Int) : Decidable (tableOk w h b T) := inferInstanceAs (Decidable (_ ∧ _))
theorem walkN_len (w h : Int) (b T : List Int) (to : Int) : ∀ f a out, (walkN w h b T to f a out).length ≤ out.length + f := by
  intro f
  induction f with
  | zero => intro a out; simp only [walkN]; repeat' split
            all_goals simp
  | succ f ih =>
    intro a out; simp only [walkN]; repeat' split
    · omega
    · simp
    · have := ih (next w h a (portOf w h T a to)) (out ++ [4 * a + portOf w h T a to])
      simp at this; omega
    · simp
theorem nodeAt_isN {w h x y : Int} (hx : 0 ≤ nodeAt w h x y) : isN w h (nodeAt w h x y) := by
  refine ⟨hx, ?_⟩
  unfold nodeAt at hx ⊢
  split
  · rename_i h1
    obtain ⟨h1, h2, h3⟩ := h1
    have hm := mul_small h1
    have c2 : y * w ≤ (h - 1) * w := Int.mul_le_mul_of_nonneg_right (by omega) (by have := h1.1.1; omega)
    rw [Int.sub_mul, Int.mul_comm h w] at c2
    rw [cnt, if_pos h1]
    omega
  · rename_i h1; rw [if_neg h1] at hx; omega
theorem next_isN {w h a p : Int} (hx : 0 ≤ next w h a p) : isN w h (next w h a p) := by
  unfold next at hx ⊢
  by_cases h1 : isN w h a
  · rw [if_pos h1] at hx ⊢
    by_cases p0 : p = 0
    · rw [if_pos p0] at hx ⊢; exact nodeAt_isN hx
    rw [if_neg p0] at hx ⊢
    by_cases p1 : p = 1
    · rw [if_pos p1] at hx ⊢; exact nodeAt_isN hx
    rw [if_neg p1] at hx ⊢
    by_cases p2 : p = 2
    · rw [if_pos p2] at hx ⊢; exact nodeAt_isN hx
    rw [if_neg p2] at hx ⊢
    by_cases p3 : p = 3
    · rw [if_pos p3] at hx ⊢; exact nodeAt_isN hx
    rw [if_neg p3] at hx ⊢
    by_cases p4 : p = 4
    · rw [if_pos p4] at hx ⊢; exact h1
    rw [if_neg p4] at hx; omega
  · rw [if_neg h1] at hx; omega
theorem step_next {w h a p : Int} {b : List Int} (h0 : inR 0 p 3) (h1 : has w h b (4 * a + p)) : (4 * a + p) / 4 = a ∧ (4 * a + p) % 4 = p ∧ isN w h (next w h a p) := by
  obtain ⟨h2, h3⟩ := h0
  have e1 : (4 * a + p) / 4 = a := by omega
  have e2 : (4 * a + p) % 4 = p := by omega
  refine ⟨e1, e2, next_isN ?_⟩
  have := h1.1.2
  rwa [e1, e2] at this
theorem at_small {w h a to : Int} (h1 : isN w h a) (h2 : isN w h to) : 0 ≤ a * cnt w h + to ∧ a * cnt w h + to < cnt w h * cnt w h ∧ a * cnt w h ≤ 256 ∧ 0 ≤ a * cnt w h := by
  have hc := cnt_range w h
  obtain ⟨a1, a2⟩ := h1
  obtain ⟨b1, b2⟩ := h2
  have c1 : 0 * 0 ≤ a * cnt w h := Int.mul_le_mul a1 hc.1 (by omega) (by omega)
  have c2 : a * cnt w h ≤ (cnt w h - 1) * cnt w h := Int.mul_le_mul_of_nonneg_right (by omega) hc.1
  rw [Int.sub_mul] at c2
  have c3 : cnt w h * cnt w h ≤ 16 * 16 := Int.mul_le_mul hc.2 hc.2 hc.1 (by omega)
  omega
theorem rd_get {T : List Int} {k : Int} (h0 : 0 ≤ k) (h1 : k < T.length) : T.getD k.toNat 0 = rd T k := rfl
end Go.Proofs.YtlbbalmeaedbdaaGreat.V
/-! Trees: the plain side. -/
set_option linter.all false
namespace Go.Proofs.YtlbbalmeaedbdaaGreat.V
open Go Go.VM
theorem rd_at {s : List Int} {j : Nat} (h : j < s.length) : rd s (j : Int) = s[j] := by simp [rd, List.getD_eq_getElem?_getD, h]
theorem rd_mem {s : List Int} {k : Int} (h0 : 0 ≤ k) (h1 : k < s.length) : rd s k ∈ s := by
  obtain ⟨i, rfl⟩ := Int.eq_ofNat_of_zero_le h0
  rw [rd_at (by omega)]; exact List.getElem_mem _
theorem meshOk_iff (w h : Int) (b : List Int) : meshOk w h b ↔ okG w h ∧ (∀ c ∈ b, leads w h c) ∧ b.Pairwise (· < ·) := by
  have e : ∀ j, j < b.length → b.getD j 0 = rd b (j : Int) := fun j _ => by simp [rd]
  constructor
  · rintro ⟨h1, h2⟩
    refine ⟨h2, fun c hc => ?_, ?_⟩
    · obtain ⟨j, hj, rfl⟩ := List.getElem_of_mem hc
      have := (h1 j hj).1
      rwa [getD_get _ _ hj] at this
    · rw [List.pairwise_iff_getElem]
      intro i j hi hj hij
      induction j with
      | zero => omega
      | succ j ih =>
        have := (h1 (j + 1) hj).2 (by omega)
        rw [getD_get _ _ hj, Nat.add_sub_cancel, getD_get _ _ (by omega)] at this
        by_cases h3 : i = j
        · subst h3; exact this
        · exact Int.lt_trans (ih (by omega) (by omega)) this
  · rintro ⟨h1, h2, h3⟩
    refine ⟨fun j hj => ⟨by rw [getD_get _ _ hj]; exact h2 _ (List.getElem_mem hj), fun h0 => ?_⟩, h1⟩
    rw [getD_get _ _ hj, getD_get _ _ (by omega)]
    exact List.pairwise_iff_getElem.1 h3 _ _ _ _ (by omega)
def endC (w h c : Int) : Int := next w h (c / 4) (c % 4)
def backC (w h c : Int) : Int := 4 * endC w h c + opp (c % 4)
def link (w h : Int) (b : List Int) (c : Int) : Prop := has w h b c ∧ has w h b (backC w h c)
instance (w h : Int) (b : List Int) (c : Int) : Decidable (link w h b c) := inferInstanceAs (Decidable (_ ∧ _))
theorem asc_length {n : Nat} : ∀ {b : List Int}, b.Pairwise (· < ·) → (∀ c ∈ b, 0 ≤ c ∧ c < (n : Int)) → b.length ≤ n := by
  intro b hb hc
  have key : ∀ (b : List Int) (lo : Int), b.Pairwise (· < ·) → (∀ c ∈ b, lo ≤ c ∧ c < (n : Int)) → 0 ≤ lo → (b.length : Int) ≤ max 0 (n - lo) := by
    intro b
    induction b with
    | nil => intro lo _ _ _; simp; omega
    | cons a l ih =>
      intro lo hp hm h0
      have h1 := hm a (by simp)
      have h2 := ih (a + 1) (List.pairwise_cons.1 hp).2 (fun c hc => ⟨by have := (List.pairwise_cons.1 hp).1 c hc; omega, (hm c (by simp [hc])).2⟩) (by omega)
      simp; omega
  have := key b 0 hb (fun c h => ⟨(hc c h).1, (hc c h).2⟩) (by omega)
  omega
def neg (s : List Int) : Nat := s.countP (· < 0)
theorem rd_set {s : List Int} {k x v : Int} (h0 : 0 ≤ k) (h1 : k < s.length) (hx : 0 ≤ x) : rd (s.set k.toNat v) x = if x = k then v else rd s x := by
  obtain ⟨i, rfl⟩ := Int.eq_ofNat_of_zero_le h0
  obtain ⟨j, rfl⟩ := Int.eq_ofNat_of_zero_le hx
  simp only [Int.toNat_natCast]
  by_cases hj : j < s.length
  · rw [rd_at (by simpa using hj), rd_at hj, List.getElem_set]
    by_cases e : i = j
    · subst e; simp
    · rw [if_neg e, if_neg (by omega)]
  · rw [if_neg (by omega)]
    simp [rd, hj]
theorem rd_neg_lt {s : List Int} {x : Int} (h0 : 0 ≤ x) (h : rd s x < 0) : x < s.length := by
  obtain ⟨j, rfl⟩ := Int.eq_ofNat_of_zero_le h0
  by_cases hj : j < s.length
  · omega
  · simp [rd, hj] at h
theorem neg_set {s : List Int} {k v : Int} (h0 : 0 ≤ k) (h1 : k < s.length) (h : rd s k < 0) (hv : 0 ≤ v) : neg (s.set k.toNat v) + 1 = neg s := by
  obtain ⟨i, rfl⟩ := Int.eq_ofNat_of_zero_le h0
  have hi : i < s.length := by omega
  rw [rd_at hi] at h
  unfold neg
  rw [Int.toNat_natCast, List.countP_set hi]
  have : 0 < s.countP (· < 0) := List.countP_pos_iff.2 ⟨_, List.getElem_mem hi, by simpa using h⟩
  rw [if_pos (by simpa using h), if_neg (by simp; omega)]
  omega
def vst (w h : Int) (b : List Int) (a d : Int) (x : List Int × List Int) (p : Nat) : List Int × List Int :=
  if link w h b (4 * a + p) ∧ rd x.1 (next w h a p) < 0 then (x.1.set (next w h a p).toNat d, x.2 ++ [next w h a p]) else x
def vis (w h : Int) (b : List Int) (a d : Int) (x : List Int × List Int) : List Int × List Int := (List.range 4).foldl (vst w h b a d) x
theorem link_next {w h : Int} {b : List Int} {a : Int} {p : Nat} (hp : p < 4) (h1 : link w h b (4 * a + p)) : isN w h a ∧ isN w h (next w h a p) ∧ endC w h (4 * a + p) = next w h a p := by
  obtain ⟨⟨⟨h2, h3⟩, _⟩, _⟩ := h1
  have e1 : (4 * a + (p : Int)) / 4 = a := by omega
  have e2 : (4 * a + (p : Int)) % 4 = p := by omega
  unfold endC
  rw [e1, e2] at h3 ⊢
  exact ⟨⟨by omega, by omega⟩, next_isN h3, rfl⟩
structure BExt (w h : Int) (d : Int) (x y : List Int × List Int) : Prop where
  len : y.1.length = x.1.length
  old : ∀ v, 0 ≤ v → 0 ≤ rd x.1 v → rd y.1 v = rd x.1 v
  new : ∀ v ∈ y.2, v ∈ x.2 ∨ (isN w h v ∧ rd y.1 v = d)
  sum : neg y.1 + y.2.length = neg x.1 + x.2.length
  pre : ∀ v ∈ x.2, v ∈ y.2
  low : (∀ v ∈ x.1, -1 ≤ v ∧ v ≤ d) → ∀ v ∈ y.1, -1 ≤ v ∧ v ≤ d
theorem BExt.rfl' {w h d : Int} {x : List Int × List Int} : BExt w h d x x := ⟨rfl, fun _ _ _ => rfl, fun _ h => .inl h, rfl, fun _ h => h, fun h => h⟩
theorem BExt.trans {w h d : Int} {x y z : List Int × List Int} (hd : 0 ≤ d) (a : BExt w h d x y) (b : BExt w h d y z) : BExt w h d x z where
  len := b.len.trans a.len
  old v h0 h1 := by
    have e := a.old v h0 h1
    rw [b.old v h0 (by omega), e]
  new v hv := by
    rcases b.new v hv with h1 | h1
    · rcases a.new v h1 with h2 | ⟨h2, h3⟩
      · exact .inl h2
      · exact .inr ⟨h2, by rw [b.old v h2.1 (by omega), h3]⟩
    · exact .inr h1
  sum := b.sum.trans a.sum
  pre v h := b.pre v (a.pre v h)
  low h := b.low (a.low h)
theorem vst_ext {w h : Int} {b : List Int} {a d : Int} {x : List Int × List Int} {p : Nat} (hp : p < 4) (hd : 0 ≤ d) : BExt w h d x (vst w h b a d x p) := by
  unfold vst
  by_cases hc : link w h b (4 * a + p) ∧ rd x.1 (next w h a p) < 0
  · rw [if_pos hc]
    obtain ⟨h1, h2, h3⟩ := link_next hp hc.1
    have h4 := rd_neg_lt h2.1 hc.2
    have := neg_set h2.1 h4 hc.2 hd
    refine ⟨by simp, fun v h0 h5 => ?_, fun v hv => ?_, by simp; omega, fun v hv => by simp [hv], fun hl v hv => ?_⟩
    · simp only
      rw [rd_set h2.1 h4 h0, if_neg (by intro e; subst e; omega)]
    · simp only [List.mem_append, List.mem_singleton] at hv
      rcases hv with hv | rfl
      · exact .inl hv
      · exact .inr ⟨h2, by simp only; rw [rd_set h2.1 h4 h2.1, if_pos rfl]⟩
    · rcases List.mem_or_eq_of_mem_set hv with h6 | rfl
      · exact hl v h6
      · omega
  · rw [if_neg hc]; exact BExt.rfl'
theorem foldl_ext {w h : Int} {b : List Int} {a d : Int} (hd : 0 ≤ d) : ∀ (l : List Nat) (x : List Int × List Int), (∀ p ∈ l, p < 4) → BExt w h d x (l.foldl (vst w h b a d) x)
  | [], x, _ => BExt.rfl'
  | p :: l, x, hp => (vst_ext (hp p (by simp)) hd).trans hd (foldl_ext hd l _ (fun q hq => hp q (by simp [hq])))
theorem vis_ext {w h : Int} {b : List Int} {a d : Int} (hd : 0 ≤ d) (x : List Int × List Int) : BExt w h d x (vis w h b a d x) := foldl_ext hd _ _ (by simp)
theorem vst_app {w h : Int} {b : List Int} {a d : Int} (s q q' : List Int) (p : Nat) : vst w h b a d (s, q ++ q') p = ((vst w h b a d (s, q') p).1, q ++ (vst w h b a d (s, q') p).2) := by
  unfold vst
  simp only
  split <;> simp
theorem foldl_app {w h : Int} {b : List Int} {a d : Int} (q : List Int) : ∀ (l : List Nat) (s q' : List Int), l.foldl (vst w h b a d) (s, q ++ q') = ((l.foldl (vst w h b a d) (s, q')).1, q ++ (l.foldl (vst w h b a d) (s, q')).2)
  | [], s, q' => rfl
  | p :: l, s, q' => by
    rw [List.foldl_cons, List.foldl_cons, vst_app]
    exact foldl_app q l _ _
theorem vis_app {w h : Int} {b : List Int} {a d : Int} (q s q' : List Int) : vis w h b a d (s, q ++ q') = ((vis w h b a d (s, q')).1, q ++ (vis w h b a d (s, q')).2) := foldl_app q _ _ _
inductive Run (w h : Int) (b : List Int) : List Int → List Int → List Int → Int → List Int → Prop
  | done (s : List Int) (d : Int) : Run w h b s [] [] d s
  | level {s : List Int} {x : Int} {nx : List Int} {d : Int} {r : List Int} : Run w h b s (x :: nx) [] (d + 1) r → Run w h b s [] (x :: nx) d r
  | node {s : List Int} {a : Int} {rest nx : List Int} {d : Int} {r : List Int} : Run w h b (vis w h b a d (s, nx)).1 rest (vis w h b a d (s, nx)).2 d r → Run w h b s (a :: rest) nx d r
structure Inv (w h : Int) (s rest nx : List Int) (d : Int) : Prop where
  len : (s.length : Int) = cnt w h
  fr : ∀ v ∈ rest, isN w h v ∧ rd s v = d - 1
  nw : ∀ v ∈ nx, isN w h v ∧ rd s v = d
  one : 1 ≤ d
  sum : d + neg s + nx.length ≤ cnt w h
  low : ∀ v ∈ s, -1 ≤ v ∧ v ≤ d
theorem Inv.level {w h : Int} {s nx : List Int} {x d : Int} (i : Inv w h s [] (x :: nx) d) : Inv w h s (x :: nx) [] (d + 1) :=
  ⟨i.len, fun v hv => ⟨(i.nw v hv).1, by have := (i.nw v hv).2; omega⟩, by simp, by have := i.one; omega, by have := i.sum; simp at this ⊢; omega, fun v hv => by have := i.low v hv; omega⟩
theorem Inv.node {w h : Int} {b s rest nx : List Int} {a d : Int} (i : Inv w h s (a :: rest) nx d) : Inv w h (vis w h b a d (s, nx)).1 rest (vis w h b a d (s, nx)).2 d := by
  have h1 := i.one
  have e := vis_ext (w := w) (h := h) (b := b) (a := a) (d := d) (by omega) (s, nx)
  refine ⟨by rw [e.len]; exact i.len, fun v hv => ?_, fun v hv => ?_, h1, ?_, e.low i.low⟩
  · obtain ⟨h2, h3⟩ := i.fr v (by simp [hv])
    exact ⟨h2, by rw [e.old v h2.1 (by simp only; omega)]; exact h3⟩
  · rcases e.new v hv with h2 | h2
    · obtain ⟨h3, h4⟩ := i.nw v h2
      exact ⟨h3, by rw [e.old v h3.1 (by simp only; omega)]; exact h4⟩
    · exact h2
  · have := e.sum; have := i.sum; simp only at *; omega
theorem run_ex {w h : Int} {b : List Int} : ∀ (m : Nat) (s rest nx : List Int) (d : Int), 3 * neg s + 2 * nx.length + rest.length ≤ m → Inv w h s rest nx d → ∃ r, Run w h b s rest nx d r := by
  intro m
  induction m with
  | zero =>
    intro s rest nx d hm i
    cases rest with
    | nil => cases nx with
      | nil => exact ⟨s, .done s d⟩
      | cons x nx => simp at hm
    | cons a rest => simp at hm
  | succ m ih =>
    intro s rest nx d hm i
    cases rest with
    | nil => cases nx with
      | nil => exact ⟨s, .done s d⟩
      | cons x nx =>
        obtain ⟨r, hr⟩ := ih s (x :: nx) [] (d + 1) (by simp at hm ⊢; omega) i.level
        exact ⟨r, .level hr⟩
    | cons a rest =>
      have e := (vis_ext (w := w) (h := h) (b := b) (a := a) (d := d) (by have := i.one; omega) (s, nx)).sum
      have e2 := (vis_ext (w := w) (h := h) (b := b) (a := a) (d := d) (by have := i.one; omega) (s, nx))
      have h1 : nx.length ≤ (vis w h b a d (s, nx)).2.length := by
        have := vis_app (w := w) (h := h) (b := b) (a := a) (d := d) nx s []
        rw [List.append_nil] at this; rw [this]; simp
      simp only at e
      obtain ⟨r, hr⟩ := ih (vis w h b a d (s, nx)).1 rest (vis w h b a d (s, nx)).2 d (by simp at hm; omega) i.node
      exact ⟨r, .node hr⟩
def start (w h root : Int) : List Int := (List.replicate (cnt w h).toNat (-1)).set root.toNat 0
theorem start_inv {w h root : Int} (hr : isN w h root) : Inv w h (start w h root) [root] [] 1 ∧ ((neg (start w h root) : Nat) : Int) + 1 = cnt w h := by
  have hc := cnt_range w h
  have hl : root < ((List.replicate (cnt w h).toNat (-1 : Int)).length : Int) := by have := hr.2; simp; omega
  have h0 : rd (List.replicate (cnt w h).toNat (-1 : Int)) root = -1 := by
    have := rd_mem hr.1 hl
    exact List.eq_of_mem_replicate this
  have h1 := neg_set (v := 0) hr.1 hl (by omega) (by omega)
  have h2 : neg (List.replicate (cnt w h).toNat (-1 : Int)) = (cnt w h).toNat := by unfold neg; simp [List.countP_replicate]
  rw [h2] at h1
  have h3 : ((neg (start w h root) : Nat) : Int) + 1 = cnt w h := by unfold start; omega
  refine ⟨⟨by unfold start; simp; omega, fun v hv => ?_, by simp, by omega, by simp; omega, fun v hv => ?_⟩, h3⟩
  · simp only [List.mem_singleton] at hv
    subst hv
    refine ⟨hr, ?_⟩
    unfold start; rw [rd_set hr.1 hl hr.1, if_pos rfl]; omega
  · rcases List.mem_or_eq_of_mem_set hv with h6 | rfl
    · have := List.eq_of_mem_replicate h6; omega
    · omega
theorem Run.inv {w h : Int} {b s rest nx : List Int} {d : Int} {r : List Int} (R : Run w h b s rest nx d r) : Inv w h s rest nx d → ∃ d', Inv w h r [] [] d' := by
  induction R with
  | done s d => exact fun i => ⟨d, i⟩
  | level _ ih => exact fun i => ih i.level
  | node _ ih => exact fun i => ih i.node
def rootOk (w h : Int) (b : List Int) (root : Int) : Prop := meshOk w h b ∧ isN w h root
instance (w h : Int) (b : List Int) (root : Int) : Decidable (rootOk w h b root) := inferInstanceAs (Decidable (_ ∧ _))
theorem run_start {w h : Int} (b : List Int) {root : Int} (hr : isN w h root) : ∃ r, Run w h b (start w h root) [root] [] 1 r := run_ex _ _ _ _ _ (Nat.le_refl _) (start_inv hr).1
noncomputable def depths (w h : Int) (b : List Int) (root : Int) : List Int := if H : rootOk w h b root then Classical.choose (run_start b H.2) else []
theorem depths_run {w h : Int} {b : List Int} {root : Int} (H : rootOk w h b root) : Run w h b (start w h root) [root] [] 1 (depths w h b root) := by
  unfold depths; rw [dif_pos H]; exact Classical.choose_spec (run_start b H.2)
theorem depths_no {w h : Int} {b : List Int} {root : Int} (H : ¬ rootOk w h b root) : depths w h b root = [] := dif_neg H
theorem depths_inv {w h : Int} {b : List Int} {root : Int} (H : rootOk w h b root) : (((depths w h b root).length : Nat) : Int) = cnt w h ∧ ∀ v ∈ depths w h b root, -1 ≤ v ∧ v ≤ 16 := by
  obtain ⟨d, i⟩ := (depths_run H).inv (start_inv H.2).1
  have hc := cnt_range w h
  refine ⟨i.len, fun v hv => ?_⟩
  have := i.low v hv; have := i.sum; omega
theorem depths_length (w h : Int) (b : List Int) (root : Int) : (depths w h b root).length ≤ 16 := by
  have hc := cnt_range w h
  by_cases H : rootOk w h b root
  · have := (depths_inv H).1; omega
  · rw [depths_no H]; simp
theorem depths_mem {w h : Int} {b : List Int} {root : Int} {v : Int} (hv : v ∈ depths w h b root) : -1 ≤ v ∧ v ≤ 16 := by
  by_cases H : rootOk w h b root
  · exact (depths_inv H).2 v hv
  · rw [depths_no H] at hv; simp at hv
theorem okG_isN {w h : Int} (h1 : okG w h) : isN w h 0 := by
  have := mul_small h1
  refine ⟨by omega, ?_⟩
  unfold cnt; rw [if_pos h1]; omega
def conn (w h : Int) (b : List Int) : Prop := meshOk w h b ∧ -1 ∉ depths w h b 0
noncomputable instance (w h : Int) (b : List Int) : Decidable (conn w h b) := inferInstanceAs (Decidable (_ ∧ _))
noncomputable def depthOf (w h : Int) (b : List Int) (root : Int) : Int := (depths w h b root).foldl max (-1)
noncomputable def better (w h : Int) (b : List Int) (best : Int) (root : Nat) : Int := if depthOf w h b (root : Int) < depthOf w h b best then (root : Int) else best
noncomputable def bestRoot (w h : Int) (b : List Int) : Int := if conn w h b then (List.range (cnt w h).toNat).foldl (better w h b) 0 else -1
theorem better_range {w h : Int} {b : List Int} {best : Int} {root : Nat} (h0 : 0 ≤ best) : 0 ≤ better w h b best root := by
  unfold better; split <;> omega
def toRoot (w h : Int) (b d : List Int) (i : Int) (p : Nat) : Prop := link w h b (4 * i + p) ∧ rd d (next w h i p) = rd d i - 1
instance (w h : Int) (b d : List Int) (i : Int) (p : Nat) : Decidable (toRoot w h b d i p) := inferInstanceAs (Decidable (_ ∧ _))
def par (w h : Int) (b d : List Int) (i : Int) : Int :=
  if rd d i > 0 then
    (if toRoot w h b d i 0 then next w h i (0 : Nat) else if toRoot w h b d i 1 then next w h i (1 : Nat) else if toRoot w h b d i 2 then next w h i (2 : Nat) else if toRoot w h b d i 3 then next w h i (3 : Nat) else -1)
  else -1
def pars (w h : Int) (b d : List Int) : List Int := (List.range d.length).map fun i : Nat => par w h b d (i : Int)
noncomputable def parents (w h : Int) (b : List Int) (root : Int) : List Int := pars w h b (depths w h b root)
theorem parents_length (w h : Int) (b : List Int) (root : Int) : (parents w h b root).length = (depths w h b root).length := by simp [parents, pars]
def Hi (d : Int) (x : List Int × List Int) : Prop := ∀ v ∈ x.1, v < d ∨ (v = d ∧ x.2 ≠ [])
theorem vst_hi {w h : Int} {b : List Int} {a d : Int} {x : List Int × List Int} {p : Nat} (hx : Hi d x) : Hi d (vst w h b a d x p) := by
  unfold vst
  split
  · intro v hv
    rcases List.mem_or_eq_of_mem_set hv with h6 | rfl
    · rcases hx v h6 with h7 | h7
      · exact .inl h7
      · exact .inr ⟨h7.1, by simp⟩
    · exact .inr ⟨rfl, by simp⟩
  · exact hx
theorem foldl_hi {w h : Int} {b : List Int} {a d : Int} : ∀ (l : List Nat) (x : List Int × List Int), Hi d x → Hi d (l.foldl (vst w h b a d) x)
  | [], x, hx => hx
  | p :: l, x, hx => foldl_hi l _ (vst_hi hx)
theorem Run.hi {w h : Int} {b s rest nx : List Int} {d : Int} {r : List Int} (R : Run w h b s rest nx d r) : Inv w h s rest nx d → Hi d (s, nx) → ∀ v ∈ r, v < cnt w h := by
  induction R with
  | done s d =>
    intro i hh v hv
    rcases hh v hv with h1 | h1
    · have := i.sum; simp at this; omega
    · exact absurd rfl h1.2
  | level _ ih =>
    exact fun i hh => ih i.level (fun v hv => by rcases hh v hv with h1 | h1 <;> exact .inl (by omega))
  | node _ ih => exact fun i hh => ih i.node (foldl_hi _ _ hh)
theorem depths_lt {w h : Int} {b : List Int} {root : Int} (H : rootOk w h b root) : ∀ v ∈ depths w h b root, v < cnt w h := by
  refine (depths_run H).hi (start_inv H.2).1 (fun v hv => ?_)
  have := (start_inv H.2).1.low v hv
  rcases List.mem_or_eq_of_mem_set hv with h6 | rfl
  · have := List.eq_of_mem_replicate h6; exact .inl (by omega)
  · exact .inl (by omega)
theorem par_cases (w h : Int) (b d : List Int) (i : Int) : par w h b d i = -1 ∨ ∃ p : Nat, p < 4 ∧ par w h b d i = next w h i p ∧ toRoot w h b d i p ∧ rd d i > 0 := by
  unfold par
  by_cases h0 : rd d i > 0
  · rw [if_pos h0]
    by_cases e0 : toRoot w h b d i 0
    · rw [if_pos e0]; exact .inr ⟨0, by omega, rfl, e0, h0⟩
    rw [if_neg e0]
    by_cases e1 : toRoot w h b d i 1
    · rw [if_pos e1]; exact .inr ⟨1, by omega, rfl, e1, h0⟩
    rw [if_neg e1]
    by_cases e2 : toRoot w h b d i 2
    · rw [if_pos e2]; exact .inr ⟨2, by omega, rfl, e2, h0⟩
    rw [if_neg e2]
    by_cases e3 : toRoot w h b d i 3
    · rw [if_pos e3]; exact .inr ⟨3, by omega, rfl, e3, h0⟩
    rw [if_neg e3]; exact .inl rfl
  · rw [if_neg h0]; exact .inl rfl
def Tree (t : List Int) (m : Int → Int) : Prop := ∀ i : Int, 0 ≤ i → i < t.length → m i < t.length ∧ (rd t i = -1 ∨ (0 ≤ rd t i ∧ rd t i < t.length ∧ 0 ≤ m (rd t i) ∧ m (rd t i) + 1 = m i))
theorem parents_tree {w h : Int} {b : List Int} {root : Int} (H : rootOk w h b root) : Tree (parents w h b root) (rd (depths w h b root)) := by
  have hl := parents_length w h b root
  obtain ⟨hc, _⟩ := depths_inv H
  intro i h0 h1
  have h2 : i < ((depths w h b root).length : Int) := by omega
  refine ⟨by have := depths_lt H _ (rd_mem h0 h2); omega, ?_⟩
  have e : rd (parents w h b root) i = par w h b (depths w h b root) i := by
    obtain ⟨j, rfl⟩ := Int.eq_ofNat_of_zero_le h0
    rw [rd_at (by omega)]; simp [parents, pars]
  rw [e]
  rcases par_cases w h b (depths w h b root) i with h3 | ⟨p, hp, h3, h4, h5⟩
  · exact .inl h3
  · obtain ⟨_, hn, _⟩ := link_next hp h4.1
    rw [h3]
    refine .inr ⟨hn.1, by have := hn.2; omega, ?_, ?_⟩
    · have := h4.2; omega
    · have := h4.2; omega

def inP (P : List Int) (a : Int) : Prop := 0 ≤ a ∧ a < P.length
instance (P : List Int) (a : Int) : Decidable (inP P a) := inferInstanceAs (Decidable (_ ∧ _))
@[simp] theorem inP_m1 (P : List Int) : inP P (-1) = False := by simp [inP]
def ancN (P : List Int) : Nat → Int → List Int → List Int
  | 0, a, out => if inP P a then [] else if a = -1 ∧ out ≠ [] then out else []
  | f + 1, a, out => if inP P a then ancN P f (rd P a) (out ++ [a]) else if a = -1 ∧ out ≠ [] then out else []
def anc (P : List Int) (a : Int) : List Int := ancN P P.length a []
theorem ancN_len (P : List Int) : ∀ f a out, (ancN P f a out).length ≤ out.length + f := by
  intro f
  induction f with
  | zero => intro a out; unfold ancN; repeat' split
            all_goals simp
  | succ f ih =>
    intro a out; unfold ancN; split
    · have := ih (rd P a) (out ++ [a]); simp at this; omega
    · split <;> simp
theorem anc_len (P : List Int) (a : Int) : (anc P a).length ≤ P.length := by have := ancN_len P P.length a []; simpa [anc] using this
theorem ancN_in (P : List Int) : ∀ f a out, (∀ x ∈ out, inP P x) → ∀ x ∈ ancN P f a out, inP P x := by
  intro f
  induction f with
  | zero => intro a out ho x hx; unfold ancN at hx; repeat' split at hx
            all_goals first | exact ho x hx | (simp at hx)
  | succ f ih =>
    intro a out ho x hx; unfold ancN at hx; split at hx
    · rename_i h1
      exact ih _ _ (fun y hy => by rcases List.mem_append.1 hy with hy | hy; exact ho y hy; rw [List.mem_singleton.1 hy]; exact h1) x hx
    · split at hx
      · exact ho x hx
      · simp at hx
theorem anc_in {P : List Int} {a x : Int} (h : x ∈ anc P a) : inP P x := ancN_in P P.length a [] (by simp) x h
def common (P : List Int) (a b : Int) : Int := ((anc P a).find? (fun x => decide (x ∈ anc P b))).getD (-1)
theorem common_no {P : List Int} {a b : Int} (h : ∀ x ∈ anc P a, x ∉ anc P b) : common P a b = -1 := by
  unfold common
  rw [List.find?_eq_none.2 (by simpa using h)]; rfl
theorem common_mem {P : List Int} {a b : Int} (h : 0 ≤ common P a b) : common P a b ∈ anc P a ∧ common P a b ∈ anc P b := by
  unfold common at h ⊢
  cases hf : (anc P a).find? (fun x => decide (x ∈ anc P b)) with
  | none => rw [hf] at h; simp at h
  | some u =>
    have h1 := List.mem_of_find?_eq_some hf
    have h2 := List.find?_some hf
    exact ⟨h1, by simpa using h2⟩
/-- the nodes of the way through the tree -/
def treeNodes (P : List Int) (a b : Int) : List Int :=
  if common P a b < 0 then [] else (anc P a).take ((anc P a).idxOf (common P a b) + 1) ++ ((anc P b).take ((anc P b).idxOf (common P a b))).reverse
theorem find_at {l : List Int} {q : Int → Bool} {j : Nat} (h : j < l.length) (hq : ∀ x ∈ l.take j, q x = false) (hx : q l[j] = true) : l.find? q = some l[j] := by
  have e : l = l.take j ++ (l[j] :: l.drop (j + 1)) := by rw [← List.drop_eq_getElem_cons h, List.take_append_drop]
  have e2 := congrArg (List.find? q) e
  rw [e2, List.find?_append, List.find?_eq_none.2 (by simpa using hq), List.find?_cons_of_pos hx]; rfl
def chain (t : List Int) : Nat → Int → List Int
  | 0, _ => []
  | k + 1, v => if inP t v then v :: chain t k (rd t v) else []
def Ends (t : List Int) : Nat → Int → Prop
  | 0, v => v = -1
  | k + 1, v => v = -1 ∨ (inP t v ∧ Ends t k (rd t v))
theorem Tree.ends {t : List Int} {m : Int → Int} (T : Tree t m) : ∀ (k : Nat) (v : Int), 0 ≤ v → v < t.length → m v < k → (0 ≤ m v ∨ 0 < k) → Ends t k v := by
  intro k
  induction k with
  | zero => intro v h0 h1 h2 h3; omega
  | succ k ih =>
    intro v h0 h1 h2 _
    refine .inr ⟨⟨h0, h1⟩, ?_⟩
    rcases (T v h0 h1).2 with h3 | ⟨h3, h4, h5, h6⟩
    · rw [h3]; cases k <;> simp [Ends]
    · exact ih _ h3 h4 (by omega) (.inl h5)
theorem ancN_chain {t : List Int} : ∀ (k : Nat) (v : Int) (out : List Int), Ends t k v → (out ≠ [] ∨ (0 ≤ v ∧ v < t.length)) → ancN t k v out = out ++ chain t k v := by
  intro k
  induction k with
  | zero =>
    intro v out he ho
    have he : v = -1 := he
    subst he
    have ho : out ≠ [] := ho.resolve_right (by omega)
    simp [ancN, chain, ho]
  | succ k ih =>
    intro v out he ho
    rcases he with rfl | ⟨h1, h2⟩
    · have ho : out ≠ [] := ho.resolve_right (by omega)
      simp [ancN, chain, ho]
    · simp only [ancN, chain]
      rw [if_pos h1, if_pos h1, ih _ _ h2 (.inl (by simp))]
      simp
theorem chain_any {t : List Int} : ∀ (k k' : Nat) (v : Int), Ends t k v → Ends t k' v → chain t k v = chain t k' v := by
  intro k
  induction k with
  | zero =>
    intro k' v h1 h2
    have h1 : v = -1 := h1
    subst h1
    cases k' with
    | zero => rfl
    | succ k' => simp [chain]
  | succ k ih =>
    intro k' v h1 h2
    cases k' with
    | zero => have h2 : v = -1 := h2
              subst h2; simp [chain]
    | succ k' =>
      rcases h1 with rfl | ⟨h1, h3⟩
      · simp [chain]
      · rcases h2 with rfl | ⟨_, h4⟩
        · simp at h1
        · simp only [chain]; rw [if_pos h1, if_pos h1, ih _ _ h3 h4]
theorem anc_cons {t : List Int} {m : Int → Int} (T : Tree t m) {v : Int} (h0 : 0 ≤ v) (h1 : v < t.length) : anc t v = v :: (if rd t v = -1 then [] else anc t (rd t v)) := by
  have hE : ∀ u : Int, 0 ≤ u → u < t.length → Ends t t.length u := fun u a b => T.ends t.length u a b (T u a b).1 (.inr (by omega))
  have e : ∀ u : Int, 0 ≤ u → u < t.length → anc t u = chain t t.length u := fun u a b => by
    have := ancN_chain t.length u [] (hE u a b) (.inr ⟨a, b⟩); simpa [anc] using this
  rw [e v h0 h1]
  obtain ⟨n, hn⟩ : ∃ n, t.length = n + 1 := ⟨t.length - 1, by omega⟩
  have h2 := hE v h0 h1
  rw [hn] at h2 ⊢
  rcases h2 with h2 | ⟨_, h3⟩
  · omega
  simp only [chain]
  rw [if_pos (show inP t v from ⟨h0, h1⟩)]
  rcases (T v h0 h1).2 with h4 | ⟨h4, h5, _, _⟩
  · rw [if_pos h4, h4]; cases n <;> simp [chain]
  · rw [if_neg (by omega), e _ h4 h5, chain_any n t.length _ h3 (hE _ h4 h5)]
theorem anc_suffix {t : List Int} {m : Int → Int} (T : Tree t m) : ∀ (n : Nat) (v : Int), 0 ≤ v → v < t.length → m v < n → ∀ u ∈ anc t v, (0 ≤ u ∧ u < t.length) ∧ ∃ l, anc t v = l ++ anc t u ∧ ∀ x ∈ l, m u < m x := by
  intro n
  induction n with
  | zero =>
    intro v h0 h1 h2 u hu
    rw [anc_cons T h0 h1] at hu ⊢
    rcases (T v h0 h1).2 with h4 | ⟨h4, h5, h6, h7⟩
    · rw [if_pos h4] at hu ⊢
      simp only [List.mem_singleton] at hu; subst hu
      refine ⟨⟨h0, h1⟩, [], ?_, by simp⟩
      rw [anc_cons T h0 h1, if_pos h4]; rfl
    · omega
  | succ n ih =>
    intro v h0 h1 h2 u hu
    rcases (T v h0 h1).2 with h4 | ⟨h4, h5, h6, h7⟩
    · have e := anc_cons T h0 h1
      rw [if_pos h4] at e
      rw [e] at hu
      simp only [List.mem_singleton] at hu; subst hu
      exact ⟨⟨h0, h1⟩, [], rfl, by simp⟩
    · have e := anc_cons T h0 h1
      rw [if_neg (by omega)] at e
      rw [e] at hu
      rcases List.mem_cons.1 hu with rfl | hu
      · exact ⟨⟨h0, h1⟩, [], rfl, by simp⟩
      · obtain ⟨hb, l, e1, hx⟩ := ih _ h4 h5 (by omega) u hu
        refine ⟨hb, v :: l, by rw [e, e1]; rfl, fun x hx' => ?_⟩
        have hle : m u ≤ m (rd t v) := by
          cases l with
          | nil =>
            have e2 := anc_cons T h4 h5
            have e3 := anc_cons T hb.1 hb.2
            rw [List.nil_append] at e1
            rw [e1, e3] at e2
            have := (List.cons.inj e2).1
            rw [this]; omega
          | cons y l =>
            have e2 := anc_cons T h4 h5
            rw [e1, List.cons_append] at e2
            have e4 := (List.cons.inj e2).1
            have := hx y (by simp)
            rw [e4] at this; omega
        rcases List.mem_cons.1 hx' with rfl | hx'
        · omega
        · exact hx x hx'

end Go.Proofs.YtlbbalmeaedbdaaGreat.V
/-! Ancestors. -/
set_option linter.all false
namespace Go.Proofs.YtlbbalmeaedbdaaGreat.V
open Go Go.VM Go.Proofs
set_option maxRecDepth 10000
variable {frz : Nat} {H : Heap}
theorem anc_c (v : Value) (P : List Int) (a : Int) (hI : IsI H v P) (hl : P.length ≤ 1073741823) :
   vcall C frz 52 [v, .int .i64 a] H = some (if anc P a = [] then (.slice none 0 0, H) else (.slice (some ⟨H.length, 0, some 0⟩) (anc P a).length 0, H ++ [⟨(anc P a).map (.int .i64), 0, 3⟩])) := by
  rw [vcall_go (fn := Tryz.f52) Tryz.func52 rfl (by kernel_rfl) rfl]
  simp
  refine go_inv (fun n t H' => ∃ (o : List Int) (g : Nat) (x : Int) (G : Heap), n = P.length - o.length ∧ t 0 = v ∧ t 5 = .slice (some ⟨H.length, 0, some g⟩) o.length 0 ∧ t 6 = .int .i64 x ∧
    H' = H ++ ⟨o.map (.int .i64), g, 3⟩ :: G ∧ o.length ≤ P.length ∧ ancN P (P.length - o.length) x o = anc P a) ?_ (n := P.length) ⟨[], 0, a, [], by simp [anc]⟩
  rintro n t H' ⟨o, g, x, G, rfl, h0, h5, h6, rfl, ho, hw⟩ ih
  have hin : inR 0 x (IntKind.i64.wrap ((P.length : Int) - 1)) ↔ inP P x := by
    rw [w64 (by omega) (by omega)]; simp only [inR, inP]; omega
  simp [h0, h5, h6, hI.lenA, l01In_c, inside_c, hin]
  have hz : ¬ inP P x → anc P a = if x = -1 ∧ o ≠ [] then o else [] := fun hx => by
    rw [← hw]; cases P.length - o.length <;> simp only [ancN, if_neg hx]
  have hm : ¬ inP P (-1) := fun hh => by have := hh.1; omega
  refine gd_dec _ _ ?_ ?_ <;> intro h1
  · have hx : ¬ inP P x := h1 ▸ hm
    by_cases ho0 : o = []
    · have := hz hx
      simp [ho0] at this
      have hm' : ¬ inR 0 (-1) (IntKind.i64.wrap ((P.length : Int) - 1)) := fun hh => by have := hh.1; omega
      simp [h0, h5, h6, h1, ho0, hI.lenA, inside_c, hm', this]
    · have hol : o.length ≠ 0 := fun hh => ho0 (List.length_eq_zero_iff.1 hh)
      have := hz hx
      simp [h1, ho0] at this
      simp [h0, h5, h6, h1, ho0, this]
  · simp [h0, h5, h6, h1, hI.lenA, inside_c, hin]
    refine gd_dec _ _ ?_ ?_ <;> intro hx
    · simp [h0, h5, h6, hx, hI.lenA]
      refine br_dec _ ?_ ?_ <;> intro hf
      · have hz' : anc P a = [] := by
          rw [← hw, show P.length - o.length = 0 by omega, ancN, if_pos hx]
        simp [h0, h5, h6, hz']
      · have q1 : ∀ L, vindexAddr Tryz.prog (H ++ L) 26 v (.int .i64 x) = some (elp v x.toNat) := fun L => hI.idxA (e := 3) (by simp) hx.1 hx.2
        have q2 : ∀ L, vload Tryz.prog (H ++ L) 3 (elp v x.toNat) = some (.int .i64 (rd P x)) := fun L => hI.loadA (by simp) (by have := hx.1; have := hx.2; omega)
        simp [h0, h5, h6]
        refine vneed_eq (by omega) ?_
        simp [h0, h5, h6, q1, q2]
        refine ih (P.length - (o.length + 1)) _ _ ⟨o ++ [x], g + 1, rd P x, _, by simp, by simp [h0], by simp, by simp, by simp; rfl, by simp; omega, ?_⟩ (by omega)
        rw [show P.length - o.length = (P.length - (o ++ [x]).length) + 1 by simp; omega, ancN, if_pos hx] at hw
        exact hw
    · have := hz hx
      simp [h1] at this
      simp [h0, h5, h6, hx, this]
end Go.Proofs.YtlbbalmeaedbdaaGreat.V
/-! CommonAncestor, Reverse; marks. -/
set_option linter.all false
namespace Go.Proofs.YtlbbalmeaedbdaaGreat.V
open Go Go.VM Go.Proofs
set_option maxRecDepth 10000
variable {frz : Nat} {H : Heap}
theorem made_ret {xs : List Int} {r : Option (Value × Heap)} (h : r = some (if xs = [] then (.slice none 0 0, H) else (.slice (some ⟨H.length, 0, some 0⟩) xs.length 0, H ++ [⟨xs.map (.int .i64), 0, 3⟩]))) : wp r (Made Fl.int 3 H xs) := by
  subst h
  by_cases hx : xs = []
  · simp [hx]; exact ⟨[], by simp, .inl ⟨rfl, rfl⟩, by simp⟩
  · simp [hx]
    exact ⟨_, rfl, Ow.new0 rfl (cellsOf_int xs).symm (by simp) rfl, by simp⟩
theorem made_row {xs : List Int} {r : Option (Value × Heap)} (h : r = some (.slice (some ⟨H.length, 0, some 0⟩) xs.length 0, H ++ [⟨xs.map (.int .i64), 0, 3⟩])) : wp r (Made Fl.int 3 H xs) := by
  subst h
  simp
  exact ⟨_, rfl, Ow.new0 rfl (cellsOf_int xs).symm (by simp) rfl, by simp⟩
theorem anc_w (v : Value) (P : List Int) (a : Int) (hI : IsI H v P) (hl : P.length ≤ 1073741823) : wp (vcall C frz 52 [v, .int .i64 a] H) (Made Fl.int 3 H (anc P a)) := made_ret (anc_c v P a hI hl)
theorem common_at {P : List Int} {a b : Int} {i : Nat} (h : i < (anc P a).length) (h1 : ∀ x ∈ (anc P a).take i, x ∉ anc P b) (h2 : (anc P a)[i] ∈ anc P b) : common P a b = (anc P a)[i] := by
  unfold common
  rw [find_at h (by simpa using h1) (by simpa using h2)]; rfl
theorem take_succ_no {xs : List Int} {p : Int → Prop} {i : Nat} (h : i < xs.length) (h1 : ∀ x ∈ xs.take i, p x) (h2 : p xs[i]) : ∀ x ∈ xs.take (i + 1), p x := by
  rw [List.take_succ_eq_append_getElem h]
  intro x hx
  rcases List.mem_append.1 hx with hx | hx
  · exact h1 x hx
  · rw [List.mem_singleton.1 hx]; exact h2
theorem common_w (v : Value) (P : List Int) (a b : Int) (hI : IsI H v P) (hl : P.length ≤ 1073741823) :
   wp (vcall C frz 51 [v, .int .i64 a, .int .i64 b] H) (fun r _ => r = .int .i64 (common P a b)) := by
  rw [vcall_go (fn := Tryz.f51) Tryz.func51 rfl (by kernel_rfl) rfl]
  simp
  refine wp_thn (anc_w v P b hI hl) ?_
  rintro vb _ ⟨L1, rfl, ob, nb⟩
  simp
  refine wp_thn (anc_w v P a (hI.app _) hl) ?_
  rintro va _ ⟨L2, rfl, oa, na⟩
  have ob := (ob.app (L := L2)).rd.isI
  have oa := oa.rd.isI
  have hla := anc_len P a
  have hlb := anc_len P b
  simp only [List.append_assoc] at oa ob
  simp [oa.len]
  refine wp_inv (fun n t H' => ∃ i : Nat, n = (anc P a).length - i ∧ i ≤ (anc P a).length ∧ t 7 = vb ∧ t 15 = va ∧ t 16 = .int .i64 (anc P a).length ∧ t 17 = .int .i64 i ∧ H' = H ++ (L1 ++ L2) ∧ ∀ x ∈ (anc P a).take i, x ∉ anc P b) ?_ (n := (anc P a).length) ⟨0, by simp⟩
  rintro n t H' ⟨i, rfl, hi, h7, h15, h16, h17, rfl, hj⟩ ih
  simp [h7, h15, h16, h17]
  refine wp_dec ?_ ?_ <;> intro h5
  · simp [h7, h15, h16, h17, h5, oa.idx, oa.load, getD_get, contains_c _ _ _ ob (by omega)]
    refine wp_dec ?_ ?_ <;> intro h6
    · simp [h7, h15, h16, h17, h5, h6]
      exact (common_at h5 hj h6).symm
    · simp [h7, h15, h16, h17, h5, h6]
      refine ih ((anc P a).length - (i + 1)) _ _ ⟨i + 1, rfl, by omega, by simp [h7], by simp [h15], by simp [h16], ?_, rfl, take_succ_no h5 hj h6⟩ (by omega)
      simp; rw [w64 (by omega) (by omega)]
  · have : i = (anc P a).length := by omega
    subst this
    simp
    rw [List.take_length] at hj
    rw [common_no hj]
theorem common_c (v : Value) (P : List Int) (a b : Int) (hI : IsI H v P) (hl : P.length ≤ 1073741823) : vcall C frz 51 [v, .int .i64 a, .int .i64 b] H = some (.int .i64 (common P a b), H) :=
  (common_w v P a b hI hl).exact (by simp) rfl
/-- xs, of which the first i and the last i are exchanged -/
def flip (xs : List Int) (i : Nat) : List Int := (List.range xs.length).map fun j => if j < i ∨ xs.length - i ≤ j then rd xs ((xs.length - 1 - j : Nat) : Int) else rd xs (j : Int)
theorem flip_len (xs : List Int) (i : Nat) : (flip xs i).length = xs.length := by simp [flip]
theorem flip_get (xs : List Int) (i j : Nat) (h : j < xs.length) : (flip xs i)[j]'(by rw [flip_len]; exact h) = if j < i ∨ xs.length - i ≤ j then xs[xs.length - 1 - j] else xs[j] := by
  simp only [flip, List.getElem_map, List.getElem_range]
  split
  · rw [rd_at (by omega)]
  · rw [rd_at h]
theorem flip_zero (xs : List Int) : flip xs 0 = xs := by
  apply List.ext_getElem (flip_len _ _)
  intro j h1 h2
  rw [flip_get _ _ _ h2, if_neg (by omega)]
theorem flip_end (xs : List Int) (i : Nat) (h : xs.length ≤ 2 * i + 1) : flip xs i = xs.reverse := by
  apply List.ext_getElem (by rw [flip_len, List.length_reverse])
  intro j h1 h2
  rw [flip_get _ _ _ (by simpa using h2), List.getElem_reverse]
  split
  · rfl
  · congr 1; rw [List.length_reverse] at h2; omega
theorem flip_succ (xs : List Int) (i : Nat) (h : 2 * i + 1 < xs.length) : ((flip xs i).set i ((flip xs i)[xs.length - 1 - i]'(by rw [flip_len]; omega))).set (xs.length - 1 - i) ((flip xs i)[i]'(by rw [flip_len]; omega)) = flip xs (i + 1) := by
  apply List.ext_getElem (by simp [flip_len])
  intro j h1 h2
  rw [flip_len] at h2
  rw [List.getElem_set, List.getElem_set, flip_get _ _ _ h2, flip_get _ _ _ (by omega), flip_get _ _ _ (by omega), flip_get _ _ _ h2]
  by_cases e1 : xs.length - 1 - i = j
  · subst e1
    rw [if_pos rfl, if_neg (by omega), if_pos (by omega)]
    congr 1; omega
  · by_cases e2 : i = j
    · subst e2
      rw [if_neg e1, if_pos rfl, if_neg (by omega), if_pos (by omega)]
    · rw [if_neg e1, if_neg e2]
      by_cases e3 : j < i ∨ xs.length - i ≤ j
      · rw [if_pos e3, if_pos (by omega)]
      · rw [if_neg e3, if_neg (by omega)]
theorem reverse_w (v : Value) (xs : List Int) (e : TypeId) (h : Ow Fl.int e H v xs) (hl : xs.length ≤ 1073741824) (hf : ∀ i ∈ ids v, frz ≤ i) :
   wp (vcall C frz 54 [v] H) (fun _ H' => Ow Fl.int e H' v xs.reverse ∧ Chg H H' (ids v) ∧ H'.length = H.length) := by
  rw [vcall_go (fn := Tryz.f54) Tryz.func54 rfl (by kernel_rfl) rfl]
  simp [h.rd.len]
  refine wp_inv (fun n t H' => ∃ i : Nat, n = xs.length - i ∧ i ≤ xs.length ∧ t 0 = v ∧ t 2 = .int .i64 i ∧ t 3 = .int .i64 (xs.length - 1 - i) ∧ 2 * i ≤ xs.length + 1 ∧ Ow Fl.int e H' v (flip xs i) ∧ Chg H H' (ids v) ∧ H'.length = H.length) ?_ (n := xs.length)
    ⟨0, by simp, by omega, by simp, by simp, by simp; exact w64 (by omega) (by omega), by omega, by rw [flip_zero]; exact h, Chg.refl _, rfl⟩
  rintro n t H' ⟨i, rfl, hi, h0, h2, h3, h2i, o, c, l⟩ ih
  simp [h0, h2, h3]
  refine wp_dec ?_ ?_ <;> intro h5
  · have i1 := o.rd.isI
    have fl := flip_len xs i
    have e1 : ((xs.length : Int) - 1 - i).toNat = xs.length - 1 - i := by omega
    have e2 : ((xs.length : Int) - 1 - i) = ((xs.length - 1 - i : Nat) : Int) := by omega
    rw [e2] at h3
    simp [h0, h2, h3, h5]
    rw [go_draw (h := by kernel_rfl)]
    have p1 : i < (flip xs i).length := by omega
    have p2 : xs.length - 1 - i < (flip xs i).length := by omega
    simp [h0, h2, h3, h5, i1.idx, i1.load, p1, p2, getD_get]
    obtain ⟨H1, s1, o1, c1, l1⟩ := o.put1 (P := Tryz.prog) (frz := frz) rfl (et := 3) (ag := false) (by simp) p1 (x := .int .i64 ((flip xs i)[xs.length - 1 - i])) rfl rfl rfl hf
    have i2 := o1.rd.isI
    have p3 : xs.length - 1 - i < ((flip xs i).set i (flip xs i)[xs.length - 1 - i]).length := by simp; omega
    obtain ⟨H2, s2, o2, c2, l2⟩ := o1.put1 (P := Tryz.prog) (frz := frz) rfl (et := 3) (ag := false) (by simp) p3 (x := .int .i64 ((flip xs i)[i])) rfl rfl rfl hf
    simp [s1, h0, h2, h3, i2.idx, p2, s2]
    refine ih (xs.length - (i + 1)) _ _ ⟨i + 1, rfl, by omega, by simp [h0], ?_, ?_, by omega, ?_, c.trans (c1.trans c2), by omega⟩ (by omega)
    · simp; rw [w64 (by omega) (by omega)]
    · simp; rw [w64 (by omega) (by omega)]; omega
    · rw [flip_succ xs i (by omega)] at o2; exact o2
  · simp
    exact ⟨by rw [← flip_end xs i (by omega)]; exact o, c, l⟩
/-- marks -/
def marks (k : Int) (n : Nat) : List Int := (List.range n).map fun i : Nat => k + (i : Int)
@[simp] theorem marks_len (k : Int) (n : Nat) : (marks k n).length = n := by simp [marks]
theorem marks_succ (k : Int) (n : Nat) : marks k (n + 1) = marks k n ++ [k + n] := by simp [marks, List.range_succ]
theorem marks_get (k : Int) (n i : Nat) (h : i < n) : (marks k n)[i]'(by simpa using h) = k + i := by simp [marks]
theorem marks_set (k : Int) (xs : List Int) (i : Nat) (h : i < xs.length) : (marks k i ++ xs.drop i).set i (k + i) = marks k (i + 1) ++ xs.drop (i + 1) := by
  rw [List.set_append_right _ _ (by simp), marks_len, Nat.sub_self, List.drop_eq_getElem_cons h, List.set_cons_zero, marks_succ]; simp
end Go.Proofs.YtlbbalmeaedbdaaGreat.V
/-! Links. -/
set_option linter.all false
namespace Go.Proofs.YtlbbalmeaedbdaaGreat.V
open Go Go.VM Go.Proofs
set_option maxRecDepth 10000
variable {frz : Nat} {H : Heap}
theorem opposite_c (p : Int) : vcall C frz 95 [.int .i64 p] H = some (.int .i64 (opp p), H) := by
  rw [vcall_go (fn := Tryz.f95) Tryz.func95 rfl (by kernel_rfl) rfl]
  simp
  refine br_dec _ ?_ ?_ <;> intro h1 <;> simp [h1, opp, inside_c]
  refine br_dec _ ?_ ?_ <;> intro h2
  · obtain ⟨h3, h4⟩ := h2
    simp [h3, h4]
    rw [w64 (by omega) (by omega), Int.tmod_eq_emod_of_nonneg (by omega)]
  · have h3 : ¬ (0 ≤ p ∧ p ≤ 3) := h2
    simp [h3]
theorem sOpposite_c (p : Int) : vcall C frz 97 [.int .i64 p] H = some (.int .i64 (opp p), H) := by
  rw [vcall_go (fn := Tryz.f97) Tryz.func97 rfl (by kernel_rfl) rfl]
  simp
  refine br_dec _ ?_ ?_ <;> intro h1 <;> simp [h1, opp, l01In_c]
  refine br_dec _ ?_ ?_ <;> intro h2
  · obtain ⟨h3, h4⟩ := h2
    simp [h3, h4]
    rw [w64 (by omega) (by omega), Int.tmod_eq_emod_of_nonneg (by omega)]
  · have h3 : ¬ (0 ≤ p ∧ p ≤ 3) := h2
    simp [h3]
theorem opp_range (p : Int) : -1 ≤ opp p ∧ opp p ≤ 4 := by unfold opp; split <;> (try split) <;> omega
theorem endC_range (w h c : Int) : -1 ≤ endC w h c ∧ endC w h c < 16 := next_range _ _ _ _
theorem leads_lt {w h c : Int} (h1 : leads w h c) : 0 ≤ c ∧ c < 64 := by have := cnt_range w h; have := h1.1; omega
theorem back_w64 {w h c : Int} : IntKind.i64.wrap (4 * endC w h c) = 4 * endC w h c ∧ IntKind.i64.wrap (4 * endC w h c + opp (c % 4)) = backC w h c := by
  have h1 := endC_range w h c
  have h2 := opp_range (c % 4)
  exact ⟨w64 (by omega) (by omega), by unfold backC; exact w64 (by omega) (by omega)⟩
theorem back_c (w h : Int) (v : Value) (b : List Int) (c : Int) (hI : IsI H v b) (h0 : leads w h c) :
   vcall C frz 75 [.agg #[.int .i64 w, .int .i64 h, v], .int .i64 c] H = some (.int .i64 (backC w h c), H) := by
  rw [vcall_go (fn := Tryz.f75) Tryz.func75 rfl (by kernel_rfl) rfl]
  obtain ⟨e1, e2⟩ := chan_div h0.1
  obtain ⟨e3, e4⟩ := back_w64 (w := w) (h := h) (c := c)
  have e5 : next w h (c / 4) (c % 4) = endC w h c := rfl
  simp [hI.one', hI.cells, endOf_c _ _ _ _ _ (hI.app _) h0, e2, opposite_c, e3, e4, e5]
theorem isLink_c (w h : Int) (v : Value) (b : List Int) (c : Int) (hI : IsI H v b) (hl : b.length ≤ 1073741824) :
   vcall C frz 48 [.agg #[.int .i64 w, .int .i64 h, v], .int .i64 c] H = some (.bool (decide (meshOk w h b ∧ link w h b c)), H) := by
  rw [vcall_go (fn := Tryz.f48) Tryz.func48 rfl (by kernel_rfl) rfl]
  simp [hI.one', hI.cells]
  rw [go_draw (h := by kernel_rfl)]
  simp [hI.one', hI.cells, hasChannel_c _ _ _ _ _ (hI.app _) hl, -Bool.decide_and]
  refine gd_dec _ _ ?_ ?_ <;> intro h1
  · simp [h1, hI.one', hI.cells, back_c _ _ _ _ _ (hI.app _) h1.2.1, hasChannel_c _ _ _ _ _ (hI.app _) hl, link]
  · have h2 : ¬ (meshOk w h b ∧ link w h b c) := fun hh => h1 ⟨hh.1, hh.2.1⟩
    simp [h1]
    exact fun a b => h2 ⟨a, b⟩
theorem l31Link_c (w h : Int) (v : Value) (b : List Int) (c : Int) (hI : IsI H v b) (hl : b.length ≤ 1073741824) :
   vcall C frz 80 [.agg #[.int .i64 w, .int .i64 h, v], .int .i64 c] H = some (.bool (decide (link w h b c)), H) := by
  rw [vcall_go (fn := Tryz.f80) Tryz.func80 rfl (by kernel_rfl) rfl]
  simp [hI.one', hI.cells, l03Has_c _ _ _ _ _ (hI.app _) hl, -Bool.decide_and]
  refine br_dec _ ?_ ?_ <;> intro h1
  · obtain ⟨e1, e2⟩ := chan_div h1.1.1
    obtain ⟨e3, e4⟩ := back_w64 (w := w) (h := h) (c := c)
    have e5 : next w h (c / 4) (c % 4) = endC w h c := rfl
    simp
    rw [go_draw (h := by kernel_rfl)]
    simp [h1, hI.one', hI.cells, e1, e2, sNextNode_c, sOpposite_c, e3, e4, e5, l03Has_c _ _ _ _ _ (hI.app _) hl, link]
  · simp [link, h1]
end Go.Proofs.YtlbbalmeaedbdaaGreat.V
/-! slices.Repeat of one number. -/
set_option linter.all false
namespace Go.Proofs.YtlbbalmeaedbdaaGreat.V
open Go Go.VM Go.Proofs
set_option maxRecDepth 10000
variable {frz : Nat} {H : Heap}
theorem u64w {x : Int} (h1 : 0 ≤ x) (h2 : x ≤ 18446744073709551615) : IntKind.u64.wrap x = x := by
  have : IntKind.u64.wrap x = x % 18446744073709551616 := by
    simp [IntKind.wrap, IntKind.bits, IntKind.signed]
  rw [this]; omega
theorem iand_mask (m : Nat) (h : m < 4294967296) : iand .u64 (m : Int) 4294967295 = m := by
  have := bits_and m 4294967295 (by omega) (by omega) .u64 rfl
  have e : ((4294967295 : Nat) : Int) = 4294967295 := rfl
  rw [e] at this
  unfold iand
  rw [this, show (4294967295 : Nat) = 2 ^ 32 - 1 from rfl, Nat.and_two_pow_sub_one_eq_mod, u64w (by omega) (by omega)]
  omega
theorem ishr32 (m : Nat) (h : m < 4294967296) : ishr .u64 (m : Int) 32 = 0 := by
  have := ishr_nat .u64 m 32 (by decide)
  have e : ((32 : Nat) : Int) = 32 := rfl
  rw [e] at this
  rw [this]; omega
theorem mul64_c (n : Nat) (h : n < 4294967296) : vcall C frz 100 [.int .u64 1, .int .u64 n] H = some (.tuple #[.int .u64 0, .int .u64 n], H) := by
  rw [vcall_go (fn := Tryz.f100) Tryz.func100 rfl (by kernel_rfl) rfl]
  have a1 := iand_mask 1 (by omega)
  have a0 := iand_mask 0 (by omega)
  have s1 := ishr32 1 (by omega)
  have s0 := ishr32 0 (by omega)
  have an := iand_mask n h
  have sn := ishr32 n h
  simp only [Int.natCast_zero, Int.natCast_one] at a1 a0 s1 s0
  have w0 : IntKind.u64.wrap 0 = 0 := by decide
  have wn : IntKind.u64.wrap (n : Int) = n := u64w (by omega) (by omega)
  simp [a1, s1, an, sn, wn, w0, a0, s0]
theorem mul_c (n : Nat) (h : n < 4294967296) : vcall C frz 82 [.int .u64 1, .int .u64 n] H = some (.tuple #[.int .u64 0, .int .u64 n], H) := by
  rw [vcall_go (fn := Tryz.f82) Tryz.func82 rfl (by kernel_rfl) rfl]
  simp [mul64_c n h]
theorem splice_rep (c z : Value) (k m : Nat) (j : Nat) (h : j ≤ m) : VM.splice (List.replicate k c ++ List.replicate m z) k (List.replicate j c) = List.replicate (k + j) c ++ List.replicate (m - j) z := by
  unfold VM.splice
  rw [List.take_left' (by simp), List.drop_append, List.drop_of_length_le (by simp)]
  simp only [List.length_replicate, Nat.add_sub_cancel_left, List.nil_append, List.drop_replicate]
  rw [List.replicate_append_replicate]
theorem repeat_c (id : Nat) (c : Int) (n : Nat) (hr : H[id]? = some ⟨[.int .i64 c], 0, 3⟩) (h1 : 1 ≤ n) (h2 : n ≤ 536870912) :
   vcall C frz 62 [.slice (some ⟨id, 0, some 0⟩) 1 0, .int .i64 n] H = some (.slice (some ⟨H.length, 0, some 0⟩) n 0, H ++ [⟨List.replicate n (.int .i64 c), 0, 3⟩]) := by
  rw [vcall_go (fn := Tryz.f62) Tryz.func62 rfl (by kernel_rfl) rfl]
  have e0 : ¬ (n : Int) < 0 := by omega
  have e1 : IntKind.u64.wrap (n : Int) = n := u64w (by omega) (by omega)
  have e2 : IntKind.u64.wrap 1 = 1 := by decide
  have e3 : IntKind.i64.wrap (n : Int) = n := w64 (by omega) (by omega)
  have e4 : ¬ (9223372036854775807 : Int) < n := by omega
  simp [VM.look, hr, e0, e1, e2, e3, e4, mul_c n (by omega)]
  refine vneed_eq (by omega) ?_
  have lk : ∀ L, (H ++ L)[id]? = some ⟨[.int .i64 c], 0, 3⟩ := fun L => by rw [List.getElem?_append_left (List.getElem?_eq_some_iff.1 hr).1, hr]
  have er : VM.splice (List.replicate n (Value.int .i64 0)) 0 [.int .i64 c] = List.replicate 1 (.int .i64 c) ++ List.replicate (n - 1) (.int .i64 0) := by
    have := splice_rep (.int .i64 c) (.int .i64 0) 0 n 1 h1
    simpa using this
  have m1 : Nat.min 1 n = 1 := Nat.min_eq_left h1
  simp [VM.look, lk, m1, er]
  refine go_inv (fun m t H' => ∃ k : Nat, m = n - k ∧ 1 ≤ k ∧ k ≤ n ∧ t 7 = .slice (some ⟨H.length, 0, some 0⟩) n 0 ∧ t 8 = .int .i64 k ∧ H' = H ++ [⟨List.replicate k (.int .i64 c) ++ List.replicate (n - k) (.int .i64 0), 0, 3⟩]) ?_ (n := n - 1) ⟨1, by simp [e3]; exact h1⟩
  rintro m t H' ⟨k, rfl, hk1, hk, h7, h8, rfl⟩ ih
  simp [h7, h8]
  refine br_dec _ ?_ ?_ <;> intro hkn
  · simp [h7, h8]
    rw [go_draw (h := by kernel_rfl)]
    simp [h7, h8]
    have hmin : k.min (n - k) = min k (n - k) := rfl
    have hrep := splice_rep (.int .i64 c) (.int .i64 0) k (n - k) (min k (n - k)) (Nat.min_le_right _ _)
    have hones : ones (List.replicate k (Value.int .i64 c)) = true := by simp [ones, VM.one]
    refine vneed_eq hk (vneed_eq hk (vneed_eq hones ?_))
    refine ih (n - (k + min k (n - k))) _ _ ⟨k + min k (n - k), rfl, by omega, by omega, by simp [h7], ?_, ?_⟩ (by omega)
    · simp [hmin]; rw [w64 (by omega) (by omega)]
    · rw [hrep]; congr 3; congr 1; congr 1; omega
  · have : k = n := by omega
    subst this
    simp [h7, h8]
end Go.Proofs.YtlbbalmeaedbdaaGreat.V
/-! TreeNodes. -/
set_option linter.all false
namespace Go.Proofs.YtlbbalmeaedbdaaGreat.V
open Go Go.VM Go.Proofs
set_option maxRecDepth 10000
variable {frz : Nat} {H : Heap}
theorem made_base {α : Type} {D : Fl α} {e : TypeId} {L H' : Heap} {xs : List α} {r : Value} (h : Made D e (H ++ L) xs r H') : Made D e H xs r H' := by
  obtain ⟨M, rfl, o, n⟩ := h
  exact ⟨L ++ M, by simp, by simpa using o, fun i hi => by have := n i hi; simp at this; omega⟩
theorem idx_get {y : List Int} {c : Int} (h : c ∈ y) : y[y.idxOf c]'(List.idxOf_lt_length_iff.2 h) = c := by
  have := List.findIdx_getElem (p := (· == c)) (xs := y) (w := List.idxOf_lt_length_iff.2 h)
  simpa using this
theorem idx_ne {y : List Int} {c : Int} {j : Nat} (h : j < y.idxOf c) (h' : j < y.length) : y[j] ≠ c := by
  have := List.not_of_lt_findIdx (p := (· == c)) (xs := y) h
  simpa using this
theorem idx_at {y : List Int} {c : Int} {j : Nat} (h : j < y.length) (h1 : y[j] = c) : y.idxOf c ≤ j := by
  by_cases hj : j < y.idxOf c
  · exact absurd h1 (idx_ne hj h)
  · omega
theorem swapI {A B : Heap} {v : Value} {xs : List Int} {r : Row} (r' : Row) (h : IsI (A ++ r :: B) v xs) (hn : ∀ i ∈ ids v, A.length + 1 ≤ i) : IsI (A ++ r' :: B) v xs :=
  (h.rd.frame fun i hi => by
    have := hn i hi
    obtain ⟨k, rfl⟩ : ∃ k, i = A.length + (k + 1) := ⟨i - A.length - 1, by omega⟩
    simp).isI
theorem treeNodes_w (v : Value) (P : List Int) (a b : Int) (hI : IsI H v P) (hl : P.length ≤ 536870911) :
   wp (vcall C frz 25 [v, .int .i64 a, .int .i64 b] H) (Made Fl.int 3 H (treeNodes P a b)) := by
  rw [vcall_go (fn := Tryz.f25) Tryz.func25 rfl (by kernel_rfl) rfl]
  simp [common_c _ _ _ _ hI (by omega)]
  refine wp_dec ?_ ?_ <;> intro h0
  · simp [treeNodes, h0]
    exact ⟨[], by simp, .inl ⟨rfl, rfl⟩, by simp⟩
  · simp
    refine wp_thn (anc_w v P a hI (by omega)) ?_
    rintro va _ ⟨L1, rfl, oa, na⟩
    simp
    refine wp_thn (anc_w v P b (hI.app _) (by omega)) ?_
    rintro vb _ ⟨L2, rfl, ob, nb⟩
    have ltA := oa.lt
    have oa := oa.app (L := L2)
    have hla := anc_len P a
    have hlb := anc_len P b
    simp only [List.append_assoc] at oa ob
    obtain ⟨ma, mb⟩ := common_mem (P := P) (a := a) (b := b) (by omega)
    have ia := List.idxOf_lt_length_iff.2 ma
    have ib := List.idxOf_lt_length_iff.2 mb
    simp
    rw [go_draw (h := by kernel_rfl)]
    have e1 : IntKind.i64.wrap (((anc P a).idxOf (common P a b) : Int) + 1) = (((anc P a).idxOf (common P a b) + 1 : Nat) : Int) := by rw [w64 (by omega) (by omega)]; omega
    obtain ⟨va', s1, oa', ida⟩ := oa.slice (P := Tryz.prog) (ty := 26) (by simp) (lo := none) (hi := some (.int .i64 (((anc P a).idxOf (common P a b) + 1 : Nat) : Int))) (l := 0) (u := (anc P a).idxOf (common P a b) + 1) rfl rfl (by omega) (by omega)
    obtain ⟨vb', s2, ob', idb⟩ := ob.slice (P := Tryz.prog) (ty := 26) (by simp) (lo := none) (hi := some (.int .i64 ((anc P b).idxOf (common P a b) : Int))) (l := 0) (u := (anc P b).idxOf (common P a b)) rfl rfl (by omega) (by omega)
    rw [List.drop_zero, Nat.sub_zero] at oa' ob'
    have e0 : place (anc P a) (common P a b) = ((anc P a).idxOf (common P a b) : Int) := if_pos ma
    have e00 : place (anc P b) (common P a b) = ((anc P b).idxOf (common P a b) : Int) := if_pos mb
    rw [e1.symm] at s1
    simp [index_c _ _ _ oa.rd.isI (by omega), e0]
    simp only [s1]
    simp [index_c _ _ _ ob.rd.isI (by omega), e00]
    simp only [s2]
    simp
    rw [ida.symm] at na ltA
    rw [idb.symm] at nb
    refine wp_thn (reverse_w vb' _ 3 ob' (by simp; omega) (fun i hi => by have := nb i hi; simp at this; omega)) ?_
    rintro _ H3 ⟨ob3, c3, l3⟩
    have oa3 := oa'.chg c3 (fun i hi hh => by have h1 := ltA i hi; have h2 := nb i hh; omega)
    obtain ⟨M, rfl⟩ : ∃ M, H3 = H ++ M := ((Chg.app (H := H) (L := L1 ++ L2) []).trans' c3 (fun i hi => .inr (by have := nb i hi; simp at this; omega))).ex (by simp)
    simp
    simp [oa3.rd.one', oa3.rd.cells, ob3.rd.one', ob3.rd.cells]
    refine wp_thn (Q' := Made Fl.int 3 H (treeNodes P a b)) ?_ ?_
    · refine (made_ret (H := H ++ (M ++ [⟨[va', vb'], 0, 26⟩])) (concat_c (H := H ++ (M ++ [⟨[va', vb'], 0, 26⟩])) (H.length + M.length) va' vb' ((anc P a).take ((anc P a).idxOf (common P a b) + 1)) ((anc P b).take ((anc P b).idxOf (common P a b))).reverse (by simp) ?_ ?_ (by simp; omega))).mono ?_
      · have := oa3.rd.isI.app [⟨[va', vb'], 0, 26⟩]; simpa using this
      · have := ob3.rd.isI.app [⟨[va', vb'], 0, 26⟩]; simpa using this
      · intro r H4 h4
        rw [treeNodes, if_neg h0]
        exact made_base h4
    · intro r H4 h4
      simp
      exact h4
end Go.Proofs.YtlbbalmeaedbdaaGreat.V
/-! TreeDepths. -/
set_option linter.all false
namespace Go.Proofs.YtlbbalmeaedbdaaGreat.V
open Go Go.VM Go.Proofs
set_option maxRecDepth 10000
variable {frz : Nat} {H : Heap}
theorem rowget {xs : List Int} {x : Int} (h0 : 0 ≤ x) (h1 : x < xs.length) : (xs.map (Value.int .i64))[x.toNat]? = some (.int .i64 (rd xs x)) := by
  obtain ⟨i, rfl⟩ := Int.eq_ofNat_of_zero_le h0
  rw [rd_at (by omega)]; simp
theorem rd_nat {xs : List Int} {x : Int} (h0 : 0 ≤ x) (h1 : x < xs.length) : xs[x.toNat]'(by omega) = rd xs x := by
  obtain ⟨i, rfl⟩ := Int.eq_ofNat_of_zero_le h0
  rw [rd_at (by omega)]; rfl
theorem rowset {xs : List Int} {x c : Int} (h0 : 0 ≤ x) (h1 : x < xs.length) : VM.splice (xs.map (Value.int .i64)) x.toNat [.int .i64 c] = (xs.set x.toNat c).map (.int .i64) := by
  unfold VM.splice
  rw [List.set_eq_take_append_cons_drop, if_pos (by omega)]
  simp
theorem wr1 : IntKind.i64.wrap 1 = 1 := by decide
theorem run_next {w h : Int} {b s rest nx r : List Int} {d : Int} (R : Run w h b s rest nx d r) (i : Inv w h s rest nx d) : (rest = [] ∧ nx = [] ∧ s = r) ∨
    ∃ a rest' nx' d', rest ++ nx = a :: (rest' ++ nx') ∧ Inv w h s (a :: rest') nx' d' ∧ Run w h b (vis w h b a d' (s, nx')).1 rest' (vis w h b a d' (s, nx')).2 d' r := by
  cases R with
  | done => exact .inl ⟨rfl, rfl, rfl⟩
  | level R =>
    cases R with
    | node R => exact .inr ⟨_, _, [], _, by simp, i.level, R⟩
  | node R => exact .inr ⟨_, _, _, _, by simp, i, R⟩
theorem treeDepths_w (w h : Int) (v : Value) (b : List Int) (root : Int) (hI : IsI H v b) (hl : b.length ≤ 1073741824) :
   wp (vcall C frz 34 [.agg #[.int .i64 w, .int .i64 h, v], .int .i64 root] H) (Made Fl.int 3 H (depths w h b root)) := by
  rw [vcall_go (fn := Tryz.f34) Tryz.func34 rfl (by kernel_rfl) rfl]
  have one := And.intro hI.one' hI.cells
  simp [one, isRoot_c _ _ _ _ _ (hI.app _) hl, -Bool.decide_and]
  refine wp_dec ?_ ?_ <;> intro hR
  · have R := depths_run hR
    have hc := cnt_range w h
    obtain ⟨hm, hr⟩ := hR
    obtain ⟨i0, hq0⟩ := start_inv hr
    obtain ⟨r0, r1⟩ := hr
    have hn1 : 1 ≤ (cnt w h).toNat := by omega
    have ecn : ((cnt w h).toNat : Int) = cnt w h := by omega
    have rep := fun F L (hr : (H ++ ⟨[.int .i64 w, .int .i64 h, v], 0, 28⟩ :: L)[H.length + 1]? = some ⟨[.int .i64 (-1)], 0, 3⟩) => repeat_c (frz := F) (H := H ++ ⟨[.int .i64 w, .int .i64 h, v], 0, 28⟩ :: L) (H.length + 1) (-1) (cnt w h).toNat hr hn1 (by omega)
    rw [ecn] at rep
    simp [one, nodeCount_c]
    rw [rep _ _ (by simp)]
    have er : List.replicate (cnt w h).toNat (Value.int .i64 (-1)) = (List.replicate (cnt w h).toNat (-1 : Int)).map (.int .i64) := by simp
    have es := rowset (xs := List.replicate (cnt w h).toNat (-1 : Int)) (c := 0) r0 (by simp; omega)
    rw [er]
    simp only [thn_some]
    have hrl : root < ((cnt w h).toNat : Int) := by omega
    simp [r0, r1, hrl, -List.map_replicate, es, -List.map_set]
    refine wp_need (by omega) (wp_need (by omega) ?_)
    have est : (List.replicate (cnt w h).toNat (-1 : Int)).set root.toNat 0 = start w h root := rfl
    rw [est]
    have hlm : b.length ≤ 1073741824 := hl
    refine wp_inv (fun n t H' => ∃ (s don rest nx q : List Int) (d : Int) (g : Nat) (G : Heap), n = (cnt w h).toNat - don.length ∧ q = don ++ (rest ++ nx) ∧
      t 2 = .pointer (some ⟨H.length, 0, some 0⟩) ∧ t 5 = .slice (some ⟨H.length + 2, 0, some 0⟩) s.length 0 ∧ t 6 = .slice (some ⟨H.length + 3, 0, some g⟩) q.length 0 ∧ t 7 = .int .i64 don.length ∧
      H' = H ++ ⟨[.int .i64 w, .int .i64 h, v], 0, 28⟩ :: ⟨[.int .i64 (-1)], 0, 3⟩ :: ⟨s.map (.int .i64), 0, 3⟩ :: ⟨q.map (.int .i64), g, 3⟩ :: G ∧
      Run w h b s rest nx d (depths w h b root) ∧ Inv w h s rest nx d ∧ ((don.length + rest.length + nx.length + neg s : Nat) : Int) = cnt w h) ?_
      (n := (cnt w h).toNat) ⟨start w h root, [], [root], [], [root], 1, 0, [], by simp, by simp, by simp, by simp [start], by simp, by simp, by simp, R, i0, by simp; omega⟩
    clear R i0 hq0 rep
    rintro n t H' ⟨s, don, rest, nx, q, d, g, G, rfl, hqe, h2, h5, h6, h7, rfl, R, i, hq⟩ ih
    have hql := congrArg List.length hqe
    simp at hql
    simp [h2, h5, h6, h7]
    rcases run_next R i with ⟨rfl, rfl, rfl⟩ | ⟨a, rest', nx', d', hcat, i', R'⟩
    · have hlt : ¬ don.length < q.length := by simp at hql; omega
      simp [h2, h5, h6, h7, hlt]
      exact ⟨_, rfl, Ow.new (k := 2) rfl (cellsOf_int _).symm (by simp) rfl, by simp⟩
    · have hlc := congrArg List.length hcat
      simp at hlc
      have hlt : don.length < q.length := by omega
      have hget : q[don.length]? = some a := by rw [hqe, hcat]; simp
      have hgv : q[don.length] = a := by have := List.getElem?_eq_getElem hlt; rw [hget] at this; exact (Option.some.inj this).symm
      obtain ⟨ha, hda⟩ := i'.fr a (by simp)
      have ha1 := (isN_ok ha)
      have h1d := i'.one
      have hsd := i'.sum
      simp [h2, h5, h6, h7, hlt, hgv]
      refine wp_inv (fun n t H' => ∃ (x : List Int × List Int) (p g : Nat) (G : Heap), n = 4 - p ∧ p ≤ 4 ∧ x = (List.range p).foldl (vst w h b a d') (s, q) ∧ BExt w h d' (s, q) x ∧
        t 2 = .pointer (some ⟨H.length, 0, some 0⟩) ∧ t 5 = .slice (some ⟨H.length + 2, 0, some 0⟩) x.1.length 0 ∧ t 6 = .slice (some ⟨H.length + 3, 0, some g⟩) x.2.length 0 ∧ t 7 = .int .i64 don.length ∧
        t 8 = .int .i64 a ∧ t 9 = .int .i64 p ∧
        H' = H ++ ⟨[.int .i64 w, .int .i64 h, v], 0, 28⟩ :: ⟨[.int .i64 (-1)], 0, 3⟩ :: ⟨x.1.map (.int .i64), 0, 3⟩ :: ⟨x.2.map (.int .i64), g, 3⟩ :: G) ?_
        (n := 4) ⟨(s, q), 0, g, G, by simp, by simp, by simp, BExt.rfl', by simp [h2], by simp [h5], by simp [h6], by simp [h7], by simp, by simp, by simp⟩
      clear h2 h5 h6 h7
      rintro n t H' ⟨x, p, g, G, rfl, hp, hx, E, h2, h5, h6, h7, h8, h9, rfl⟩ ih2
      have hlen : (x.1.length : Int) = cnt w h := by rw [E.len]; exact i.len
      have hxq : x.2.length ≤ 16 := by have := E.sum; simp at this; omega
      simp [h2, h5, h6, h7, h8, h9]
      refine wp_dec ?_ ?_ <;> intro hp4
      · have hp4' : p < 4 := by omega
        have e1 : IntKind.i64.wrap (4 * a) = 4 * a := w64 (by omega) (by omega)
        have e2 : IntKind.i64.wrap (4 * a + p) = 4 * a + p := w64 (by omega) (by omega)
        have nxt := fun (x' : List Int × List Int) (t' : Env) (g' : Nat) (G' H' : Heap) (hH : H' = H ++ ⟨[.int .i64 w, .int .i64 h, v], 0, 28⟩ :: ⟨[.int .i64 (-1)], 0, 3⟩ :: ⟨x'.1.map (.int .i64), 0, 3⟩ :: ⟨x'.2.map (.int .i64), g', 3⟩ :: G') (hx' : x' = vst w h b a d' x p) (k2 : t' 2 = .pointer (some ⟨H.length, 0, some 0⟩)) (k5 : t' 5 = .slice (some ⟨H.length + 2, 0, some 0⟩) x'.1.length 0) (k6 : t' 6 = .slice (some ⟨H.length + 3, 0, some g'⟩) x'.2.length 0) (k7 : t' 7 = .int .i64 don.length) (k8 : t' 8 = .int .i64 a) (k9 : t' 9 = .int .i64 (p + 1 : Nat)) =>
          ih2 (4 - (p + 1)) t' H'
            ⟨x', p + 1, g', G', rfl, by omega, by rw [List.range_succ, List.foldl_append, ← hx]; exact hx', by rw [hx']; exact E.trans (by omega) (vst_ext hp4' (by omega)), k2, k5, k6, k7, k8, k9, hH⟩ (by omega)
        have w9 : IntKind.i64.wrap ((p : Int) + 1) = ((p + 1 : Nat) : Int) := by rw [w64 (by omega) (by omega)]; omega
        simp [h2, h5, h6, h7, h8, h9, one, e1, e2, isLink_c _ _ _ _ _ (hI.app _) hl, hm]
        refine wp_dec ?_ ?_ <;> intro hlk
        · obtain ⟨_, hn, he⟩ := link_next hp4' hlk
          have hend := fun F L => (congrArg (fun z => some (Value.int .i64 z, H ++ L)) he) ▸ endOf_c (frz := F) w h v b (4 * a + (p : Int)) (hI.app L) hlk.1.1
          have hn1 := hn.1
          have hn2 : next w h a p < (x.1.length : Int) := by have := hn.2; omega
          have hg := rowget (xs := x.1) hn1 hn2
          have hr1 := rd_nat hn1 hn2
          have hra : rd x.1 a = d' - 1 := by rw [E.old a ha.1 (show 0 ≤ rd s a by omega)]; exact hda
          have ha2 : a < (x.1.length : Int) := by have := ha.2; omega
          have hr2 := rd_nat ha.1 ha2
          simp [h2, h5, h6, h7, h8, h9, one, e1, e2, hend, hn1, hn2, hr1]
          refine wp_dec ?_ ?_ <;> intro hz
          · have hset := rowset (c := d') hn1 hn2
            have ev : vst w h b a d' x p = (x.1.set (next w h a p).toNat d', x.2 ++ [next w h a p]) := by unfold vst; rw [if_pos ⟨hlk, hz⟩]
            have wd : IntKind.i64.wrap d' = d' := w64 (by omega) (by omega)
            have ha0 := ha.1
            simp [h2, h5, h6, h7, h8, h9, hn1, hn2, ha0, ha2, hr2, hra, wd]
            refine wp_need (by omega) (wp_need (by omega) ?_)
            rw [hset]
            refine nxt (x.1.set (next w h a p).toNat d', x.2 ++ [next w h a p]) _ (g + 1) (G ++ [⟨[.int .i64 (next w h a p)], 0, 3⟩]) _ (by simp) ev.symm (by simp [h2]) (by simp [h5]) (by simp) (by simp [h7]) (by simp [h8]) (by simp [w9])
          · simp [h2, h5, h6, h7, h8, h9, hz]
            have ev : x = vst w h b a d' x p := by unfold vst; rw [if_neg (fun hh => hz hh.2)]
            refine nxt x _ g G _ (by simp) ev (by simp [h2]) (by simp [h5]) (by simp [h6]) (by simp [h7]) (by simp [h8]) (by simp [w9])
        · simp [h2, h5, h6, h7, h8, h9, hlk]
          have ev : x = vst w h b a d' x p := by unfold vst; rw [if_neg (fun hh => hlk hh.1)]
          refine nxt x _ g G _ (by simp) ev (by simp [h2]) (by simp [h5]) (by simp [h6]) (by simp [h7]) (by simp [h8]) (by simp [w9])
      · have : p = 4 := by omega
        subst this
        have e2 : x = ((vis w h b a d' (s, nx')).1, (don ++ a :: rest') ++ (vis w h b a d' (s, nx')).2) := by
          rw [hx, hqe, hcat]; exact vis_app (don ++ a :: rest') s nx' |> fun hh => by simpa [vis] using hh
        simp [h2, h5, h6, h7, h8, h9]
        have hs1 := (vis_ext (w := w) (h := h) (b := b) (a := a) (d := d') (by omega) (s, nx')).sum
        simp only at hs1
        refine ih ((cnt w h).toNat - (don ++ [a]).length) _ _ ⟨(vis w h b a d' (s, nx')).1, don ++ [a], rest', (vis w h b a d' (s, nx')).2, x.2, d', g, G, rfl, ?_, by simp [h2], ?_, by simp [h6], ?_, ?_, R', i'.node, ?_⟩ (by simp; omega)
        · rw [e2]; simp
        · simp [h5, e2]
        · simp; rw [w64 (by omega) (by omega)]
        · rw [e2]
        · simp; omega
  · rw [depths_no hR]
    simp
    exact ⟨_, rfl, .inl ⟨rfl, rfl⟩, by simp⟩
end Go.Proofs.YtlbbalmeaedbdaaGreat.V
/-! TreeDepths of the reference. -/
set_option linter.all false
namespace Go.Proofs.YtlbbalmeaedbdaaGreat.V
open Go Go.VM Go.Proofs
set_option maxRecDepth 10000
variable {frz : Nat} {H : Heap}
theorem run_level {w h : Int} {b s nx r : List Int} {d : Int} (R : Run w h b s [] nx d r) (i : Inv w h s [] nx d) : (nx = [] ∧ s = r) ∨ (Run w h b s nx [] (d + 1) r ∧ Inv w h s nx [] (d + 1)) := by
  cases R with
  | done => exact .inl ⟨rfl, rfl⟩
  | level R => exact .inr ⟨R, i.level⟩
theorem run_node {w h : Int} {b s rest nx r : List Int} {a d : Int} (R : Run w h b s (a :: rest) nx d r) : Run w h b (vis w h b a d (s, nx)).1 rest (vis w h b a d (s, nx)).2 d r := by
  cases R with
  | node R => exact R
theorem l31Depths_w (w h : Int) (v : Value) (b : List Int) (root : Int) (hI : IsI H v b) (hl : b.length ≤ 1073741824) (hR : rootOk w h b root) :
   wp (vcall C frz 57 [.agg #[.int .i64 w, .int .i64 h, v], .int .i64 root] H) (Made Fl.int 3 H (depths w h b root)) := by
  rw [vcall_go (fn := Tryz.f57) Tryz.func57 rfl (by kernel_rfl) rfl]
  have one := And.intro hI.one' hI.cells
  have R := depths_run hR
  have hc := cnt_range w h
  obtain ⟨hm, hr⟩ := hR
  obtain ⟨i0, hq0⟩ := start_inv hr
  obtain ⟨r0, r1⟩ := hr
  simp [one]
  refine wp_inv (fun n t H' => ∃ (i : Nat) (G : Heap), n = (cnt w h).toNat - i ∧ i ≤ (cnt w h).toNat ∧ t 1 = .int .i64 root ∧ t 2 = .pointer (some ⟨H.length, 0, some 0⟩) ∧ t 5 = .slice (some ⟨H.length + 1, 0, some i⟩) i 0 ∧ t 6 = .int .i64 i ∧
    H' = H ++ ⟨[.int .i64 w, .int .i64 h, v], 0, 28⟩ :: ⟨(List.replicate i (-1 : Int)).map (.int .i64), i, 3⟩ :: G) ?_ (n := (cnt w h).toNat) ⟨0, [], by simp⟩
  rintro n t H' ⟨i, G, rfl, hi, h1, h2, h5, h6, rfl⟩ ih
  simp [h1, h2, h5, h6, one, sNodeCount_c, -List.map_replicate]
  refine wp_dec ?_ ?_ <;> intro hic
  · simp [h1, h2, h5, h6, one, -List.map_replicate]
    refine wp_need (by omega) ?_
    refine ih ((cnt w h).toNat - (i + 1)) _ _ ⟨i + 1, G ++ [⟨[.int .i64 (-1)], 0, 3⟩], rfl, by omega, by simp [h1], by simp [h2], by simp, ?_, ?_⟩ (by omega)
    · simp; rw [w64 (by omega) (by omega)]
    · simp [List.replicate_succ', -List.map_replicate]
  · have : i = (cnt w h).toNat := by omega
    subst this
    have es := rowset (xs := List.replicate (cnt w h).toNat (-1 : Int)) (c := 0) r0 (by simp; omega)
    have hrl : root < ((cnt w h).toNat : Int) := by omega
    have est : (List.replicate (cnt w h).toNat (-1 : Int)).set root.toNat 0 = start w h root := rfl
    simp [h1, h2, h5, h6, one, r0, r1, hrl, -List.map_replicate, es, -List.map_set, est]
    refine wp_need (by omega) (wp_need (by omega) ?_)
    clear ih h1 h6
    generalize hg0 : (cnt w h).toNat = g0
    have hcg : (cnt w h) = (g0 : Int) := by omega
    refine wp_inv (fun n t H' => ∃ (s fr : List Int) (d : Int) (vf : Value) (L : Heap), n = g0 + 2 - d.toNat ∧ 1 ≤ d ∧ d ≤ g0 + 1 ∧ s.length = g0 ∧ fr.length ≤ 16 ∧
      t 2 = .pointer (some ⟨H.length, 0, some 0⟩) ∧ t 5 = .slice (some ⟨H.length + 1, 0, some g0⟩) s.length 0 ∧ t 7 = vf ∧ t 8 = .int .i64 d ∧
      H' = H ++ ⟨[.int .i64 w, .int .i64 h, v], 0, 28⟩ :: ⟨s.map (.int .i64), g0, 3⟩ :: L ∧
      (∀ r1 L', IsI (H ++ ⟨[.int .i64 w, .int .i64 h, v], 0, 28⟩ :: r1 :: (L ++ L')) vf fr) ∧
      ((fr = [] ∧ s = depths w h b root) ∨ (Run w h b s fr [] d (depths w h b root) ∧ Inv w h s fr [] d))) ?_
      (n := g0 + 1) ⟨start w h root, [root], 1, _, G ++ [⟨[.int .i64 root], 0, 3⟩], by simp, by omega, by omega, by simp [start, hg0], by simp, by simp [h2], by simp [start, hg0, h5], rfl, by simp, by simp, ?_, .inr ⟨R, i0⟩⟩
    · clear R i0 hq0
      rintro n t H' ⟨s, fr, d, vf, L, rfl, hd1, hd2, hsl, hfl, h2, h5, h7, h8, rfl, fF, hRI⟩ ih
      have lenF := fun r1 L' => (fF r1 L').len (P := Tryz.prog) (ty := 26) (by simp)
      have lenF0 := fun r1 => lenF r1 []
      simp only [List.append_nil] at lenF0
      simp [h2, h5, h7, h8, lenF, lenF0]
      refine wp_dec ?_ ?_ <;> intro hf0
      · rcases hRI with ⟨rfl, _⟩ | ⟨R, i⟩
        · simp at hf0
        simp [h2, h5, h7, h8]
        -- the nodes of the front
        refine wp_inv (fun n t H' => ∃ (s don rest nx : List Int) (g : Nat) (G : Heap), n = fr.length - don.length ∧ fr = don ++ rest ∧ s.length = g0 ∧
          t 2 = .pointer (some ⟨H.length, 0, some 0⟩) ∧ t 5 = .slice (some ⟨H.length + 1, 0, some g0⟩) s.length 0 ∧ t 7 = vf ∧ t 8 = .int .i64 d ∧ t 9 = .slice (some ⟨H.length + (L.length + 1 + 1), 0, some g⟩) nx.length 0 ∧ t 10 = .int .i64 don.length ∧
          H' = H ++ ⟨[.int .i64 w, .int .i64 h, v], 0, 28⟩ :: ⟨s.map (.int .i64), g0, 3⟩ :: (L ++ ⟨nx.map (.int .i64), g, 3⟩ :: G) ∧
          Run w h b s rest nx d (depths w h b root) ∧ Inv w h s rest nx d) ?_ (n := fr.length) ⟨s, [], fr, [], 0, [], by simp, by simp, hsl, by simp [h2], by simp [h5], by simp [h7], by simp [h8], by simp, by simp, by simp, R, i⟩
        clear R i h2 h5 h7 h8 hsl
        rintro n t H' ⟨s, don, rest, nx, g, G, rfl, hfe, hsl, h2, h5, h7, h8, h9, h10, rfl, R, i⟩ ih2
        simp [h2, h5, h7, h8, h9, h10, lenF]
        have hlf := congrArg List.length hfe
        simp at hlf
        have h1d := i.one
        have hsd := i.sum
        refine wp_dec ?_ ?_ <;> intro hdl
        · obtain ⟨a, rest', rfl⟩ : ∃ a rest', rest = a :: rest' := by
            cases rest with
            | nil => simp at hlf; omega
            | cons a l => exact ⟨a, l, rfl⟩
          obtain ⟨ha, hda⟩ := i.fr a (by simp)
          have ha1 := isN_ok ha
          have hgv : fr[don.length] = a := by subst hfe; simp
          have xF := fun r1 L' => (fF r1 L').idx (P := Tryz.prog) (ty := 26) (e := 3) (by simp) (i := (don.length : Int)) (by omega) (by omega)
          have dF := fun r1 L' => ((fF r1 L').load (P := Tryz.prog) (e := 3) (by simp) hdl).trans (by rw [getD_get _ _ hdl, hgv])
          simp only [Int.toNat_natCast] at xF
          simp [h2, h5, h7, h8, h9, h10]
          refine wp_inv (fun n t H' => ∃ (x : List Int × List Int) (p g : Nat) (G : Heap), n = 4 - p ∧ p ≤ 4 ∧ x = (List.range p).foldl (vst w h b a d) (s, nx) ∧ BExt w h d (s, nx) x ∧
            t 2 = .pointer (some ⟨H.length, 0, some 0⟩) ∧ t 5 = .slice (some ⟨H.length + 1, 0, some g0⟩) x.1.length 0 ∧ t 7 = vf ∧ t 8 = .int .i64 d ∧ t 9 = .slice (some ⟨H.length + (L.length + 1 + 1), 0, some g⟩) x.2.length 0 ∧ t 10 = .int .i64 don.length ∧ t 11 = .int .i64 p ∧
            H' = H ++ ⟨[.int .i64 w, .int .i64 h, v], 0, 28⟩ :: ⟨x.1.map (.int .i64), g0, 3⟩ :: (L ++ ⟨x.2.map (.int .i64), g, 3⟩ :: G)) ?_
            (n := 4) ⟨(s, nx), 0, g, G, by simp, by simp, by simp, BExt.rfl', by simp [h2], by simp [h5], by simp [h7], by simp [h8], by simp [h9], by simp [h10], by simp, by simp⟩
          clear h2 h5 h7 h8 h9 h10
          rintro n t H' ⟨x, p, g, G, rfl, hp, hx, E, h2, h5, h7, h8, h9, h10, h11, rfl⟩ ih3
          have hlen : (x.1.length : Int) = cnt w h := by rw [E.len]; exact i.len
          have hxq : x.2.length ≤ 16 := by have := E.sum; simp at this; omega
          simp [h2, h5, h7, h8, h9, h10, h11]
          refine wp_dec ?_ ?_ <;> intro hp4
          · have hp4' : p < 4 := by omega
            have e1 : IntKind.i64.wrap (4 * a) = 4 * a := w64 (by omega) (by omega)
            have e2 : IntKind.i64.wrap (4 * a + p) = 4 * a + p := w64 (by omega) (by omega)
            have nxt := fun (x' : List Int × List Int) (t' : Env) (g' : Nat) (G' H' : Heap) (hH : H' = H ++ ⟨[.int .i64 w, .int .i64 h, v], 0, 28⟩ :: ⟨x'.1.map (.int .i64), g0, 3⟩ :: (L ++ ⟨x'.2.map (.int .i64), g', 3⟩ :: G')) (hx' : x' = vst w h b a d x p) (k2 : t' 2 = .pointer (some ⟨H.length, 0, some 0⟩)) (k5 : t' 5 = .slice (some ⟨H.length + 1, 0, some g0⟩) x'.1.length 0) (k7 : t' 7 = vf) (k8 : t' 8 = .int .i64 d) (k9 : t' 9 = .slice (some ⟨H.length + (L.length + 1 + 1), 0, some g'⟩) x'.2.length 0) (k10 : t' 10 = .int .i64 don.length) (k11 : t' 11 = .int .i64 (p + 1 : Nat)) =>
              ih3 (4 - (p + 1)) t' H' ⟨x', p + 1, g', G', rfl, by omega, by rw [List.range_succ, List.foldl_append, ← hx]; exact hx', by rw [hx']; exact E.trans (by omega) (vst_ext hp4' (by omega)), k2, k5, k7, k8, k9, k10, k11, hH⟩ (by omega)
            have w11 : IntKind.i64.wrap ((p : Int) + 1) = ((p + 1 : Nat) : Int) := by rw [w64 (by omega) (by omega)]; omega
            simp [h2, h5, h7, h8, h9, h10, h11, one]
            rw [go_draw (h := by kernel_rfl)]
            simp [h2, h5, h7, h8, h9, h10, h11, one, xF, dF, e1, e2, l31Link_c _ _ _ _ _ (hI.app _) hl]
            refine wp_dec ?_ ?_ <;> intro hlk
            · obtain ⟨_, hn, he⟩ := link_next hp4' hlk
              have hn1 := hn.1
              have hn2 : next w h a p < (x.1.length : Int) := by have := hn.2; omega
              have hr1 := rd_nat hn1 hn2
              simp [h2, h5, h7, h8, h9, h10, h11, one]
              rw [go_draw (h := by kernel_rfl)]
              simp [h2, h5, h7, h8, h9, h10, h11, one, xF, dF, sNextNode_c, hn1, hn2, hr1]
              refine wp_dec ?_ ?_ <;> intro hz
              · have hset := rowset (c := d) hn1 hn2
                have ev : vst w h b a d x p = (x.1.set (next w h a p).toNat d, x.2 ++ [next w h a p]) := by unfold vst; rw [if_pos ⟨hlk, hz⟩]
                simp [h2, h5, h7, h8, h9, h10, h11, hn1, hn2]
                refine wp_need (by omega) (wp_need (by omega) ?_)
                rw [hset]
                refine nxt (x.1.set (next w h a p).toNat d, x.2 ++ [next w h a p]) _ (g + 1) (G ++ [⟨[.int .i64 (next w h a p)], 0, 3⟩]) _ (by simp) ev.symm (by simp [h2]) (by simp [h5]) (by simp [h7]) (by simp [h8]) (by simp) (by simp [h10]) (by simp [w11])
              · simp [h2, h5, h7, h8, h9, h10, h11, hz]
                have ev : x = vst w h b a d x p := by unfold vst; rw [if_neg (fun hh => hz hh.2)]
                refine nxt x _ g G _ (by simp) ev (by simp [h2]) (by simp [h5]) (by simp [h7]) (by simp [h8]) (by simp [h9]) (by simp [h10]) (by simp [w11])
            · simp [h2, h5, h7, h8, h9, h10, h11, hlk]
              have ev : x = vst w h b a d x p := by unfold vst; rw [if_neg (fun hh => hlk hh.1)]
              refine nxt x _ g G _ (by simp) ev (by simp [h2]) (by simp [h5]) (by simp [h7]) (by simp [h8]) (by simp [h9]) (by simp [h10]) (by simp [w11])
          · have : p = 4 := by omega
            subst this
            have e2 : x = vis w h b a d (s, nx) := hx
            simp [h2, h5, h7, h8, h9, h10, h11]
            refine ih2 (fr.length - (don ++ [a]).length) _ _ ⟨(vis w h b a d (s, nx)).1, don ++ [a], rest', (vis w h b a d (s, nx)).2, g, G, rfl, by rw [hfe]; simp, by rw [← e2]; omega, by simp [h2], by simp [h5, e2], by simp [h7], by simp [h8], by simp [h9, e2], ?_, by rw [e2], run_node R, i.node⟩ (by simp; omega)
            simp; rw [w64 (by omega) (by omega)]
        · obtain rfl : rest = [] := by
            cases rest with
            | nil => rfl
            | cons a l => simp at hlf; omega
          simp [h2, h5, h7, h8, h9, h10]
          have wd : IntKind.i64.wrap (d + 1) = d + 1 := w64 (by omega) (by omega)
          refine ih (g0 + 2 - (d + 1).toNat) _ _ ⟨s, nx, d + 1, _, L ++ ⟨nx.map (.int .i64), g, 3⟩ :: G, rfl, by omega, by omega, hsl, by omega, by simp [h2], by simp [h5], rfl, by simp [wd], by simp, ?_, ?_⟩ (by omega)
          · intro r1 L'
            simp
            exact IsI.at (k := L.length + 1 + 1) (by simp; rfl)
          · rcases run_level R i with ⟨rfl, rfl⟩ | hh
            · exact .inl ⟨rfl, rfl⟩
            · exact .inr hh
      · have hs : s = depths w h b root := by
          rcases hRI with ⟨_, hs⟩ | ⟨R, i⟩
          · exact hs
          · obtain rfl : fr = [] := by
              cases fr with
              | nil => rfl
              | cons a l => simp at hf0
            rcases run_level R i with ⟨_, hh⟩ | ⟨R2, i2⟩
            · exact hh
            · cases R with
              | done => rfl
        subst hs
        simp [h2, h5, h7, h8]
        exact ⟨_, rfl, Ow.new (k := 1) rfl (cellsOf_int _).symm (by simp) rfl, by simp⟩
    · intro r1 L'
      simp
      exact IsI.at (xs := [root]) (k := G.length + 1 + 1) (e := 3) (by simp)
theorem sTreeDepths_w (w h : Int) (v : Value) (b : List Int) (root : Int) (hI : IsI H v b) (hl : b.length ≤ 1073741824) :
   wp (vcall C frz 26 [.agg #[.int .i64 w, .int .i64 h, v], .int .i64 root] H) (Made Fl.int 3 H (depths w h b root)) := by
  rw [vcall_go (fn := Tryz.f26) Tryz.func26 rfl (by kernel_rfl) rfl]
  have one := And.intro hI.one' hI.cells
  simp [one, l31Ok_c _ _ _ _ _ (hI.app _) hl, -Bool.decide_and]
  refine wp_dec ?_ ?_ <;> intro hR
  · simp [one]
    refine wp_thn (l31Depths_w w h v b root (hI.app _) hl hR) ?_
    intro r H' k
    simp
    exact made_base k
  · rw [depths_no hR]
    simp
    exact ⟨_, rfl, Ow.new (D := Fl.int) (e := 3) (k := 1) (g := 0) (cs := []) rfl rfl rfl rfl, by simp⟩
end Go.Proofs.YtlbbalmeaedbdaaGreat.V
/-! TreeParents, IsConnected, DepthOfTree, BestRoot. -/
set_option linter.all false
namespace Go.Proofs.YtlbbalmeaedbdaaGreat.V
open Go Go.VM Go.Proofs
set_option maxRecDepth 10000
variable {frz : Nat} {H : Heap}
/-- the parent that j ports, from the last one on, tell -/
def pF (w h : Int) (b d : List Int) (i : Int) : Nat → Int
  | 0 => -1
  | j + 1 => if toRoot w h b d i (3 - j) then next w h i (3 - j : Nat) else pF w h b d i j
theorem pF_par {w h : Int} {b d : List Int} {i : Int} (h0 : rd d i > 0) : pF w h b d i 4 = par w h b d i := by
  simp only [par, pF, if_pos h0]
theorem wrm1 : IntKind.i64.wrap (-1) = -1 := by decide
theorem treeParents_w (w h : Int) (v : Value) (b : List Int) (root : Int) (hI : IsI H v b) (hl : b.length ≤ 1073741824) :
   wp (vcall C frz 23 [.agg #[.int .i64 w, .int .i64 h, v], .int .i64 root] H) (Made Fl.int 3 H (parents w h b root)) := by
  rw [vcall_go (fn := Tryz.f23) Tryz.func23 rfl (by kernel_rfl) rfl]
  have one := And.intro hI.one' hI.cells
  have hc := cnt_range w h
  simp [one]
  refine wp_thn (treeDepths_w w h v b root (hI.app _) hl) ?_
  rintro vd _ ⟨L, rfl, od, nd⟩
  have od := od.rd.isI
  simp only [List.append_assoc, List.singleton_append] at od
  have hdl := depths_length w h b root
  have dm := fun v (hv : v ∈ depths w h b root) => depths_mem hv
  have dv : (depths w h b root) ≠ [] → rootOk w h b root ∧ ((depths w h b root).length : Int) = cnt w h := fun hne => by
    by_cases hR : rootOk w h b root
    · exact ⟨hR, (depths_inv hR).1⟩
    · exact absurd (depths_no hR) hne
  unfold parents pars
  generalize depths w h b root = D at *
  have fD := fun L' => od.app L'
  simp only [List.append_assoc, List.cons_append, List.nil_append] at fD
  have lD := fun L' => (fD L').len (P := Tryz.prog) (ty := 26) (by simp)
  simp [lD]
  refine wp_inv (fun n t H' => ∃ (i g : Nat) (G : Heap) (o : List Int), n = D.length - i ∧ i ≤ D.length ∧ o = (List.range i).map (fun i : Nat => par w h b D (i : Int)) ∧
    t 2 = .pointer (some ⟨H.length, 0, some 0⟩) ∧ t 5 = vd ∧ t 6 = .slice (some ⟨H.length + (L.length + 1), 0, some g⟩) o.length 0 ∧ t 16 = vd ∧ t 17 = .int .i64 D.length ∧ t 18 = .int .i64 i ∧
    H' = H ++ ⟨[.int .i64 w, .int .i64 h, v], 0, 28⟩ :: (L ++ ⟨o.map (.int .i64), g, 3⟩ :: G)) ?_ (n := D.length) ⟨0, 0, [], [], by simp⟩
  rintro n t H' ⟨i, g, G, o, rfl, hi, ho, h2, h5, h6, h16, h17, h18, rfl⟩ ih
  simp [h2, h5, h6, h16, h17, h18]
  have hol : o.length = i := by rw [ho]; simp
  refine wp_dec ?_ ?_ <;> intro hid
  · obtain ⟨⟨hm, hr⟩, hlc⟩ := dv (fun hh => by rw [hh] at hid; simp at hid)
    have hid' : i < D.length := by omega
    have xD := fun L' => (fD L').idx (P := Tryz.prog) (ty := 26) (e := 3) (by simp) (i := (i : Int)) (by omega) (by omega)
    have rD := fun L' => ((fD L').load (P := Tryz.prog) (e := 3) (by simp) hid').trans (by rw [getD_get _ _ hid', ← rd_at hid'])
    simp only [Int.toNat_natCast] at xD
    have hd := dm _ (rd_mem (s := D) (k := (i : Int)) (by omega) (by omega))
    have w3 : IntKind.i64.wrap (rd D i - 1) = rd D i - 1 := w64 (by omega) (by omega)
    simp [h2, h5, h6, h16, h17, h18, xD, rD]
    refine wp_inv (fun n t H' => ∃ (j : Nat), n = 4 - j ∧ j ≤ 4 ∧ (rd D i > 0 ∨ j = 0) ∧
      t 2 = .pointer (some ⟨H.length, 0, some 0⟩) ∧ t 5 = vd ∧ t 6 = .slice (some ⟨H.length + (L.length + 1), 0, some g⟩) o.length 0 ∧ t 16 = vd ∧ t 17 = .int .i64 D.length ∧ t 18 = .int .i64 i ∧
      t 7 = .int .i64 i ∧ t 8 = .int .i64 (rd D i) ∧ t 9 = .int .i64 (pF w h b D i j) ∧ t 10 = .int .i64 (3 - j : Int) ∧
      H' = H ++ ⟨[.int .i64 w, .int .i64 h, v], 0, 28⟩ :: (L ++ ⟨o.map (.int .i64), g, 3⟩ :: G)) ?_ (n := 4) ⟨0, by simp [h2, h5, h6, h16, h17, h18, pF]⟩
    clear h2 h5 h6 h16 h17 h18
    rintro n t H' ⟨j, rfl, hj, hpos, h2, h5, h6, h16, h17, h18, h7, h8, h9, h10, rfl⟩ ih2
    simp [h2, h5, h6, h16, h17, h18, h7, h8, h9, h10]
    refine wpg_dec ?_ ?_ <;> intro hj3
    · have hj4 : j < 4 := by omega
      simp [h2, h5, h6, h16, h17, h18, h7, h8, h9, h10, hj3]
      refine wp_dec ?_ ?_ <;> intro hp0
      · have ep : (3 - (j : Int)) = ((3 - j : Nat) : Int) := by omega
        have hp4 : 3 - j < 4 := by omega
        have e1 : IntKind.i64.wrap (4 * (i : Int)) = 4 * i := w64 (by omega) (by omega)
        have e2 : IntKind.i64.wrap (4 * (i : Int) + (3 - j : Nat)) = 4 * i + (3 - j : Nat) := w64 (by omega) (by omega)
        have nxt := fun (t' : Env) (k2 : t' 2 = .pointer (some ⟨H.length, 0, some 0⟩)) (k5 : t' 5 = vd) (k6 : t' 6 = .slice (some ⟨H.length + (L.length + 1), 0, some g⟩) o.length 0) (k16 : t' 16 = vd) (k17 : t' 17 = .int .i64 D.length) (k18 : t' 18 = .int .i64 i) (k7 : t' 7 = .int .i64 i) (k8 : t' 8 = .int .i64 (rd D i)) (k9 : t' 9 = .int .i64 (pF w h b D i (j + 1))) (k10 : t' 10 = .int .i64 (IntKind.i64.wrap (((3 - j : Nat) : Int) - 1))) =>
          ih2 (4 - (j + 1)) t' (H ++ ⟨[.int .i64 w, .int .i64 h, v], 0, 28⟩ :: (L ++ ⟨o.map (.int .i64), g, 3⟩ :: G)) ⟨j + 1, rfl, by omega, .inl hp0, k2, k5, k6, k16, k17, k18, k7, k8, k9, by rw [k10, w64 (by omega) (by omega)]; congr 1; omega, rfl⟩ (by omega)
        rw [ep] at h10
        simp [h2, h5, h6, h16, h17, h18, h7, h8, h9, h10, e1, e2, one, isLink_c _ _ _ _ _ (hI.app _) hl, hm]
        refine wpg_dec ?_ ?_ <;> intro hlk
        · obtain ⟨_, hn, he⟩ := link_next hp4 hlk
          have hend := fun F L => (congrArg (fun z => some (Value.int .i64 z, H ++ L)) he) ▸ endOf_c (frz := F) w h v b (4 * (i : Int) + (3 - j : Nat)) (hI.app L) hlk.1.1
          have xE := fun L' => (fD L').idx (P := Tryz.prog) (ty := 26) (e := 3) (by simp) hn.1 (by have := hn.2; omega)
          have rE := fun L' => ((fD L').load (P := Tryz.prog) (e := 3) (by simp) (j := (next w h i (3 - j : Nat)).toNat) (by have := hn.1; have := hn.2; omega))
          have rE' : D.getD (next w h i (3 - j : Nat)).toNat 0 = rd D (next w h i (3 - j : Nat)) := rfl
          rw [rE'] at rE
          simp [h2, h5, h6, h16, h17, h18, h7, h8, h9, h10, e1, e2, one, hlk, hend, xE, rE, w3]
          refine wp_dec ?_ ?_ <;> intro hdd
          · simp [h2, h5, h6, h16, h17, h18, h7, h8, h9, h10, e1, e2, one, hlk, hend]
            refine nxt _ (by simp [h2]) (by simp [h5]) (by simp [h6]) (by simp [h16]) (by simp [h17]) (by simp [h18]) (by simp [h7]) (by simp [h8]) ?_ (by simp [h10])
            simp [pF, toRoot, hlk, hdd]
          · simp [h2, h5, h6, h16, h17, h18, h7, h8, h9, h10, hdd]
            refine nxt _ (by simp [h2]) (by simp [h5]) (by simp [h6]) (by simp [h16]) (by simp [h17]) (by simp [h18]) (by simp [h7]) (by simp [h8]) ?_ (by simp [h10])
            simp [pF, toRoot, hdd, h9]
        · simp [h2, h5, h6, h16, h17, h18, h7, h8, h9, h10, hlk]
          refine nxt _ (by simp [h2]) (by simp [h5]) (by simp [h6]) (by simp [h16]) (by simp [h17]) (by simp [h18]) (by simp [h7]) (by simp [h8]) ?_ (by simp [h10])
          simp [pF, toRoot, hlk, h9]
      · have hj0 : j = 0 := by omega
        subst hj0
        have he : pF w h b D i 0 = par w h b D i := by unfold par; rw [if_neg hp0]; rfl
        rw [he] at h9
        simp [h2, h5, h6, h16, h17, h18, h7, h8, h9, h10, hp0]
        refine wp_need (by omega) ?_
        refine ih (D.length - (i + 1)) _ _ ⟨i + 1, g + 1, G ++ [⟨[.int .i64 (par w h b D i)], 0, 3⟩], o ++ [par w h b D i], rfl, by omega, by rw [List.range_succ, List.map_append, ← ho]; rfl, by simp [h2], by simp [h5], by simp, by simp [h16], by simp [h17], ?_, by simp⟩ (by omega)
        simp; rw [w64 (by omega) (by omega)]
    · have hj4 : j = 4 := by omega
      subst hj4
      have he : pF w h b D i 4 = par w h b D i := pF_par (by omega)
      rw [he] at h9
      simp [h2, h5, h6, h16, h17, h18, h7, h8, h9, h10]
      refine wp_need (by omega) ?_
      refine ih (D.length - (i + 1)) _ _ ⟨i + 1, g + 1, G ++ [⟨[.int .i64 (par w h b D i)], 0, 3⟩], o ++ [par w h b D i], rfl, by omega, by rw [List.range_succ, List.map_append, ← ho]; rfl, by simp [h2], by simp [h5], by simp, by simp [h16], by simp [h17], ?_, by simp⟩ (by omega)
      simp; rw [w64 (by omega) (by omega)]
  · have : i = D.length := by omega
    subst this
    simp [h2, h5, h6, h16, h17, h18]
    rw [← ho]
    exact ⟨_, rfl, Ow.new (k := L.length + 1) (by simp) (cellsOf_int _).symm (by simp) rfl, by simp⟩
end Go.Proofs.YtlbbalmeaedbdaaGreat.V
/-! TreeParents of the reference. -/
set_option linter.all false
namespace Go.Proofs.YtlbbalmeaedbdaaGreat.V
open Go Go.VM Go.Proofs
set_option maxRecDepth 10000
variable {frz : Nat} {H : Heap}
theorem par_at {w h : Int} {b d : List Int} {i : Int} {p : Nat} (hp : p < 4) (h0 : rd d i > 0) (h1 : ∀ q < p, ¬ toRoot w h b d i q) (h2 : toRoot w h b d i p) : par w h b d i = next w h i p := by
  unfold par
  rw [if_pos h0]
  have : p = 0 ∨ p = 1 ∨ p = 2 ∨ p = 3 := by omega
  rcases this with rfl | rfl | rfl | rfl
  · rw [if_pos h2]
  · rw [if_neg (h1 0 (by omega)), if_pos h2]
  · rw [if_neg (h1 0 (by omega)), if_neg (h1 1 (by omega)), if_pos h2]
  · rw [if_neg (h1 0 (by omega)), if_neg (h1 1 (by omega)), if_neg (h1 2 (by omega)), if_pos h2]
theorem par_none {w h : Int} {b d : List Int} {i : Int} (h1 : rd d i > 0 → ∀ q < 4, ¬ toRoot w h b d i q) : par w h b d i = -1 := by
  unfold par
  by_cases h0 : rd d i > 0
  · have h1 := h1 h0
    rw [if_pos h0, if_neg (h1 0 (by omega)), if_neg (h1 1 (by omega)), if_neg (h1 2 (by omega)), if_neg (h1 3 (by omega))]
  · rw [if_neg h0]
end Go.Proofs.YtlbbalmeaedbdaaGreat.V
/-! IsConnected, DepthOfTree, BestRoot. -/
set_option linter.all false
namespace Go.Proofs.YtlbbalmeaedbdaaGreat.V
open Go Go.VM Go.Proofs
set_option maxRecDepth 10000
variable {frz : Nat} {H : Heap}
theorem ite_max (a b : Int) : (if a < b then b else a) = max a b := by omega
theorem foldl_max_take {xs : List Int} {a : Int} {i : Nat} (h : i < xs.length) : (xs.take (i + 1)).foldl max a = max ((xs.take i).foldl max a) xs[i] := by
  rw [List.take_succ_eq_append_getElem h, List.foldl_append]; rfl
theorem max_c (v : Value) (xs : List Int) (hI : IsI H v xs) (h0 : 0 < xs.length) (hl : xs.length ≤ 1073741824) (hm : ∀ x ∈ xs, -1 ≤ x) :
   vcall C frz 33 [v] H = some (.int .i64 (xs.foldl max (-1)), H) := by
  rw [vcall_go (fn := Tryz.f33) Tryz.func33 rfl (by kernel_rfl) rfl]
  have q0 := hI.idx (P := Tryz.prog) (ty := 26) (e := 3) (by simp) (i := 0) (by omega) (by omega)
  have r0 := (hI.load (P := Tryz.prog) (e := 3) (by simp) h0).trans (by rw [getD_get _ _ h0])
  have n0 : ¬ (xs.length : Int) < 1 := by omega
  have e0 : xs ≠ [] := fun hh => by rw [hh] at h0; simp at h0
  simp [hI.len, e0, n0, q0, r0]
  refine go_inv (fun n t H' => ∃ i : Nat, n = xs.length - i ∧ 1 ≤ i ∧ i ≤ xs.length ∧ t 0 = v ∧ t 3 = .int .i64 ((xs.take i).foldl max (-1)) ∧ t 4 = .int .i64 i ∧ H' = H) ?_ (n := xs.length - 1) ⟨1, rfl, by omega, by omega, by simp, ?_, by simp, rfl⟩
  · rintro n t H' ⟨i, rfl, h1, hi, k0, k3, k4, rfl⟩ ih
    simp [k0, k3, k4, hI.len]
    refine br_dec _ ?_ ?_ <;> intro h5
    · have q1 := hI.idx (P := Tryz.prog) (ty := 26) (e := 3) (by simp) (i := (i : Int)) (by omega) (by omega)
      have r1 := (hI.load (P := Tryz.prog) (e := 3) (by simp) h5).trans (by rw [getD_get _ _ h5])
      simp only [Int.toNat_natCast] at q1
      simp [k0, k3, k4, q1, r1]
      refine ih (xs.length - (i + 1)) _ _ ⟨i + 1, rfl, by omega, by omega, by simp [k0], ?_, ?_, rfl⟩ (by omega)
      · simp [foldl_max_take h5, ite_max]
      · simp; rw [w64 (by omega) (by omega)]
    · have : i = xs.length := by omega
      subst this
      simp [k0, k3, k4]
  · have := hm _ (List.getElem_mem h0)
    rw [show (1 : Nat) = 0 + 1 from rfl, foldl_max_take h0]
    simp; omega
theorem depthOfTree_c (w h : Int) (v : Value) (b : List Int) (root : Int) (hI : IsI H v b) (hl : b.length ≤ 1073741824) :
   vcall C frz 12 [.agg #[.int .i64 w, .int .i64 h, v], .int .i64 root] H = some (.int .i64 (depthOf w h b root), H) := by
  refine wp.exact (by simp) ?_ rfl
  rw [vcall_go (fn := Tryz.f12) Tryz.func12 rfl (by kernel_rfl) rfl]
  have one := And.intro hI.one' hI.cells
  simp [one, isRoot_c _ _ _ _ _ (hI.app _) hl, -Bool.decide_and]
  refine wp_dec ?_ ?_ <;> intro hR
  · simp [one]
    refine wp_thn (treeDepths_w w h v b root (hI.app _) hl) ?_
    rintro vd _ ⟨L, rfl, od, nd⟩
    have hc := cnt_range w h
    have i := depths_inv hR
    have hn := isN_ok hR.2
    have hp := hR.2.2
    have hq := hR.2.1
    have od := od.rd.isI
    simp only [List.append_assoc, List.singleton_append] at od
    simp [max_c _ _ od (by omega) (by omega) (fun x hx => (i.2 x hx).1), depthOf]
  · have hd : depths w h b root = [] := depths_no hR
    simp [depthOf, hd]
theorem isConnected_c (w h : Int) (v : Value) (b : List Int) (hI : IsI H v b) (hl : b.length ≤ 1073741824) :
   vcall C frz 15 [.agg #[.int .i64 w, .int .i64 h, v]] H = some (.bool (decide (conn w h b)), H) := by
  refine wp.exact (by simp) ?_ rfl
  rw [vcall_go (fn := Tryz.f15) Tryz.func15 rfl (by kernel_rfl) rfl]
  have one := And.intro hI.one' hI.cells
  simp [one, meshOk_c _ _ _ _ (hI.app _) hl]
  refine wpg_dec ?_ ?_ <;> intro hm
  · simp [one, hm]
    refine wp_thn (treeDepths_w w h v b 0 (hI.app _) hl) ?_
    rintro vd _ ⟨L, rfl, od, nd⟩
    have hl16 := depths_length w h b 0
    have od := od.rd.isI
    simp only [List.append_assoc, List.singleton_append] at od
    simp [hm, contains_c _ _ _ od (by omega), conn]
  · simp [conn, hm]
theorem sIsConnected_c (w h : Int) (v : Value) (b : List Int) (hI : IsI H v b) (hl : b.length ≤ 1073741824) :
   vcall C frz 9 [.agg #[.int .i64 w, .int .i64 h, v]] H = some (.bool (decide (conn w h b)), H) := by
  refine wp.exact (by simp) ?_ rfl
  rw [vcall_go (fn := Tryz.f9) Tryz.func9 rfl (by kernel_rfl) rfl]
  have one := And.intro hI.one' hI.cells
  simp [one]
  refine wp_thn (sTreeDepths_w w h v b 0 (hI.app _) hl) ?_
  rintro vd _ ⟨L, rfl, od, nd⟩
  have hl16 := depths_length w h b 0
  have key : conn w h b ↔ (0 < (depths w h b 0).length ∧ ∀ x ∈ depths w h b 0, ¬ x < 0) := by
    constructor
    · rintro ⟨hm, hn⟩
      have hr := okG_isN hm.2
      have i := depths_inv (root := 0) ⟨hm, hr⟩
      have := hr.2
      refine ⟨by omega, fun x hx hlt => hn ?_⟩
      have := (i.2 x hx).1
      rwa [show x = -1 by omega] at hx
    · rintro ⟨h0, hn⟩
      have hR : rootOk w h b 0 := by
        by_cases hR : rootOk w h b 0
        · exact hR
        · rw [depths_no hR] at h0; simp at h0
      exact ⟨hR.1, fun hh => hn _ hh (by omega)⟩
  simp only [key]
  generalize depths w h b 0 = xs at *
  have od := od.rd.isI
  simp only [List.append_assoc, List.singleton_append] at od
  simp
  refine wp_inv (fun n t H' => ∃ i : Nat, n = xs.length - i ∧ i ≤ xs.length ∧ t 3 = vd ∧ t 4 = .int .i64 i ∧ H' = H ++ ⟨[.int .i64 w, .int .i64 h, v], 0, 28⟩ :: L ∧ ∀ x ∈ xs.take i, ¬ x < 0) ?_ (n := xs.length) ⟨0, by simp⟩
  rintro n t H' ⟨i, rfl, hi, k3, k4, rfl, hk⟩ ih
  simp [k3, k4, od.len]
  refine wp_dec ?_ ?_ <;> intro h5
  · have q1 := od.idx (P := Tryz.prog) (ty := 26) (e := 3) (by simp) (i := (i : Int)) (by omega) (by omega)
    have r1 := (od.load (P := Tryz.prog) (e := 3) (by simp) h5).trans (by rw [getD_get _ _ h5])
    simp only [Int.toNat_natCast] at q1
    simp [k3, k4, q1, r1]
    refine wp_dec ?_ ?_ <;> intro h6
    · simp [k3, k4, h6]
      exact fun _ => ⟨_, List.getElem_mem h5, h6⟩
    · simp [k3, k4, h6]
      refine ih (xs.length - (i + 1)) _ _ ⟨i + 1, rfl, by omega, by simp [k3], ?_, rfl, take_succ_no h5 hk h6⟩ (by omega)
      simp; rw [w64 (by omega) (by omega)]
  · have : i = xs.length := by omega
    subst this
    rw [List.take_length] at hk
    simp [k3, k4, od.len]
    by_cases h0 : xs = []
    · simp [h0]
    · have : 0 < xs.length := List.length_pos_iff.2 h0
      simp [this, h0]; exact fun x hx => by have := hk x hx; omega
theorem best_range {w h : Int} {b : List Int} (n : Nat) : 0 ≤ (List.range n).foldl (better w h b) 0 := by
  induction n with
  | zero => simp
  | succ n ih => rw [List.range_succ, List.foldl_append]; exact better_range ih
theorem bestRoot_c (w h : Int) (v : Value) (b : List Int) (hI : IsI H v b) (hl : b.length ≤ 1073741824) :
   vcall C frz 10 [.agg #[.int .i64 w, .int .i64 h, v]] H = some (.int .i64 (bestRoot w h b), H) := by
  refine wp.exact (by simp) ?_ rfl
  rw [vcall_go (fn := Tryz.f10) Tryz.func10 rfl (by kernel_rfl) rfl]
  have one := And.intro hI.one' hI.cells
  have hc := cnt_range w h
  simp [one, isConnected_c _ _ _ _ (hI.app _) hl]
  refine wp_dec ?_ ?_ <;> intro hcn
  · simp [one, nodeCount_c]
    refine wp_inv (fun n t H' => ∃ i : Nat, n = (cnt w h).toNat - i ∧ i ≤ (cnt w h).toNat ∧ t 1 = .pointer (some ⟨H.length, 0, some 0⟩) ∧ t 3 = .int .i64 ((List.range i).foldl (better w h b) 0) ∧ t 10 = .int .i64 (cnt w h) ∧ t 11 = .int .i64 i ∧ H' = H ++ [⟨[.int .i64 w, .int .i64 h, v], 0, 28⟩]) ?_ (n := (cnt w h).toNat) ⟨0, by simp⟩
    rintro n t H' ⟨i, rfl, hi, k1, k3, k10, k11, rfl⟩ ih
    simp [k1, k3, k10, k11]
    refine wp_dec ?_ ?_ <;> intro h5
    · simp [k1, k3, k10, k11]
      rw [go_draw (h := by kernel_rfl)]
      simp [k1, k3, k10, k11, one, depthOfTree_c _ _ _ _ _ (hI.app _) hl]
      have e : (List.range (i + 1)).foldl (better w h b) 0 = better w h b ((List.range i).foldl (better w h b) 0) i := by rw [List.range_succ, List.foldl_append]; rfl
      refine wp_dec ?_ ?_ <;> intro h6
      · simp [k1, k3, k10, k11, h6]
        refine ih ((cnt w h).toNat - (i + 1)) _ _ ⟨i + 1, rfl, by omega, by simp [k1], ?_, by simp [k10], ?_, rfl⟩ (by omega)
        · simp [e, better, h6]
        · simp; rw [w64 (by omega) (by omega)]
      · simp [k1, k3, k10, k11, h6]
        refine ih ((cnt w h).toNat - (i + 1)) _ _ ⟨i + 1, rfl, by omega, by simp [k1], ?_, by simp [k10], ?_, rfl⟩ (by omega)
        · simp [e, better, h6, k3]
        · simp; rw [w64 (by omega) (by omega)]
    · have : i = (cnt w h).toNat := by omega
      subst this
      simp [k1, k3, k10, k11, bestRoot, hcn]
  · simp [bestRoot, hcn]
end Go.Proofs.YtlbbalmeaedbdaaGreat.V
/-! Draws: the cursor, grids, meshes. -/
set_option linter.all false
namespace Go.Proofs.YtlbbalmeaedbdaaGreat.V
open Go Go.VM Go.Proofs
set_option maxRecDepth 10000
variable {frz : Nat} {H H' : Heap} {vb : Value} {code : List Int} {r : Nat}
theorem iand255 (a : Int) : 0 ≤ iand .i64 a 255 ∧ iand .i64 a 255 < 256 := by
  unfold iand
  have h1 : (BitVec.ofInt IntKind.i64.bits a &&& BitVec.ofInt IntKind.i64.bits 255).toNat ≤ 255 := by
    rw [BitVec.toNat_and]
    exact Nat.le_trans Nat.and_le_right (by decide)
  rw [w64 (by omega) (by omega)]
  omega
/-- a cursor -/
def Cur (H : Heap) (r : Nat) (vb : Value) (code : List Int) : Prop :=
  ∃ (i : Nat) (h : Int), i ≤ code.length ∧ H[r]? = some ⟨[vb, .int .i64 i, .int .i64 h], 0, 73⟩ ∧ Rd Fl.u8 H vb code ∧ r ∉ ids vb ∧ code.length ≤ 1073741824
theorem Cur.lt (h : Cur H r vb code) : r < H.length := by obtain ⟨_, _, _, h2, _⟩ := h; exact box_lt h2
theorem Cur.chg {is : List Nat} (h : Cur H r vb code) (c : Chg H H' is) (k : r ∉ is) (k' : ∀ i ∈ ids vb, i ∉ is) : Cur H' r vb code := by
  obtain ⟨i, x, h1, h2, h3, h4, h5⟩ := h
  exact ⟨i, x, h1, box_chg h2 c k, h3.chg c k', h4, h5⟩
theorem l01New_w (vb : Value) (code : List Int) (hb : Rd Fl.u8 H vb code) (hl : code.length ≤ 1073741824) :
   wp (vcall C frz 20 [vb] H) (fun u H' => ∃ r, u = .pointer (some ⟨r, 0, some 0⟩) ∧ H.length ≤ r ∧ Cur H' r vb code ∧ Chg H H' []) := by
  rw [vcall_go (fn := Tryz.f20) Tryz.func20 rfl (by kernel_rfl) rfl]
  simp [hb.len]
  refine wp_joino (F := ?F) (k := ?k) (o := ?o) (Q := ?Q) (fun t H' => H' = H ∧ t 0 = vb ∧ ∃ h, t 3 = .int .i64 h) ?main ?rest
  case main =>
    intro rest
    refine wp_inv (fun n t H' => ∃ i : Nat, n = code.length - i ∧ i ≤ code.length ∧ t 0 = vb ∧ t 4 = .int .i64 i ∧ (∃ h, t 3 = .int .i64 h) ∧ H = H') ?_ (n := code.length)
      ⟨0, rfl, by omega, by simp, by simp, ⟨_, by simp; rfl⟩, rfl⟩
    rintro n t _ ⟨i, rfl, hi, t0, t4, ⟨h, t3⟩, rfl⟩ ih
    simp [t0, t3, t4, hb.len]
    refine wpg_dec ?_ ?_ <;> intro g1
    · simp [t0, t3, t4, g1]
      refine wp_dec ?_ ?_ <;> intro g2
      · have q1 := hb.idx (P := Tryz.prog) (ty := 22) (e := 5) (by simp) (i := (i : Int)) (by omega) (by omega)
        have r1 := hb.cell1 (P := Tryz.prog) (e := 5) rfl (by simp) g1
        simp at q1 r1
        simp [t0, t3, t4, q1, r1]
        refine ih (code.length - (i + 1)) _ _ ⟨i + 1, rfl, by omega, by simp [t0], ?_, ⟨_, by simp; rfl⟩, rfl⟩ (by omega)
        simp; rw [w64 (by omega) (by omega)]
      · simp [t0, t3, t4, -go_exit_blk]
        refine rest _ _ ?_
        exact ⟨rfl, by simp [t0], h, by simp [t3]⟩
    · simp [t0, t3, t4, g1, -go_exit_blk]
      refine rest _ _ ?_
      exact ⟨rfl, by simp [t0], h, by simp [t3]⟩
  case rest =>
    rintro t H' ⟨hH, t0, h, t3⟩
    rw [hH]
    simp [t0, t3, hb.one', hb.cells]
    exact ⟨⟨0, h, by omega, by simp, hb.app, fun hh => by have := hb.lt _ hh; omega, hl⟩, Chg.app _⟩
theorem l01Byte_w (c : Cur H r vb code) (hf : frz ≤ r) : wp (vcall C frz 46 [.pointer (some ⟨r, 0, some 0⟩)] H) (fun u H' => (∃ x : Nat, u = .int .i64 x ∧ x < 256) ∧ Chg H H' [r] ∧ Cur H' r vb code) := by
  obtain ⟨i, h, hi, hr, hb, hn, hl⟩ := c
  have lt := box_lt hr
  rw [vcall_go (fn := Tryz.f46) Tryz.func46 rfl (by kernel_rfl) rfl]
  simp [vnil, VM.look, hr, hf]
  generalize IntKind.i64.wrap (IntKind.i64.wrap (h * 6364136223846793005) + 1442695040888963407) = h1
  have hr1 := set_get (r' := ⟨[vb, .int .i64 i, .int .i64 h1], 0, 73⟩) hr
  have c1 : Chg H (H.set r ⟨[vb, .int .i64 i, .int .i64 h1], 0, 73⟩) [r] := chg_set _ _
  generalize H.set r ⟨[vb, .int .i64 i, .int .i64 h1], 0, 73⟩ = H1 at *
  have hb1 := hb.chg c1 (fun j hj hh => by have := List.mem_singleton.1 hh; subst this; exact hn hj)
  rw [go_draw (h := by kernel_rfl)]
  simp [vnil, VM.look, hr1]
  obtain ⟨x, hx⟩ : ∃ x : Nat, iand .i64 (ixor .i64 (ishr .i64 h1 33) (ishr .i64 h1 45)) 255 = x := ⟨_, (Int.toNat_of_nonneg (iand255 _).1).symm⟩
  have hx2 := (iand255 (ixor .i64 (ishr .i64 h1 33) (ishr .i64 h1 45))).2
  rw [hx] at hx2
  simp [hx]
  rw [go_draw (h := by kernel_rfl)]
  simp [vnil, VM.look, hr1, hb1.len]
  refine wp_dec ?_ ?_ <;> intro g1
  · have q1 := hb1.idx (P := Tryz.prog) (ty := 22) (e := 5) (by simp) (i := (i : Int)) (by omega) (by omega)
    have r1 := hb1.cell1 (P := Tryz.prog) (e := 5) rfl (by simp) g1
    simp at q1 r1
    simp
    rw [go_draw (h := by kernel_rfl)]
    have e1 : IntKind.i64.wrap ((i : Int) + 1) = ((i + 1 : Nat) : Int) := by rw [w64 (by omega) (by omega)]; omega
    simp only [vnil, VM.look, hr1, q1, r1]
    simp [vnil, VM.look, hr1, q1, r1, hf]
    generalize hz : IntKind.i64.wrap ((x : Int) + IntKind.i64.wrap code[i]) = z
    obtain ⟨y, hy⟩ : ∃ y : Nat, iand .i64 z 255 = y := ⟨_, (Int.toNat_of_nonneg (iand255 _).1).symm⟩
    have hy2 := (iand255 z).2
    rw [hy] at hy2
    rw [hy, e1]
    have hr2 := set_get (r' := ⟨[vb, .int .i64 (i + 1 : Nat), .int .i64 h1], 0, 73⟩) hr1
    have c2 : Chg H1 (H1.set r ⟨[vb, .int .i64 (i + 1 : Nat), .int .i64 h1], 0, 73⟩) [r] := chg_set _ _
    exact ⟨⟨y, rfl, by omega⟩, c1.trans c2, i + 1, h1, by omega, hr2, hb1.chg c2 (fun j hj hh => by have := List.mem_singleton.1 hh; subst this; exact hn hj), hn, hl⟩
  · simp
    exact ⟨⟨x, rfl, by omega⟩, c1, i, h1, hi, hr1, hb1, hn, hl⟩
theorem tmod_lt' {x n : Nat} (hn : 0 < n) : (x : Int).tmod (n : Int) = ((x % n : Nat) : Int) := by rw [Int.tmod_eq_emod_of_nonneg (by omega)]; rfl
theorem l01Below_w (c : Cur H r vb code) (hf : frz ≤ r) (n : Nat) (hn : 0 < n) (hn2 : n < 2147483648) : wp (vcall C frz 21 [.pointer (some ⟨r, 0, some 0⟩), .int .i64 n] H) (fun u H' => (∃ x : Nat, u = .int .i64 x ∧ x < n) ∧ Chg H H' [r] ∧ Cur H' r vb code) := by
  have hn0 : ¬ (n : Int) ≤ 0 := by omega
  have hn1 : ¬ n = 0 := by omega
  rw [vcall_go (fn := Tryz.f21) Tryz.func21 rfl (by kernel_rfl) rfl]
  simp [hn0, hn1]
  refine wp_dec ?_ ?_ <;> intro g1
  · simp
    refine wp_thn (l01Byte_w c hf) ?_
    rintro _ H1 ⟨⟨x, rfl, hx⟩, c1, d1⟩
    have hm : x % n < n := Nat.mod_lt _ hn
    have e1 : IntKind.i64.wrap ((x % n : Nat) : Int) = ((x % n : Nat) : Int) := w64 (by omega) (by omega)
    simp [hn1, tmod_lt' hn, e1]
    exact ⟨⟨x % n, by simp, hm⟩, c1, d1⟩
  · simp
    refine wp_thn (l01Byte_w c hf) ?_
    rintro _ H1 ⟨⟨x, rfl, hx⟩, c1, d1⟩
    simp
    refine wp_thn (l01Byte_w d1 hf) ?_
    rintro _ H2 ⟨⟨y, rfl, hy⟩, c2, d2⟩
    simp
    refine wp_thn (l01Byte_w d2 hf) ?_
    rintro _ H3 ⟨⟨z, rfl, hz⟩, c3, d3⟩
    simp
    refine wp_thn (l01Byte_w d3 hf) ?_
    rintro _ H4 ⟨⟨w, rfl, hw⟩, c4, d4⟩
    obtain ⟨q, hq⟩ : ∃ q : Nat, q = x * 16777216 + y * 65536 + z * 256 + w := ⟨_, rfl⟩
    have e1 : IntKind.i64.wrap (IntKind.i64.wrap (IntKind.i64.wrap (IntKind.i64.wrap ((x : Int) * 16777216) + IntKind.i64.wrap ((y : Int) * 65536)) + IntKind.i64.wrap ((z : Int) * 256)) + (w : Int)) = (q : Int) := by
      rw [w64 (x := (x : Int) * 16777216) (by omega) (by omega), w64 (x := (y : Int) * 65536) (by omega) (by omega), w64 (x := (z : Int) * 256) (by omega) (by omega), w64 (x := (x : Int) * 16777216 + (y : Int) * 65536) (by omega) (by omega), w64 (x := (x : Int) * 16777216 + (y : Int) * 65536 + (z : Int) * 256) (by omega) (by omega), w64 (by omega) (by omega)]
      omega
    have hm : q % n < n := Nat.mod_lt _ hn
    have e2 : IntKind.i64.wrap ((q % n : Nat) : Int) = ((q % n : Nat) : Int) := w64 (by omega) (by omega)
    simp [hn1, e1, tmod_lt' hn, e2]
    exact ⟨⟨q % n, by simp, hm⟩, c1.trans (c2.trans (c3.trans c4)), d4⟩
theorem l01Once_w (c : Cur H r vb code) (hf : frz ≤ r) (n : Nat) (hn : 0 < n) (hn2 : n < 2147483648) : wp (vcall C frz 45 [.pointer (some ⟨r, 0, some 0⟩), .int .i64 n] H) (fun u H' => (∃ b : Bool, u = .bool b) ∧ Chg H H' [r] ∧ Cur H' r vb code) := by
  rw [vcall_go (fn := Tryz.f45) Tryz.func45 rfl (by kernel_rfl) rfl]
  simp
  refine wp_thn (l01Below_w c hf n hn hn2) ?_
  rintro _ H1 ⟨⟨x, rfl, hx⟩, c1, d1⟩
  simp
  exact ⟨by omega, c1, d1⟩
theorem l01PickInt_w (c : Cur H r vb code) (hf : frz ≤ r) (v : Value) (xs : List Int) (hI : IsI H v xs) (hv : r ∉ ids v) (h0 : 0 < xs.length) (hl : xs.length < 2147483648) :
   wp (vcall C frz 92 [.pointer (some ⟨r, 0, some 0⟩), v] H) (fun u H' => (∃ x, u = .int .i64 x ∧ x ∈ xs) ∧ Chg H H' [r] ∧ Cur H' r vb code) := by
  rw [vcall_go (fn := Tryz.f92) Tryz.func92 rfl (by kernel_rfl) rfl]
  simp [hI.len]
  refine wp_thn (l01Below_w c hf xs.length h0 hl) ?_
  rintro _ H1 ⟨⟨x, rfl, hx⟩, c1, d1⟩
  have hI1 := (hI.rd.chg c1 (fun i hi hh => by have := List.mem_singleton.1 hh; subst this; exact hv hi)).isI
  have q1 := hI1.idx (P := Tryz.prog) (ty := 26) (e := 3) (by simp) (i := (x : Int)) (by omega) (by omega)
  have r1 := (hI1.load (P := Tryz.prog) (e := 3) (by simp) hx).trans (by rw [getD_get _ _ hx])
  simp only [Int.toNat_natCast] at q1
  simp [q1, r1]
  exact ⟨c1, d1⟩
theorem l02Grid_w (c : Cur H r vb code) (hf : frz ≤ r) : wp (vcall C frz 71 [.pointer (some ⟨r, 0, some 0⟩)] H) (fun u H' => (∃ w h, u = .agg #[.int .i64 w, .int .i64 h] ∧ okG w h) ∧ Chg H H' [r] ∧ Cur H' r vb code) := by
  have lt := c.lt
  have nb : ∀ (L : Heap), Cur (H ++ L) r vb code := fun L => by
    obtain ⟨i, x, h1, h2, h3, h4, h5⟩ := c
    exact ⟨i, x, h1, get_app' h2 L, h3.app, h4, h5⟩
  rw [vcall_go (fn := Tryz.f71) Tryz.func71 rfl (by kernel_rfl) rfl]
  simp
  have i1 := IsI.at (H := H) (L := [⟨[.int .i64 0, .int .i64 0], 0, 25⟩, ⟨[.int .i64 1, .int .i64 2, .int .i64 2, .int .i64 3, .int .i64 3, .int .i64 4], 0, 3⟩]) (k := 1) (xs := [1, 2, 2, 3, 3, 4]) rfl
  refine wp_thn (l01PickInt_w (nb _) hf _ [1, 2, 2, 3, 3, 4] i1 (by simp; omega) (by simp) (by simp)) ?_
  rintro _ H1 ⟨⟨w, rfl, hw⟩, c1, d1⟩
  have cH : Chg H H1 [r] := (Chg.app [r]).trans c1
  have l0 := cH.1
  have b0 : H1[H.length]? = some ⟨[.int .i64 0, .int .i64 0], 0, 25⟩ := box_chg (by simp) c1 (by simp; omega)
  have lt1 := d1.lt
  have nb1 : ∀ (L : Heap), Cur (H1 ++ L) r vb code := fun L => by
    obtain ⟨i, x, h1, h2, h3, h4, h5⟩ := d1
    exact ⟨i, x, h1, get_app' h2 L, h3.app, h4, h5⟩
  simp
  have i2 := IsI.at0 (H := H1) (L := [⟨[.int .i64 1, .int .i64 2, .int .i64 2, .int .i64 3, .int .i64 3, .int .i64 4], 0, 3⟩]) (xs := [1, 2, 2, 3, 3, 4]) rfl
  refine wp_thn (l01PickInt_w (nb1 _) hf _ [1, 2, 2, 3, 3, 4] i2 (by simp; omega) (by simp) (by simp)) ?_
  rintro _ H2 ⟨⟨h, rfl, hh⟩, c2, d2⟩
  have b2 : H2[H.length]? = some ⟨[.int .i64 0, .int .i64 0], 0, 25⟩ := box_chg (get_app' b0 _) c2 (by simp; omega)
  have g2 := set_get (r' := ⟨[.int .i64 w, .int .i64 h], 0, 25⟩) b2
  have hF : frz ≤ H.length := by omega
  simp [VM.look, b2, g2, hF]
  have hwr : 1 ≤ w ∧ w ≤ 4 := by simp at hw; omega
  have hhr : 1 ≤ h ∧ h ≤ 4 := by simp at hh; omega
  have c3 : Chg H2 (H2.set H.length ⟨[.int .i64 w, .int .i64 h], 0, 25⟩) [H.length] := chg_set _ _
  refine ⟨⟨w, h, ⟨rfl, rfl⟩, hwr, hhr⟩, (cH.trans ((Chg.app [r]).trans c2)).trans' c3 (fun i hi => .inr (by simp at hi; omega)), ?_⟩
  obtain ⟨i, x, h1, h2, h3, h4, h5⟩ := d2
  have vlt := fun i (hi : i ∈ ids vb) => (show i < H.length by obtain ⟨_, _, _, _, k3, _⟩ := c; exact k3.lt i hi)
  exact ⟨i, x, h1, box_chg h2 c3 (by simp; omega), h3.chg c3 (fun j hj hh => by have := vlt j hj; simp at hh; omega), h4, h5⟩
theorem Cur.app (c : Cur H r vb code) (L : Heap) : Cur (H ++ L) r vb code := by
  obtain ⟨i, x, h1, h2, h3, h4, h5⟩ := c
  exact ⟨i, x, h1, get_app' h2 L, h3.app, h4, h5⟩
theorem Cur.vlt (c : Cur H r vb code) : ∀ i ∈ ids vb, i < H.length := by
  obtain ⟨_, _, _, _, k3, _⟩ := c; exact k3.lt
/-- a mesh that has been drawn -/
def MeshD' (H : Heap) (is : List Nat) (u : Value) (H' : Heap) : Prop := ∃ v w h b, u = .agg #[.int .i64 w, .int .i64 h, v] ∧ meshOk w h b ∧ Ow Fl.int 3 H' v b ∧ (∀ i ∈ ids v, H.length ≤ i) ∧ Chg H H' is
theorem drawPlaces_w (vb : Value) (code : List Int) (hb : Rd Fl.u8 H vb code) (hl : code.length ≤ 1073741824) :
   wp (vcall C frz 7 [vb] H) (fun u H' => ∃ xs : List Int, Ow Fl.int 3 H' u xs ∧ xs.length = 12 ∧ (∀ x ∈ xs, 0 ≤ x ∧ x < 10000) ∧ (∀ i ∈ ids u, H.length ≤ i) ∧ Chg H H' []) := by
  rw [vcall_go (fn := Tryz.f7) Tryz.func7 rfl (by kernel_rfl) rfl]
  simp
  refine wp_thn (l01New_w vb code hb hl) ?_
  rintro _ H1 ⟨r, rfl, hr, c1, ch1⟩
  have lt1 := c1.lt
  have vlt := hb.lt
  simp
  refine wp_inv (fun n t H' => ∃ (i : Nat) (u : Value) (xs : List Int), n = 12 - i ∧ i ≤ 12 ∧ t 3 = .pointer (some ⟨r, 0, some 0⟩) ∧ t 4 = u ∧ t 5 = .int .i64 i ∧ Cur H' r vb code ∧ Ow Fl.int 3 H' u xs ∧ xs.length = i ∧ (∀ x ∈ xs, 0 ≤ x ∧ x < 10000) ∧ (∀ j ∈ ids u, H.length ≤ j ∧ j ≠ r) ∧ Chg H H' []) ?_ (n := 12)
    ⟨0, .slice (some ⟨H1.length, 0, some 0⟩) 0 0, [], rfl, by omega, by simp, by simp, by simp, c1.app _, Ow.new0 (D := Fl.int) (xs := []) rfl rfl rfl rfl, rfl, by simp, by have := ch1.1; simp; omega, ch1.trans (Chg.app [])⟩
  rintro n t H' ⟨i, u, xs, rfl, hi, t3, t4, t5, c, o, hx, hr2, nu, ch⟩ ih
  simp [t3, t4, t5]
  refine wp_dec ?_ ?_ <;> intro g1
  · simp [t3, t4, t5]
    have bl := l01Below_w (frz := H.length) c hr 10000 (by decide) (by decide)
    refine wp_thn (by simpa using bl) ?_
    rintro _ H2 ⟨⟨x, rfl, hx2⟩, c2, d2⟩
    have o2 := o.chg c2 (fun j hj hh => (nu j hj).2 (List.mem_singleton.1 hh))
    obtain ⟨u', H3, hap, o3, c3, n3⟩ := o2.push (P := Tryz.prog) (frz := H.length) (ty := 26) (a := (x : Int)) (by simp) rfl (by omega) (fun j hj => (nu j hj).1)
    simp only [Fl.int_f] at hap
    have l2 := ch.1
    have l3 := c2.1
    have ltr := d2.lt
    simp [t3, t4, t5, hap]
    refine ih (12 - (i + 1)) _ _ ⟨i + 1, u', xs ++ [(x : Int)], rfl, by omega, by simp [t3], by simp, ?_, d2.chg c3 (fun hh => (nu _ hh).2 rfl) (fun j hj hh => by have := (nu j hh).1; have := vlt j hj; omega), o3, by simp [hx], fun y hy => ?_, fun j hj => ?_, (ch.trans' c2 (fun j hj => .inr (by simp at hj; omega))).trans' c3 (fun j hj => .inr ((nu j hj).1))⟩ (by omega)
    · simp; rw [w64 (by omega) (by omega)]
    · rcases List.mem_append.1 hy with hy | hy
      · exact hr2 y hy
      · rw [List.mem_singleton.1 hy]; omega
    · rcases n3 j hj with h1 | h1
      · exact nu j h1
      · omega
  · simp [t4]
    exact ⟨xs, o, by omega, hr2, fun j hj => (nu j hj).1, ch⟩
theorem big_c (v : Value) (code : List Int) (hb : Rd Fl.u8 H v code) : vcall C frz 5 [v] H = some (.bool (decide ((1048576 : Int) < code.length)), H) := by
  rw [vcall_go (fn := Tryz.f5) Tryz.func5 rfl (by kernel_rfl) rfl]
  simp [hb.len]
end Go.Proofs.YtlbbalmeaedbdaaGreat.V
/-! Draws: bytes of an argument. -/
set_option linter.all false
namespace Go.Proofs.YtlbbalmeaedbdaaGreat.V
open Go Go.VM Go.Proofs
theorem cellsOf_u8 : ∀ xs : List Int, cellsOf Fl.u8 xs = xs.map (.int .u8)
  | [] => rfl
  | a :: l => by rw [cellsOf_cons, cellsOf_u8 l]; rfl
theorem IsS_bytes {H : Heap} {v : Value} {xs : List Int} (h : IsS (Kn.int .u8) H v xs) : Rd Fl.u8 H v xs := by
  rcases h with h | ⟨id, off, r, h1, h2, h3, h4⟩
  · exact .inl h
  · have hs : (Kn.int .u8).sz = 1 := rfl
    rw [hs] at h3 h4
    have e0 : cellsOf Fl.u8 xs = xs.map (.int .u8) := cellsOf_u8 xs
    refine .inr ⟨id, off, r, h1, h2, ?_, by simpa using h3⟩
    rw [e0]
    refine List.ext_getElem? fun j => ?_
    by_cases hj : j < xs.length
    · have := h4 j xs[j] (by simp [hj])
      have e : (r.cells.drop (off + j * 1)).take 1 = [.int .u8 xs[j]] := this
      have e2 := congrArg (·[0]?) e
      simp at e2
      rw [List.getElem?_take, if_pos (by simpa using hj), List.getElem?_drop]
      simp [e2, hj]
    · rw [List.getElem?_take, if_neg (by simpa using hj), List.getElem?_eq_none (by rw [List.length_map]; omega)]
end Go.Proofs.YtlbbalmeaedbdaaGreat.V
/-! Sorting: lists of numbers whose elements change places. -/
set_option linter.all false
namespace Go.Proofs.YtlbbalmeaedbdaaGreat.V
open Go Go.VM Go.Proofs
def G (xs : List Int) (i : Nat) : Int := xs.getD i 0
theorem G_get {xs : List Int} {i : Nat} (h : i < xs.length) : G xs i = xs[i] := by simp [G, List.getD_eq_getElem?_getD, h]
def swp (xs : List Int) (i j : Nat) : List Int := (xs.set i (G xs j)).set j (G xs i)
@[simp] theorem swp_len (xs : List Int) (i j : Nat) : (swp xs i j).length = xs.length := by simp [swp]
theorem G_swp {xs : List Int} {i j : Nat} (hi : i < xs.length) (hj : j < xs.length) (k : Nat) : G (swp xs i j) k = if k = j then G xs i else if k = i then G xs j else G xs k := by
  unfold swp
  by_cases hk : k < xs.length
  · rw [G_get (by simpa using hk), List.getElem_set, List.getElem_set]
    by_cases h1 : k = j
    · rw [if_pos h1.symm, if_pos h1]
    · rw [if_neg (Ne.symm h1), if_neg h1]
      by_cases h2 : k = i
      · rw [if_pos h2.symm, if_pos h2]
      · rw [if_neg (Ne.symm h2), if_neg h2, G_get hk]
  · rw [if_neg (by omega), if_neg (by omega)]
    simp [G, List.getD_eq_getElem?_getD, hk]
theorem swp_perm {xs : List Int} {i j : Nat} (hi : i < xs.length) (hj : j < xs.length) : (swp xs i j).Perm xs := by
  unfold swp
  rw [G_get hi, G_get hj]
  exact List.set_set_perm hi hj
/-- elements of [a, b) have changed places -/
inductive Sw (a b : Nat) (xs : List Int) : List Int → Prop
  | refl : Sw a b xs xs
  | step {ys : List Int} (i j : Nat) (h : Sw a b xs ys) (hi : a ≤ i ∧ i < b) (hj : a ≤ j ∧ j < b) : Sw a b xs (swp ys i j)
variable {a b c d : Nat} {xs ys zs : List Int}
theorem Sw.len (h : Sw a b xs ys) : ys.length = xs.length := by
  induction h with
  | refl => rfl
  | step i j _ _ _ ih => rw [swp_len, ih]
theorem Sw.trans (h : Sw a b xs ys) (h' : Sw a b ys zs) : Sw a b xs zs := by
  induction h' with
  | refl => exact h
  | step i j _ hi hj ih => exact .step i j ih hi hj
theorem Sw.mono (h : Sw a b xs ys) (ha : c ≤ a) (hb : b ≤ d) : Sw c d xs ys := by
  induction h with
  | refl => exact .refl
  | step i j _ hi hj ih => exact .step i j ih (by omega) (by omega)
theorem Sw.perm (h : Sw a b xs ys) (hb : b ≤ xs.length) : ys.Perm xs := by
  induction h with
  | refl => exact List.Perm.refl _
  | step i j g hi hj ih => exact (swp_perm (by rw [g.len]; omega) (by rw [g.len]; omega)).trans ih
theorem Sw.out (h : Sw a b xs ys) (hb : b ≤ xs.length) {k : Nat} (hk : k < a ∨ b ≤ k) : G ys k = G xs k := by
  induction h with
  | refl => rfl
  | step i j g hi hj ih => rw [G_swp (by rw [g.len]; omega) (by rw [g.len]; omega), if_neg (by omega), if_neg (by omega), ih]
theorem Sw.all (h : Sw a b xs ys) (hb : b ≤ xs.length) {p : Int → Prop} (hp : ∀ k, a ≤ k → k < b → p (G xs k)) : ∀ k, a ≤ k → k < b → p (G ys k) := by
  induction h with
  | refl => exact hp
  | step i j g hi hj ih =>
    intro k h1 h2
    rw [G_swp (by rw [g.len]; omega) (by rw [g.len]; omega)]
    split
    · exact ih i hi.1 hi.2
    · split
      · exact ih j hj.1 hj.2
      · exact ih k h1 h2
/-- a larger window that holds the changed one -/
theorem Sw.all' (h : Sw a b xs ys) (hb : b ≤ xs.length) {p : Int → Prop} (hc : c ≤ a) (hd : b ≤ d) (hp : ∀ k, c ≤ k → k < d → p (G xs k)) : ∀ k, c ≤ k → k < d → p (G ys k) := by
  intro k h1 h2
  by_cases hk : a ≤ k ∧ k < b
  · exact h.all hb (fun q g1 g2 => hp q (by omega) (by omega)) k hk.1 hk.2
  · rw [h.out hb (by omega)]; exact hp k h1 h2
/-- sorted in [a, b) -/
def Srt (ys : List Int) (a b : Nat) : Prop := ∀ p q, a ≤ p → p < q → q < b → G ys p ≤ G ys q
theorem Srt.short (h : b ≤ a + 1) : Srt ys a b := fun p q h1 h2 h3 => by omega
theorem Srt.frame (h : Srt ys a b) (he : ∀ k, a ≤ k → k < b → G zs k = G ys k) : Srt zs a b := fun p q h1 h2 h3 => by
  rw [he p h1 (by omega), he q (by omega) h3]; exact h p q h1 h2 h3
/-- sorted parts, the left one below the right one -/
theorem Srt.join (h1 : Srt ys a b) (h2 : Srt ys b c) (h : ∀ p q, a ≤ p → p < b → b ≤ q → q < c → G ys p ≤ G ys q) : Srt ys a c := fun p q h3 h4 h5 => by
  by_cases hq : q < b
  · exact h1 p q h3 h4 hq
  · by_cases hp : p < b
    · exact h p q h3 hp (by omega) h5
    · exact h2 p q (by omega) h4 h5
theorem Srt.pairwise (h : Srt ys 0 ys.length) : ys.Pairwise (· ≤ ·) := by
  rw [List.pairwise_iff_getElem]
  intro i j hi hj hij
  have := h i j (Nat.zero_le _) hij hj
  rwa [G_get hi, G_get hj] at this
/-- insertion: sorted up to i, but for the element at j -/
def Ins (ys : List Int) (a i j : Nat) : Prop := ∀ p q, a ≤ p → p < q → q ≤ i → q ≠ j → G ys p ≤ G ys q
theorem Ins.start (h : Srt ys a b) : Ins ys a b b := fun p q h1 h2 h3 h4 => h p q h1 h2 (by omega)
theorem Ins.step {i j : Nat} (h : Ins ys a i j) (hi : i < ys.length) (ha : a < j) (hj : j ≤ i) (hlt : G ys j < G ys (j - 1)) : Ins (swp ys j (j - 1)) a i (j - 1) := by
  intro p q h1 h2 h3 h4
  rw [G_swp (by omega) (by omega), G_swp (by omega) (by omega)]
  rw [if_neg h4]
  by_cases hp : p = j - 1
  · rw [if_pos hp]
    by_cases hq : q = j
    · rw [if_pos hq]; omega
    · rw [if_neg hq]; have := h (j - 1) q (by omega) (by omega) h3 hq; omega
  · rw [if_neg hp]
    by_cases hpj : p = j
    · rw [if_pos hpj]
      rw [if_neg (by omega)]
      exact h (j - 1) q (by omega) (by omega) h3 (by omega)
    · rw [if_neg hpj]
      by_cases hq : q = j
      · rw [if_pos hq]; exact h p (j - 1) h1 (by omega) (by omega) (by omega)
      · rw [if_neg hq]; exact h p q h1 h2 h3 hq
theorem Ins.done {i j : Nat} (h : Ins ys a i j) (hj : j = a ∨ (a < j ∧ G ys (j - 1) ≤ G ys j)) : Srt ys a (i + 1) := by
  intro p q h1 h2 h3
  by_cases hq : q = j
  · subst hq
    rcases hj with hj | ⟨hj, hle⟩
    · omega
    · by_cases hp : p = q - 1
      · rw [hp]; exact hle
      · have := h p (q - 1) h1 (by omega) (by omega) (by omega); omega
  · exact h p q h1 h2 (by omega) hq
/-- heaps: f is the first place, n the size; lo the least root -/
def Hp (ys : List Int) (f lo n : Nat) : Prop := ∀ r c, lo ≤ r → (c = 2 * r + 1 ∨ c = 2 * r + 2) → c < n → G ys (f + c) ≤ G ys (f + r)
/-- a heap but for the root r -/
def HpB (ys : List Int) (f lo n r : Nat) : Prop :=
  (∀ s c, lo ≤ s → s ≠ r → (c = 2 * s + 1 ∨ c = 2 * s + 2) → c < n → G ys (f + c) ≤ G ys (f + s)) ∧
  (∀ s c, lo ≤ s → (r = 2 * s + 1 ∨ r = 2 * s + 2) → (c = 2 * r + 1 ∨ c = 2 * r + 2) → c < n → G ys (f + c) ≤ G ys (f + s))
theorem HpB.start {f lo n : Nat} (h : Hp ys f (lo + 1) n) : HpB ys f lo n lo :=
  ⟨fun s c h1 h2 h3 h4 => h s c (by omega) h3 h4, fun s c h1 h2 => by omega⟩
theorem HpB.done {f lo n r : Nat} (h : HpB ys f lo n r) (hd : ∀ c, (c = 2 * r + 1 ∨ c = 2 * r + 2) → c < n → G ys (f + c) ≤ G ys (f + r)) : Hp ys f lo n := fun s c h1 h2 h3 => by
  by_cases hs : s = r
  · subst hs; exact hd c h2 h3
  · exact h.1 s c h1 hs h2 h3
theorem HpB.step {f lo n r c : Nat} (h : HpB ys f lo n r) (hl : f + n ≤ ys.length) (hlo : lo ≤ r) (hc : c = 2 * r + 1 ∨ c = 2 * r + 2) (hn : c < n) (hlt : G ys (f + r) < G ys (f + c))
    (hbig : ∀ q, (q = 2 * r + 1 ∨ q = 2 * r + 2) → q < n → G ys (f + q) ≤ G ys (f + c)) : HpB (swp ys (f + r) (f + c)) f lo n c := by
  have gc : G (swp ys (f + r) (f + c)) (f + c) = G ys (f + r) := by rw [G_swp (by omega) (by omega), if_pos rfl]
  have gr : G (swp ys (f + r) (f + c)) (f + r) = G ys (f + c) := by rw [G_swp (by omega) (by omega), if_neg (by omega), if_pos rfl]
  have go : ∀ k, k ≠ c → k ≠ r → G (swp ys (f + r) (f + c)) (f + k) = G ys (f + k) := fun k h1 h2 => by rw [G_swp (by omega) (by omega), if_neg (by omega), if_neg (by omega)]
  refine ⟨fun s q h1 h2 h3 h4 => ?_, fun s q h1 h2 h3 h4 => ?_⟩
  · by_cases hq : q = c
    · have hs : s = r := by omega
      subst hq hs
      rw [gc, gr]; omega
    · by_cases hs : s = r
      · subst hs
        rw [gr, go q hq (by omega)]
        exact hbig q h3 h4
      · by_cases hqr : q = r
        · subst hqr
          rw [gr, go s h2 hs]
          exact h.2 s c h1 h3 hc hn
        · rw [go q hq hqr, go s h2 hs]; exact h.1 s q h1 hs h3 h4
  · have hs : s = r := by omega
    subst hs
    rw [gr, go q (by omega) (by omega)]
    exact h.1 c q (by omega) (by omega) h3 h4
theorem Hp.top {f n : Nat} (h : Hp ys f 0 n) : ∀ c, c < n → G ys (f + c) ≤ G ys f := by
  intro c
  induction c using Nat.strongRecOn with
  | _ c ih =>
    intro hc
    by_cases h0 : c = 0
    · subst h0; exact Int.le_refl _
    · have h1 := h ((c - 1) / 2) c (by omega) (by omega) hc
      have h2 := ih ((c - 1) / 2) (by omega) (by omega)
      omega
theorem Hp.frame {f lo n : Nat} (h : Hp ys f lo n) (he : ∀ k, lo ≤ k → k < n → G zs (f + k) = G ys (f + k)) : Hp zs f lo n := fun r c h1 h2 h3 => by
  rw [he c (by omega) h3, he r h1 (by omega)]; exact h r c h1 h2 h3
end Go.Proofs.YtlbbalmeaedbdaaGreat.V
/-! Sorting: cmp.Less, insertion sort, heap sort. -/
set_option linter.all false
namespace Go.Proofs.YtlbbalmeaedbdaaGreat.V
open Go Go.VM Go.Proofs
set_option maxRecDepth 10000
variable {frz : Nat} {H : Heap} {v : Value} {xs : List Int} {e : TypeId}
theorem ow_ix (o : Ow Fl.int e H v xs) {i : Nat} (h1 : i < xs.length) : vindexAddr Tryz.prog H 26 v (.int .i64 i) = some (elp v i) := by
  have := o.rd.isI.idx (P := Tryz.prog) (ty := 26) (e := 3) (by simp) (i := (i : Int)) (by omega) (by omega)
  simpa using this
theorem ow_ld (o : Ow Fl.int e H v xs) {i : Nat} (h1 : i < xs.length) : vload Tryz.prog H 3 (elp v i) = some (.int .i64 (G xs i)) :=
  o.rd.isI.load (P := Tryz.prog) (e := 3) (by simp) h1
theorem ow_swap (o : Ow Fl.int e H v xs) {i j : Nat} (hi : i < xs.length) (hj : j < xs.length) (hf : ∀ i ∈ ids v, frz ≤ i) :
    ∃ H1 H2, vstore Tryz.prog frz H 3 (.int .i64 (G xs j)) (elp v i) = some H1 ∧ (∀ k : Nat, k < xs.length → vindexAddr Tryz.prog H1 26 v (.int .i64 k) = some (elp v k)) ∧
      vstore Tryz.prog frz H1 3 (.int .i64 (G xs i)) (elp v j) = some H2 ∧ Ow Fl.int e H2 v (swp xs i j) ∧ Chg H H2 (ids v) ∧ H2.length = H.length := by
  obtain ⟨H1, s1, o1, c1, l1⟩ := o.put1 (P := Tryz.prog) (frz := frz) rfl (et := 3) (ag := false) (by simp) hi (x := .int .i64 (G xs j)) (y := G xs j) rfl rfl rfl hf
  obtain ⟨H2, s2, o2, c2, l2⟩ := o1.put1 (P := Tryz.prog) (frz := frz) rfl (et := 3) (ag := false) (by simp) (j := j) (by simpa using hj) (x := .int .i64 (G xs i)) (y := G xs i) rfl rfl rfl hf
  exact ⟨H1, H2, s1, fun k hk => ow_ix o1 (by simpa using hk), s2, o2, c1.trans c2, by omega⟩
/-- what a sorting step leaves: elements of [a, b) have changed places, nothing else has changed -/
def Swd (H : Heap) (v : Value) (xs : List Int) (e : TypeId) (a b : Nat) (K : List Int → Prop) (H' : Heap) : Prop :=
  ∃ ys, Sw a b xs ys ∧ K ys ∧ Ow Fl.int e H' v ys ∧ Chg H H' (ids v) ∧ H'.length = H.length
end Go.Proofs.YtlbbalmeaedbdaaGreat.V
/-! Sorting: the choice of a pivot. -/
set_option linter.all false
namespace Go.Proofs.YtlbbalmeaedbdaaGreat.V
open Go Go.VM Go.Proofs
set_option maxRecDepth 10000
variable {frz : Nat} {H : Heap} {v : Value} {xs : List Int} {e : TypeId}
end Go.Proofs.YtlbbalmeaedbdaaGreat.V
/-! Sorting: lengths of bits, patterns broken. -/
set_option linter.all false
namespace Go.Proofs.YtlbbalmeaedbdaaGreat.V
open Go Go.VM Go.Proofs
set_option maxRecDepth 10000
variable {frz : Nat} {H : Heap} {v : Value} {xs : List Int} {e : TypeId}
def blen (y : Nat) : Nat := if y = 0 then 0 else y.log2 + 1
def tabOk (T : ByteArray) : Bool := (List.range 256).all fun y => match T[y]? with | some b => b.toNat == blen y | none => false
theorem blen_spec {y : Nat} (h : y < 256) : y < 2 ^ blen y ∧ (2 ^ blen y ≤ 2 * y ∨ y = 0) ∧ blen y ≤ 8 := by
  have : ∀ y : Fin 256, y.val < 2 ^ blen y.val ∧ (2 ^ blen y.val ≤ 2 * y.val ∨ y.val = 0) ∧ blen y.val ≤ 8 := by decide +kernel
  exact this ⟨y, h⟩
theorem blen_up {x z s n : Nat} (hz : z = x / 2 ^ s) (h1 : z < 2 ^ n) (h2 : 2 ^ n ≤ 2 * z ∨ z = 0) (h0 : 0 < z) : x < 2 ^ (n + s) ∧ (2 ^ (n + s) ≤ 2 * x ∨ x = 0) := by
  have hp : 0 < 2 ^ s := Nat.pow_pos (by decide)
  rw [Nat.pow_add]
  subst hz
  refine ⟨(Nat.div_lt_iff_lt_mul hp).1 h1, .inl ?_⟩
  have h3 : x / 2 ^ s * 2 ^ s ≤ x := Nat.div_mul_le_self _ _
  have h4 : 2 ^ n * 2 ^ s ≤ 2 * (x / 2 ^ s) * 2 ^ s := Nat.mul_le_mul_right _ (by omega)
  rw [Nat.mul_assoc] at h4
  omega
theorem vindex_tab {T : ByteArray} {y : Nat} (hy : y < 256) (h : tabOk T = true) : vindex Tryz.prog 9 (.string T) (.int .u8 (IntKind.u8.wrap (y : Int))) = some (.int .u8 (blen y)) := by
  have e1 : IntKind.u8.wrap (y : Int) = (y : Int) := by show (y : Int) % 256 = y; omega
  have := List.all_eq_true.1 h y (by simpa using hy)
  have hn : (0 : Int) ≤ y := by omega
  rw [e1]
  simp only [vindex, und9, hn, if_true, Int.toNat_natCast]
  cases hT : T[y]? with
  | none => rw [hT] at this; simp at this
  | some b => rw [hT] at this; simp at this; simp [this]
theorem shr_nat (x j : Nat) (hj : j ≤ 64) : ishr .u64 (x : Int) (j : Int) = ((x / 2 ^ j : Nat) : Int) := ishr_nat .u64 x j hj
theorem len64_w (x : Nat) (hx : x < 2147483648) :
   wp (vcall C frz 118 [.int .u64 x] H) (fun r H' => H' = H ∧ ∃ n : Nat, r = .int .i64 n ∧ x < 2 ^ n ∧ (2 ^ n ≤ 2 * x ∨ x = 0) ∧ n ≤ 32) := by
  rw [vcall_go (fn := Tryz.f118) Tryz.func118 rfl (by kernel_rfl) rfl]
  have g1 : ¬ (4294967296 : Int) ≤ x := by omega
  have e8 : IntKind.i64.wrap 8 = 8 := rfl
  have e16 : IntKind.i64.wrap 16 = 16 := rfl
  have e24 : IntKind.i64.wrap 24 = 24 := rfl
  simp [g1]
  refine wp_dec ?_ ?_ <;> intro g2
  · obtain ⟨y, hy⟩ : ∃ y, y = x / 65536 := ⟨_, rfl⟩
    have s16 : ishr .u64 (x : Int) 16 = (y : Int) := by rw [hy]; exact shr_nat x 16 (by decide)
    simp [s16]
    refine wp_dec ?_ ?_ <;> intro g3
    · obtain ⟨z, hz⟩ : ∃ z, z = y / 256 := ⟨_, rfl⟩
      have s8 : ishr .u64 (y : Int) 8 = (z : Int) := by rw [hz]; exact shr_nat y 8 (by decide)
      simp [s8]
      rw [vindex_tab (y := z) (by omega) (by decide +kernel)]
      obtain ⟨q1, q2, q3⟩ := blen_spec (y := z) (by omega)
      have w8 : IntKind.i64.wrap (blen z : Int) = (blen z : Int) := w64 (by omega) (by omega)
      simp [w8, e8, e16, e24]
      refine ⟨blen z + 24, ?_, ?_⟩
      · rw [w64 (by omega) (by omega)]; omega
      · have := blen_up (x := x) (z := z) (s := 24) (by omega) q1 q2 (by omega); omega
    · simp
      rw [vindex_tab (y := y) (by omega) (by decide +kernel)]
      obtain ⟨q1, q2, q3⟩ := blen_spec (y := y) (by omega)
      have w8 : IntKind.i64.wrap (blen y : Int) = (blen y : Int) := w64 (by omega) (by omega)
      simp [w8, e8, e16, e24]
      refine ⟨blen y + 16, ?_, ?_⟩
      · rw [w64 (by omega) (by omega)]; omega
      · have := blen_up (x := x) (z := y) (s := 16) (by omega) q1 q2 (by omega); omega
  · simp
    refine wp_dec ?_ ?_ <;> intro g3
    · obtain ⟨z, hz⟩ : ∃ z, z = x / 256 := ⟨_, rfl⟩
      have s8 : ishr .u64 (x : Int) 8 = (z : Int) := by rw [hz]; exact shr_nat x 8 (by decide)
      simp [s8]
      rw [vindex_tab (y := z) (by omega) (by decide +kernel)]
      obtain ⟨q1, q2, q3⟩ := blen_spec (y := z) (by omega)
      have w8 : IntKind.i64.wrap (blen z : Int) = (blen z : Int) := w64 (by omega) (by omega)
      simp [w8, e8, e16, e24]
      refine ⟨blen z + 8, ?_, ?_⟩
      · rw [w64 (by omega) (by omega)]; omega
      · have := blen_up (x := x) (z := z) (s := 8) (by omega) q1 q2 (by omega); omega
    · simp
      rw [vindex_tab (y := x) (by omega) (by decide +kernel)]
      obtain ⟨q1, q2, q3⟩ := blen_spec (y := x) (by omega)
      have w8 : IntKind.i64.wrap (blen x : Int) = (blen x : Int) := w64 (by omega) (by omega)
      simp [w8, e8, e16, e24]
      exact ⟨blen x, rfl, q1, q2, by omega⟩
theorem len_w (x : Nat) (hx : x < 2147483648) :
   wp (vcall C frz 106 [.int .u64 x] H) (fun r H' => H' = H ∧ ∃ n : Nat, r = .int .i64 n ∧ x < 2 ^ n ∧ (2 ^ n ≤ 2 * x ∨ x = 0) ∧ n ≤ 32) := by
  rw [vcall_go (fn := Tryz.f106) Tryz.func106 rfl (by kernel_rfl) rfl]
  simp
  refine wp_thn (len64_w x hx) ?_
  rintro _ _ ⟨rfl, n, rfl, h⟩
  simp
  exact ⟨n, rfl, h⟩
theorem w64u {x : Int} (h0 : 0 ≤ x) (h1 : x < 18446744073709551616) : IntKind.u64.wrap x = x := by show x % 18446744073709551616 = x; omega
theorem pow2_w (x : Nat) (hx : x < 2147483648) :
   wp (vcall C frz 120 [.int .i64 x] H) (fun r H' => H' = H ∧ ∃ m : Nat, r = .int .u64 m ∧ x < m ∧ (m ≤ 2 * x ∨ x = 0) ∧ m ≤ 4294967296) := by
  rw [vcall_go (fn := Tryz.f120) Tryz.func120 rfl (by kernel_rfl) rfl]
  have e1 : IntKind.u64.wrap (x : Int) = (x : Int) := w64u (by omega) (by omega)
  simp [e1]
  refine wp_thn (len_w x hx) ?_
  rintro _ _ ⟨rfl, n, rfl, h1, h2, h3⟩
  have hm : 2 ^ n ≤ 2 ^ 32 := Nat.pow_le_pow_right (by decide) h3
  have e2 : ishl .u64 1 (n : Int) = ((2 ^ n : Nat) : Int) := by
    unfold ishl
    rw [Int.toNat_natCast, Nat.min_eq_left (show n ≤ IntKind.u64.bits by show n ≤ 64; omega), Int.one_mul, w64u (Int.le_of_lt (Int.pow_pos (by decide))) (by
      have : ((2 : Int) ^ n) = ((2 ^ n : Nat) : Int) := by simp
      rw [this]; omega)]
    simp
  have hn : (0 : Int) ≤ n := by omega
  simp [vneed, hn, e2]
  exact ⟨2 ^ n, by simp, h1, h2, by omega⟩
def BoxX (H : Heap) (r : Nat) : Prop := ∃ s, H[r]? = some ⟨[.int .u64 s], 0, 130⟩
theorem xnext_w (r : Nat) (hr : BoxX H r) (hf : frz ≤ r) :
   wp (vcall C frz 121 [.pointer (some ⟨r, 0, some 0⟩)] H) (fun u H' => (∃ z, u = .int .u64 z) ∧ Chg H H' [r] ∧ BoxX H' r) := by
  obtain ⟨s, hs⟩ := hr
  rw [vcall_go (fn := Tryz.f121) Tryz.func121 rfl (by kernel_rfl) rfl]
  simp
  rw [go_draw (h := by kernel_rfl)]
  simp [vnil, VM.look, hs, hf]
  have l := box_lt hs
  rw [go_draw (h := by kernel_rfl)]
  simp [vnil, VM.look, hs, hf, l]
  rw [go_draw (h := by kernel_rfl)]
  simp [vnil, VM.look, hs, hf, l]
  exact ⟨chg_set _ _, _, by simp [l]; rfl⟩
end Go.Proofs.YtlbbalmeaedbdaaGreat.V
/-! Sorting: partitions. -/
set_option linter.all false
namespace Go.Proofs.YtlbbalmeaedbdaaGreat.V
open Go Go.VM Go.Proofs
set_option maxRecDepth 10000
variable {frz : Nat} {H : Heap} {v : Value} {xs : List Int} {e : TypeId}
/-- the pivot x lies at a; what is below i has P, what is above j has not -/
def Pt (ys : List Int) (a b : Nat) (x : Int) (P : Int → Prop) (i j : Nat) : Prop := G ys a = x ∧ (∀ k, a < k → k < i → P (G ys k)) ∧ ∀ k, j < k → k < b → ¬ P (G ys k)
section
variable {ys : List Int} {a b i j : Nat} {x : Int} {P : Int → Prop}
theorem Pt.incr (h : Pt ys a b x P i j) (ha : a < i) (hp : P (G ys i)) : Pt ys a b x P (i + 1) j := ⟨h.1, fun k h1 h2 => by
  by_cases hk : k = i
  · rw [hk]; exact hp
  · exact h.2.1 k h1 (by omega), h.2.2⟩
theorem Pt.decr (h : Pt ys a b x P i j) (hj : 0 < j) (hp : ¬ P (G ys j)) : Pt ys a b x P i (j - 1) := ⟨h.1, h.2.1, fun k h1 h2 => by
  by_cases hk : k = j
  · rw [hk]; exact hp
  · exact h.2.2 k (by omega) h2⟩
theorem Pt.swap (h : Pt ys a b x P i j) (ha : a < i) (hij : i < j) (hj : j < b) (hb : b ≤ ys.length) (hi : ¬ P (G ys i)) (hp : P (G ys j)) : Pt (swp ys i j) a b x P (i + 1) (j - 1) := by
  have g := fun k => G_swp (xs := ys) (i := i) (j := j) (by omega) (by omega) k
  refine ⟨?_, fun k h1 h2 => ?_, fun k h1 h2 => ?_⟩
  · rw [g, if_neg (by omega), if_neg (by omega)]; exact h.1
  · rw [g, if_neg (by omega)]
    split
    · exact hp
    · exact h.2.1 k h1 (by omega)
  · rw [g]
    split
    · exact hi
    · rw [if_neg (by omega)]; exact h.2.2 k (by omega) h2
/-- the pivot is laid between the two parts -/
theorem Pt.fin (h : Pt ys a b x P i j) (hij : i = j + 1) (ha : a < i) (hj : j < b) (hb : b ≤ ys.length) : G (swp ys j a) j = x ∧ (∀ k, a ≤ k → k < j → P (G (swp ys j a) k)) ∧ ∀ k, j < k → k < b → ¬ P (G (swp ys j a) k) := by
  have g := fun k => G_swp (xs := ys) (i := j) (j := a) (by omega) (by omega) k
  refine ⟨?_, fun k h1 h2 => ?_, fun k h1 h2 => ?_⟩
  · rw [g]
    split
    · rename_i e; rw [e]; exact h.1
    · rw [if_pos rfl]; exact h.1
  · rw [g]
    split
    · exact h.2.1 j (by omega) (by omega)
    · rw [if_neg (by omega)]; exact h.2.1 k (by omega) (by omega)
  · rw [g, if_neg (by omega), if_neg (by omega)]; exact h.2.2 k h1 h2
end
end Go.Proofs.YtlbbalmeaedbdaaGreat.V
/-! Sorting: short insertion sort. -/
set_option linter.all false
namespace Go.Proofs.YtlbbalmeaedbdaaGreat.V
open Go Go.VM Go.Proofs
set_option maxRecDepth 10000
variable {frz : Nat} {H : Heap} {v : Value} {xs : List Int} {e : TypeId}
theorem Srt.snoc {ys : List Int} {a i : Nat} (h : Srt ys a i) (hi : a < i → G ys (i - 1) ≤ G ys i) : Srt ys a (i + 1) := fun p q h1 h2 h3 => by
  by_cases hq : q = i
  · rw [hq]
    have hlt : a < i := by omega
    have := hi hlt
    by_cases hp : p = i - 1
    · rw [hp]; exact this
    · have := h p (i - 1) h1 (by omega) (by omega); omega
  · exact h p q h1 h2 (by omega)
end Go.Proofs.YtlbbalmeaedbdaaGreat.V
/-! Sorting: the sort. -/
set_option linter.all false
namespace Go.Proofs.YtlbbalmeaedbdaaGreat.V
open Go Go.VM Go.Proofs
set_option maxRecDepth 10000
variable {frz : Nat} {H : Heap} {v : Value} {xs : List Int} {e : TypeId}
/-- what the sort knows: outside of [a, b) all is sorted and lies on its side -/
structure Pq (ys : List Int) (A B a b : Nat) : Prop where
  le : A ≤ a ∧ a ≤ b ∧ b ≤ B
  left : Srt ys A a
  right : Srt ys b B
  lo : ∀ p q, A ≤ p → p < a → a ≤ q → q < B → G ys p ≤ G ys q
  hi : ∀ p q, A ≤ p → p < b → b ≤ q → q < B → G ys p ≤ G ys q
  low : 0 < A → ∀ k, A ≤ k → k < B → G ys (A - 1) ≤ G ys k
section
variable {ys zs : List Int} {A B a b m : Nat}
theorem Pq.below (h : Pq ys A B a b) (ha : 0 < a) : ∀ k, a ≤ k → k < B → G ys (a - 1) ≤ G ys k := fun k h1 h2 => by
  obtain ⟨l1, l2, l3⟩ := h.le
  by_cases hA : a = A
  · have := h.low (by omega) k (by omega) h2; rw [hA]; exact this
  · exact h.lo (a - 1) k (by omega) (by omega) h1 h2
theorem Pq.sw (h : Pq ys A B a b) (s : Sw a b ys zs) (hB : B ≤ ys.length) : Pq zs A B a b := by
  obtain ⟨l1, l2, l3⟩ := h.le
  have hb : b ≤ ys.length := by omega
  have out := fun k (hk : k < a ∨ b ≤ k) => s.out hb hk
  refine ⟨h.le, h.left.frame (fun k h1 h2 => out k (.inl h2)), h.right.frame (fun k h1 h2 => out k (.inr h1)), fun p q h1 h2 h3 h4 => ?_, fun p q h1 h2 h3 h4 => ?_, fun h0 k h1 h2 => ?_⟩
  · rw [out p (.inl h2)]
    exact s.all' hb (p := fun y => G ys p ≤ y) (Nat.le_refl a) l3 (fun k k1 k2 => h.lo p k h1 h2 k1 k2) q h3 h4
  · rw [out q (.inr h3)]
    exact s.all' hb (p := fun y => y ≤ G ys q) l1 (Nat.le_refl b) (fun k k1 k2 => h.hi k q k1 k2 h3 h4) p h1 h2
  · rw [out (A - 1) (.inl (by omega))]
    exact s.all' hb (p := fun y => G ys (A - 1) ≤ y) l1 l3 (fun k k1 k2 => h.low h0 k k1 k2) k h1 h2
theorem Pq.done (h : Pq ys A B a b) (s : Srt ys a b) : Srt ys A B := by
  obtain ⟨l1, l2, l3⟩ := h.le
  exact (h.left.join (s.join h.right (fun p q h1 h2 h3 h4 => h.hi p q (by omega) h2 h3 h4)) h.lo)
/-- equal elements go to the left -/
theorem Pq.eq {x : Int} (h : Pq ys A B a b) (hm : a < m ∧ m ≤ b) (hx : ∀ k, a ≤ k → k < b → x ≤ G ys k) (h1 : ∀ k, a ≤ k → k < m → ¬ x < G ys k) (h2 : ∀ k, m ≤ k → k < b → x < G ys k) : Pq ys A B m b := by
  obtain ⟨l1, l2, l3⟩ := h.le
  refine ⟨by omega, h.left.join (fun p q q1 q2 q3 => ?_) (fun p q q1 q2 q3 q4 => h.lo p q q1 q2 q3 (by omega)), h.right, fun p q q1 q2 q3 q4 => ?_, h.hi, h.low⟩
  · have := h1 p q1 (by omega); have := hx q (by omega) (by omega); omega
  · by_cases hp : p < a
    · exact h.lo p q q1 hp (by omega) q4
    · by_cases hq : q < b
      · have := h1 p (by omega) q2; have := h2 q q3 hq; omega
      · exact h.hi p q q1 (by omega) (by omega) q4
theorem Pq.goRight (h : Pq ys A B a b) (hm : a ≤ m ∧ m < b) (s : Srt ys a m) (h1 : ∀ k, a ≤ k → k < m → G ys k ≤ G ys m) (h2 : ∀ k, m < k → k < b → G ys m ≤ G ys k) : Pq ys A B (m + 1) b := by
  obtain ⟨l1, l2, l3⟩ := h.le
  refine ⟨by omega, h.left.join (fun p q q1 q2 q3 => ?_) (fun p q q1 q2 q3 q4 => h.lo p q q1 q2 q3 (by omega)), h.right, fun p q q1 q2 q3 q4 => ?_, h.hi, h.low⟩
  · by_cases hq : q = m
    · rw [hq]; exact h1 p q1 (by omega)
    · exact s p q q1 q2 (by omega)
  · by_cases hp : p < a
    · exact h.lo p q q1 hp (by omega) q4
    · by_cases hq : q < b
      · have := h2 q (by omega) hq
        by_cases hpm : p = m
        · rw [hpm]; exact this
        · have := h1 p (by omega) (by omega); omega
      · exact h.hi p q q1 (by omega) (by omega) q4
theorem Pq.goLeft (h : Pq ys A B a b) (hm : a ≤ m ∧ m < b) (s : Srt ys (m + 1) b) (h1 : ∀ k, a ≤ k → k < m → G ys k ≤ G ys m) (h2 : ∀ k, m < k → k < b → G ys m ≤ G ys k) : Pq ys A B a m := by
  obtain ⟨l1, l2, l3⟩ := h.le
  refine ⟨by omega, h.left, Srt.join (b := b) (fun p q q1 q2 q3 => ?_) h.right (fun p q q1 q2 q3 q4 => h.hi p q (by omega) q2 q3 q4), h.lo, fun p q q1 q2 q3 q4 => ?_, h.low⟩
  · by_cases hp : p = m
    · rw [hp]; exact h2 q (by omega) q3
    · exact s p q (by omega) q2 q3
  · by_cases hq : q < b
    · by_cases hp : p < a
      · exact h.lo p q q1 hp (by omega) q4
      · have := h1 p (by omega) q2
        by_cases hqm : q = m
        · rw [hqm]; exact this
        · have := h2 q (by omega) hq; omega
    · exact h.hi p q q1 (by omega) (by omega) q4
end
/-- the sorted list -/
theorem sorted_eq {xs ys : List Int} (h1 : xs.Pairwise (· ≤ ·)) (h2 : ys.Pairwise (· ≤ ·)) (h : xs.Perm ys) : xs = ys :=
  List.Perm.eq_of_pairwise (le := (· ≤ ·)) (fun a b _ _ h1 h2 => Int.le_antisymm h1 h2) h1 h2 h
def isort (xs : List Int) : List Int := xs.mergeSort (fun a b => decide (a ≤ b))
theorem isort_perm (xs : List Int) : (isort xs).Perm xs := List.mergeSort_perm xs _
theorem isort_sorted (xs : List Int) : (isort xs).Pairwise (· ≤ ·) := by
  have := List.pairwise_mergeSort (le := fun a b : Int => decide (a ≤ b)) (fun a b c h1 h2 => by simp at *; omega) (fun a b => by simp; omega) xs
  exact this.imp (fun h => by simpa using h)
theorem isort_len (xs : List Int) : (isort xs).length = xs.length := (isort_perm xs).length_eq
end Go.Proofs.YtlbbalmeaedbdaaGreat.V
/-! TreeNodes of the reference. -/
set_option linter.all false
namespace Go.Proofs.YtlbbalmeaedbdaaGreat.V
open Go Go.VM Go.Proofs
set_option maxRecDepth 10000
variable {frz : Nat} {H : Heap}
end Go.Proofs.YtlbbalmeaedbdaaGreat.V
/-! The laws' own functions: numbers, meshes, tables. -/
set_option linter.all false
namespace Go.Proofs.YtlbbalmeaedbdaaGreat.V
open Go Go.VM Go.Proofs
set_option maxRecDepth 10000
variable {frz : Nat} {H : Heap}
def big : Nat := 1073741824
abbrev dIntS : Dt Value (List Int) := dFlat Fl.int 3 1073741824
/-- what a marking function leaves, told by what its reader says of it -/
def Marks {V A : Type} (B : Int) (T : Dt V A) (held : Nat) (H : Heap) (v : V) (a : A) (k : Int) (r : Value) (H' : Heap) : Prop :=
  ∃ (n : Int) (a' : A), r = .int .i64 (k + n) ∧ (0 ≤ n ∧ n ≤ B) ∧ T.val v a' = T.val v a ∧ T.Ow H' v a' ∧ Chg H H' (T.ids v) ∧
    ∀ F H2, T.Ow H2 v a' → vcall C F held [T.val v a', .int .i64 k] H2 = some (.int .i64 (k + n), H2)
/-- a data value and a flag -/
def Made2 {V A : Type} (T : Dt V A) (H : Heap) (a : A) (ok : Bool) (r : Value) (H' : Heap) : Prop := ∃ u, r = .tuple #[u, .bool ok] ∧ T.Made H a u H'
-- meshes
abbrev MeshD := Int × Int × List Int
def dMesh : Dt Value MeshD where
  val v a := .agg #[.int .i64 a.1, .int .i64 a.2.1, v]
  Ow H v a := dIntS.Ow H v a.2.2
  ids := VM.ids
  frame h k := dIntS.frame h k
  lt h := dIntS.lt h
theorem dMesh_val (v : Value) (a : MeshD) : dMesh.val v a = .agg #[.int .i64 a.1, .int .i64 a.2.1, v] := rfl
theorem dMesh_one {v : Value} {a : MeshD} (h : dMesh.Ow H v a) : VM.one v = true ∧ v.cells = #[v] := ⟨h.1.rd.one', h.1.rd.cells⟩
theorem dIntS_one {v : Value} {a : List Int} (h : dIntS.Ow H v a) : VM.one v = true ∧ v.cells = #[v] := ⟨h.1.rd.one', h.1.rd.cells⟩
theorem dIntS_val (v : Value) (a : List Int) : dIntS.val v a = v := rfl
-- tables
def dTable : Dt Value (List Int) where
  val v _ := .agg #[v]
  Ow H v a := dIntS.Ow H v a
  ids := VM.ids
  frame h k := dIntS.frame h k
  lt h := dIntS.lt h
theorem dTable_val (v : Value) (a : List Int) : dTable.val v a = .agg #[v] := rfl
theorem dTable_one {v : Value} {a : List Int} (h : dTable.Ow H v a) : VM.one v = true ∧ v.cells = #[v] := ⟨h.1.rd.one', h.1.rd.cells⟩
end Go.Proofs.YtlbbalmeaedbdaaGreat.V
/-! TreeNodes as contracts on data. -/
set_option linter.all false
namespace Go.Proofs.YtlbbalmeaedbdaaGreat.V
open Go Go.VM Go.Proofs
variable {frz : Nat} {H : Heap}
theorem made_d {α : Type} {D : Fl α} {e : TypeId} {n : Nat} {xs : List α} {r : Value} {H' : Heap} (h : Made D e H xs r H') (hl : xs.length ≤ n) : (dFlat D e n).Made H xs r H' := by
  obtain ⟨L, rfl, o, k⟩ := h
  exact ⟨r, rfl, ⟨o, hl⟩, Chg.app _, k, ids_nodup r⟩
theorem treeNodes_len (P : List Int) (a b : Int) : (treeNodes P a b).length ≤ P.length + P.length := by
  have h1 := anc_len P a
  have h2 := anc_len P b
  unfold treeNodes
  split
  · simp
  · simp; omega
theorem treeNodes_d {v : Value} {P : List Int} {a b : Int} (h : dIntS.Ow H v P) (hl : P.length ≤ 268435456) : wp (vcall C frz 25 [v, .int .i64 a, .int .i64 b] H) (dIntS.Made H (treeNodes P a b)) :=
  (treeNodes_w v P a b h.1.rd.isI (by omega)).mono fun _ _ k => made_d k (by have := treeNodes_len P a b; omega)
end Go.Proofs.YtlbbalmeaedbdaaGreat.V
/-! Trees: who is reached, and the first step of a way. -/
set_option linter.all false
namespace Go.Proofs.YtlbbalmeaedbdaaGreat.V
open Go Go.VM
set_option maxRecDepth 100000
def geoB : Bool := (List.range 5).all fun w => (List.range 5).all fun h => (List.range 16).all fun a => (List.range 4).all fun p =>
  decide (next (w : Int) h a p < 0) || (decide (next w h (next w h a p) (opp p) = a) && (decide (0 ≤ opp p) && (decide (opp p < 4) && (decide (next (w : Int) h a p ≠ a) && decide (opp (opp p) = p)))))
theorem geo_dec : geoB = true := by decide +kernel
theorem geo {w h a : Int} {p : Nat} (hp : p < 4) (ha : isN w h a) (hu : 0 ≤ next w h a p) : next w h (next w h a p) (opp p) = a ∧ 0 ≤ opp p ∧ opp p < 4 ∧ next w h a p ≠ a ∧ opp (opp p) = p := by
  obtain ⟨⟨⟨a1, a2⟩, b1, b2⟩, c1, c2, c3⟩ := isN_ok ha
  have h0 := geo_dec
  unfold geoB at h0
  rw [List.all_eq_true] at h0
  have h1 := h0 w.toNat (by simp; omega)
  rw [List.all_eq_true] at h1
  have h2 := h1 h.toNat (by simp; omega)
  rw [List.all_eq_true] at h2
  have h3 := h2 a.toNat (by simp; omega)
  rw [List.all_eq_true] at h3
  have h4 := h3 p (by simp; omega)
  have e1 : (w.toNat : Int) = w := by omega
  have e2 : (h.toNat : Int) = h := by omega
  have e3 : (a.toNat : Int) = a := by omega
  rw [e1, e2, e3] at h4
  simp only [Bool.or_eq_true, Bool.and_eq_true, decide_eq_true_eq] at h4
  rcases h4 with h4 | h4
  · omega
  · exact h4
theorem link_symm {w h : Int} {b : List Int} {a : Int} {p : Nat} (hp : p < 4) (h1 : link w h b (4 * a + p)) : ∃ q : Nat, q < 4 ∧ link w h b (4 * next w h a p + q) ∧ next w h (next w h a p) q = a := by
  obtain ⟨ha, hu, he⟩ := link_next hp h1
  obtain ⟨g1, g2, g3, g4, g5⟩ := geo hp ha hu.1
  have e0 : (4 * a + (p : Int)) % 4 = p := by omega
  have hb : backC w h (4 * a + p) = 4 * next w h a p + opp p := by unfold backC; rw [he, e0]
  have h2 := h1.2
  rw [hb] at h2
  obtain ⟨q, hq⟩ := Int.eq_ofNat_of_zero_le g2
  rw [hq] at g1 g3 g5 h2
  have eq1 : (4 * next w h a p + (q : Int)) / 4 = next w h a p := by omega
  have eq2 : (4 * next w h a p + (q : Int)) % 4 = q := by omega
  refine ⟨q, by omega, ⟨h2, ?_⟩, g1⟩
  have : backC w h (4 * next w h a p + q) = 4 * a + p := by unfold backC endC; rw [eq1, eq2, g1, g5]
  rw [this]; exact h1.1

/-- what visiting the ports of a list does -/
structure VOut (w h : Int) (b : List Int) (a d : Int) (l : List Nat) (x y : List Int × List Int) : Prop where
  keep : ∀ v, 0 ≤ v → 0 ≤ rd x.1 v → rd y.1 v = rd x.1 v
  new : ∀ v, isN w h v → rd x.1 v < 0 → 0 ≤ rd y.1 v → rd y.1 v = d ∧ v ∈ y.2 ∧ ∃ p : Nat, p < 4 ∧ link w h b (4 * a + p) ∧ next w h a p = v
  all : ∀ p ∈ l, link w h b (4 * a + (p : Nat)) → 0 ≤ rd y.1 (next w h a p)
  pre : ∀ v ∈ x.2, v ∈ y.2
  len : y.1.length = x.1.length
theorem vst_out {w h : Int} {b : List Int} {a d : Int} (hd : 0 ≤ d) : ∀ (l : List Nat) (x : List Int × List Int), (∀ p ∈ l, p < 4) → (∀ v, isN w h v → v < x.1.length) → VOut w h b a d l x (l.foldl (vst w h b a d) x)
  | [], x, _, _ => ⟨fun _ _ _ => rfl, fun v _ h1 h2 => by simp only [List.foldl_nil] at h2; omega, fun p hp => by simp at hp, fun _ h => h, rfl⟩
  | p :: l, x, hl, hlen => by
    have hp := hl p (by simp)
    have E := vst_ext (w := w) (h := h) (b := b) (a := a) (x := x) hp hd
    have ih := vst_out (w := w) (h := h) (b := b) (a := a) hd l (vst w h b a d x p) (fun q hq => hl q (by simp [hq])) (by rw [E.len]; exact hlen)
    refine ⟨fun v h0 h1 => ?_, fun v hv h1 h2 => ?_, fun q hq hlk => ?_, fun v hv => ih.pre v (E.pre v hv), by rw [List.foldl_cons, ih.len, E.len]⟩
    · have e1 := E.old v h0 h1
      rw [List.foldl_cons, ih.keep v h0 (by omega), e1]
    · by_cases h3 : rd (vst w h b a d x p).1 v < 0
      · exact ih.new v hv h3 h2
      · have h4 : 0 ≤ rd (vst w h b a d x p).1 v := by omega
        have e2 := ih.keep v hv.1 h4
        have : link w h b (4 * a + p) ∧ next w h a p = v ∧ rd (vst w h b a d x p).1 v = d ∧ v ∈ (vst w h b a d x p).2 := by
          unfold vst at h4 ⊢
          split at h4
          · rename_i hc
            rw [if_pos hc]
            obtain ⟨_, hn, _⟩ := link_next hp hc.1
            have hln := hlen _ hn
            simp only at h4 ⊢
            rw [rd_set hn.1 hln hv.1] at h4 ⊢
            by_cases hvn : v = next w h a p
            · rw [if_pos hvn]; exact ⟨hc.1, hvn.symm, rfl, by simp [hvn]⟩
            · rw [if_neg hvn] at h4; omega
          · omega
        rw [List.foldl_cons]
        exact ⟨by rw [e2]; exact this.2.2.1, ih.pre v this.2.2.2, p, hp, this.1, this.2.1⟩
    · rcases List.mem_cons.1 hq with rfl | hq
      · obtain ⟨_, hn, _⟩ := link_next hp hlk
        have hln := hlen _ hn
        have h4 : 0 ≤ rd (vst w h b a d x q).1 (next w h a q) := by
          unfold vst
          split
          · simp only; rw [rd_set hn.1 hln hn.1, if_pos rfl]; exact hd
          · rename_i hc
            by_cases h5 : rd x.1 (next w h a q) < 0
            · exact absurd ⟨hlk, h5⟩ hc
            · omega
        rw [List.foldl_cons, ih.keep _ hn.1 h4]; exact h4
      · exact ih.all q hq hlk
structure Inv2 (w h : Int) (b : List Int) (root : Int) (s rest nx : List Int) : Prop where
  cl : ∀ v, isN w h v → 0 ≤ rd s v → v ∉ rest → v ∉ nx → ∀ p : Nat, p < 4 → link w h b (4 * v + p) → 0 ≤ rd s (next w h v p)
  pre : ∀ v, isN w h v → 0 < rd s v → ∃ u, isN w h u ∧ rd s u = rd s v - 1 ∧ ∃ q : Nat, q < 4 ∧ link w h b (4 * u + q) ∧ next w h u q = v
  zero : rd s root = 0 ∧ ∀ v, isN w h v → rd s v = 0 → v = root
theorem Run.inv2 {w h root : Int} {b s rest nx r : List Int} {d : Int} (hr : isN w h root) (R : Run w h b s rest nx d r) : Inv w h s rest nx d → Inv2 w h b root s rest nx → Inv2 w h b root r [] [] := by
  induction R with
  | done s d => exact fun _ j => j
  | level _ ih => exact fun i j => ih i.level ⟨fun v hv h0 h1 h2 => j.cl v hv h0 (by simp) h1, j.pre, j.zero⟩
  | @node s a rest nx d r _ ih =>
    intro i j
    have h1 := i.one
    obtain ⟨ha, hda⟩ := i.fr a (by simp)
    have O : VOut w h b a d (List.range 4) (s, nx) (vis w h b a d (s, nx)) := vst_out (by omega) _ _ (by simp) (fun v hv => by have := i.len; have := hv.2; simp only; omega)
    refine ih i.node ⟨fun v hv h0 hn1 hn2 p hp hlk => ?_, fun v hv h0 => ?_, ?_, fun v hv h0 => ?_⟩
    · have hnx := (link_next hp hlk).2.1
      by_cases h2 : 0 ≤ rd s v
      · by_cases hva : v = a
        · subst hva; exact O.all p (by simp; omega) hlk
        · have h3 := j.cl v hv h2 (by simp [hva, hn1]) (fun hh => hn2 (O.pre v hh)) p hp hlk
          rw [O.keep _ hnx.1 h3]; exact h3
      · exact absurd (O.new v hv (by simp only; omega) h0).2.1 hn2
    · by_cases h2 : 0 ≤ rd s v
      · have e := O.keep v hv.1 h2
        simp only at e
        rw [e] at h0 ⊢
        obtain ⟨u, hu, hu1, hq⟩ := j.pre v hv h0
        refine ⟨u, hu, ?_, hq⟩
        rw [O.keep u hu.1 (by simp only; omega)]; exact hu1
      · obtain ⟨e, _, hq⟩ := O.new v hv (by simp only; omega) (by omega)
        refine ⟨a, ha, ?_, hq⟩
        rw [O.keep a ha.1 (by simp only; omega), e]; exact hda
    · have := j.zero.1
      rw [O.keep root hr.1 (by simp only; omega)]; exact this
    · by_cases h2 : 0 ≤ rd s v
      · have e := O.keep v hv.1 h2
        simp only at e
        exact j.zero.2 v hv (by rw [← e]; exact h0)
      · obtain ⟨e, _⟩ := O.new v hv (by simp only; omega) (by omega)
        omega
theorem start_rd {w h root v : Int} (hr : isN w h root) (hv : isN w h v) : rd (start w h root) v = if v = root then 0 else -1 := by
  have hc := cnt_range w h
  have h1 := hr.2
  have h2 := hv.2
  unfold start
  rw [rd_set hr.1 (by simp; omega) hv.1]
  by_cases h3 : v = root
  · rw [if_pos h3, if_pos h3]
  · rw [if_neg h3, if_neg h3]
    have := rd_mem (s := List.replicate (cnt w h).toNat (-1 : Int)) hv.1 (by simp; omega)
    exact List.eq_of_mem_replicate this
theorem start_inv2 {w h root : Int} (b : List Int) (hr : isN w h root) : Inv2 w h b root (start w h root) [root] [] := by
  refine ⟨fun v hv h0 h1 => ?_, fun v hv h0 => ?_, by rw [start_rd hr hr, if_pos rfl], fun v hv h0 => ?_⟩
  · rw [start_rd hr hv] at h0
    split at h0
    · rename_i h2; simp [h2] at h1
    · omega
  · rw [start_rd hr hv] at h0; split at h0 <;> omega
  · rw [start_rd hr hv] at h0
    split at h0
    · assumption
    · omega
theorem depths_inv2 {w h root : Int} {b : List Int} (H : rootOk w h b root) : Inv2 w h b root (depths w h b root) [] [] :=
  (depths_run H).inv2 H.2 (start_inv H.2).1 (start_inv2 b H.2)
/-- In a connected mesh every node is reached from every root. -/
theorem conn_all {w h : Int} {b : List Int} (hc : conn w h b) {r : Int} (hr : isN w h r) : ∀ v, isN w h v → 0 ≤ rd (depths w h b r) v := by
  have h0 := okG_isN hc.1.2
  have H0 : rootOk w h b 0 := ⟨hc.1, h0⟩
  have Hr : rootOk w h b r := ⟨hc.1, hr⟩
  have i0 := depths_inv H0
  have j0 := depths_inv2 H0
  have j := depths_inv2 Hr
  have all0 : ∀ v, isN w h v → 0 ≤ rd (depths w h b 0) v := fun v hv => by
    have hm := rd_mem (s := depths w h b 0) hv.1 (by have := hv.2; omega)
    have := (i0.2 _ hm).1
    by_cases h1 : rd (depths w h b 0) v = -1
    · rw [h1] at hm; exact absurd hm hc.2
    · omega
  have down : ∀ (n : Nat) v, isN w h v → rd (depths w h b 0) v = n → 0 ≤ rd (depths w h b r) v → 0 ≤ rd (depths w h b r) 0 := by
    intro n
    induction n with
    | zero => intro v hv h1 h2
              have := j0.zero.2 v hv (by omega)
              rw [this] at h2; exact h2
    | succ n ih =>
      intro v hv h1 h2
      obtain ⟨u, hu, hu1, q, hq, hlk, hnx⟩ := j0.pre v hv (by omega)
      obtain ⟨q', hq', hlk', hnx'⟩ := link_symm hq hlk
      rw [hnx] at hlk' hnx'
      have h3 := j.cl v hv h2 (by simp) (by simp) q' hq' hlk'
      rw [hnx'] at h3
      exact ih u hu (by omega) h3
  have hr0 : 0 ≤ rd (depths w h b r) 0 := by
    have h1 := all0 r hr
    exact down _ r hr (Int.toNat_of_nonneg h1).symm (by have := j.zero.1; omega)
  have up : ∀ (n : Nat) v, isN w h v → rd (depths w h b 0) v = n → 0 ≤ rd (depths w h b r) v := by
    intro n
    induction n with
    | zero => intro v hv h1
              have := j0.zero.2 v hv (by omega)
              rw [this]; exact hr0
    | succ n ih =>
      intro v hv h1
      obtain ⟨u, hu, hu1, q, hq, hlk, hnx⟩ := j0.pre v hv (by omega)
      have h3 := j.cl u hu (ih u hu (by omega)) (by simp) (by simp) q hq hlk
      rw [hnx] at h3; exact h3
  exact fun v hv => up _ v hv (Int.toNat_of_nonneg (all0 v hv)).symm
/-- Who has a parent. -/
theorem par_some {w h root : Int} {b : List Int} (H : rootOk w h b root) {v : Int} (hv : isN w h v) (h0 : 0 < rd (depths w h b root) v) :
    ∃ p : Nat, p < 4 ∧ par w h b (depths w h b root) v = next w h v p ∧ link w h b (4 * v + p) ∧ rd (depths w h b root) (next w h v p) = rd (depths w h b root) v - 1 := by
  rcases par_cases w h b (depths w h b root) v with h1 | ⟨p, hp, h2, h3, _⟩
  · exfalso
    obtain ⟨u, hu, hu1, q, hq, hlk, hnx⟩ := (depths_inv2 H).pre v hv h0
    obtain ⟨q', hq', hlk', hnx'⟩ := link_symm hq hlk
    rw [hnx] at hlk' hnx'
    have ht : toRoot w h b (depths w h b root) v q' := ⟨hlk', by rw [hnx']; exact hu1⟩
    unfold par at h1
    rw [if_pos h0] at h1
    have nn : ∀ p : Nat, p < 4 → toRoot w h b (depths w h b root) v p → next w h v p ≠ -1 := fun p hp ht hh => by
      have := (link_next hp ht.1).2.1.1; omega
    by_cases t0 : toRoot w h b (depths w h b root) v 0
    · rw [if_pos t0] at h1; exact nn 0 (by omega) t0 h1
    rw [if_neg t0] at h1
    by_cases t1 : toRoot w h b (depths w h b root) v 1
    · rw [if_pos t1] at h1; exact nn 1 (by omega) t1 h1
    rw [if_neg t1] at h1
    by_cases t2 : toRoot w h b (depths w h b root) v 2
    · rw [if_pos t2] at h1; exact nn 2 (by omega) t2 h1
    rw [if_neg t2] at h1
    by_cases t3 : toRoot w h b (depths w h b root) v 3
    · rw [if_pos t3] at h1; exact nn 3 (by omega) t3 h1
    have : q' = 0 ∨ q' = 1 ∨ q' = 2 ∨ q' = 3 := by omega
    rcases this with rfl | rfl | rfl | rfl
    · exact t0 ht
    · exact t1 ht
    · exact t2 ht
    · exact t3 ht
  · exact ⟨p, hp, h2, h3.1, h3.2⟩
theorem parents_rd {w h root : Int} {b : List Int} {v : Int} (h0 : 0 ≤ v) (h1 : v < (depths w h b root).length) : rd (parents w h b root) v = par w h b (depths w h b root) v := by
  obtain ⟨i, rfl⟩ := Int.eq_ofNat_of_zero_le h0
  rw [rd_at (by rw [parents_length]; omega)]
  simp [parents, pars]
section
variable {w h r : Int} {b : List Int} (hc : conn w h b) (hr : isN w h r)
include hc hr
theorem tree_len : ((parents w h b r).length : Int) = cnt w h := by rw [parents_length]; exact (depths_inv ⟨hc.1, hr⟩).1
theorem tree_par {v : Int} (hv : isN w h v) : (v = r ∧ rd (parents w h b r) v = -1) ∨ ∃ p : Nat, p < 4 ∧ rd (parents w h b r) v = next w h v p ∧ link w h b (4 * v + p) ∧ isN w h (next w h v p) ∧ rd (depths w h b r) (next w h v p) = rd (depths w h b r) v - 1 := by
  have H : rootOk w h b r := ⟨hc.1, hr⟩
  have hl := (depths_inv H).1
  have hv2 := hv.2
  rw [parents_rd hv.1 (by omega)]
  have h0 := conn_all hc hr v hv
  by_cases h1 : rd (depths w h b r) v = 0
  · refine .inl ⟨(depths_inv2 H).zero.2 v hv h1, ?_⟩
    unfold par; rw [if_neg (by omega)]
  · obtain ⟨p, hp, h2, h3, h4⟩ := par_some H hv (by omega)
    exact .inr ⟨p, hp, h2, h3, (link_next hp h3).2.1, h4⟩
theorem anc_node {v : Int} (hv : isN w h v) : anc (parents w h b r) v = v :: (if rd (parents w h b r) v = -1 then [] else anc (parents w h b r) (rd (parents w h b r) v)) := by
  have := tree_len hc hr
  exact anc_cons (parents_tree ⟨hc.1, hr⟩) hv.1 (by have := hv.2; omega)
theorem root_anc : ∀ (n : Nat) {v : Int}, isN w h v → rd (depths w h b r) v = n → r ∈ anc (parents w h b r) v := by
  intro n
  induction n with
  | zero =>
    intro v hv h0
    rw [anc_node hc hr hv]
    have := (depths_inv2 ⟨hc.1, hr⟩).zero.2 v hv (by omega)
    simp [this]
  | succ n ih =>
    intro v hv h0
    rw [anc_node hc hr hv]
    rcases tree_par hc hr hv with ⟨h1, _⟩ | ⟨p, hp, h2, h3, h4, h5⟩
    · simp [h1]
    · rw [h2, if_neg (by have := h4.1; omega)]
      exact List.mem_cons_of_mem _ (ih h4 (by omega))
theorem anc_get : ∀ (n : Nat) {v : Int}, isN w h v → rd (depths w h b r) v = n → ∀ (j : Nat) (hj : j + 1 < (anc (parents w h b r) v).length), isN w h (anc (parents w h b r) v)[j] ∧ isN w h (anc (parents w h b r) v)[j + 1] ∧
    ∃ p : Nat, p < 4 ∧ next w h (anc (parents w h b r) v)[j] p = (anc (parents w h b r) v)[j + 1] ∧ link w h b (4 * (anc (parents w h b r) v)[j] + p) := by
  intro n
  induction n with
  | zero =>
    intro v hv h0 j hj
    have hroot := (depths_inv2 ⟨hc.1, hr⟩).zero.2 v hv (by omega)
    have e := anc_node hc hr hv
    rcases tree_par hc hr hv with ⟨_, h1⟩ | ⟨p, hp, h2, h3, h4, h5⟩
    · rw [h1, if_pos rfl] at e; rw [e] at hj; simp at hj
    · have := conn_all hc hr _ h4; omega
  | succ n ih =>
    intro v hv h0 j hj
    have e := anc_node hc hr hv
    rcases tree_par hc hr hv with ⟨_, h1⟩ | ⟨p, hp, h2, h3, h4, h5⟩
    · rw [h1, if_pos rfl] at e; rw [e] at hj; simp at hj
    · rw [h2, if_neg (by have := h4.1; omega)] at e
      have e2 := anc_node hc hr h4
      cases j with
      | zero =>
        simp only [e]
        simp only [List.getElem_cons_zero, List.getElem_cons_succ]
        have e3 : (anc (parents w h b r) (next w h v p))[0]'(by rw [e2]; simp) = next w h v p := by simp only [e2, List.getElem_cons_zero]
        rw [e3]
        exact ⟨hv, h4, p, hp, rfl, h3⟩
      | succ j =>
        simp only [e] at hj ⊢
        simp only [List.getElem_cons_succ]
        exact ih h4 (by omega) j (by simpa using hj)
/-- The way through the tree between two nodes has a first step, to a neighbour. -/
theorem tn_first {a c : Int} (ha : isN w h a) (hcn : isN w h c) (hne : a ≠ c) : ∃ p : Nat, p < 4 ∧ 1 < (treeNodes (parents w h b r) a c).length ∧ (treeNodes (parents w h b r) a c)[1]? = some (next w h a p) ∧ 0 ≤ next w h a p := by
  have dn := fun {v : Int} (hv : isN w h v) => (Int.toNat_of_nonneg (conn_all hc hr v hv)).symm
  have ra := root_anc hc hr _ ha (dn ha)
  have rc := root_anc hc hr _ hcn (dn hcn)
  have hcom : 0 ≤ common (parents w h b r) a c := by
    unfold common
    cases hf : (anc (parents w h b r) a).find? (fun x => decide (x ∈ anc (parents w h b r) c)) with
    | none => rw [List.find?_eq_none] at hf; exact absurd (by simpa using rc) (hf r ra)
    | some u =>
      have := anc_in (List.mem_of_find?_eq_some hf)
      simpa using this.1
  obtain ⟨ma, mc⟩ := common_mem hcom
  have ga := anc_get hc hr _ ha (dn ha)
  have gc := anc_get hc hr _ hcn (dn hcn)
  have ea := anc_node hc hr ha
  have ec := anc_node hc hr hcn
  unfold treeNodes
  rw [if_neg (by omega)]
  have ia := List.idxOf_lt_length_iff.2 ma
  have ic := List.idxOf_lt_length_iff.2 mc
  have va : (anc (parents w h b r) a)[(anc (parents w h b r) a).idxOf (common (parents w h b r) a c)] = common (parents w h b r) a c := by
    have := List.findIdx_getElem (p := (· == common (parents w h b r) a c)) (xs := anc (parents w h b r) a) (w := ia)
    simpa using this
  have vc : (anc (parents w h b r) c)[(anc (parents w h b r) c).idxOf (common (parents w h b r) a c)] = common (parents w h b r) a c := by
    have := List.findIdx_getElem (p := (· == common (parents w h b r) a c)) (xs := anc (parents w h b r) c) (w := ic)
    simpa using this
  generalize (anc (parents w h b r) a).idxOf (common (parents w h b r) a c) = ka at *
  generalize (anc (parents w h b r) c).idxOf (common (parents w h b r) a c) = kc at *
  have a0 : (anc (parents w h b r) a)[0]'(by omega) = a := by simp only [ea, List.getElem_cons_zero]
  have c0 : (anc (parents w h b r) c)[0]'(by omega) = c := by simp only [ec, List.getElem_cons_zero]
  by_cases hk : ka = 0
  · subst hk
    rw [a0] at va
    have hkc : kc ≠ 0 := fun hh => by subst hh; rw [c0] at vc; exact hne (va.trans vc.symm)
    obtain ⟨j, rfl⟩ : ∃ j, kc = j + 1 := ⟨kc - 1, by omega⟩
    obtain ⟨n1, n2, p, hp, hnx, hlk⟩ := gc j ic
    rw [vc, ← va] at hnx
    obtain ⟨g1, g2, g3, _⟩ := geo hp n1 (by rw [hnx]; exact ha.1)
    rw [hnx] at g1
    obtain ⟨q, hq⟩ := Int.eq_ofNat_of_zero_le g2
    rw [hq] at g1 g3
    refine ⟨q, by omega, by simp; omega, ?_, by rw [g1]; exact n1.1⟩
    rw [g1]
    have e1 : ((anc (parents w h b r) a).take (0 + 1)) = [a] := by rw [ea]; rfl
    have e2 : (anc (parents w h b r) c).take (j + 1) = (anc (parents w h b r) c).take j ++ [(anc (parents w h b r) c)[j]] := List.take_succ_eq_append_getElem (by omega)
    rw [e1, List.getElem?_append_right (by simp)]
    rw [e2, List.reverse_append]; rfl
  · obtain ⟨n1, n2, p, hp, hnx, hlk⟩ := ga 0 (by omega)
    rw [a0] at hnx
    refine ⟨p, hp, by simp; omega, ?_, by rw [hnx]; exact n2.1⟩
    rw [List.getElem?_append_left (by simp; omega), List.getElem?_take, if_pos (by omega), List.getElem?_eq_getElem (by omega), hnx]
end
end Go.Proofs.YtlbbalmeaedbdaaGreat.V
/-! Tables: the walks. -/
set_option linter.all false
namespace Go.Proofs.YtlbbalmeaedbdaaGreat.V
open Go Go.VM Go.Proofs
set_option maxRecDepth 10000
variable {frz : Nat} {H : Heap}
end Go.Proofs.YtlbbalmeaedbdaaGreat.V
