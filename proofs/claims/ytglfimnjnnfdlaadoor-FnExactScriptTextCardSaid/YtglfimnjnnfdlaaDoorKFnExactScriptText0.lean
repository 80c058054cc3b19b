/- Texts of a proof, joined. -/
import Derived.Test.YtglfimnjnnfdlaaDoorProg
import Derived.KernelRfl
import Derived.Test.YtglfimnjnnfdlaaDoorKM0
import Derived.Test.YtglfimnjnnfdlaaDoorKM1
import Derived.Test.YtglfimnjnnfdlaaDoorKM2
/- What the value machine is told of the program: which functions may change rows, and the types' sizes and places. -/
namespace Go.Proofs.YtglfimnjnnfdlaaDoor.V
open Go Go.VM Go.Proofs
noncomputable def C : Ctx := { P := Tryd.prog, mode := fun g => if [28].contains g then 2 else if [10, 29].contains g then 1 else 0, ext := fun _ => none }
@[simp] theorem CP : C.P = Tryd.prog := rfl
theorem drawn : DrawOk C := drawOk_holds C (by kernel_rfl)
@[simp] theorem mode0 : C.mode 0 = 0 := rfl
@[simp] theorem mode1 : C.mode 1 = 0 := rfl
@[simp] theorem mode2 : C.mode 2 = 0 := rfl
@[simp] theorem mode3 : C.mode 3 = 0 := rfl
@[simp] theorem mode4 : C.mode 4 = 0 := rfl
@[simp] theorem mode5 : C.mode 5 = 0 := rfl
@[simp] theorem mode6 : C.mode 6 = 0 := rfl
@[simp] theorem mode7 : C.mode 7 = 0 := rfl
@[simp] theorem mode8 : C.mode 8 = 0 := rfl
@[simp] theorem mode9 : C.mode 9 = 0 := rfl
@[simp] theorem mode10 : C.mode 10 = 1 := rfl
@[simp] theorem mode11 : C.mode 11 = 0 := rfl
@[simp] theorem mode12 : C.mode 12 = 0 := rfl
@[simp] theorem mode13 : C.mode 13 = 0 := rfl
@[simp] theorem mode14 : C.mode 14 = 0 := rfl
@[simp] theorem mode15 : C.mode 15 = 0 := rfl
@[simp] theorem mode16 : C.mode 16 = 0 := rfl
@[simp] theorem mode17 : C.mode 17 = 0 := rfl
@[simp] theorem mode18 : C.mode 18 = 0 := rfl
@[simp] theorem mode19 : C.mode 19 = 0 := rfl
@[simp] theorem mode20 : C.mode 20 = 0 := rfl
@[simp] theorem mode21 : C.mode 21 = 0 := rfl
@[simp] theorem mode22 : C.mode 22 = 0 := rfl
@[simp] theorem mode23 : C.mode 23 = 0 := rfl
@[simp] theorem mode24 : C.mode 24 = 0 := rfl
@[simp] theorem mode25 : C.mode 25 = 0 := rfl
@[simp] theorem mode26 : C.mode 26 = 0 := rfl
@[simp] theorem mode27 : C.mode 27 = 0 := rfl
@[simp] theorem mode28 : C.mode 28 = 2 := rfl
@[simp] theorem mode29 : C.mode 29 = 1 := rfl
@[simp] theorem mode30 : C.mode 30 = 0 := rfl
@[simp] theorem mode31 : C.mode 31 = 0 := rfl
@[simp] theorem mode32 : C.mode 32 = 0 := rfl
@[simp] theorem mode33 : C.mode 33 = 0 := rfl
@[simp] theorem mode34 : C.mode 34 = 0 := rfl
@[simp] theorem mode35 : C.mode 35 = 0 := rfl
@[simp] theorem mode36 : C.mode 36 = 0 := rfl
@[simp] theorem mode37 : C.mode 37 = 0 := rfl
@[simp] theorem mode38 : C.mode 38 = 0 := rfl
@[simp] theorem mode39 : C.mode 39 = 0 := rfl
@[simp] theorem mode40 : C.mode 40 = 0 := rfl
@[simp] theorem mode41 : C.mode 41 = 0 := rfl
@[simp] theorem mode42 : C.mode 42 = 0 := rfl
@[simp] theorem mode43 : C.mode 43 = 0 := rfl
@[simp] theorem mode44 : C.mode 44 = 0 := rfl
@[simp] theorem mode45 : C.mode 45 = 0 := rfl
@[simp] theorem mode46 : C.mode 46 = 0 := rfl
@[simp] theorem mode47 : C.mode 47 = 0 := rfl
@[simp] theorem mode48 : C.mode 48 = 0 := rfl
@[simp] theorem mode49 : C.mode 49 = 0 := rfl
@[simp] theorem mode50 : C.mode 50 = 0 := rfl
@[simp] theorem mode51 : C.mode 51 = 0 := rfl
@[simp] theorem mode52 : C.mode 52 = 0 := rfl
@[simp] theorem mode53 : C.mode 53 = 0 := rfl
@[simp] theorem mode54 : C.mode 54 = 0 := rfl
@[simp] theorem mode55 : C.mode 55 = 0 := rfl
@[simp] theorem mode56 : C.mode 56 = 0 := rfl
@[simp] theorem mode57 : C.mode 57 = 0 := rfl
@[simp] theorem mode58 : C.mode 58 = 0 := rfl
@[simp] theorem tsz1 : tsz Tryd.prog 1 = some (false, 1) := by kernel_rfl
@[simp] theorem tsz2 : tsz Tryd.prog 2 = some (false, 1) := by kernel_rfl
@[simp] theorem tzero2 : tzero Tryd.prog 2 = some [.int .i64 0] := by kernel_rfl
@[simp] theorem und2 : Tryd.prog.underlying 2 = some (.int .i64) := by kernel_rfl
@[simp] theorem tsz3 : tsz Tryd.prog 3 = some (false, 1) := by kernel_rfl
@[simp] theorem tzero3 : tzero Tryd.prog 3 = some [.int .i64 0] := by kernel_rfl
@[simp] theorem und3 : Tryd.prog.underlying 3 = some (.int .i64) := by kernel_rfl
@[simp] theorem tsz4 : tsz Tryd.prog 4 = some (false, 1) := by kernel_rfl
@[simp] theorem tzero4 : tzero Tryd.prog 4 = some [.bool false] := by kernel_rfl
@[simp] theorem und4 : Tryd.prog.underlying 4 = some .bool := by kernel_rfl
@[simp] theorem tsz5 : tsz Tryd.prog 5 = some (false, 1) := by kernel_rfl
@[simp] theorem tzero5 : tzero Tryd.prog 5 = some [.int .u8 0] := by kernel_rfl
@[simp] theorem und5 : Tryd.prog.underlying 5 = some (.int .u8) := by kernel_rfl
@[simp] theorem tsz6 : tsz Tryd.prog 6 = some (false, 1) := by kernel_rfl
@[simp] theorem tzero6 : tzero Tryd.prog 6 = some [.int .u8 0] := by kernel_rfl
@[simp] theorem und6 : Tryd.prog.underlying 6 = some (.int .u8) := by kernel_rfl
@[simp] theorem tsz7 : tsz Tryd.prog 7 = some (true, 4) := by kernel_rfl
@[simp] theorem tzero7 : tzero Tryd.prog 7 = some [.int .i64 0, .int .i64 0, .bool false, .int .u8 0] := by kernel_rfl
@[simp] theorem finfo7_0 : finfo Tryd.prog 7 0 = some (0, false, 1) := by kernel_rfl
@[simp] theorem finfo7_1 : finfo Tryd.prog 7 1 = some (1, false, 1) := by kernel_rfl
@[simp] theorem finfo7_2 : finfo Tryd.prog 7 2 = some (2, false, 1) := by kernel_rfl
@[simp] theorem finfo7_3 : finfo Tryd.prog 7 3 = some (3, false, 1) := by kernel_rfl
@[simp] theorem bplaces7 : bplaces Tryd.prog 7 = some [(0, 1), (1, 1), (2, 1), (3, 1)] := by kernel_rfl
@[simp] theorem tsz8 : tsz Tryd.prog 8 = some (true, 4) := by kernel_rfl
@[simp] theorem tzero8 : tzero Tryd.prog 8 = some [.int .i64 0, .int .i64 0, .bool false, .int .u8 0] := by kernel_rfl
@[simp] theorem finfo8_0 : finfo Tryd.prog 8 0 = some (0, false, 1) := by kernel_rfl
@[simp] theorem finfo8_1 : finfo Tryd.prog 8 1 = some (1, false, 1) := by kernel_rfl
@[simp] theorem finfo8_2 : finfo Tryd.prog 8 2 = some (2, false, 1) := by kernel_rfl
@[simp] theorem finfo8_3 : finfo Tryd.prog 8 3 = some (3, false, 1) := by kernel_rfl
@[simp] theorem bplaces8 : bplaces Tryd.prog 8 = some [(0, 1), (1, 1), (2, 1), (3, 1)] := by kernel_rfl
@[simp] theorem tsz9 : tsz Tryd.prog 9 = some (false, 1) := by kernel_rfl
@[simp] theorem tzero9 : tzero Tryd.prog 9 = some [.string .empty] := by kernel_rfl
@[simp] theorem isStr9 : isStr Tryd.prog 9 = true := by kernel_rfl
@[simp] theorem und9 : Tryd.prog.underlying 9 = some .string := by kernel_rfl
@[simp] theorem tsz10 : tsz Tryd.prog 10 = some (false, 1) := by kernel_rfl
@[simp] theorem tzero10 : tzero Tryd.prog 10 = some [.string .empty] := by kernel_rfl
@[simp] theorem isStr10 : isStr Tryd.prog 10 = true := by kernel_rfl
@[simp] theorem und10 : Tryd.prog.underlying 10 = some .string := by kernel_rfl
@[simp] theorem tsz11 : tsz Tryd.prog 11 = some (false, 1) := by kernel_rfl
@[simp] theorem tzero11 : tzero Tryd.prog 11 = some [.string .empty] := by kernel_rfl
@[simp] theorem isStr11 : isStr Tryd.prog 11 = true := by kernel_rfl
@[simp] theorem und11 : Tryd.prog.underlying 11 = some .string := by kernel_rfl
@[simp] theorem tsz12 : tsz Tryd.prog 12 = some (false, 1) := by kernel_rfl
@[simp] theorem tzero12 : tzero Tryd.prog 12 = some [.int .u64 0] := by kernel_rfl
@[simp] theorem und12 : Tryd.prog.underlying 12 = some (.int .u64) := by kernel_rfl
@[simp] theorem tsz13 : tsz Tryd.prog 13 = some (true, 2) := by kernel_rfl
@[simp] theorem tzero13 : tzero Tryd.prog 13 = some [.string .empty, .int .u64 0] := by kernel_rfl
@[simp] theorem finfo13_0 : finfo Tryd.prog 13 0 = some (0, false, 1) := by kernel_rfl
@[simp] theorem finfo13_1 : finfo Tryd.prog 13 1 = some (1, false, 1) := by kernel_rfl
@[simp] theorem bplaces13 : bplaces Tryd.prog 13 = some [(0, 1), (1, 1)] := by kernel_rfl
@[simp] theorem tsz14 : tsz Tryd.prog 14 = some (true, 2) := by kernel_rfl
@[simp] theorem tzero14 : tzero Tryd.prog 14 = some [.string .empty, .int .u64 0] := by kernel_rfl
@[simp] theorem finfo14_0 : finfo Tryd.prog 14 0 = some (0, false, 1) := by kernel_rfl
@[simp] theorem finfo14_1 : finfo Tryd.prog 14 1 = some (1, false, 1) := by kernel_rfl
@[simp] theorem bplaces14 : bplaces Tryd.prog 14 = some [(0, 1), (1, 1)] := by kernel_rfl
@[simp] theorem tsz15 : tsz Tryd.prog 15 = some (false, 1) := by kernel_rfl
@[simp] theorem tzero15 : tzero Tryd.prog 15 = some [.pointer none] := by kernel_rfl
@[simp] theorem tsz16 : tsz Tryd.prog 16 = some (false, 1) := by kernel_rfl
@[simp] theorem tzero16 : tzero Tryd.prog 16 = some [.pointer none] := by kernel_rfl
@[simp] theorem tsz17 : tsz Tryd.prog 17 = some (false, 1) := by kernel_rfl
@[simp] theorem tzero17 : tzero Tryd.prog 17 = some [.pointer none] := by kernel_rfl
@[simp] theorem tsz18 : tsz Tryd.prog 18 = some (true, 1) := by kernel_rfl
@[simp] theorem tzero18 : tzero Tryd.prog 18 = some [.pointer none] := by kernel_rfl
@[simp] theorem finfo18_0 : finfo Tryd.prog 18 0 = some (0, false, 1) := by kernel_rfl
@[simp] theorem bplaces18 : bplaces Tryd.prog 18 = some [(0, 1)] := by kernel_rfl
@[simp] theorem tsz19 : tsz Tryd.prog 19 = some (true, 1) := by kernel_rfl
@[simp] theorem tzero19 : tzero Tryd.prog 19 = some [.pointer none] := by kernel_rfl
@[simp] theorem finfo19_0 : finfo Tryd.prog 19 0 = some (0, false, 1) := by kernel_rfl
@[simp] theorem bplaces19 : bplaces Tryd.prog 19 = some [(0, 1)] := by kernel_rfl
@[simp] theorem tsz21 : tsz Tryd.prog 21 = some (false, 1) := by kernel_rfl
@[simp] theorem tzero21 : tzero Tryd.prog 21 = some [.int .i32 0] := by kernel_rfl
@[simp] theorem und21 : Tryd.prog.underlying 21 = some (.int .i32) := by kernel_rfl
@[simp] theorem tsz22 : tsz Tryd.prog 22 = some (true, 5) := by kernel_rfl
@[simp] theorem tzero22 : tzero Tryd.prog 22 = some [.int .i64 0, .int .i64 0, .int .i64 0, .int .i64 0, .int .i64 0] := by kernel_rfl
@[simp] theorem finfo22_0 : finfo Tryd.prog 22 0 = some (0, false, 1) := by kernel_rfl
@[simp] theorem finfo22_1 : finfo Tryd.prog 22 1 = some (1, false, 1) := by kernel_rfl
@[simp] theorem finfo22_2 : finfo Tryd.prog 22 2 = some (2, false, 1) := by kernel_rfl
@[simp] theorem finfo22_3 : finfo Tryd.prog 22 3 = some (3, false, 1) := by kernel_rfl
@[simp] theorem finfo22_4 : finfo Tryd.prog 22 4 = some (4, false, 1) := by kernel_rfl
@[simp] theorem bplaces22 : bplaces Tryd.prog 22 = some [(0, 1), (1, 1), (2, 1), (3, 1), (4, 1)] := by kernel_rfl
@[simp] theorem tsz23 : tsz Tryd.prog 23 = some (true, 5) := by kernel_rfl
@[simp] theorem tzero23 : tzero Tryd.prog 23 = some [.int .i64 0, .int .i64 0, .int .i64 0, .int .i64 0, .int .i64 0] := by kernel_rfl
@[simp] theorem finfo23_0 : finfo Tryd.prog 23 0 = some (0, false, 1) := by kernel_rfl
@[simp] theorem finfo23_1 : finfo Tryd.prog 23 1 = some (1, false, 1) := by kernel_rfl
@[simp] theorem finfo23_2 : finfo Tryd.prog 23 2 = some (2, false, 1) := by kernel_rfl
@[simp] theorem finfo23_3 : finfo Tryd.prog 23 3 = some (3, false, 1) := by kernel_rfl
@[simp] theorem finfo23_4 : finfo Tryd.prog 23 4 = some (4, false, 1) := by kernel_rfl
@[simp] theorem flatN23 : flatN Tryd.prog 23 = some [0, 0, 0, 0, 0] := by kernel_rfl
@[simp] theorem bplaces23 : bplaces Tryd.prog 23 = some [(0, 1), (1, 1), (2, 1), (3, 1), (4, 1)] := by kernel_rfl
@[simp] theorem tsz25 : tsz Tryd.prog 25 = some (false, 1) := by kernel_rfl
@[simp] theorem tsz26 : tsz Tryd.prog 26 = some (true, 5) := by kernel_rfl
@[simp] theorem tzero26 : tzero Tryd.prog 26 = some [.int .i64 0, .int .i64 0, .int .i64 0, .int .i64 0, .int .i64 0] := by kernel_rfl
@[simp] theorem finfo26_0 : finfo Tryd.prog 26 0 = some (0, false, 1) := by kernel_rfl
@[simp] theorem finfo26_1 : finfo Tryd.prog 26 1 = some (1, false, 1) := by kernel_rfl
@[simp] theorem finfo26_2 : finfo Tryd.prog 26 2 = some (2, false, 1) := by kernel_rfl
@[simp] theorem finfo26_3 : finfo Tryd.prog 26 3 = some (3, false, 1) := by kernel_rfl
@[simp] theorem finfo26_4 : finfo Tryd.prog 26 4 = some (4, false, 1) := by kernel_rfl
@[simp] theorem flatN26 : flatN Tryd.prog 26 = some [0, 0, 0, 0, 0] := by kernel_rfl
@[simp] theorem bplaces26 : bplaces Tryd.prog 26 = some [(0, 1), (1, 1), (2, 1), (3, 1), (4, 1)] := by kernel_rfl
@[simp] theorem tsz27 : tsz Tryd.prog 27 = some (false, 1) := by kernel_rfl
@[simp] theorem tsz28 : tsz Tryd.prog 28 = some (false, 1) := by kernel_rfl
@[simp] theorem tsz29 : tsz Tryd.prog 29 = some (false, 1) := by kernel_rfl
@[simp] theorem tzero29 : tzero Tryd.prog 29 = some [.slice none 0 0] := by kernel_rfl
@[simp] theorem eltp29 : eltp Tryd.prog 29 = some (23, 5) := by kernel_rfl
@[simp] theorem isSl29 : isSl Tryd.prog 29 = true := by kernel_rfl
@[simp] theorem und29 : Tryd.prog.underlying 29 = some (.slice 23) := by kernel_rfl
@[simp] theorem tsz30 : tsz Tryd.prog 30 = some (false, 1) := by kernel_rfl
@[simp] theorem tsz31 : tsz Tryd.prog 31 = some (false, 1) := by kernel_rfl
@[simp] theorem tsz32 : tsz Tryd.prog 32 = some (false, 1) := by kernel_rfl
@[simp] theorem tzero32 : tzero Tryd.prog 32 = some [.slice none 0 0] := by kernel_rfl
@[simp] theorem eltp32 : eltp Tryd.prog 32 = some (26, 5) := by kernel_rfl
@[simp] theorem isSl32 : isSl Tryd.prog 32 = true := by kernel_rfl
@[simp] theorem und32 : Tryd.prog.underlying 32 = some (.slice 26) := by kernel_rfl
@[simp] theorem tsz33 : tsz Tryd.prog 33 = some (false, 1) := by kernel_rfl
@[simp] theorem tsz34 : tsz Tryd.prog 34 = some (false, 1) := by kernel_rfl
@[simp] theorem tsz35 : tsz Tryd.prog 35 = some (false, 1) := by kernel_rfl
@[simp] theorem tsz36 : tsz Tryd.prog 36 = some (false, 1) := by kernel_rfl
@[simp] theorem tsz37 : tsz Tryd.prog 37 = some (false, 1) := by kernel_rfl
@[simp] theorem tsz38 : tsz Tryd.prog 38 = some (false, 1) := by kernel_rfl
@[simp] theorem tzero38 : tzero Tryd.prog 38 = some [.slice none 0 0] := by kernel_rfl
@[simp] theorem eltp38 : eltp Tryd.prog 38 = some (5, 1) := by kernel_rfl
@[simp] theorem isSl38 : isSl Tryd.prog 38 = true := by kernel_rfl
@[simp] theorem und38 : Tryd.prog.underlying 38 = some (.slice 5) := by kernel_rfl
@[simp] theorem tsz39 : tsz Tryd.prog 39 = some (false, 1) := by kernel_rfl
@[simp] theorem tsz40 : tsz Tryd.prog 40 = some (false, 1) := by kernel_rfl
@[simp] theorem tsz41 : tsz Tryd.prog 41 = some (false, 1) := by kernel_rfl
@[simp] theorem tsz42 : tsz Tryd.prog 42 = some (false, 1) := by kernel_rfl
@[simp] theorem tzero42 : tzero Tryd.prog 42 = some [.slice none 0 0] := by kernel_rfl
@[simp] theorem eltp42 : eltp Tryd.prog 42 = some (9, 1) := by kernel_rfl
@[simp] theorem isSl42 : isSl Tryd.prog 42 = true := by kernel_rfl
@[simp] theorem und42 : Tryd.prog.underlying 42 = some (.slice 9) := by kernel_rfl
@[simp] theorem tsz43 : tsz Tryd.prog 43 = some (true, 5) := by kernel_rfl
@[simp] theorem tzero43 : tzero Tryd.prog 43 = some [.string .empty, .string .empty, .string .empty, .string .empty, .string .empty] := by kernel_rfl
@[simp] theorem arrp43 : arrp Tryd.prog 43 = some (5, 1) := by kernel_rfl
@[simp] theorem tsz44 : tsz Tryd.prog 44 = some (false, 1) := by kernel_rfl
@[simp] theorem tsz45 : tsz Tryd.prog 45 = some (true, 24) := by kernel_rfl
@[simp] theorem tzero45 : tzero Tryd.prog 45 = some [.int .u8 0, .int .u8 0, .int .u8 0, .int .u8 0, .int .u8 0, .int .u8 0, .int .u8 0, .int .u8 0, .int .u8 0, .int .u8 0, .int .u8 0, .int .u8 0, .int .u8 0, .int .u8 0, .int .u8 0, .int .u8 0, .int .u8 0, .int .u8 0, .int .u8 0, .int .u8 0, .int .u8 0, .int .u8 0, .int .u8 0, .int .u8 0] := by kernel_rfl
@[simp] theorem arrp45 : arrp Tryd.prog 45 = some (24, 1) := by kernel_rfl
@[simp] theorem tsz46 : tsz Tryd.prog 46 = some (false, 1) := by kernel_rfl
@[simp] theorem tzero46 : tzero Tryd.prog 46 = some [.int .u64 0] := by kernel_rfl
@[simp] theorem und46 : Tryd.prog.underlying 46 = some (.int .u64) := by kernel_rfl
@[simp] theorem tsz47 : tsz Tryd.prog 47 = some (false, 1) := by kernel_rfl
@[simp] theorem tsz48 : tsz Tryd.prog 48 = some (false, 1) := by kernel_rfl
@[simp] theorem tsz50 : tsz Tryd.prog 50 = some (false, 1) := by kernel_rfl
@[simp] theorem tsz51 : tsz Tryd.prog 51 = some (false, 1) := by kernel_rfl
@[simp] theorem tsz52 : tsz Tryd.prog 52 = some (false, 1) := by kernel_rfl
@[simp] theorem tsz53 : tsz Tryd.prog 53 = some (true, 20) := by kernel_rfl
@[simp] theorem tzero53 : tzero Tryd.prog 53 = some [.int .u64 0, .int .u64 0, .int .u64 0, .int .u64 0, .int .u64 0, .int .u64 0, .int .u64 0, .int .u64 0, .int .u64 0, .int .u64 0, .int .u64 0, .int .u64 0, .int .u64 0, .int .u64 0, .int .u64 0, .int .u64 0, .int .u64 0, .int .u64 0, .int .u64 0, .int .u64 0] := by kernel_rfl
@[simp] theorem arrp53 : arrp Tryd.prog 53 = some (20, 1) := by kernel_rfl
@[simp] theorem tsz54 : tsz Tryd.prog 54 = some (false, 1) := by kernel_rfl
@[simp] theorem tzero54 : tzero Tryd.prog 54 = some [.int .u32 0] := by kernel_rfl
@[simp] theorem und54 : Tryd.prog.underlying 54 = some (.int .u32) := by kernel_rfl
@[simp] theorem tsz55 : tsz Tryd.prog 55 = some (true, 65) := by kernel_rfl
@[simp] theorem tzero55 : tzero Tryd.prog 55 = some [.int .u8 0, .int .u8 0, .int .u8 0, .int .u8 0, .int .u8 0, .int .u8 0, .int .u8 0, .int .u8 0, .int .u8 0, .int .u8 0, .int .u8 0, .int .u8 0, .int .u8 0, .int .u8 0, .int .u8 0, .int .u8 0, .int .u8 0, .int .u8 0, .int .u8 0, .int .u8 0, .int .u8 0, .int .u8 0, .int .u8 0, .int .u8 0, .int .u8 0, .int .u8 0, .int .u8 0, .int .u8 0, .int .u8 0, .int .u8 0, .int .u8 0, .int .u8 0, .int .u8 0, .int .u8 0, .int .u8 0, .int .u8 0, .int .u8 0, .int .u8 0, .int .u8 0, .int .u8 0, .int .u8 0, .int .u8 0, .int .u8 0, .int .u8 0, .int .u8 0, .int .u8 0, .int .u8 0, .int .u8 0, .int .u8 0, .int .u8 0, .int .u8 0, .int .u8 0, .int .u8 0, .int .u8 0, .int .u8 0, .int .u8 0, .int .u8 0, .int .u8 0, .int .u8 0, .int .u8 0, .int .u8 0, .int .u8 0, .int .u8 0, .int .u8 0, .int .u8 0] := by kernel_rfl
@[simp] theorem arrp55 : arrp Tryd.prog 55 = some (65, 1) := by kernel_rfl
@[simp] theorem tsz56 : tsz Tryd.prog 56 = some (false, 1) := by kernel_rfl
@[simp] theorem tsz57 : tsz Tryd.prog 57 = some (false, 1) := by kernel_rfl
@[simp] theorem tzero57 : tzero Tryd.prog 57 = some [.int .u64 0] := by kernel_rfl
@[simp] theorem und57 : Tryd.prog.underlying 57 = some (.int .u64) := by kernel_rfl
@[simp] theorem tsz58 : tsz Tryd.prog 58 = some (false, 1) := by kernel_rfl
@[simp] theorem tsz59 : tsz Tryd.prog 59 = some (false, 1) := by kernel_rfl
@[simp] theorem tsz60 : tsz Tryd.prog 60 = some (true, 32) := by kernel_rfl
@[simp] theorem tzero60 : tzero Tryd.prog 60 = some [.int .u8 0, .int .u8 0, .int .u8 0, .int .u8 0, .int .u8 0, .int .u8 0, .int .u8 0, .int .u8 0, .int .u8 0, .int .u8 0, .int .u8 0, .int .u8 0, .int .u8 0, .int .u8 0, .int .u8 0, .int .u8 0, .int .u8 0, .int .u8 0, .int .u8 0, .int .u8 0, .int .u8 0, .int .u8 0, .int .u8 0, .int .u8 0, .int .u8 0, .int .u8 0, .int .u8 0, .int .u8 0, .int .u8 0, .int .u8 0, .int .u8 0, .int .u8 0] := by kernel_rfl
@[simp] theorem arrp60 : arrp Tryd.prog 60 = some (32, 1) := by kernel_rfl
@[simp] theorem tsz61 : tsz Tryd.prog 61 = some (true, 64) := by kernel_rfl
@[simp] theorem tzero61 : tzero Tryd.prog 61 = some [.int .u8 0, .int .u8 0, .int .u8 0, .int .u8 0, .int .u8 0, .int .u8 0, .int .u8 0, .int .u8 0, .int .u8 0, .int .u8 0, .int .u8 0, .int .u8 0, .int .u8 0, .int .u8 0, .int .u8 0, .int .u8 0, .int .u8 0, .int .u8 0, .int .u8 0, .int .u8 0, .int .u8 0, .int .u8 0, .int .u8 0, .int .u8 0, .int .u8 0, .int .u8 0, .int .u8 0, .int .u8 0, .int .u8 0, .int .u8 0, .int .u8 0, .int .u8 0, .int .u8 0, .int .u8 0, .int .u8 0, .int .u8 0, .int .u8 0, .int .u8 0, .int .u8 0, .int .u8 0, .int .u8 0, .int .u8 0, .int .u8 0, .int .u8 0, .int .u8 0, .int .u8 0, .int .u8 0, .int .u8 0, .int .u8 0, .int .u8 0, .int .u8 0, .int .u8 0, .int .u8 0, .int .u8 0, .int .u8 0, .int .u8 0, .int .u8 0, .int .u8 0, .int .u8 0, .int .u8 0, .int .u8 0, .int .u8 0, .int .u8 0, .int .u8 0] := by kernel_rfl
@[simp] theorem arrp61 : arrp Tryd.prog 61 = some (64, 1) := by kernel_rfl
@[simp] theorem tsz62 : tsz Tryd.prog 62 = some (false, 1) := by kernel_rfl
@[simp] theorem tsz63 : tsz Tryd.prog 63 = some (true, 4) := by kernel_rfl
@[simp] theorem tzero63 : tzero Tryd.prog 63 = some [.pointer none, .pointer none, .pointer none, .string .empty] := by kernel_rfl
@[simp] theorem finfo63_0 : finfo Tryd.prog 63 0 = some (0, false, 1) := by kernel_rfl
@[simp] theorem finfo63_1 : finfo Tryd.prog 63 1 = some (1, false, 1) := by kernel_rfl
@[simp] theorem finfo63_2 : finfo Tryd.prog 63 2 = some (2, false, 1) := by kernel_rfl
@[simp] theorem finfo63_3 : finfo Tryd.prog 63 3 = some (3, false, 1) := by kernel_rfl
@[simp] theorem bplaces63 : bplaces Tryd.prog 63 = some [(0, 1), (1, 1), (2, 1), (3, 1)] := by kernel_rfl
@[simp] theorem tsz64 : tsz Tryd.prog 64 = some (true, 4) := by kernel_rfl
@[simp] theorem tzero64 : tzero Tryd.prog 64 = some [.pointer none, .pointer none, .pointer none, .string .empty] := by kernel_rfl
@[simp] theorem finfo64_0 : finfo Tryd.prog 64 0 = some (0, false, 1) := by kernel_rfl
@[simp] theorem finfo64_1 : finfo Tryd.prog 64 1 = some (1, false, 1) := by kernel_rfl
@[simp] theorem finfo64_2 : finfo Tryd.prog 64 2 = some (2, false, 1) := by kernel_rfl
@[simp] theorem finfo64_3 : finfo Tryd.prog 64 3 = some (3, false, 1) := by kernel_rfl
@[simp] theorem bplaces64 : bplaces Tryd.prog 64 = some [(0, 1), (1, 1), (2, 1), (3, 1)] := by kernel_rfl
@[simp] theorem tsz65 : tsz Tryd.prog 65 = some (true, 0) := by kernel_rfl
@[simp] theorem tzero65 : tzero Tryd.prog 65 = some [] := by kernel_rfl
@[simp] theorem arrp65 : arrp Tryd.prog 65 = some (0, 1) := by kernel_rfl
@[simp] theorem tsz66 : tsz Tryd.prog 66 = some (true, 0) := by kernel_rfl
@[simp] theorem tzero66 : tzero Tryd.prog 66 = some [] := by kernel_rfl
@[simp] theorem bplaces66 : bplaces Tryd.prog 66 = some [(0, 0)] := by kernel_rfl
@[simp] theorem tsz67 : tsz Tryd.prog 67 = some (true, 0) := by kernel_rfl
@[simp] theorem tzero67 : tzero Tryd.prog 67 = some [] := by kernel_rfl
@[simp] theorem bplaces67 : bplaces Tryd.prog 67 = some [(0, 0)] := by kernel_rfl
@[simp] theorem tsz68 : tsz Tryd.prog 68 = some (false, 1) := by kernel_rfl
@[simp] theorem tsz69 : tsz Tryd.prog 69 = some (false, 1) := by kernel_rfl
@[simp] theorem tzero69 : tzero Tryd.prog 69 = some [.int .u8 0] := by kernel_rfl
@[simp] theorem und69 : Tryd.prog.underlying 69 = some (.int .u8) := by kernel_rfl
@[simp] theorem tsz70 : tsz Tryd.prog 70 = some (false, 1) := by kernel_rfl
@[simp] theorem tzero70 : tzero Tryd.prog 70 = some [.int .u8 0] := by kernel_rfl
@[simp] theorem und70 : Tryd.prog.underlying 70 = some (.int .u8) := by kernel_rfl
@[simp] theorem tsz71 : tsz Tryd.prog 71 = some (false, 1) := by kernel_rfl
@[simp] theorem tsz72 : tsz Tryd.prog 72 = some (false, 1) := by kernel_rfl
@[simp] theorem tzero72 : tzero Tryd.prog 72 = some [.pointer none] := by kernel_rfl
@[simp] theorem tsz73 : tsz Tryd.prog 73 = some (false, 1) := by kernel_rfl
@[simp] theorem tzero73 : tzero Tryd.prog 73 = some [.int .i32 0] := by kernel_rfl
@[simp] theorem und73 : Tryd.prog.underlying 73 = some (.int .i32) := by kernel_rfl
@[simp] theorem tsz74 : tsz Tryd.prog 74 = some (false, 1) := by kernel_rfl
@[simp] theorem tzero74 : tzero Tryd.prog 74 = some [.int .i32 0] := by kernel_rfl
@[simp] theorem und74 : Tryd.prog.underlying 74 = some (.int .i32) := by kernel_rfl
@[simp] theorem tsz75 : tsz Tryd.prog 75 = some (true, 11) := by kernel_rfl
@[simp] theorem tzero75 : tzero Tryd.prog 75 = some [.int .u64 0, .int .u64 0, .int .u32 0, .int .u8 0, .int .u8 0, .int .u8 0, .int .u8 0, .nilFunc, .pointer none, .int .i32 0, .int .i32 0] := by kernel_rfl
@[simp] theorem finfo75_0 : finfo Tryd.prog 75 0 = some (0, false, 1) := by kernel_rfl
@[simp] theorem finfo75_1 : finfo Tryd.prog 75 1 = some (1, false, 1) := by kernel_rfl
@[simp] theorem finfo75_2 : finfo Tryd.prog 75 2 = some (2, false, 1) := by kernel_rfl
@[simp] theorem finfo75_3 : finfo Tryd.prog 75 3 = some (3, false, 1) := by kernel_rfl
@[simp] theorem finfo75_4 : finfo Tryd.prog 75 4 = some (4, false, 1) := by kernel_rfl
@[simp] theorem finfo75_5 : finfo Tryd.prog 75 5 = some (5, false, 1) := by kernel_rfl
@[simp] theorem finfo75_6 : finfo Tryd.prog 75 6 = some (6, false, 1) := by kernel_rfl
@[simp] theorem finfo75_8 : finfo Tryd.prog 75 8 = some (8, false, 1) := by kernel_rfl
@[simp] theorem finfo75_9 : finfo Tryd.prog 75 9 = some (9, false, 1) := by kernel_rfl
@[simp] theorem finfo75_10 : finfo Tryd.prog 75 10 = some (10, false, 1) := by kernel_rfl
@[simp] theorem tsz76 : tsz Tryd.prog 76 = some (true, 11) := by kernel_rfl
@[simp] theorem tzero76 : tzero Tryd.prog 76 = some [.int .u64 0, .int .u64 0, .int .u32 0, .int .u8 0, .int .u8 0, .int .u8 0, .int .u8 0, .nilFunc, .pointer none, .int .i32 0, .int .i32 0] := by kernel_rfl
@[simp] theorem finfo76_0 : finfo Tryd.prog 76 0 = some (0, false, 1) := by kernel_rfl
@[simp] theorem finfo76_1 : finfo Tryd.prog 76 1 = some (1, false, 1) := by kernel_rfl
@[simp] theorem finfo76_2 : finfo Tryd.prog 76 2 = some (2, false, 1) := by kernel_rfl
@[simp] theorem finfo76_3 : finfo Tryd.prog 76 3 = some (3, false, 1) := by kernel_rfl
@[simp] theorem finfo76_4 : finfo Tryd.prog 76 4 = some (4, false, 1) := by kernel_rfl
@[simp] theorem finfo76_5 : finfo Tryd.prog 76 5 = some (5, false, 1) := by kernel_rfl
@[simp] theorem finfo76_6 : finfo Tryd.prog 76 6 = some (6, false, 1) := by kernel_rfl
@[simp] theorem finfo76_8 : finfo Tryd.prog 76 8 = some (8, false, 1) := by kernel_rfl
@[simp] theorem finfo76_9 : finfo Tryd.prog 76 9 = some (9, false, 1) := by kernel_rfl
@[simp] theorem finfo76_10 : finfo Tryd.prog 76 10 = some (10, false, 1) := by kernel_rfl
end Go.Proofs.YtglfimnjnnfdlaaDoor.V
/-! Strings and their bytes. -/
set_option linter.all false
namespace Go.Proofs.YtglfimnjnnfdlaaDoor.V
open Go Go.VM Go.Proofs
set_option maxRecDepth 10000
variable {frz : Nat} {H : Heap}
/-- the bytes of a string, as numbers -/
def bI (b : ByteArray) : List Int := b.data.toList.map fun x => (x.toNat : Int)
theorem bI_app (a b : ByteArray) : bI (a ++ b) = bI a ++ bI b := by simp [bI, ByteArray.data_append]
theorem bI_len (b : ByteArray) : (bI b).length = b.size := by unfold bI; rw [List.length_map, Array.length_toList]; rfl
theorem bI_str (b : ByteArray) : strOfNums (bI b) = b := by
  unfold strOfNums bI
  apply ByteArray.ext
  apply Array.toList_inj.1
  simp [List.map_map, Function.comp_def]
theorem byteCells_bI (b : ByteArray) : byteCells b = cellsOf Fl.u8 (bI b) := by
  unfold byteCells bI
  induction b.data.toList with
  | nil => rfl
  | cons x l ih =>
    simp only [List.map_cons, ih]
    rfl
theorem u8_len (xs : List Int) : (cellsOf Fl.u8 xs).length = xs.length := by rw [cellsOf_len]; exact Nat.mul_one _
theorem ones_bytes (b : ByteArray) : ones (byteCells b) = true := by
  unfold byteCells
  induction b.data.toList with
  | nil => rfl
  | cons x l ih => simpa [ones] using ih
/-- append(v, b...) of the bytes of a string -/
theorem app_str {P : Program} {e ty u : TypeId} {v : Value} {xs : List Int} {b : ByteArray} (h : Ow Fl.u8 e H v xs) (he : eltp P ty = some (e, 1)) (hs : isStr P u = true) (hu : isU8 P e = true) (hl : xs.length + b.size ≤ 1073741824) (hf : ∀ i ∈ ids v, frz ≤ i) :
    ∃ v' H', vappS P frz H ty u v b = some (v', H') ∧ Ow Fl.u8 e H' v' (xs ++ bI b) ∧ Chg H H' (ids v) ∧ ∀ i ∈ ids v', i ∈ ids v ∨ H.length ≤ i := by
  have hbl := bI_len b
  have hbc := byteCells_bI b
  have ho := ones_bytes b
  by_cases hy : b.size = 0
  · have e0 : bI b = [] := List.length_eq_zero_iff.1 (by omega)
    refine ⟨v, H, ?_, by simpa [e0] using h, Chg.refl _, fun i hi => .inl hi⟩
    rcases h with ⟨rfl, rfl⟩ | ⟨id, off, r, rfl, h2, h3, h4⟩
    · simp [vappS, he, hs, hu, hy]
    · simp [vappS, he, hs, hu, hy, VM.look, h2]
  · rcases h with ⟨rfl, rfl⟩ | ⟨id, off, r, rfl, h2, h3, h4, h5, h6⟩
    · refine ⟨.slice (some ⟨H.length, 0, some 0⟩) b.size 0, H ++ [⟨byteCells b, 0, e⟩], ?_, .inr ⟨H.length, 0, ⟨byteCells b, 0, e⟩, by simp [hbl], by simp, ?_, ?_, rfl, ho⟩, Chg.app _, fun i hi => .inr (by simp at hi; omega)⟩
      · have : b.size ≤ 1073741824 := by simpa using hl
        simp [vappS, he, hs, hu, hy, this]
      · simp [hbc]; rw [List.take_of_length_le (by rw [u8_len]; omega)]
      · simp [hbc, u8_len]
    · refine ⟨.slice (some ⟨id, 0, some (r.gen + 1)⟩) (xs.length + b.size) 0, H.set id ⟨vkeep r.cells off xs.length ++ byteCells b, r.gen + 1, e⟩, ?_, .inr ⟨id, 0, ⟨vkeep r.cells off xs.length ++ byteCells b, r.gen + 1, e⟩, by simp [hbl], ?_, ?_, ?_, rfl, ?_⟩, ⟨by simp, fun i hl hi => ?_⟩, fun i hi => .inl (by simpa using hi)⟩
      · have hf' : frz ≤ id := hf id (by simp)
        have h4' : off + xs.length ≤ r.cells.length := by have : xs.length * Fl.u8.n = xs.length := Nat.mul_one _; omega
        simp [vappS, he, hs, hu, hy, VM.look, h2, hf', h4', h5, h6, hl]
      · have := (List.getElem?_eq_some_iff.1 h2).1
        simp [this]
      · have e1 : xs.length = xs.length * Fl.u8.n := (Nat.mul_one _).symm
        rw [vkeep_def, e1, h3, List.drop_zero, hbc, ← cellsOf_app, ← cellsOf_len, List.take_length]
      · have e1 : xs.length = xs.length * Fl.u8.n := (Nat.mul_one _).symm
        rw [vkeep_def, e1, h3, hbc, ← cellsOf_app, cellsOf_len]; simp
      · rw [vkeep_def]; simp [ones_take _ _ (ones_drop _ _ h6), ho]
      · have : i ≠ id := fun hh => hi (by simp [hh])
        rw [List.getElem?_set_ne (fun hh => this hh.symm)]
/-- string(v) -/
theorem byteNs_cells (xs : List Int) : byteNs (cellsOf Fl.u8 xs) = some xs := by
  induction xs with
  | nil => rfl
  | cons x l ih => show (byteNs (cellsOf Fl.u8 l)).map (x :: ·) = _; rw [ih]; rfl
theorem str_of {P : Program} {s d e : TypeId} {v : Value} {xs : List Int} {b : ByteArray} (h : Rd Fl.u8 H v xs) (hx : xs = bI b) (hs : P.underlying s = some (.slice e)) (hu : isU8 P e = true) (hd : isStr P d = true) : vbytes P s d H v = some (.string b) := by
  have := h.src
  unfold vbytes
  simp only [hs, hu, hd]
  have h1 : vsrc 1 H v = some (xs.length, cellsOf Fl.u8 xs) := this
  simp [h1, byteNs_cells, hx, bI_str]
end Go.Proofs.YtglfimnjnnfdlaaDoor.V
/-! The plain side: grids, meshes. -/
set_option linter.all false
namespace Go.Proofs.YtglfimnjnnfdlaaDoor.V
open Go Go.VM
def rd (b : List Int) (j : Int) : Int := b.getD j.toNat 0
/-- a range, told as one word -/
def inR (lo n hi : Int) : Prop := lo ≤ n ∧ n ≤ hi
instance (lo n hi : Int) : Decidable (inR lo n hi) := inferInstanceAs (Decidable (_ ∧ _))
def okG (w h : Int) : Prop := (1 ≤ w ∧ w ≤ 4) ∧ 1 ≤ h ∧ h ≤ 4
instance (w h : Int) : Decidable (okG w h) := inferInstanceAs (Decidable (_ ∧ _))
def cnt (w h : Int) : Int := if okG w h then w * h else 0
def isN (w h n : Int) : Prop := 0 ≤ n ∧ n < cnt w h
instance (w h n : Int) : Decidable (isN w h n) := inferInstanceAs (Decidable (_ ∧ _))
def nodeAt (w h x y : Int) : Int := if okG w h ∧ (0 ≤ x ∧ x < w) ∧ 0 ≤ y ∧ y < h then y * w + x else -1
def next (w h n p : Int) : Int :=
  if isN w h n then
    (if p = 0 then nodeAt w h (n % w) (n / w - 1) else if p = 1 then nodeAt w h (n % w + 1) (n / w) else if p = 2 then nodeAt w h (n % w) (n / w + 1)
     else if p = 3 then nodeAt w h (n % w - 1) (n / w) else if p = 4 then n else -1)
  else -1
def leads (w h c : Int) : Prop := (0 ≤ c ∧ c < 4 * cnt w h) ∧ 0 ≤ next w h (c / 4) (c % 4)
instance (w h c : Int) : Decidable (leads w h c) := inferInstanceAs (Decidable (_ ∧ _))
def opp (p : Int) : Int := if p = 4 then 4 else if 0 ≤ p ∧ p ≤ 3 then (p + 2) % 4 else -1
def goodAt (w h : Int) (b : List Int) (j : Nat) : Prop := leads w h (b.getD j 0) ∧ (0 < j → b.getD (j - 1) 0 < b.getD j 0)
instance (w h : Int) (b : List Int) (j : Nat) : Decidable (goodAt w h b j) := inferInstanceAs (Decidable (_ ∧ _))
def meshOk (w h : Int) (b : List Int) : Prop := (∀ j, j < b.length → goodAt w h b j) ∧ okG w h
instance (w h : Int) (b : List Int) : Decidable (meshOk w h b) := inferInstanceAs (Decidable (_ ∧ _))
def has (w h : Int) (b : List Int) (c : Int) : Prop := leads w h c ∧ c ∉ b
instance (w h : Int) (b : List Int) (c : Int) : Decidable (has w h b c) := inferInstanceAs (Decidable (_ ∧ _))

theorem mul_small {w h : Int} (h1 : okG w h) : 1 ≤ w * h ∧ w * h ≤ 16 := by
  obtain ⟨⟨a1, a2⟩, b1, b2⟩ := h1
  have c1 : 1 * 1 ≤ w * h := Int.mul_le_mul a1 b1 (by omega) (by omega)
  have c2 : w * h ≤ 4 * 4 := Int.mul_le_mul a2 b2 (by omega) (by omega)
  omega
theorem cnt_range (w h : Int) : 0 ≤ cnt w h ∧ cnt w h ≤ 16 := by
  unfold cnt; split
  · rename_i h1; have := mul_small h1; omega
  · omega
theorem isN_ok {w h n : Int} (h1 : isN w h n) : okG w h ∧ 0 ≤ n ∧ n < w * h ∧ n < 16 := by
  obtain ⟨a, b⟩ := h1
  have := cnt_range w h
  unfold cnt at b; split at b
  · rename_i hg; have := mul_small hg; exact ⟨hg, a, b, by omega⟩
  · omega
theorem w64 {x : Int} (h1 : -9223372036854775808 ≤ x) (h2 : x ≤ 9223372036854775807) : IntKind.i64.wrap x = x := by rw [IntKind.wrap_i64]; omega
end Go.Proofs.YtglfimnjnnfdlaaDoor.V
/-! Small numbers as texts. -/
set_option linter.all false
namespace Go.Proofs.YtglfimnjnnfdlaaDoor.V
open Go Go.VM Go.Proofs
set_option maxRecDepth 100000
variable {frz : Nat} {H : Heap}
/-- the decimal text of a number below 100 -/
def decB (n : Nat) : ByteArray := if n < 10 then ⟨#[UInt8.ofNat (48 + n)]⟩ else ⟨#[UInt8.ofNat (48 + n / 10), UInt8.ofNat (48 + n % 10)]⟩
def digB : ByteArray := ⟨#[48, 49, 50, 51, 52, 53, 54, 55, 56, 57, 97, 98, 99, 100, 101, 102, 103, 104, 105, 106, 107, 108, 109, 110, 111, 112, 113, 114, 115, 116, 117, 118, 119, 120, 121, 122]⟩
def smaB : ByteArray := ⟨#[48, 48, 48, 49, 48, 50, 48, 51, 48, 52, 48, 53, 48, 54, 48, 55, 48, 56, 48, 57, 49, 48, 49, 49, 49, 50, 49, 51, 49, 52, 49, 53, 49, 54, 49, 55, 49, 56, 49, 57, 50, 48, 50, 49, 50, 50, 50, 51, 50, 52, 50, 53, 50, 54, 50, 55, 50, 56, 50, 57, 51, 48, 51, 49, 51, 50, 51, 51, 51, 52, 51, 53, 51, 54, 51, 55, 51, 56, 51, 57, 52, 48, 52, 49, 52, 50, 52, 51, 52, 52, 52, 53, 52, 54, 52, 55, 52, 56, 52, 57, 53, 48, 53, 49, 53, 50, 53, 51, 53, 52, 53, 53, 53, 54, 53, 55, 53, 56, 53, 57, 54, 48, 54, 49, 54, 50, 54, 51, 54, 52, 54, 53, 54, 54, 54, 55, 54, 56, 54, 57, 55, 48, 55, 49, 55, 50, 55, 51, 55, 52, 55, 53, 55, 54, 55, 55, 55, 56, 55, 57, 56, 48, 56, 49, 56, 50, 56, 51, 56, 52, 56, 53, 56, 54, 56, 55, 56, 56, 56, 57, 57, 48, 57, 49, 57, 50, 57, 51, 57, 52, 57, 53, 57, 54, 57, 55, 57, 56, 57, 57]⟩
theorem dig_all : ((List.range 10).all fun n => (digB.extract n (n + 1)).data == (decB n).data) = true := by kernel_rfl
theorem sma_all : ((List.range 100).all fun n => decide (n < 10) || (smaB.extract (n * 2) (n * 2 + 2)).data == (decB n).data) = true := by kernel_rfl
theorem dig_eq {n : Nat} (h : n < 10) : digB.extract n (n + 1) = decB n := by
  have := dig_all
  rw [List.all_eq_true] at this
  exact ByteArray.ext (eq_of_beq (this n (List.mem_range.2 h)))
theorem sma_eq {n : Nat} (h : n < 100) (h1 : ¬ n < 10) : smaB.extract (n * 2) (n * 2 + 2) = decB n := by
  have := sma_all
  rw [List.all_eq_true] at this
  have := this n (List.mem_range.2 h)
  rw [decide_eq_false h1, Bool.false_or] at this
  exact ByteArray.ext (eq_of_beq this)
theorem vslice_str {P : Program} {t : TypeId} (s : ByteArray) {i j : Int} (hs : isStr P t = true) (h0 : 0 ≤ i) (h1 : i ≤ j) (h2 : j ≤ s.size) : vslice P H t (some (.int .i64 i)) (some (.int .i64 j)) (.string s) = some (.string (s.extract i.toNat j.toNat)) := by
  simp [vslice, vbound, hs, h0, h1, h2]
theorem small_w (n : Nat) (h : n < 100) : wp (vcall C frz 26 [.int .i64 n] H) (fun r _ => r = .string (decB n)) := by
  rw [vcall_go (fn := Tryd.f26) Tryd.func26 rfl (by kernel_rfl) rfl]
  have w1 : ∀ [Inhabited Unit], IntKind.i64.wrap ((n : Int) + 1) = (n : Int) + 1 := by intro _; rw [w64 (by omega) (by omega)]
  have w2 : ∀ [Inhabited Unit], IntKind.i64.wrap ((n : Int) * 2) = (n : Int) * 2 := by intro _; rw [w64 (by omega) (by omega)]
  have w3 : ∀ [Inhabited Unit], IntKind.i64.wrap ((n : Int) * 2 + 2) = (n : Int) * 2 + 2 := by intro _; rw [w64 (by omega) (by omega)]
  have hst : isStr Tryd.prog 9 = true := by kernel_rfl
  simp
  refine wp_dec ?_ ?_ <;> intro g
  · have k1 := vslice_str (P := Tryd.prog) (H := H) (t := 9) digB (i := (n : Int)) (j := (n : Int) + 1) hst (by omega) (by omega) (by
      have : digB.size = 36 := by kernel_rfl
      omega)
    rw [show ((n : Int) + 1).toNat = n + 1 by omega, Int.toNat_natCast, dig_eq (by omega)] at k1
    unfold digB at k1
    simp [w1, k1]
  · have k1 := vslice_str (P := Tryd.prog) (H := H) (t := 9) smaB (i := (n : Int) * 2) (j := (n : Int) * 2 + 2) hst (by omega) (by omega) (by
      have : smaB.size = 200 := by kernel_rfl
      omega)
    rw [show ((n : Int) * 2 + 2).toNat = n * 2 + 2 by omega, show ((n : Int) * 2).toNat = n * 2 by omega, sma_eq h (by omega)] at k1
    unfold smaB at k1
    simp [w2, w3, k1]
end Go.Proofs.YtglfimnjnnfdlaaDoor.V
/-! What the functions on grids return. -/
set_option linter.all false
namespace Go.Proofs.YtglfimnjnnfdlaaDoor.V
open Go Go.VM Go.Proofs
set_option maxRecDepth 10000
variable {frz : Nat} {H : Heap}
theorem inside_c (n lo hi : Int) : vcall C frz 22 [.int .i64 n, .int .i64 lo, .int .i64 hi] H = some (.bool (decide (inR lo n hi)), H) := by
  rw [vcall_go (fn := Tryd.f22) Tryd.func22 rfl (by kernel_rfl) rfl]
  simp
  repeat' (first | refine gd_dec _ _ ?_ ?_ | refine br_dec _ ?_ ?_) <;> intro h <;> simp [h, inR]
theorem l01In_c (n lo hi : Int) : vcall C frz 20 [.int .i64 n, .int .i64 lo, .int .i64 hi] H = some (.bool (decide (inR lo n hi)), H) := by
  rw [vcall_go (fn := Tryd.f20) Tryd.func20 rfl (by kernel_rfl) rfl]
  simp
  repeat' (first | refine gd_dec _ _ ?_ ?_ | refine br_dec _ ?_ ?_) <;> intro h <;> simp [h, inR]
theorem okG_of {w h : Int} (h1 : inR 1 w 4) (h2 : inR 1 h 4) : okG w h := ⟨h1, h2⟩
theorem isN_inR (w h n : Int) : inR 0 n (IntKind.i64.wrap (cnt w h - 1)) ↔ isN w h n := by
  have := cnt_range w h
  rw [w64 (by omega) (by omega)]
  simp only [inR, isN]; omega
end Go.Proofs.YtglfimnjnnfdlaaDoor.V
/-! What the functions on grids return: places, neighbours, channels. -/
set_option linter.all false
namespace Go.Proofs.YtglfimnjnnfdlaaDoor.V
open Go Go.VM Go.Proofs
set_option maxRecDepth 10000
variable {frz : Nat} {H : Heap}
theorem at_inR (w h x y : Int) (h1 : okG w h) : (inR 0 x (IntKind.i64.wrap (w - 1)) ↔ 0 ≤ x ∧ x < w) ∧ (inR 0 y (IntKind.i64.wrap (h - 1)) ↔ 0 ≤ y ∧ y < h) := by
  obtain ⟨⟨a1, a2⟩, b1, b2⟩ := h1
  rw [w64 (by omega) (by omega), w64 (by omega) (by omega)]
  simp only [inR]; omega
theorem at_val {w h x y : Int} (h1 : okG w h) (h2 : 0 ≤ x ∧ x < w) (h3 : 0 ≤ y ∧ y < h) : IntKind.i64.wrap (IntKind.i64.wrap (y * w) + x) = y * w + x := by
  have hm := mul_small h1
  obtain ⟨⟨a1, a2⟩, b1, b2⟩ := h1
  have c1 : 0 * 0 ≤ y * w := Int.mul_le_mul h3.1 (by omega) (by omega) (by omega)
  have c2 : y * w ≤ h * w := Int.mul_le_mul_of_nonneg_right (by omega) (by omega)
  rw [Int.mul_comm h w] at c2
  rw [w64 (x := y * w) (by omega) (by omega), w64 (by omega) (by omega)]
theorem nodeAt_range (w h x y : Int) : -1 ≤ nodeAt w h x y ∧ nodeAt w h x y < 16 := by
  unfold nodeAt
  split
  · rename_i h1
    obtain ⟨h1, h2, h3⟩ := h1
    have hm := mul_small h1
    obtain ⟨⟨a1, a2⟩, b1, b2⟩ := h1
    have c1 : 0 * 0 ≤ y * w := Int.mul_le_mul h3.1 (by omega) (by omega) (by omega)
    have c2 : y * w ≤ (h - 1) * w := Int.mul_le_mul_of_nonneg_right (by omega) (by omega)
    rw [Int.sub_mul, Int.mul_comm h w] at c2
    omega
  · omega
theorem tdiv_of {n w : Int} (h : 0 ≤ n) (h1 : 1 ≤ w) (h2 : n < 16) : IntKind.i64.wrap (n.tdiv w) = n / w := by
  rw [Int.tdiv_eq_ediv_of_nonneg h]
  have h3 := Int.ediv_le_self w h
  have h4 := Int.ediv_nonneg h (by omega : 0 ≤ w)
  exact w64 (by omega) (by omega)
theorem tmod_of {n w : Int} (h : 0 ≤ n) : n.tmod w = n % w := Int.tmod_eq_emod_of_nonneg h
theorem div_small {n w : Int} (h : 0 ≤ n) (h1 : 1 ≤ w) (h2 : n < 16) : 0 ≤ n / w ∧ n / w < 16 := ⟨Int.ediv_nonneg h (by omega), by have := Int.ediv_le_self w h; omega⟩
theorem mod_small {n w : Int} (h1 : 1 ≤ w) (h2 : w ≤ 4) : 0 ≤ n % w ∧ n % w < 4 := ⟨Int.emod_nonneg _ (by omega), by have := Int.emod_lt_of_pos n (by omega : 0 < w); omega⟩
theorem next_range (w h n p : Int) : -1 ≤ next w h n p ∧ next w h n p < 16 := by
  unfold next
  split
  · rename_i h1
    have := isN_ok h1
    have a0 := nodeAt_range w h (n % w) (n / w - 1)
    have a1 := nodeAt_range w h (n % w + 1) (n / w)
    have a2 := nodeAt_range w h (n % w) (n / w + 1)
    have a3 := nodeAt_range w h (n % w - 1) (n / w)
    repeat' split
    all_goals omega
  · omega
theorem chan_inR (w h c : Int) : inR 0 c (IntKind.i64.wrap (IntKind.i64.wrap (4 * cnt w h) - 1)) ↔ 0 ≤ c ∧ c < 4 * cnt w h := by
  have := cnt_range w h
  rw [w64 (x := 4 * cnt w h) (by omega) (by omega), w64 (by omega) (by omega)]
  simp only [inR]; omega
theorem chan_div {w h c : Int} (h1 : 0 ≤ c ∧ c < 4 * cnt w h) : IntKind.i64.wrap (c.tdiv 4) = c / 4 ∧ c.tmod 4 = c % 4 := by
  have := cnt_range w h
  rw [Int.tdiv_eq_ediv_of_nonneg h1.1, Int.tmod_eq_emod_of_nonneg h1.1]
  exact ⟨w64 (by omega) (by omega), rfl⟩
end Go.Proofs.YtglfimnjnnfdlaaDoor.V
/-! Small numbers as texts: FormatInt of both. -/
set_option linter.all false
namespace Go.Proofs.YtglfimnjnnfdlaaDoor.V
open Go Go.VM Go.Proofs
set_option maxRecDepth 10000
variable {frz : Nat} {H : Heap}
theorem small_c (n : Nat) (h : n < 100) : vcall C frz 26 [.int .i64 n] H = some (.string (decB n), H) := (small_w n h).exact (by simp) rfl
theorem fmtInt_c (n : Nat) (h : n < 100) : vcall C frz 25 [.int .i64 n, .int .i64 10] H = some (.string (decB n), H) := by
  rw [vcall_go (fn := Tryd.f25) Tryd.func25 rfl (by kernel_rfl) rfl]
  have s := fun F => small_c (frz := F) (H := H) n h
  have h1 : (n : Int) < 100 := by omega
  have h2 : (0 : Int) ≤ n := by omega
  simp [h1, h2, s, h]
theorem itoa1_c (n : Nat) (h : n < 100) : vcall C frz 24 [.int .i64 n] H = some (.string (decB n), H) := by
  rw [vcall_go (fn := Tryd.f24) Tryd.func24 rfl (by kernel_rfl) rfl]
  have s := fun F => fmtInt_c (frz := F) (H := H) n h
  simp [s]
theorem itoa2_c (n : Nat) (h : n < 100) : vcall C frz 23 [.int .i64 n] H = some (.string (decB n), H) := by
  rw [vcall_go (fn := Tryd.f23) Tryd.func23 rfl (by kernel_rfl) rfl]
  have s := fun F => itoa1_c (frz := F) (H := H) n h
  simp [s]
theorem formatInt_c (n : Nat) (h : n < 100) : vcall C frz 17 [.int .i64 n] H = some (.string (decB n), H) := by
  rw [vcall_go (fn := Tryd.f17) Tryd.func17 rfl (by kernel_rfl) rfl]
  have s := fun F => itoa2_c (frz := F) (H := H) n h
  simp [s]
/-- one digit's text -/
def dB (n : Nat) : ByteArray := ⟨#[UInt8.ofNat (48 + n)]⟩
theorem dB_of {n : Nat} (h : n < 10) : strOfNums [48 + (n : Int)] = dB n := by
  have : ((List.range 10).all fun n => (strOfNums [48 + (n : Int)]).data == (dB n).data) = true := by kernel_rfl
  rw [List.all_eq_true] at this
  exact ByteArray.ext (eq_of_beq (this n (List.mem_range.2 h)))
theorem dB_size (n : Nat) : (dB n).size = 1 := rfl
theorem decB_dB (n : Nat) : decB n = if n < 10 then dB n else dB (n / 10) ++ dB (n % 10) := by
  unfold decB dB
  split
  · rfl
  · apply ByteArray.ext; simp [ByteArray.data_append]
theorem conv_byte {K : Heap} {id : Nat} {x : Int} (h : K[id]? = some ⟨[.int .u8 x], 0, 5⟩) : vconv Tryd.prog 38 9 K (.slice (some ⟨id, 0, some 0⟩) 1 0) = some (.string (strOfNums [x])) := by
  have h1 : isU8 Tryd.prog 5 = true := by kernel_rfl
  have h2 : isStr Tryd.prog 9 = true := by kernel_rfl
  simp [vconv, vbytes, vsrc, VM.look, h, h1, h2, byteNs]
theorem vadd_str {x y : ByteArray} (h : x.size + y.size ≤ 1073741824) : vbin Tryd.prog .add 9 (.string x) (.string y) = some (.string (x ++ y)) := by
  simp [vbin, h]
theorem bempty (a : ByteArray) : a ++ (ByteArray.mk #[]) = a := by apply ByteArray.ext; simp [ByteArray.data_append]
theorem figure_c (n : Nat) (h : n < 10) : vcall C frz 21 [.int .i64 n] H = some (.int .u8 (48 + n : Nat), H) := by
  rw [vcall_go (fn := Tryd.f21) Tryd.func21 rfl (by kernel_rfl) rfl]
  have h1 : (n : Int) < 10 := by omega
  have w1 : ∀ [Inhabited Unit], IntKind.i64.wrap (48 + (n : Int)) = 48 + (n : Int) := by intro _; rw [w64 (by omega) (by omega)]
  have w2 : ∀ [Inhabited Unit], IntKind.u8.wrap (48 + (n : Int)) = 48 + (n : Int) := by intro _; show (48 + (n : Int)) % 256 = _; omega
  simp [h1, h, w1, w2]
theorem sFormatInt_w (n : Nat) (h : n < 100) : wp (vcall C frz 14 [.int .i64 n] H) (fun r _ => r = .string (decB n)) := by
  rw [vcall_go (fn := Tryd.f14) Tryd.func14 rfl (by kernel_rfl) rfl]
  simp
  refine wp_dec ?_ ?_ <;> intro g
  · simp
    have : n = 0 := by omega
    subst this
    rfl
  · simp
    have m1 : (n : Int).tmod 10 = ((n % 10 : Nat) : Int) := by rw [Int.tmod_eq_emod_of_nonneg (by omega)]; omega
    have d1 : (n : Int).tdiv 10 = ((n / 10 : Nat) : Int) := by rw [Int.tdiv_eq_ediv_of_nonneg (by omega)]; omega
    have q1 : ¬ ((n % 10 : Nat) : Int) < 0 := by omega
    have f1 := fun F H => figure_c (frz := F) (H := H) (n % 10) (by omega)
    have hn0 : ¬ (n : Int) < 0 := by omega
    obtain ⟨r, hr⟩ : ∃ r : Nat, n % 10 = r := ⟨_, rfl⟩
    rw [hr] at m1 q1 f1
    rw [go_loop]
    have cb := fun K id h => conv_byte (K := K) (id := id) (x := 48 + (r : Int)) h
    have cb0 := cb (H ++ [⟨[.int .u8 (48 + r)], 0, 5⟩]) H.length (by simp)
    rw [dB_of (by omega)] at cb0
    have v1 := vadd_str (x := dB r) (y := ⟨#[]⟩) (by have e1 := dB_size r; have e2 : (ByteArray.mk #[]).size = 0 := rfl; omega)
    rw [bempty] at v1
    obtain ⟨m, hm⟩ : ∃ m : Nat, n / 10 = m := ⟨_, rfl⟩
    rw [hm] at d1
    have wm : ∀ [Inhabited Unit], IntKind.i64.wrap (m : Int) = (m : Int) := by intro _; exact w64 (by omega) (by omega)
    have wr0 : ∀ [Inhabited Unit], IntKind.i64.wrap 0 = 0 := by intro _; exact w64 (by omega) (by omega)
    simp [g, m1, q1, f1, hn0, cb0, v1, d1, wm]
    rw [go_again, go_loop]
    by_cases g2 : m = 0
    · simp [g2, wr0]
      rw [decB_dB, if_pos (by omega), ← hr, Nat.mod_eq_of_lt (by omega)]
    · have m2 : (m : Int).tmod 10 = (m : Int) := by rw [Int.tmod_eq_emod_of_nonneg (by omega)]; omega
      have d2 : (m : Int).tdiv 10 = 0 := by rw [Int.tdiv_eq_ediv_of_nonneg (by omega)]; omega
      have f2 := fun F H => figure_c (frz := F) (H := H) m (by omega)
      have cb1 := conv_byte (K := H ++ [⟨[.int .u8 (48 + r)], 0, 5⟩, ⟨[.int .u8 (48 + m)], 0, 5⟩]) (id := H.length + 1) (x := 48 + (m : Int)) (by simp)
      rw [dB_of (by omega)] at cb1
      have v2 := vadd_str (x := dB m) (y := dB r) (by have e1 := dB_size r; have e2 := dB_size m; omega)
      have q2 : ¬ (m : Int) < 0 := by omega
      simp [g2, m2, q2, f2, cb1, v2, d2, wr0]
      rw [go_again, go_loop]
      simp [hn0]
      rw [decB_dB, if_neg (by omega), hm, hr]
end Go.Proofs.YtglfimnjnnfdlaaDoor.V
/-! A number of three digits: the table of powers is read. -/
set_option linter.all false
namespace Go.Proofs.YtglfimnjnnfdlaaDoor.V
open Go Go.VM Go.Proofs
set_option maxRecDepth 100000
variable {frz : Nat} {H : Heap}
-- IF internal/strconv.numDigits
def len8B : ByteArray := ⟨#[0, 1, 2, 2, 3, 3, 3, 3, 4, 4, 4, 4, 4, 4, 4, 4, 5, 5, 5, 5, 5, 5, 5, 5, 5, 5, 5, 5, 5, 5, 5, 5, 6, 6, 6, 6, 6, 6, 6, 6, 6, 6, 6, 6, 6, 6, 6, 6, 6, 6, 6, 6, 6, 6, 6, 6, 6, 6, 6, 6, 6, 6, 6, 6, 7, 7, 7, 7, 7, 7, 7, 7, 7, 7, 7, 7, 7, 7, 7, 7, 7, 7, 7, 7, 7, 7, 7, 7, 7, 7, 7, 7, 7, 7, 7, 7, 7, 7, 7, 7, 7, 7, 7, 7, 7, 7, 7, 7, 7, 7, 7, 7, 7, 7, 7, 7, 7, 7, 7, 7, 7, 7, 7, 7, 7, 7, 7, 7, 8, 8, 8, 8, 8, 8, 8, 8, 8, 8, 8, 8, 8, 8, 8, 8, 8, 8, 8, 8, 8, 8, 8, 8, 8, 8, 8, 8, 8, 8, 8, 8, 8, 8, 8, 8, 8, 8, 8, 8, 8, 8, 8, 8, 8, 8, 8, 8, 8, 8, 8, 8, 8, 8, 8, 8, 8, 8, 8, 8, 8, 8, 8, 8, 8, 8, 8, 8, 8, 8, 8, 8, 8, 8, 8, 8, 8, 8, 8, 8, 8, 8, 8, 8, 8, 8, 8, 8, 8, 8, 8, 8, 8, 8, 8, 8, 8, 8, 8, 8, 8, 8, 8, 8, 8, 8, 8, 8, 8, 8, 8, 8, 8, 8, 8, 8, 8, 8, 8, 8, 8, 8, 8, 8, 8, 8, 8, 8]⟩
theorem len8_at : vindex Tryd.prog 9 (.string len8B) (.int .u8 100) = some (.int .u8 7) := by kernel_rfl
theorem len64_c : vcall C frz 31 [.int .u64 100] H = some (.int .i64 7, H) := by
  rw [vcall_go (fn := Tryd.f31) Tryd.func31 rfl (by kernel_rfl) rfl]
  have k := len8_at
  unfold len8B at k
  have w1 : IntKind.u8.wrap 100 = 100 := by decide
  have w2 : IntKind.i64.wrap 7 = 7 := by decide
  simp [w1, k, w2]
theorem log10_c : vcall C frz 30 [.int .i64 7] H = some (.int .i64 2, H) := by
  rw [vcall_go (fn := Tryd.f30) Tryd.func30 rfl (by kernel_rfl) rfl]
  have w1 : IntKind.i64.wrap 552391 = 552391 := by decide
  have w2 : ishr IntKind.i64 552391 18 = 2 := by kernel_rfl
  simp [w1, w2]
theorem bool2_c (b : Bool) : vcall C frz 32 [.bool b] H = some (.int .i64 (if b then 1 else 0), H) := by
  rw [vcall_go (fn := Tryd.f32) Tryd.func32 rfl (by kernel_rfl) rfl]
  cases b <;> simp
theorem numDigits_c : vcall C frz 27 [.int .u64 100] H = some (.int .i64 3, H) := by
  rw [vcall_go (fn := Tryd.f27) Tryd.func27 rfl (by kernel_rfl) rfl]
  have k1 := fun F => len64_c (frz := F) (H := H)
  have k2 := fun F => log10_c (frz := F) (H := H)
  have k3 := fun F => bool2_c (frz := F) (H := H) true
  have w1 : IntKind.i64.wrap 3 = 3 := by decide
  first
    | (have g2 : gtab Tryd.prog 0 2 = some (.int .u64 100) := by kernel_rfl
       simp at k3
       simp [k1, k2, g2, k3, w1])
    | (have g2 : gtab Tryd.prog 3 2 = some (.int .u64 100) := by kernel_rfl
       simp at k3
       simp [k1, k2, g2, k3, w1])
/-- the text of 100 goes into the array's slice -/
theorem base10_w (id : Nat) (r : Row) (e : TypeId) (hr : H[id]? = some r) (h0 : r = ⟨List.replicate 24 (.int .u8 0), 0, e⟩) (hf : frz ≤ id) :
   wp (vcall C frz 28 [.slice (some ⟨id, 1, some 0⟩) 3 1, .int .u64 100] H) (fun _ H' => H' = H.set id ⟨.int .u8 0 :: .int .u8 49 :: .int .u8 48 :: .int .u8 48 :: List.replicate 20 (.int .u8 0), 0, e⟩) := by
  rw [vcall_go (fn := Tryd.f28) Tryd.func28 rfl (by kernel_rfl) rfl]
  subst h0
  simp [VM.look, hr]
  rw [go_loop]
  have u1 : IntKind.u32.wrap 100 = 100 := by decide
  have u2 : IntKind.u32.wrap 0 = 0 := by decide
  have u3 : IntKind.u32.wrap 1 = 1 := by decide
  have u4 : IntKind.u32.wrap 49 = 49 := by decide
  have u5 : IntKind.u8.wrap 49 = 49 := by decide
  have i1 : IntKind.i64.wrap 2 = 2 := by decide
  have i2 : IntKind.i64.wrap 1 = 1 := by decide
  have i0 : IntKind.i64.wrap 0 = 0 := by decide
  have m1 : (100 : Int).tmod 100 = 0 := by decide
  have d1 : (100 : Int).tdiv 100 = 1 := by decide
  have s1 : vindex Tryd.prog 9 (.string smaB) (.int .u32 1) = some (.int .u8 48) := by kernel_rfl
  have s0 : vindex Tryd.prog 9 (.string smaB) (.int .u32 0) = some (.int .u8 48) := by kernel_rfl
  unfold smaB at s1 s0
  simp [VM.look, hr, u1, u2, u3, m1, d1]
  rw [go_draw (h := by kernel_rfl)]
  have lt := box_lt hr
  have v2 : ∀ K : Heap, ∀ j : Int, 0 ≤ j → j < 3 → (∃ r, K[id]? = some r ∧ r.gen = 0) → vindexAddr Tryd.prog K 38 (.slice (some ⟨id, 1, some 0⟩) 3 1) (.int .i64 j) = some (.pointer (some ⟨id, 1 + j.toNat, some 0⟩)) := fun K j h0 h1 ⟨r, hr, hg⟩ => by
    simp [vindexAddr, VM.look, hr, hg, h0, h1]
  have e2 := v2 H 2 (by omega) (by omega) ⟨_, hr, rfl⟩
  have gs := fun r' => set_get (r' := r') hr
  have e1 := fun r' (hg : r'.gen = 0) => v2 (H.set id r') 1 (by omega) (by omega) ⟨_, gs r', hg⟩
  have e0 := fun r' (hg : r'.gen = 0) => v2 (H.set id r') 0 (by omega) (by omega) ⟨_, gs r', hg⟩
  simp at e2 e1 e0
  simp [VM.look, hr, u1, u2, u3, m1, d1, s1, s0, i1, i2, i0, hf, VM.splice, e2, e1, e0, gs, u4, u5]
def hunB : ByteArray := ⟨#[49, 48, 48]⟩
theorem arr_slice {K : Heap} {id : Nat} {r : Row} (hr : K[id]? = some r) (hg : r.gen = 0) : vslice Tryd.prog K 45 (some (.int .i64 1)) (some (.int .i64 4)) (.pointer (some ⟨id, 0, some 0⟩)) = some (.slice (some ⟨id, 1, some 0⟩) 3 1) := by
  have ar : arrp Tryd.prog 45 = some (24, 1) := by kernel_rfl
  simp [vslice, vbound, VM.look, hr, hg, ar]
theorem hun_str {K : Heap} {id : Nat} {e : TypeId} (hr : K[id]? = some ⟨.int .u8 0 :: .int .u8 49 :: .int .u8 48 :: .int .u8 48 :: List.replicate 20 (.int .u8 0), 0, e⟩) : vconv Tryd.prog 38 9 K (.slice (some ⟨id, 1, some 0⟩) 3 1) = some (.string hunB) := by
  have h1 : isU8 Tryd.prog 5 = true := by kernel_rfl
  have h2 : isStr Tryd.prog 9 = true := by kernel_rfl
  have h3 : strOfNums [49, 48, 48] = hunB := by apply ByteArray.ext; kernel_rfl
  simp [vconv, vbytes, vsrc, VM.look, hr, h1, h2, byteNs, h3]
theorem fmt100_w : wp (vcall C frz 25 [.int .i64 100, .int .i64 10] H) (fun r _ => r = .string hunB) := by
  rw [vcall_go (fn := Tryd.f25) Tryd.func25 rfl (by kernel_rfl) rfl]
  have k1 := fun F H => numDigits_c (frz := F) (H := H)
  have u1 : IntKind.u64.wrap 100 = 100 := by decide
  have i4 : IntKind.i64.wrap 4 = 4 := by decide
  obtain ⟨R, hR⟩ : ∃ R : Row, R = ⟨List.replicate 24 (.int .u8 0), 0, 45⟩ := ⟨_, rfl⟩
  have hRs := hR.symm
  simp at hRs
  have g0 : (H ++ [R])[H.length]? = some R := by simp
  have sl := arr_slice g0 (by rw [hR])
  simp [u1, k1, i4, hRs, sl]
  refine wp_thn (base10_w (frz := H.length) H.length R 45 (by simp) hR (Nat.le_refl _)) ?_
  rintro _ H1 rfl
  have g1 := set_get (r' := ⟨.int .u8 0 :: .int .u8 49 :: .int .u8 48 :: .int .u8 48 :: List.replicate 20 (.int .u8 0), 0, 45⟩) g0
  have sl1 := arr_slice g1 rfl
  have st := hun_str g1
  generalize (H ++ [R]).set H.length ⟨.int .u8 0 :: .int .u8 49 :: .int .u8 48 :: .int .u8 48 :: List.replicate 20 (.int .u8 0), 0, 45⟩ = K at *
  simp [i4, sl1, st]
-- FI
end Go.Proofs.YtglfimnjnnfdlaaDoor.V
/-! Numbers up to 100 as texts; names of rules. -/
set_option linter.all false
namespace Go.Proofs.YtglfimnjnnfdlaaDoor.V
open Go Go.VM Go.Proofs
set_option maxRecDepth 10000
variable {frz : Nat} {H : Heap}
def decN (n : Nat) : ByteArray := if n < 100 then decB n else hunB
theorem decN_size (n : Nat) : (decN n).size ≤ 3 := by
  unfold decN; split
  · unfold decB; split <;> simp [ByteArray.size]
  · unfold hunB; simp [ByteArray.size]
-- IF internal/strconv.numDigits
theorem fmt100_c : vcall C frz 25 [.int .i64 100, .int .i64 10] H = some (.string hunB, H) := fmt100_w.exact (by simp) rfl
theorem formatN_c (n : Nat) (h : n ≤ 100) : vcall C frz 17 [.int .i64 n] H = some (.string (decN n), H) := by
  by_cases h1 : n < 100
  · rw [decN, if_pos h1]; exact formatInt_c n h1
  · obtain rfl : n = 100 := by omega
    rw [decN, if_neg (by omega)]
    have k1 := fun F H => fmt100_c (frz := F) (H := H)
    have k2 : ∀ F H, vcall C F 24 [.int .i64 100] H = some (.string hunB, H) := fun F H => by
      rw [vcall_go (fn := Tryd.f24) Tryd.func24 rfl (by kernel_rfl) rfl]
      simp [k1]
    have k3 : ∀ F H, vcall C F 23 [.int .i64 100] H = some (.string hunB, H) := fun F H => by
      rw [vcall_go (fn := Tryd.f23) Tryd.func23 rfl (by kernel_rfl) rfl]
      simp [k2]
    rw [vcall_go (fn := Tryd.f17) Tryd.func17 rfl (by kernel_rfl) rfl]
    simp [k3]
-- FI
-- IF spec.FormatInt
theorem s100_w : wp (vcall C frz 14 [.int .i64 100] H) (fun r _ => r = .string hunB) := by
  rw [vcall_go (fn := Tryd.f14) Tryd.func14 rfl (by kernel_rfl) rfl]
  have f0 := fun F H => figure_c (frz := F) (H := H) 0 (by omega)
  have f1 := fun F H => figure_c (frz := F) (H := H) 1 (by omega)
  simp at f0 f1
  have m1 : (100 : Int).tmod 10 = 0 := by decide
  have m2 : (10 : Int).tmod 10 = 0 := by decide
  have m3 : (1 : Int).tmod 10 = 1 := by decide
  have d1 : (100 : Int).tdiv 10 = 10 := by decide
  have d2 : (10 : Int).tdiv 10 = 1 := by decide
  have d3 : (1 : Int).tdiv 10 = 0 := by decide
  have w0 : IntKind.i64.wrap 0 = 0 := by decide
  have w1 : IntKind.i64.wrap 1 = 1 := by decide
  have w10 : IntKind.i64.wrap 10 = 10 := by decide
  have b0 := fun K id h => conv_byte (K := K) (id := id) (x := 48) h
  have b1 := fun K id h => conv_byte (K := K) (id := id) (x := 49) h
  have e0 : strOfNums [48] = dB 0 := dB_of (n := 0) (by omega)
  have e1 : strOfNums [49] = dB 1 := dB_of (n := 1) (by omega)
  have c1 := b0 (H ++ [⟨[.int .u8 48], 0, 5⟩]) H.length (by simp)
  have c2 := b0 (H ++ [⟨[.int .u8 48], 0, 5⟩, ⟨[.int .u8 48], 0, 5⟩]) (H.length + 1) (by simp)
  have c3 := b1 (H ++ [⟨[.int .u8 48], 0, 5⟩, ⟨[.int .u8 48], 0, 5⟩, ⟨[.int .u8 49], 0, 5⟩]) (H.length + 2) (by simp)
  rw [e0] at c1 c2
  rw [e1] at c3
  have s0 : (dB 0).size = 1 := dB_size 0
  have s1 : (dB 1).size = 1 := dB_size 1
  have a1 := vadd_str (x := dB 0) (y := ⟨#[]⟩) (by have e2 : (ByteArray.mk #[]).size = 0 := rfl; omega)
  rw [bempty] at a1
  have a2 := vadd_str (x := dB 0) (y := dB 0) (by omega)
  have a3 := vadd_str (x := dB 1) (y := dB 0 ++ dB 0) (by rw [ByteArray.size_append]; omega)
  have fin : dB 1 ++ (dB 0 ++ dB 0) = hunB := by apply ByteArray.ext; simp [ByteArray.data_append, dB, hunB]
  simp
  rw [go_loop]
  simp [m1, f0, c1, a1, d1, w10]
  rw [go_again, go_loop]
  simp [m2, f0, c2, a2, d2, w1]
  rw [go_again, go_loop]
  simp [m3, f1, c3, a3, d3, w0]
  rw [go_again, go_loop]
  simp [fin]
theorem sFormatN_c (n : Nat) (h : n ≤ 100) : vcall C frz 14 [.int .i64 n] H = some (.string (decN n), H) := by
  by_cases h1 : n < 100
  · rw [decN, if_pos h1]; exact (sFormatInt_w n h1).exact (by simp) rfl
  · obtain rfl : n = 100 := by omega
    rw [decN, if_neg (by omega)]; exact s100_w.exact (by simp) rfl
-- FI
end Go.Proofs.YtglfimnjnnfdlaaDoor.V
/-! ActOk, names of rules, the text of an act. -/
set_option linter.all false
namespace Go.Proofs.YtglfimnjnnfdlaaDoor.V
open Go Go.VM Go.Proofs
set_option maxRecDepth 10000
variable {frz : Nat} {H : Heap}
def actOk (k p q r s : Int) : Prop :=
  if k = 1 then inR 0 p 15 ∧ inR 0 q 15 ∧ inR 0 r 1 ∧ inR 1 s 5 else if k = 2 then inR 1 p 100 ∧ q = 0 ∧ r = 0 ∧ s = 0 else if k = 3 then p = 0 ∧ q = 0 ∧ r = 0 ∧ s = 0
  else if k = 4 then inR 0 p 63 ∧ q = 0 ∧ r = 0 ∧ s = 0 else k = 5 ∧ inR 1 p 4 ∧ inR 1 q 4 ∧ r = 0 ∧ s = 0
instance (k p q r s : Int) : Decidable (actOk k p q r s) := by unfold actOk; infer_instance
theorem cseq_5 (a b c d e a' b' c' d' e' : Int) : cseq [0, 0, 0, 0, 0] [.int .i64 a, .int .i64 b, .int .i64 c, .int .i64 d, .int .i64 e] [.int .i64 a', .int .i64 b', .int .i64 c', .int .i64 d', .int .i64 e'] = some (decide (a = a' ∧ b = b' ∧ c = c' ∧ d = d' ∧ e = e')) := by
  simp only [cseq, ceq, if_true]
  congr 1
  rw [Bool.eq_iff_iff]
  simp
-- IF laws.toAct
theorem toAct_c (k p q r s : Int) : vcall C frz 6 [.agg #[.int .i64 k, .int .i64 p, .int .i64 q, .int .i64 r, .int .i64 s]] H = some (.agg #[.int .i64 k, .int .i64 p, .int .i64 q, .int .i64 r, .int .i64 s], H) := by
  rw [vcall_go (fn := Tryd.f6) Tryd.func6 rfl (by kernel_rfl) rfl]
  simp
-- FI
-- IF impl.ActOk
theorem actOk_c (k p q r s : Int) : vcall C frz 16 [.agg #[.int .i64 k, .int .i64 p, .int .i64 q, .int .i64 r, .int .i64 s]] H = some (.bool (decide (actOk k p q r s)), H) := by
  refine wp.exact (by simp) ?_ rfl
  rw [vcall_go (fn := Tryd.f16) Tryd.func16 rfl (by kernel_rfl) rfl]
  unfold actOk
  by_cases k1 : k = 1
  · by_cases h1 : inR 0 p 15
    · by_cases h2 : inR 0 q 15
      · by_cases h3 : inR 0 r 1
        · by_cases h4 : inR 1 s 5 <;> simp [VM.look, k1, inside_c, h1, h2, h3, h4]
        · simp [VM.look, k1, inside_c, h1, h2, h3]
      · simp [VM.look, k1, inside_c, h1, h2]
    · simp [VM.look, k1, inside_c, h1]
  by_cases k2 : k = 2
  · by_cases h1 : inR 1 p 100
    · by_cases h2 : q = 0
      · by_cases h3 : r = 0
        · by_cases h4 : s = 0 <;> simp [VM.look, k1, k2, inside_c, h1, h2, h3, h4]
        · simp [VM.look, k1, k2, inside_c, h1, h2, h3]
      · simp [VM.look, k1, k2, inside_c, h1, h2]
    · simp [VM.look, k1, k2, inside_c, h1]
  by_cases k3 : k = 3
  · simp [VM.look, k1, k2, k3, cseq_5, -cseq]
  by_cases k4 : k = 4
  · by_cases h1 : inR 0 p 63
    · by_cases h2 : q = 0
      · by_cases h3 : r = 0
        · by_cases h4 : s = 0 <;> simp [VM.look, k1, k2, k3, k4, inside_c, h1, h2, h3, h4]
        · simp [VM.look, k1, k2, k3, k4, inside_c, h1, h2, h3]
      · simp [VM.look, k1, k2, k3, k4, inside_c, h1, h2]
    · simp [VM.look, k1, k2, k3, k4, inside_c, h1]
  by_cases k5 : k = 5
  · by_cases h1 : inR 1 p 4
    · by_cases h2 : inR 1 q 4
      · by_cases h3 : r = 0
        · by_cases h4 : s = 0 <;> simp [VM.look, k1, k2, k3, k4, k5, inside_c, h1, h2, h3, h4]
        · simp [VM.look, k1, k2, k3, k4, k5, inside_c, h1, h2, h3]
      · simp [VM.look, k1, k2, k3, k4, k5, inside_c, h1, h2]
    · simp [VM.look, k1, k2, k3, k4, k5, inside_c, h1]
  simp [VM.look, k1, k2, k3, k4, k5]
-- FI
-- IF spec.ActOk
theorem sActOk_c (k p q r s : Int) : vcall C frz 13 [.agg #[.int .i64 k, .int .i64 p, .int .i64 q, .int .i64 r, .int .i64 s]] H = some (.bool (decide (actOk k p q r s)), H) := by
  refine wp.exact (by simp) ?_ rfl
  rw [vcall_go (fn := Tryd.f13) Tryd.func13 rfl (by kernel_rfl) rfl]
  unfold actOk
  by_cases k1 : k = 1
  · by_cases h1 : inR 0 p 15
    · by_cases h2 : inR 0 q 15
      · by_cases h3 : inR 0 r 1
        · by_cases h4 : inR 1 s 5 <;> simp [VM.look, k1, l01In_c, h1, h2, h3, h4]
        · simp [VM.look, k1, l01In_c, h1, h2, h3]
      · simp [VM.look, k1, l01In_c, h1, h2]
    · simp [VM.look, k1, l01In_c, h1]
  by_cases k2 : k = 2
  · by_cases h1 : inR 1 p 100
    · by_cases h2 : q = 0
      · by_cases h3 : r = 0
        · by_cases h4 : s = 0 <;> simp [VM.look, k1, k2, l01In_c, h1, h2, h3, h4]
        · simp [VM.look, k1, k2, l01In_c, h1, h2, h3]
      · simp [VM.look, k1, k2, l01In_c, h1, h2]
    · simp [VM.look, k1, k2, l01In_c, h1]
  by_cases k3 : k = 3
  · simp [VM.look, k1, k2, k3, cseq_5, -cseq]
  by_cases k4 : k = 4
  · by_cases h1 : inR 0 p 63
    · by_cases h2 : q = 0
      · by_cases h3 : r = 0
        · by_cases h4 : s = 0 <;> simp [VM.look, k1, k2, k3, k4, l01In_c, h1, h2, h3, h4]
        · simp [VM.look, k1, k2, k3, k4, l01In_c, h1, h2, h3]
      · simp [VM.look, k1, k2, k3, k4, l01In_c, h1, h2]
    · simp [VM.look, k1, k2, k3, k4, l01In_c, h1]
  by_cases k5 : k = 5
  · by_cases h1 : inR 1 p 4
    · by_cases h2 : inR 1 q 4
      · by_cases h3 : r = 0
        · by_cases h4 : s = 0 <;> simp [VM.look, k1, k2, k3, k4, k5, l01In_c, h1, h2, h3, h4]
        · simp [VM.look, k1, k2, k3, k4, k5, l01In_c, h1, h2, h3]
      · simp [VM.look, k1, k2, k3, k4, k5, l01In_c, h1, h2]
    · simp [VM.look, k1, k2, k3, k4, k5, l01In_c, h1]
  simp [VM.look, k1, k2, k3, k4, k5]
-- FI
def ruleB (p : Nat) : ByteArray := if p = 1 then ⟨#[120, 121]⟩ else if p = 2 then ⟨#[121, 120]⟩ else if p = 3 then ⟨#[119, 101, 115, 116]⟩ else ⟨#[109, 105, 120, 101, 100]⟩
-- IF impl.RuleName
theorem ruleName_c (p : Nat) (h0 : 1 ≤ p) (h : p ≤ 4) : vcall C frz 18 [.int .i64 p] H = some (.string (ruleB p), H) := by
  rw [vcall_go (fn := Tryd.f18) Tryd.func18 rfl (by kernel_rfl) rfl]
  have k := fun F => inside_c (frz := F) (H := H) (p : Int) 1 4
  have e : inR 1 (p : Int) 4 := ⟨by omega, by omega⟩
  have bp : bplaces Tryd.prog 43 = some [(0, 1), (1, 1), (2, 1), (3, 1), (4, 1)] := by kernel_rfl
  obtain rfl | rfl | rfl | rfl : p = 1 ∨ p = 2 ∨ p = 3 ∨ p = 4 := by omega
  all_goals simp at k e; simp [k, e, bp, VM.splice, ruleB, vindex, part']
-- FI
-- IF spec.RuleName
theorem sRuleName_c (p : Nat) (h0 : 1 ≤ p) (h : p ≤ 4) : vcall C frz 15 [.int .i64 p] H = some (.string (ruleB p), H) := by
  refine wp.exact (by simp) ?_ rfl
  rw [vcall_go (fn := Tryd.f15) Tryd.func15 rfl (by kernel_rfl) rfl]
  have k := fun F => l01In_c (frz := F) (H := H) (p : Int) 1 4
  have e : inR 1 (p : Int) 4 := ⟨by omega, by omega⟩
  have w0 : IntKind.i64.wrap 0 = 0 := by decide
  have w1 : IntKind.i64.wrap 1 = 1 := by decide
  have w2 : IntKind.i64.wrap 2 = 2 := by decide
  have w3 : IntKind.i64.wrap 3 = 3 := by decide
  obtain rfl | rfl | rfl | rfl : p = 1 ∨ p = 2 ∨ p = 3 ∨ p = 4 := by omega
  all_goals simp at k e; simp [k, e, ruleB, w0, w1, w2, w3]
-- FI
def sendB : ByteArray := ⟨#[115, 101, 110, 100, 32]⟩
def oB : ByteArray := ⟨#[32]⟩
def runB : ByteArray := ⟨#[114, 117, 110, 32]⟩
def breakB : ByteArray := ⟨#[98, 114, 101, 97, 107, 32]⟩
def ruleKB : ByteArray := ⟨#[114, 117, 108, 101, 32]⟩
noncomputable def actB (k p q r s : Int) : ByteArray := if actOk k p q r s then
    (if k = 1 then sendB ++ decN p.toNat ++ oB ++ decN q.toNat ++ oB ++ decN r.toNat ++ oB ++ decN s.toNat else if k = 2 then runB ++ decN p.toNat else if k = 3 then ⟨#[100, 114, 97, 105, 110]⟩ else if k = 4 then breakB ++ decN p.toNat else ruleKB ++ ruleB p.toNat ++ oB ++ ruleB q.toNat)
  else ⟨#[]⟩
theorem ruleB_size (n : Nat) : (ruleB n).size ≤ 5 := by unfold ruleB; (repeat' split) <;> simp [ByteArray.size]
-- IF impl.FormatAct
theorem formatAct_w (k p q r s : Int) : wp (vcall C frz 7 [.agg #[.int .i64 k, .int .i64 p, .int .i64 q, .int .i64 r, .int .i64 s]] H) (fun u H' => u = .tuple #[.string (actB k p q r s), .bool (decide (actOk k p q r s))] ∧ H' = H) := by
  rw [vcall_go (fn := Tryd.f7) Tryd.func7 rfl (by kernel_rfl) rfl]
  have hok := fun F H => actOk_c (frz := F) (H := H) k p q r s
  by_cases ok : actOk k p q r s
  case neg =>
    simp [VM.look, hok, ok, actB]
  have ok' := ok
  unfold actOk at ok'
  have z1 : sendB.size = 5 := rfl
  have z2 : oB.size = 1 := rfl
  have z3 : runB.size = 4 := rfl
  have z4 : breakB.size = 6 := rfl
  have z5 : ruleKB.size = 5 := rfl
  by_cases k1 : k = 1
  · obtain rfl : k = 1 := k1
    rw [if_pos rfl] at ok'
    unfold inR at ok'
    obtain ⟨P, rfl⟩ : ∃ P : Nat, p = P := ⟨p.toNat, by omega⟩
    obtain ⟨Q, rfl⟩ : ∃ P : Nat, q = P := ⟨q.toNat, by omega⟩
    obtain ⟨R, rfl⟩ : ∃ P : Nat, r = P := ⟨r.toNat, by omega⟩
    obtain ⟨S, rfl⟩ : ∃ P : Nat, s = P := ⟨s.toNat, by omega⟩
    have f1 := fun F H => formatN_c (frz := F) (H := H) P (by omega)
    have f2 := fun F H => formatN_c (frz := F) (H := H) Q (by omega)
    have f3 := fun F H => formatN_c (frz := F) (H := H) R (by omega)
    have f4 := fun F H => formatN_c (frz := F) (H := H) S (by omega)
    have y1 := decN_size P
    have y2 := decN_size Q
    have y3 := decN_size R
    have y4 := decN_size S
    have a1 := vadd_str (x := sendB) (y := decN P) (by omega)
    have a2 := vadd_str (x := sendB ++ decN P) (y := oB) (by simp only [ByteArray.size_append]; omega)
    have a3 := vadd_str (x := sendB ++ decN P ++ oB) (y := decN Q) (by simp only [ByteArray.size_append]; omega)
    have a4 := vadd_str (x := sendB ++ decN P ++ oB ++ decN Q) (y := oB) (by simp only [ByteArray.size_append]; omega)
    have a5 := vadd_str (x := sendB ++ decN P ++ oB ++ decN Q ++ oB) (y := decN R) (by simp only [ByteArray.size_append]; omega)
    have a6 := vadd_str (x := sendB ++ decN P ++ oB ++ decN Q ++ oB ++ decN R) (y := oB) (by simp only [ByteArray.size_append]; omega)
    have a7 := vadd_str (x := sendB ++ decN P ++ oB ++ decN Q ++ oB ++ decN R ++ oB) (y := decN S) (by simp only [ByteArray.size_append]; omega)
    have e : actB 1 P Q R S = sendB ++ decN P ++ oB ++ decN Q ++ oB ++ decN R ++ oB ++ decN S := by unfold actB; rw [if_pos ok, if_pos rfl]; simp
    rw [e]
    simp only [sendB, oB] at a1 a2 a3 a4 a5 a6 a7 ⊢
    simp [VM.look, hok, ok]
    rw [go_draw (h := by kernel_rfl)]
    simp [VM.look, f1, f2, f3, f4, a1, a2, a3, a4, a5, a6, a7]
    try exact ok
  rw [if_neg k1] at ok'
  by_cases k2 : k = 2
  · obtain rfl : k = 2 := k2
    rw [if_pos rfl] at ok'
    unfold inR at ok'
    obtain ⟨P, rfl⟩ : ∃ P : Nat, p = P := ⟨p.toNat, by omega⟩
    have f1 := fun F H => formatN_c (frz := F) (H := H) P (by omega)
    have y1 := decN_size P
    have a1 := vadd_str (x := runB) (y := decN P) (by omega)
    have e : actB 2 P q r s = runB ++ decN P := by unfold actB; rw [if_pos ok, if_neg k1, if_pos rfl]; simp
    rw [e]
    simp only [runB] at a1 ⊢
    simp [VM.look, hok, ok, f1, a1]
    try exact ok
  rw [if_neg k2] at ok'
  by_cases k3 : k = 3
  · obtain rfl : k = 3 := k3
    have e : actB 3 p q r s = ⟨#[100, 114, 97, 105, 110]⟩ := by unfold actB; rw [if_pos ok, if_neg k1, if_neg k2, if_pos rfl]
    rw [e]
    simp [VM.look, hok, ok]
    try exact ok
  rw [if_neg k3] at ok'
  by_cases k4 : k = 4
  · obtain rfl : k = 4 := k4
    rw [if_pos rfl] at ok'
    unfold inR at ok'
    obtain ⟨P, rfl⟩ : ∃ P : Nat, p = P := ⟨p.toNat, by omega⟩
    have f1 := fun F H => formatN_c (frz := F) (H := H) P (by omega)
    have y1 := decN_size P
    have a1 := vadd_str (x := breakB) (y := decN P) (by omega)
    have e : actB 4 P q r s = breakB ++ decN P := by unfold actB; rw [if_pos ok, if_neg k1, if_neg k2, if_neg k3, if_pos rfl]; simp
    rw [e]
    simp only [breakB] at a1 ⊢
    simp [VM.look, hok, ok, f1, a1]
    try exact ok
  · rw [if_neg k4] at ok'
    unfold inR at ok'
    obtain ⟨P, rfl⟩ : ∃ P : Nat, p = P := ⟨p.toNat, by omega⟩
    obtain ⟨Q, rfl⟩ : ∃ P : Nat, q = P := ⟨q.toNat, by omega⟩
    have f1 := fun F H => ruleName_c (frz := F) (H := H) P (by omega) (by omega)
    have f2 := fun F H => ruleName_c (frz := F) (H := H) Q (by omega) (by omega)
    have y1 := ruleB_size P
    have y2 := ruleB_size Q
    have a1 := vadd_str (x := ruleKB) (y := ruleB P) (by omega)
    have a2 := vadd_str (x := ruleKB ++ ruleB P) (y := oB) (by simp only [ByteArray.size_append]; omega)
    have a3 := vadd_str (x := ruleKB ++ ruleB P ++ oB) (y := ruleB Q) (by simp only [ByteArray.size_append]; omega)
    have e : actB k P Q r s = ruleKB ++ ruleB P ++ oB ++ ruleB Q := by unfold actB; rw [if_pos ok, if_neg k1, if_neg k2, if_neg k3, if_neg k4]; simp
    rw [e]
    simp only [ruleKB, oB] at a1 a2 a3 ⊢
    simp [VM.look, hok, ok, k1, k2, k3, k4]
    rw [go_draw (h := by kernel_rfl)]
    simp [VM.look, f1, f2, a1, a2, a3]
    try exact ok
theorem formatAct_c (k p q r s : Int) : vcall C frz 7 [.agg #[.int .i64 k, .int .i64 p, .int .i64 q, .int .i64 r, .int .i64 s]] H = some (.tuple #[.string (actB k p q r s), .bool (decide (actOk k p q r s))], H) := by
  obtain ⟨v, H', h1, rfl, rfl⟩ := formatAct_w (frz := frz) (H := H) k p q r s
  exact h1
-- FI
-- IF spec.FormatAct
theorem sFormatAct_w (k p q r s : Int) : wp (vcall C frz 5 [.agg #[.int .i64 k, .int .i64 p, .int .i64 q, .int .i64 r, .int .i64 s]] H) (fun u H' => u = .tuple #[.string (actB k p q r s), .bool (decide (actOk k p q r s))] ∧ H' = H) := by
  rw [vcall_go (fn := Tryd.f5) Tryd.func5 rfl (by kernel_rfl) rfl]
  have hok := fun F H => sActOk_c (frz := F) (H := H) k p q r s
  by_cases ok : actOk k p q r s
  case neg =>
    simp [VM.look, hok, ok, actB]
  have ok' := ok
  unfold actOk at ok'
  have z1 : sendB.size = 5 := rfl
  have z2 : oB.size = 1 := rfl
  have z3 : runB.size = 4 := rfl
  have z4 : breakB.size = 6 := rfl
  have z5 : ruleKB.size = 5 := rfl
  by_cases k1 : k = 1
  · obtain rfl : k = 1 := k1
    rw [if_pos rfl] at ok'
    unfold inR at ok'
    obtain ⟨P, rfl⟩ : ∃ P : Nat, p = P := ⟨p.toNat, by omega⟩
    obtain ⟨Q, rfl⟩ : ∃ P : Nat, q = P := ⟨q.toNat, by omega⟩
    obtain ⟨R, rfl⟩ : ∃ P : Nat, r = P := ⟨r.toNat, by omega⟩
    obtain ⟨S, rfl⟩ : ∃ P : Nat, s = P := ⟨s.toNat, by omega⟩
    have f1 := fun F H => sFormatN_c (frz := F) (H := H) P (by omega)
    have f2 := fun F H => sFormatN_c (frz := F) (H := H) Q (by omega)
    have f3 := fun F H => sFormatN_c (frz := F) (H := H) R (by omega)
    have f4 := fun F H => sFormatN_c (frz := F) (H := H) S (by omega)
    have y1 := decN_size P
    have y2 := decN_size Q
    have y3 := decN_size R
    have y4 := decN_size S
    have a1 := vadd_str (x := sendB) (y := decN P) (by omega)
    have a2 := vadd_str (x := sendB ++ decN P) (y := oB) (by simp only [ByteArray.size_append]; omega)
    have a3 := vadd_str (x := sendB ++ decN P ++ oB) (y := decN Q) (by simp only [ByteArray.size_append]; omega)
    have a4 := vadd_str (x := sendB ++ decN P ++ oB ++ decN Q) (y := oB) (by simp only [ByteArray.size_append]; omega)
    have a5 := vadd_str (x := sendB ++ decN P ++ oB ++ decN Q ++ oB) (y := decN R) (by simp only [ByteArray.size_append]; omega)
    have a6 := vadd_str (x := sendB ++ decN P ++ oB ++ decN Q ++ oB ++ decN R) (y := oB) (by simp only [ByteArray.size_append]; omega)
    have a7 := vadd_str (x := sendB ++ decN P ++ oB ++ decN Q ++ oB ++ decN R ++ oB) (y := decN S) (by simp only [ByteArray.size_append]; omega)
    have e : actB 1 P Q R S = sendB ++ decN P ++ oB ++ decN Q ++ oB ++ decN R ++ oB ++ decN S := by unfold actB; rw [if_pos ok, if_pos rfl]; simp
    rw [e]
    simp only [sendB, oB] at a1 a2 a3 a4 a5 a6 a7 ⊢
    simp [VM.look, hok, ok]
    rw [go_draw (h := by kernel_rfl)]
    simp [VM.look, f1, f2, f3, f4, a1, a2, a3, a4, a5, a6, a7]
    try exact ok
  rw [if_neg k1] at ok'
  by_cases k2 : k = 2
  · obtain rfl : k = 2 := k2
    rw [if_pos rfl] at ok'
    unfold inR at ok'
    obtain ⟨P, rfl⟩ : ∃ P : Nat, p = P := ⟨p.toNat, by omega⟩
    have f1 := fun F H => sFormatN_c (frz := F) (H := H) P (by omega)
    have y1 := decN_size P
    have a1 := vadd_str (x := runB) (y := decN P) (by omega)
    have e : actB 2 P q r s = runB ++ decN P := by unfold actB; rw [if_pos ok, if_neg k1, if_pos rfl]; simp
    rw [e]
    simp only [runB] at a1 ⊢
    simp [VM.look, hok, ok, f1, a1]
    try exact ok
  rw [if_neg k2] at ok'
  by_cases k3 : k = 3
  · obtain rfl : k = 3 := k3
    have e : actB 3 p q r s = ⟨#[100, 114, 97, 105, 110]⟩ := by unfold actB; rw [if_pos ok, if_neg k1, if_neg k2, if_pos rfl]
    rw [e]
    simp [VM.look, hok, ok]
    try exact ok
  rw [if_neg k3] at ok'
  by_cases k4 : k = 4
  · obtain rfl : k = 4 := k4
    rw [if_pos rfl] at ok'
    unfold inR at ok'
    obtain ⟨P, rfl⟩ : ∃ P : Nat, p = P := ⟨p.toNat, by omega⟩
    have f1 := fun F H => sFormatN_c (frz := F) (H := H) P (by omega)
    have y1 := decN_size P
    have a1 := vadd_str (x := breakB) (y := decN P) (by omega)
    have e : actB 4 P q r s = breakB ++ decN P := by unfold actB; rw [if_pos ok, if_neg k1, if_neg k2, if_neg k3, if_pos rfl]; simp
    rw [e]
    simp only [breakB] at a1 ⊢
    simp [VM.look, hok, ok, f1, a1]
    try exact ok
  · rw [if_neg k4] at ok'
    unfold inR at ok'
    obtain ⟨P, rfl⟩ : ∃ P : Nat, p = P := ⟨p.toNat, by omega⟩
    obtain ⟨Q, rfl⟩ : ∃ P : Nat, q = P := ⟨q.toNat, by omega⟩
    have f1 := fun F H => sRuleName_c (frz := F) (H := H) P (by omega) (by omega)
    have f2 := fun F H => sRuleName_c (frz := F) (H := H) Q (by omega) (by omega)
    have y1 := ruleB_size P
    have y2 := ruleB_size Q
    have a1 := vadd_str (x := ruleKB) (y := ruleB P) (by omega)
    have a2 := vadd_str (x := ruleKB ++ ruleB P) (y := oB) (by simp only [ByteArray.size_append]; omega)
    have a3 := vadd_str (x := ruleKB ++ ruleB P ++ oB) (y := ruleB Q) (by simp only [ByteArray.size_append]; omega)
    have e : actB k P Q r s = ruleKB ++ ruleB P ++ oB ++ ruleB Q := by unfold actB; rw [if_pos ok, if_neg k1, if_neg k2, if_neg k3, if_neg k4]; simp
    rw [e]
    simp only [ruleKB, oB] at a1 a2 a3 ⊢
    simp [VM.look, hok, ok, k1, k2, k3, k4]
    rw [go_draw (h := by kernel_rfl)]
    simp [VM.look, f1, f2, a1, a2, a3]
    try exact ok
theorem sFormatAct_c (k p q r s : Int) : vcall C frz 5 [.agg #[.int .i64 k, .int .i64 p, .int .i64 q, .int .i64 r, .int .i64 s]] H = some (.tuple #[.string (actB k p q r s), .bool (decide (actOk k p q r s))], H) := by
  obtain ⟨v, H', h1, rfl, rfl⟩ := sFormatAct_w (frz := frz) (H := H) k p q r s
  exact h1
-- FI
end Go.Proofs.YtglfimnjnnfdlaaDoor.V
/-! Acts in slices (beside VD6, VA0: where a seat has no nets). -/
set_option linter.all false
namespace Go.Proofs.YtglfimnjnnfdlaaDoor.V
open Go Go.VM Go.Proofs
set_option maxRecDepth 10000
variable {frz : Nat} {H : Heap}
abbrev AcD := Int × Int × Int × Int × Int
theorem rep_cellsA {α : Type} {D : Fl α} (a : α) : ∀ n, (List.replicate n (D.f a)).flatten = cellsOf D (List.replicate n a)
  | 0 => rfl
  | n + 1 => by rw [List.replicate_succ, List.replicate_succ, List.flatten_cons, cellsOf_cons, rep_cellsA a n]
theorem fill_setA {α : Type} (xs : List α) (z : α) {i : Nat} (h : i < xs.length) : (xs.take i ++ List.replicate (xs.length - i) z).set i xs[i] = xs.take (i + 1) ++ List.replicate (xs.length - (i + 1)) z := by
  rw [List.set_append_right _ _ (by simp; omega), List.take_succ_eq_append_getElem h]
  have e : xs.length - i = (xs.length - (i + 1)) + 1 := by omega
  have e2 : i - (xs.take i).length = 0 := by simp; omega
  rw [e, List.replicate_succ, e2, List.set_cons_zero, List.append_assoc]; rfl
def acF : Fl AcD := ⟨5, fun a => [.int .i64 a.1, .int .i64 a.2.1, .int .i64 a.2.2.1, .int .i64 a.2.2.2.1, .int .i64 a.2.2.2.2], fun _ => rfl⟩
@[simp] theorem acF_n : acF.n = 5 := rfl
theorem acF_f (a : AcD) : acF.f a = [.int .i64 a.1, .int .i64 a.2.1, .int .i64 a.2.2.1, .int .i64 a.2.2.2.1, .int .i64 a.2.2.2.2] := rfl
abbrev knA := Kn.pair (Kn.int .i64) (Kn.pair (Kn.int .i64) (Kn.pair (Kn.int .i64) (Kn.pair (Kn.int .i64) (Kn.int .i64))))
theorem knA_is {H : Heap} {x : AcD} {vs : List Value} (h : knA.Is H x vs) : vs = acF.f x := by
  obtain ⟨v1, v2, rfl, h1, w1, w2, rfl, h2, y1, y2, rfl, h3, z1, z2, rfl, h4, h5⟩ := h
  simp only [Kn.int, Kn.bool] at h1 h2 h3 h4 h5
  rw [h1, h2, h3, h4, h5]; rfl
theorem ones_pkF (xs : List AcD) : ones (cellsOf acF xs) = true := by
  induction xs with
  | nil => rfl
  | cons a l ih => rw [cellsOf_cons]; simp [ih, acF_f]
-- IF laws.toAct
theorem toActA_p (x : AcD) : vcall C frz 6 [.agg (acF.f x).toArray] H = some (.agg (acF.f x).toArray, H) := toAct_c _ _ _ _ _
theorem toActSA_w (v : Value) (xs : List AcD) (hI : Rd acF H v xs) (hb : xs.length ≤ 1073741824) :
   wp (vcall C frz 10 [v] H) (fun r H' => Ow acF 26 H' r xs ∧ (∀ i ∈ ids r, H.length ≤ i) ∧ Chg H H' []) := by
  rw [vcall_go (fn := Tryd.f10) Tryd.func10 rfl (by kernel_rfl) rfl]
  simp [hI.len]
  refine wp_need (by omega) ?_
  refine wp_inv (fun n t H' => ∃ i : Nat, n = xs.length - i ∧ i ≤ xs.length ∧ t 0 = v ∧ t 3 = .slice (some ⟨H.length, 0, some 0⟩) xs.length 0 ∧ t 4 = .int .i64 i ∧
    Ow acF 26 H' (.slice (some ⟨H.length, 0, some 0⟩) xs.length 0) (xs.take i ++ List.replicate (xs.length - i) (0, 0, 0, 0, 0)) ∧ Chg H H' []) ?_ (n := xs.length)
    ⟨0, by simp, by omega, by simp, by simp, by simp, Ow.new0 rfl (rep_cellsA (D := acF) (0, 0, 0, 0, 0) _) (by rw [rep_cellsA (D := acF) (0, 0, 0, 0, 0)]; exact ones_pkF _) (by simp), Chg.app _⟩
  rintro n t H' ⟨i, rfl, hi, h0, h3, h4, o, c⟩ ih
  have rd := hI.chg c (by simp)
  simp [h0, h3, h4, rd.len]
  refine wp_dec ?_ ?_ <;> intro h
  · have h' : i < xs.length := by omega
    have q1 := rd.idx (P := Tryd.prog) (ty := 29) (e := 23) (by simp) (i := (i : Int)) (by omega) (by omega)
    have q2 := rd.load (P := Tryd.prog) (e := 23) (by simp) h'
    have hl : (xs.take i ++ List.replicate (xs.length - i) ((0, 0, 0, 0, 0) : AcD)).length = xs.length := by simp; omega
    have q3 := o.rd.idx (P := Tryd.prog) (ty := 32) (e := 26) (by simp) (i := (i : Int)) (by omega) (by omega)
    obtain ⟨H2, s1, o1, c1, l1⟩ := o.store (P := Tryd.prog) (frz := H.length) (et := 26) (ag := true) (x := .agg (acF.f xs[i]).toArray) (by simp) (j := i) (y := xs[i]) (by omega) (by simp [Value.cells]) (by simp [acF_f]) (by simp)
    simp only [Int.toNat_natCast, acF_n] at q1 q2 q3 s1
    simp [h0, h3, h4, q1, q2, toActA_p, q3, s1]
    refine ih (xs.length - (i + 1)) _ _ ⟨i + 1, rfl, by omega, by simp [h0], by simp [h3], ?_, ?_, c.trans' c1 (by simp)⟩ (by omega)
    · simp; rw [w64 (by omega) (by omega)]
    · rw [fill_setA _ _ h'] at o1; exact o1
  · have : i = xs.length := by omega
    subst this
    simp [h0, h3, h4]
    exact ⟨by simpa using o, c⟩
-- FI
-- IF laws.szActS
theorem szActSA_c (v : Value) (xs : List AcD) (n : Int) (hI : Rd acF H v xs) (h0 : 0 ≤ n) (h1 : n ≤ 1048576) (h2 : xs.length ≤ 9223372036854775807) :
    vcall C frz 8 [v, .int .i64 n] H = some (.int .i64 (if n < xs.length then -1 else n - xs.length), H) := by
  rw [vcall_go (fn := Tryd.f8) Tryd.func8 rfl (by kernel_rfl) rfl]
  simp [hI.len]
  rw [w64 (by omega) (by omega)]
  refine br_dec _ ?_ ?_ <;> intro h <;> simp [h]
  · intro hh; omega
  · intro hh; omega
-- FI
-- IF laws.eqActS
theorem eqActA_c (x y : AcD) : vcall C frz 19 [.agg (acF.f x).toArray, .agg (acF.f y).toArray] H = some (.bool (decide (x = y)), H) := by
  obtain ⟨p, t, c, h, l⟩ := x
  obtain ⟨p', t', c', h', l'⟩ := y
  rw [vcall_go (fn := Tryd.f19) Tryd.func19 rfl (by kernel_rfl) rfl]
  simp [acF_f]
  by_cases e1 : p = p'
  · by_cases e2 : t = t'
    · by_cases e3 : c = c'
      · by_cases e4 : h = h'
        · by_cases e5 : l = l' <;> simp [e1, e2, e3, e4, e5]
        · simp [e1, e2, e3, e4]
      · simp [e1, e2, e3]
    · simp [e1, e2]
  · simp [e1]
theorem eqActSA_c (a b : Value) (xs ys : List AcD) (ha : Rd acF H a xs) (hb : Rd acF H b ys) (hl : xs.length ≤ 1073741824) :
   vcall C frz 12 [a, b] H = some (.bool (decide (xs = ys)), H) := by
  refine wp.exact (by simp) ?_ rfl
  rw [vcall_go (fn := Tryd.f12) Tryd.func12 rfl (by kernel_rfl) rfl]
  simp [ha.len, hb.len]
  refine wp_dec ?_ ?_ <;> intro h0 <;> simp [h0]
  · refine wp_inv (fun n t H' => ∃ i : Nat, n = xs.length - i ∧ i ≤ xs.length ∧ t 0 = a ∧ t 1 = b ∧ t 5 = .int .i64 i ∧ H' = H ∧ xs.take i = ys.take i) ?_ (n := xs.length) ⟨0, rfl, by omega, by simp, by simp, by simp, rfl, by simp⟩
    rintro n t H' ⟨i, rfl, hi, h1, h2, h3, rfl, h4⟩ ih
    simp [h1, h2, h3, ha.len]
    refine wp_dec ?_ ?_ <;> intro h
    · have hx : i < xs.length := by omega
      have hy : i < ys.length := by omega
      have q1 := ha.idx (P := Tryd.prog) (ty := 32) (e := 26) (by simp) (i := (i : Int)) (by omega) (by omega)
      have q2 := ha.load (P := Tryd.prog) (e := 26) (by simp) hx
      have q3 := hb.idx (P := Tryd.prog) (ty := 32) (e := 26) (by simp) (i := (i : Int)) (by omega) (by omega)
      have q4 := hb.load (P := Tryd.prog) (e := 26) (by simp) hy
      simp only [Int.toNat_natCast, acF_n] at q1 q2 q3 q4
      simp [h1, h2, h3]
      rw [go_draw (h := by kernel_rfl)]
      simp [h1, h2, h3, q1, q2, q3, q4, eqActA_c]
      refine wp_dec ?_ ?_ <;> intro h5
      · simp [h1, h2, h3]
        refine ih (xs.length - (i + 1)) _ _ ⟨i + 1, rfl, by omega, by simp [h1], by simp [h2], ?_, rfl, ?_⟩ (by omega)
        · simp; rw [w64 (by omega) (by omega)]
        · rw [List.take_succ_eq_append_getElem hx, List.take_succ_eq_append_getElem hy, h4]; simp [h5]
      · simp [h1, h2, h3]
        intro hh; subst hh; simp at h5
    · have : i = xs.length := by omega
      subst this
      simp [h1, h2, h3]
      rw [List.take_length, List.take_of_length_le (by omega)] at h4
      exact h4
  · intro hh; exact h0 (by rw [hh])
-- FI
end Go.Proofs.YtglfimnjnnfdlaaDoor.V
/-! The text of a script. -/
set_option linter.all false
namespace Go.Proofs.YtglfimnjnnfdlaaDoor.V
open Go Go.VM Go.Proofs
set_option maxRecDepth 10000
variable {frz : Nat} {H : Heap}
def nlB : ByteArray := ⟨#[10]⟩
noncomputable def actA (x : AcD) : ByteArray := actB x.1 x.2.1 x.2.2.1 x.2.2.2.1 x.2.2.2.2
def okA (x : AcD) : Prop := actOk x.1 x.2.1 x.2.2.1 x.2.2.2.1 x.2.2.2.2
instance (x : AcD) : Decidable (okA x) := inferInstanceAs (Decidable (actOk _ _ _ _ _))
def gA (xs : List AcD) (i : Nat) : AcD := xs.getD i (0, 0, 0, 0, 0)
noncomputable def scrB (xs : List AcD) : Nat → ByteArray
  | 0 => ⟨#[]⟩
  | n + 1 => scrB xs n ++ (actA (gA xs n) ++ nlB)
def scrOk (xs : List AcD) : Prop := xs.length ≤ 30 ∧ ∀ i, i < xs.length → okA (gA xs i)
instance (xs : List AcD) : Decidable (scrOk xs) := inferInstanceAs (Decidable (_ ∧ ∀ i, _ → _))
noncomputable def scrT (xs : List AcD) : ByteArray := if scrOk xs then scrB xs xs.length else ⟨#[]⟩
theorem actB_size (k p q r s : Int) : (actB k p q r s).size ≤ 25 := by
  have z1 : sendB.size = 5 := rfl
  have z2 : oB.size = 1 := rfl
  have z3 : runB.size = 4 := rfl
  have z4 : breakB.size = 6 := rfl
  have z5 : ruleKB.size = 5 := rfl
  have z6 : (ByteArray.mk #[]).size = 0 := rfl
  have z7 : (ByteArray.mk #[100, 114, 97, 105, 110]).size = 5 := rfl
  have y1 := decN_size p.toNat
  have y2 := decN_size q.toNat
  have y3 := decN_size r.toNat
  have y4 := decN_size s.toNat
  have y5 := ruleB_size p.toNat
  have y6 := ruleB_size q.toNat
  unfold actB
  repeat' split
  all_goals first | omega | (simp only [ByteArray.size_append]; omega)
theorem scrB_size (xs : List AcD) : ∀ n, (scrB xs n).size ≤ 26 * n
  | 0 => by show (ByteArray.mk #[]).size ≤ 0; exact Nat.le_refl _
  | n + 1 => by
    have h1 := scrB_size xs n
    have h2 : (actA (gA xs n)).size ≤ 25 := actB_size _ _ _ _ _
    have h3 : nlB.size = 1 := rfl
    unfold scrB
    simp only [ByteArray.size_append]
    omega
theorem gA_get {xs : List AcD} {i : Nat} (h : i < xs.length) : gA xs i = xs[i] := by simp [gA, List.getD_eq_getElem?_getD, h]
-- IF impl.ScriptText
theorem script_w (v : Value) (xs : List AcD) (hI : Rd acF H v xs) (hl : xs.length ≤ 1073741824) : wp (vcall C frz 11 [v] H) (fun u H' => u = .tuple #[.string (scrT xs), .bool (decide (scrOk xs))] ∧ H' = H) := by
  rw [vcall_go (fn := Tryd.f11) Tryd.func11 rfl (by kernel_rfl) rfl]
  have ll := hI.len (P := Tryd.prog) (ty := 32) (by simp)
  simp [ll]
  refine wp_dec ?_ ?_ <;> intro h30
  · have no : ¬ scrOk xs := fun hh => by have := hh.1; omega
    simp [scrT, no]
  have h30' : xs.length ≤ 30 := by omega
  simp [ll]
  refine wp_inv (fun n t H' => ∃ i : Nat, n = xs.length - i ∧ i ≤ xs.length ∧ t 4 = .string (scrB xs i) ∧ t 12 = v ∧ t 13 = .int .i64 xs.length ∧ t 14 = .int .i64 i ∧ (∀ j, j < i → okA (gA xs j)) ∧ Chg H H' []) ?_ (n := xs.length)
    ⟨0, rfl, by omega, by simp [scrB], by simp, by simp, by simp, by omega, Chg.refl _⟩
  rintro n t H' ⟨i, rfl, hi, t4, t12, t13, t14, hok, ch⟩ ih
  simp [t4, t12, t13, t14]
  refine wp_dec ?_ ?_ <;> intro hlt
  · have rd := hI.chg ch (by simp)
    have q1 := rd.idx (P := Tryd.prog) (ty := 32) (e := 26) (by simp) (i := (i : Int)) (by omega) (by omega)
    have q2 := rd.load (P := Tryd.prog) (e := 26) (by simp) hlt
    obtain ⟨a, b, c, d, e, hx⟩ : ∃ a b c d e, xs[i] = (a, b, c, d, e) := ⟨_, _, _, _, _, rfl⟩
    have hg : gA xs i = (a, b, c, d, e) := by rw [gA_get hlt, hx]
    rw [hx] at q2
    simp only [Int.toNat_natCast, acF_n] at q1 q2
    simp [acF_f] at q2
    have f1 := fun F H => formatAct_c (frz := F) (H := H) a b c d e
    have w1 : ∀ [Inhabited Unit], IntKind.i64.wrap ((i : Int) + 1) = ((i + 1 : Nat) : Int) := by intro _; rw [w64 (by omega) (by omega)]; omega
    have lch := ch.1
    by_cases ok : actOk a b c d e
    · have e1 : (actB a b c d e).size ≤ 25 := actB_size _ _ _ _ _
      have e2 : nlB.size = 1 := rfl
      have e3 := scrB_size xs i
      have a1 := vadd_str (x := actB a b c d e) (y := nlB) (by omega)
      have a2 := vadd_str (x := scrB xs i) (y := actB a b c d e ++ nlB) (by simp only [ByteArray.size_append]; omega)
      have es : scrB xs (i + 1) = scrB xs i ++ (actB a b c d e ++ nlB) := by show scrB xs i ++ (actA (gA xs i) ++ nlB) = _; rw [hg]; rfl
      rw [← es] at a2
      simp only [nlB] at a1 a2
      simp [t4, t12, t13, t14, q1, q2, VM.look, VM.splice, f1, ok, a1, a2, w1, lch]
      refine ih (xs.length - (i + 1)) _ _ ⟨i + 1, rfl, by omega, by simp, by simp [t12], by simp [t13], by simp, fun j hj => ?_, ch.trans (Chg.app _)⟩ (by omega)
      rcases Nat.lt_succ_iff_lt_or_eq.1 hj with k | k
      · exact hok j k
      · rw [k]; unfold okA; rw [hg]; exact ok
    · have no : ¬ scrOk xs := fun hh => by
        have := hh.2 i hlt
        unfold okA at this; rw [hg] at this; exact ok this
      simp [t4, t12, t13, t14, q1, q2, VM.look, VM.splice, f1, ok, lch, scrT, no]
  · have hi' : i = xs.length := by omega
    subst hi'
    have yes : scrOk xs := ⟨h30', hok⟩
    simp [t4, scrT, yes]
-- FI
-- IF spec.ScriptText
theorem vapp_strA {K : Heap} {F : Nat} {v : Value} {x : ByteArray} : vappend Tryd.prog F K 38 9 v (.string x) = vappS Tryd.prog F K 38 9 v x := rfl
theorem vconv_strA {P : Program} {s d e : TypeId} {v : Value} {xs : List Int} {b : ByteArray} (h : Rd Fl.u8 H v xs) (hx : xs = bI b) (hs : P.underlying s = some (.slice e)) (hu : isU8 P e = true) (hd : isStr P d = true) : vconv P s d H v = some (.string b) := by
  have k := str_of h hx hs hu hd
  rcases h with ⟨rfl, rfl⟩ | ⟨id, off, r, rfl, h2, h3⟩ <;> exact k
theorem sScript_w (v : Value) (xs : List AcD) (hI : Rd acF H v xs) (hl : xs.length ≤ 1073741824) : wp (vcall C frz 9 [v] H) (fun u H' => u = .tuple #[.string (scrT xs), .bool (decide (scrOk xs))] ∧ H' = H) := by
  rw [vcall_go (fn := Tryd.f9) Tryd.func9 rfl (by kernel_rfl) rfl]
  obtain ⟨K, hK⟩ : ∃ K, K = H ++ [⟨[], 0, 5⟩] := ⟨_, rfl⟩
  have ob : Ow Fl.u8 5 K (.slice (some ⟨H.length, 0, some 0⟩) 0 0) (bI (scrB xs 0)) := by rw [hK]; exact Ow.new0 rfl rfl rfl rfl
  have cK : Chg H K [] := by rw [hK]; exact Chg.app _
  have hst : isStr Tryd.prog 9 = true := by kernel_rfl
  have hu8 : isU8 Tryd.prog 5 = true := by kernel_rfl
  simp
  rw [← hK]
  clear hK
  refine wp_inv (fun n t H' => ∃ (i : Nat) (s : Value), n = xs.length - i ∧ i ≤ xs.length ∧ t 0 = v ∧ t 4 = s ∧ t 5 = .int .i64 i ∧ (∀ j, j < i → okA (gA xs j)) ∧ (0 < i → xs.length ≤ 30) ∧ Ow Fl.u8 5 H' s (bI (scrB xs i)) ∧ Chg H H' [] ∧ ∀ j ∈ ids s, H.length ≤ j) ?_ (n := xs.length)
    ⟨0, _, rfl, by omega, by simp, by simp, by simp, by omega, by omega, ob, cK, by simp⟩
  clear ob cK
  rintro n t H' ⟨i, s, rfl, hi, t0, t4, t5, hok, h30, ob, ch, ns⟩ ih
  have rd := hI.chg ch (by simp)
  have ll := rd.len (P := Tryd.prog) (ty := 32) (by simp)
  simp [t0, t4, t5, ll]
  refine wp_dec ?_ ?_ <;> intro hlt
  · have q1 := rd.idx (P := Tryd.prog) (ty := 32) (e := 26) (by simp) (i := (i : Int)) (by omega) (by omega)
    have q2 := rd.load (P := Tryd.prog) (e := 26) (by simp) hlt
    obtain ⟨a, b, c, d, e, hx⟩ : ∃ a b c d e, xs[i] = (a, b, c, d, e) := ⟨_, _, _, _, _, rfl⟩
    have hg : gA xs i = (a, b, c, d, e) := by rw [gA_get hlt, hx]
    rw [hx] at q2
    simp only [Int.toNat_natCast, acF_n] at q1 q2
    simp [acF_f] at q2
    have f1 := fun F H => sFormatAct_c (frz := F) (H := H) a b c d e
    have w1 : ∀ [Inhabited Unit], IntKind.i64.wrap ((i : Int) + 1) = ((i + 1 : Nat) : Int) := by intro _; rw [w64 (by omega) (by omega)]; omega
    by_cases ok : actOk a b c d e
    case neg =>
      have no : ¬ scrOk xs := fun hh => by
        have := hh.2 i hlt
        unfold okA at this; rw [hg] at this; exact ok this
      simp [t0, t4, t5, q1, q2, VM.look, f1, ok, scrT, no]
    by_cases g30 : 30 < xs.length
    · have no : ¬ scrOk xs := fun hh => by have := hh.1; omega
      have g30' : (30 : Int) < xs.length := by omega
      simp [t0, t4, t5, q1, q2, VM.look, f1, ok, ll, g30, g30', scrT, no]
    have e1 : (actB a b c d e).size ≤ 25 := actB_size _ _ _ _ _
    have e2 : nlB.size = 1 := rfl
    have e3 := scrB_size xs i
    have a1 := vadd_str (x := actB a b c d e) (y := nlB) (by omega)
    have es : scrB xs (i + 1) = scrB xs i ++ (actB a b c d e ++ nlB) := by show scrB xs i ++ (actA (gA xs i) ++ nlB) = _; rw [hg]; rfl
    obtain ⟨s1, H4, hap, o4, c4, n4⟩ := app_str (P := Tryd.prog) (e := 5) (ty := 38) (u := 9) (frz := H.length) (b := actB a b c d e ++ nlB) ob (by simp) hst hu8 (by simp only [bI_len, ByteArray.size_append]; omega) ns
    rw [← bI_app, ← es] at o4
    simp only [nlB] at a1 hap
    have g30' : ¬ (30 : Int) < xs.length := by omega
    simp [t0, t4, t5, q1, q2, VM.look, f1, ok, ll, g30, g30', a1, vapp_strA, hap, w1]
    refine ih (xs.length - (i + 1)) _ _ ⟨i + 1, s1, rfl, by omega, by simp [t0], by simp, by simp, fun j hj => ?_, fun _ => by omega, o4, ch.trans' c4 (fun j hj => .inr (ns j hj)), fun j hj => ?_⟩ (by omega)
    · rcases Nat.lt_succ_iff_lt_or_eq.1 hj with k | k
      · exact hok j k
      · rw [k]; unfold okA; rw [hg]; exact ok
    · rcases n4 j hj with q | q
      · exact ns j q
      · have := ch.1; omega
  · have hi' : i = xs.length := by omega
    subst hi'
    have yes : scrOk xs := ⟨by
      rcases Nat.eq_zero_or_pos xs.length with q | q
      · omega
      · exact h30 q, hok⟩
    have cv := vconv_strA (s := 38) (d := 9) (P := Tryd.prog) ob.rd (b := scrT xs) (by rw [scrT, if_pos yes]) (by simp) hu8 hst
    simp [t4, cv, yes]
-- FI
end Go.Proofs.YtglfimnjnnfdlaaDoor.V
/-! The law FnExactScriptText. -/
set_option linter.all false
namespace Go.Proofs.YtglfimnjnnfdlaaDoor.V
open Go Go.VM Go.Proofs
set_option maxRecDepth 10000
variable {frz : Nat} {H : Heap}
theorem take_cellsA {α : Type} {D : Fl α} : ∀ (xs : List α) (l : List Value), (∀ j x, xs[j]? = some x → (l.drop (j * D.n)).take D.n = D.f x) → l.take (xs.length * D.n) = cellsOf D xs
  | [], l, _ => by simp
  | x :: xs, l, h => by
    have h0 := h 0 x rfl
    simp at h0
    have h1 := take_cellsA xs (l.drop D.n) fun j y hj => by
      have := h (j + 1) y (by simpa using hj)
      rwa [Nat.succ_mul, Nat.add_comm, ← List.drop_drop] at this
    rw [List.length_cons, Nat.succ_mul, Nat.add_comm, List.take_add, h0, h1, cellsOf_cons]
theorem IsS_rd_ofA {α : Type} {d : Kn α} {D : Fl α} (hz : d.sz = D.n) (hd : ∀ {H x vs}, d.Is H x vs → vs = D.f x) {v : Value} {xs : List α} (h : IsS d H v xs) : Rd D H v xs := by
  rcases h with h | ⟨id, off, r, h1, h2, h3, h4⟩
  · exact .inl h
  · rw [hz] at h3 h4
    exact .inr ⟨id, off, r, h1, h2, take_cellsA xs _ fun j x hj => by rw [List.drop_drop]; exact hd (h4 j x hj), h3⟩
theorem script_c (v : Value) (xs : List AcD) (hI : Rd acF H v xs) (hl : xs.length ≤ 1073741824) : vcall C frz 11 [v] H = some (.tuple #[.string (scrT xs), .bool (decide (scrOk xs))], H) := by
  obtain ⟨r, H', h1, rfl, rfl⟩ := script_w (frz := frz) v xs hI hl
  exact h1
theorem sScript_c (v : Value) (xs : List AcD) (hI : Rd acF H v xs) (hl : xs.length ≤ 1073741824) : vcall C frz 9 [v] H = some (.tuple #[.string (scrT xs), .bool (decide (scrOk xs))], H) := by
  obtain ⟨r, H', h1, rfl, rfl⟩ := sScript_w (frz := frz) v xs hI hl
  exact h1
theorem law_FnExactScriptText_w {a0 : List AcD} {u0 : Value} (s0 : IsS knA H u0 a0) {Q : AcD → Prop} (w0 : a0.length ≤ maxLen ∧ ∀ x1 ∈ a0, Q x1) :
    wp (vcall C frz 4 [u0] H) (fun r _ => r = .bool true) := by
  have rd : Rd acF H u0 a0 := IsS_rd_ofA (D := acF) rfl knA_is s0
  have hm : a0.length ≤ 9223372036854775807 := by have := w0.1; simpa [maxLen] using this
  rw [vcall_go (fn := Tryd.f4) Tryd.func4 rfl (by kernel_rfl) rfl]
  have sz := fun F => szActSA_c (frz := F) u0 a0 1048576 rd (by omega) (by omega) hm
  simp [sz]
  refine wp_dec ?_ ?_ <;> intro g0
  · simp
  simp
  have hl : a0.length ≤ 1048576 := by omega
  refine wp_thn (toActSA_w u0 a0 rd (by omega)) ?_
  rintro v1 H1 ⟨o1, n1, c1⟩
  have f1 := fun F => sScript_c (frz := F) v1 a0 o1.rd (by omega)
  simp [f1]
  have rd1 := rd.chg c1 (by simp)
  refine wp_thn (toActSA_w u0 a0 rd1 (by omega)) ?_
  rintro v2 H2 ⟨o2, n2, c2⟩
  have f2 := fun F => script_c (frz := F) v2 a0 o2.rd (by omega)
  simp [f2]
  have rd2 := rd1.chg c2 (by simp)
  refine wp_thn (toActSA_w u0 a0 rd2 (by omega)) ?_
  rintro v3 H3 ⟨o3, n3, c3⟩
  have f3 := fun F => eqActSA_c (frz := F) v2 v3 a0 a0 (o2.chg c3 (by simp)).rd o3.rd (by omega)
  simp [f3]
theorem law_FnExactScriptText {a0 : List AcD} {u0 : Value} (s0 : IsS knA H u0 a0) {Q : AcD → Prop} (w0 : a0.length ≤ maxLen ∧ ∀ x1 ∈ a0, Q x1) :
    vcall C frz 4 [u0] H = some (.bool true, H) := (law_FnExactScriptText_w s0 w0).exact (by simp) rfl
end Go.Proofs.YtglfimnjnnfdlaaDoor.V
