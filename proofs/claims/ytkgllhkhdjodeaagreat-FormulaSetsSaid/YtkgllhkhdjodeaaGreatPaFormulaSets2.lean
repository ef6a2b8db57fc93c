/- Parts of the walk, put together by a program. By an AI agent. -/
import Derived.Test.YtkgllhkhdjodeaaGreatPaFormulaSets1
import Derived.Test.YtkgllhkhdjodeaaGreatProg
import Derived.KernelRfl
set_option linter.unusedSimpArgs false
set_option linter.unusedVariables false
namespace Go.Proofs.YtkgllhkhdjodeaaGreat.F
open Go Go.Eng Go.Proofs
theorem one2 : One Tryz.prog 2 := ⟨by kernel_rfl,by kernel_rfl⟩
theorem one3 : One Tryz.prog 3 := ⟨by kernel_rfl,by kernel_rfl⟩
theorem one4 : One Tryz.prog 4 := ⟨by kernel_rfl,by kernel_rfl⟩
theorem one5 : One Tryz.prog 5 := ⟨by kernel_rfl,by kernel_rfl⟩
theorem one9 : One Tryz.prog 9 := ⟨by kernel_rfl,by kernel_rfl⟩
theorem one22 : One Tryz.prog 22 := ⟨by kernel_rfl,by kernel_rfl⟩
theorem one25 : One Tryz.prog 25 := ⟨by kernel_rfl,by kernel_rfl⟩
theorem one26 : One Tryz.prog 26 := ⟨by kernel_rfl,by kernel_rfl⟩
theorem one29 : One Tryz.prog 29 := ⟨by kernel_rfl,by kernel_rfl⟩
theorem one33 : One Tryz.prog 33 := ⟨by kernel_rfl,by kernel_rfl⟩
theorem one41 : One Tryz.prog 41 := ⟨by kernel_rfl,by kernel_rfl⟩
theorem one42 : One Tryz.prog 42 := ⟨by kernel_rfl,by kernel_rfl⟩
theorem one52 : One Tryz.prog 52 := ⟨by kernel_rfl,by kernel_rfl⟩
theorem one90 : One Tryz.prog 90 := ⟨by kernel_rfl,by kernel_rfl⟩
theorem one101 : One Tryz.prog 101 := ⟨by kernel_rfl,by kernel_rfl⟩
theorem one132 : One Tryz.prog 132 := ⟨by kernel_rfl,by kernel_rfl⟩
theorem one145 : One Tryz.prog 145 := ⟨by kernel_rfl,by kernel_rfl⟩
theorem one146 : One Tryz.prog 146 := ⟨by kernel_rfl,by kernel_rfl⟩
theorem one149 : One Tryz.prog 149 := ⟨by kernel_rfl,by kernel_rfl⟩
theorem one155 : One Tryz.prog 155 := ⟨by kernel_rfl,by kernel_rfl⟩
theorem one160 : One Tryz.prog 160 := ⟨by kernel_rfl,by kernel_rfl⟩
theorem one161 : One Tryz.prog 161 := ⟨by kernel_rfl,by kernel_rfl⟩
theorem one165 : One Tryz.prog 165 := ⟨by kernel_rfl,by kernel_rfl⟩
theorem one200 : One Tryz.prog 200 := ⟨by kernel_rfl,by kernel_rfl⟩
theorem one209 : One Tryz.prog 209 := ⟨by kernel_rfl,by kernel_rfl⟩
theorem one221 : One Tryz.prog 221 := ⟨by kernel_rfl,by kernel_rfl⟩
theorem one233 : One Tryz.prog 233 := ⟨by kernel_rfl,by kernel_rfl⟩
theorem one236 : One Tryz.prog 236 := ⟨by kernel_rfl,by kernel_rfl⟩
theorem one237 : One Tryz.prog 237 := ⟨by kernel_rfl,by kernel_rfl⟩
theorem agg24 : Agg Tryz.prog 24 3 := ⟨by kernel_rfl,by kernel_rfl⟩
theorem agg35 : Agg Tryz.prog 35 2 := ⟨by kernel_rfl,by kernel_rfl⟩
theorem agg44 : Agg Tryz.prog 44 2 := ⟨by kernel_rfl,by kernel_rfl⟩
theorem agg69 : Agg Tryz.prog 69 3 := ⟨by kernel_rfl,by kernel_rfl⟩
theorem agg92 : Agg Tryz.prog 92 12 := ⟨by kernel_rfl,by kernel_rfl⟩
theorem agg104 : Agg Tryz.prog 104 3 := ⟨by kernel_rfl,by kernel_rfl⟩
theorem agg108 : Agg Tryz.prog 108 4 := ⟨by kernel_rfl,by kernel_rfl⟩
theorem agg124 : Agg Tryz.prog 124 2 := ⟨by kernel_rfl,by kernel_rfl⟩
theorem agg130 : Agg Tryz.prog 130 4 := ⟨by kernel_rfl,by kernel_rfl⟩
theorem agg135 : Agg Tryz.prog 135 48 := ⟨by kernel_rfl,by kernel_rfl⟩
theorem agg139 : Agg Tryz.prog 139 1 := ⟨by kernel_rfl,by kernel_rfl⟩
theorem agg143 : Agg Tryz.prog 143 3 := ⟨by kernel_rfl,by kernel_rfl⟩
theorem agg148 : Agg Tryz.prog 148 2 := ⟨by kernel_rfl,by kernel_rfl⟩
theorem agg206 : Agg Tryz.prog 206 3 := ⟨by kernel_rfl,by kernel_rfl⟩
theorem agg212 : Agg Tryz.prog 212 50 := ⟨by kernel_rfl,by kernel_rfl⟩
theorem agg214 : Agg Tryz.prog 214 3 := ⟨by kernel_rfl,by kernel_rfl⟩
theorem agg223 : Agg Tryz.prog 223 6 := ⟨by kernel_rfl,by kernel_rfl⟩
theorem agg235 : Agg Tryz.prog 235 2 := ⟨by kernel_rfl,by kernel_rfl⟩
theorem agg243 : Agg Tryz.prog 243 2 := ⟨by kernel_rfl,by kernel_rfl⟩
theorem agg248 : Agg Tryz.prog 248 6 := ⟨by kernel_rfl,by kernel_rfl⟩
theorem zero3 : zeroB Tryz.prog 3 = some [.int .i64 0] := by kernel_rfl
theorem zero24 : zeroB Tryz.prog 24 = some [.int .u8 0,.string (str []),.slice none 0 0] := by kernel_rfl
theorem zero29 : zeroB Tryz.prog 29 = some [.int .i64 0] := by kernel_rfl
theorem zero33 : zeroB Tryz.prog 33 = some [.slice none 0 0] := by kernel_rfl
theorem zero35 : zeroB Tryz.prog 35 = some [.slice none 0 0,.int .i64 0] := by kernel_rfl
theorem zero41 : zeroB Tryz.prog 41 = some [.slice none 0 0] := by kernel_rfl
theorem zero52 : zeroB Tryz.prog 52 = some [.slice none 0 0] := by kernel_rfl
theorem zero69 : zeroB Tryz.prog 69 = some [.bool false,.int .u32 0,.slice none 0 0] := by kernel_rfl
theorem zero92 : zeroB Tryz.prog 92 = some [.int .u8 0,.int .u8 0,.int .u8 0,.int .u8 0,.int .u8 0,.int .i64 0,.int .i64 0,.bool false,.int .u32 0,.int .u32 0,.slice none 0 0,.int .i64 0] := by kernel_rfl
theorem zero101 : zeroB Tryz.prog 101 = some [.nilFunc] := by kernel_rfl
theorem zero104 : zeroB Tryz.prog 104 = some [.int .i64 0,.int .i64 0,.int .i64 0] := by kernel_rfl
theorem zero124 : zeroB Tryz.prog 124 = some [.int .u32 0,.int .u32 0] := by kernel_rfl
theorem zero130 : zeroB Tryz.prog 130 = some [.int .i64 0,.int .i64 0,.int .u32 0,.bool false] := by kernel_rfl
theorem zero139 : zeroB Tryz.prog 139 = some [.int .i64 0] := by kernel_rfl
theorem zero148 : zeroB Tryz.prog 148 = some [.pointer none,.slice none 0 0] := by kernel_rfl
theorem zero149 : zeroB Tryz.prog 149 = some [.nilFunc] := by kernel_rfl
theorem zero155 : zeroB Tryz.prog 155 = some [.nilFunc] := by kernel_rfl
theorem zero200 : zeroB Tryz.prog 200 = some [.pointer none] := by kernel_rfl
theorem zero206 : zeroB Tryz.prog 206 = some [.int .i64 0,.int .i64 0,.int .i64 0] := by kernel_rfl
theorem zero214 : zeroB Tryz.prog 214 = some [.int .i64 0,.int .i64 0,.int .i64 0] := by kernel_rfl
theorem zero236 : zeroB Tryz.prog 236 = some [.map none] := by kernel_rfl
theorem zero237 : zeroB Tryz.prog 237 = some [.nilFunc] := by kernel_rfl
theorem zero243 : zeroB Tryz.prog 243 = some [.int .i64 0,.int .i64 0] := by kernel_rfl
theorem zero248 : zeroB Tryz.prog 248 = some [.string (str []),.int .u8 0,.string (str []),.int .u8 0,.string (str []),.int .u8 0] := by kernel_rfl
theorem fld24_0 : fldB Tryz.prog 24 0 = some 0 := by kernel_rfl
theorem fld24_1 : fldB Tryz.prog 24 1 = some 1 := by kernel_rfl
theorem fld24_2 : fldB Tryz.prog 24 2 = some 2 := by kernel_rfl
theorem fld35_0 : fldB Tryz.prog 35 0 = some 0 := by kernel_rfl
theorem fld35_1 : fldB Tryz.prog 35 1 = some 1 := by kernel_rfl
theorem fld44_0 : fldB Tryz.prog 44 0 = some 0 := by kernel_rfl
theorem fld44_1 : fldB Tryz.prog 44 1 = some 1 := by kernel_rfl
theorem fld69_0 : fldB Tryz.prog 69 0 = some 0 := by kernel_rfl
theorem fld69_1 : fldB Tryz.prog 69 1 = some 1 := by kernel_rfl
theorem fld69_2 : fldB Tryz.prog 69 2 = some 2 := by kernel_rfl
theorem fld92_0 : fldB Tryz.prog 92 0 = some 0 := by kernel_rfl
theorem fld92_1 : fldB Tryz.prog 92 1 = some 1 := by kernel_rfl
theorem fld92_2 : fldB Tryz.prog 92 2 = some 2 := by kernel_rfl
theorem fld92_3 : fldB Tryz.prog 92 3 = some 3 := by kernel_rfl
theorem fld92_4 : fldB Tryz.prog 92 4 = some 4 := by kernel_rfl
theorem fld92_5 : fldB Tryz.prog 92 5 = some 5 := by kernel_rfl
theorem fld92_6 : fldB Tryz.prog 92 6 = some 6 := by kernel_rfl
theorem fld92_7 : fldB Tryz.prog 92 7 = some 7 := by kernel_rfl
theorem fld92_8 : fldB Tryz.prog 92 8 = some 8 := by kernel_rfl
theorem fld92_9 : fldB Tryz.prog 92 9 = some 9 := by kernel_rfl
theorem fld92_10 : fldB Tryz.prog 92 10 = some 10 := by kernel_rfl
theorem fld92_11 : fldB Tryz.prog 92 11 = some 11 := by kernel_rfl
theorem fld104_0 : fldB Tryz.prog 104 0 = some 0 := by kernel_rfl
theorem fld104_1 : fldB Tryz.prog 104 1 = some 1 := by kernel_rfl
theorem fld104_2 : fldB Tryz.prog 104 2 = some 2 := by kernel_rfl
theorem fld108_0 : fldB Tryz.prog 108 0 = some 0 := by kernel_rfl
theorem fld108_1 : fldB Tryz.prog 108 1 = some 3 := by kernel_rfl
theorem fld124_0 : fldB Tryz.prog 124 0 = some 0 := by kernel_rfl
theorem fld124_1 : fldB Tryz.prog 124 1 = some 1 := by kernel_rfl
theorem fld130_0 : fldB Tryz.prog 130 0 = some 0 := by kernel_rfl
theorem fld130_1 : fldB Tryz.prog 130 1 = some 1 := by kernel_rfl
theorem fld130_2 : fldB Tryz.prog 130 2 = some 2 := by kernel_rfl
theorem fld130_3 : fldB Tryz.prog 130 3 = some 3 := by kernel_rfl
theorem fld139_0 : fldB Tryz.prog 139 0 = some 0 := by kernel_rfl
theorem fld143_0 : fldB Tryz.prog 143 0 = some 0 := by kernel_rfl
theorem fld143_1 : fldB Tryz.prog 143 1 = some 1 := by kernel_rfl
theorem fld143_2 : fldB Tryz.prog 143 2 = some 2 := by kernel_rfl
theorem fld148_0 : fldB Tryz.prog 148 0 = some 0 := by kernel_rfl
theorem fld148_1 : fldB Tryz.prog 148 1 = some 1 := by kernel_rfl
theorem fld212_0 : fldB Tryz.prog 212 0 = some 0 := by kernel_rfl
theorem fld212_1 : fldB Tryz.prog 212 1 = some 1 := by kernel_rfl
theorem fld212_2 : fldB Tryz.prog 212 2 = some 25 := by kernel_rfl
theorem fld212_3 : fldB Tryz.prog 212 3 = some 26 := by kernel_rfl
theorem fld214_0 : fldB Tryz.prog 214 0 = some 0 := by kernel_rfl
theorem fld214_1 : fldB Tryz.prog 214 1 = some 1 := by kernel_rfl
theorem fld214_2 : fldB Tryz.prog 214 2 = some 2 := by kernel_rfl
theorem fld223_0 : fldB Tryz.prog 223 0 = some 0 := by kernel_rfl
theorem fld223_1 : fldB Tryz.prog 223 1 = some 1 := by kernel_rfl
theorem fld223_2 : fldB Tryz.prog 223 2 = some 3 := by kernel_rfl
theorem fld223_3 : fldB Tryz.prog 223 3 = some 5 := by kernel_rfl
theorem fld235_0 : fldB Tryz.prog 235 0 = some 0 := by kernel_rfl
theorem fld235_1 : fldB Tryz.prog 235 1 = some 1 := by kernel_rfl
theorem fld247_0 : fldB Tryz.prog 247 0 = some 0 := by kernel_rfl
theorem fld247_1 : fldB Tryz.prog 247 1 = some 1 := by kernel_rfl
theorem stT24 : StT Tryz.prog 24 [.int .u8 0,.string (str []),.slice none 0 0] [(0,1),(1,1),(2,1)] := ⟨by kernel_rfl,by kernel_rfl⟩
theorem stT35 : StT Tryz.prog 35 [.slice none 0 0,.int .i64 0] [(0,1),(1,1)] := ⟨by kernel_rfl,by kernel_rfl⟩
theorem stT44 : StT Tryz.prog 44 [.slice none 0 0,.slice none 0 0] [(0,1),(1,1)] := ⟨by kernel_rfl,by kernel_rfl⟩
theorem stT69 : StT Tryz.prog 69 [.bool false,.int .u32 0,.slice none 0 0] [(0,1),(1,1),(2,1)] := ⟨by kernel_rfl,by kernel_rfl⟩
theorem stT104 : StT Tryz.prog 104 [.int .i64 0,.int .i64 0,.int .i64 0] [(0,1),(1,1),(2,1)] := ⟨by kernel_rfl,by kernel_rfl⟩
theorem stT108 : StT Tryz.prog 108 [.int .u8 0,.string (str []),.slice none 0 0,.int .i64 0] [(0,3),(3,1)] := ⟨by kernel_rfl,by kernel_rfl⟩
theorem stT124 : StT Tryz.prog 124 [.int .u32 0,.int .u32 0] [(0,1),(1,1)] := ⟨by kernel_rfl,by kernel_rfl⟩
theorem stT130 : StT Tryz.prog 130 [.int .i64 0,.int .i64 0,.int .u32 0,.bool false] [(0,1),(1,1),(2,1),(3,1)] := ⟨by kernel_rfl,by kernel_rfl⟩
theorem arT135 : ArT Tryz.prog 135 133 24 2 [.int .i64 0,.int .i64 0,.int .i64 0,.int .i64 0,.int .i64 0,.int .i64 0,.int .i64 0,.int .i64 0,.int .i64 0,.int .i64 0,.int .i64 0,.int .i64 0,.int .i64 0,.int .i64 0,.int .i64 0,.int .i64 0,.int .i64 0,.int .i64 0,.int .i64 0,.int .i64 0,.int .i64 0,.int .i64 0,.int .i64 0,.int .i64 0,.int .i64 0,.int .i64 0,.int .i64 0,.int .i64 0,.int .i64 0,.int .i64 0,.int .i64 0,.int .i64 0,.int .i64 0,.int .i64 0,.int .i64 0,.int .i64 0,.int .i64 0,.int .i64 0,.int .i64 0,.int .i64 0,.int .i64 0,.int .i64 0,.int .i64 0,.int .i64 0,.int .i64 0,.int .i64 0,.int .i64 0,.int .i64 0] := ⟨by kernel_rfl,by kernel_rfl,by kernel_rfl⟩
theorem stT139 : StT Tryz.prog 139 [.int .i64 0] [(0,1)] := ⟨by kernel_rfl,by kernel_rfl⟩
theorem stT143 : StT Tryz.prog 143 [.string (str []),.int .i64 0,.string (str [])] [(0,1),(1,1),(2,1)] := ⟨by kernel_rfl,by kernel_rfl⟩
theorem arT194 : ArT Tryz.prog 194 9 10 1 [.string (str []),.string (str []),.string (str []),.string (str []),.string (str []),.string (str []),.string (str []),.string (str []),.string (str []),.string (str [])] := ⟨by kernel_rfl,by kernel_rfl,by kernel_rfl⟩
theorem und194 : Tryz.prog.underlying 194 = some (.array 10 9) := by kernel_rfl
theorem arT206 : ArT Tryz.prog 206 3 3 1 [.int .i64 0,.int .i64 0,.int .i64 0] := ⟨by kernel_rfl,by kernel_rfl,by kernel_rfl⟩
theorem stT212 : StT Tryz.prog 212 [.pointer none,.int .i64 0,.int .i64 0,.int .i64 0,.int .i64 0,.int .i64 0,.int .i64 0,.int .i64 0,.int .i64 0,.int .i64 0,.int .i64 0,.int .i64 0,.int .i64 0,.int .i64 0,.int .i64 0,.int .i64 0,.int .i64 0,.int .i64 0,.int .i64 0,.int .i64 0,.int .i64 0,.int .i64 0,.int .i64 0,.int .i64 0,.int .i64 0,.slice none 0 0,.slice none 0 0,.slice none 0 0,.slice none 0 0,.slice none 0 0,.slice none 0 0,.slice none 0 0,.slice none 0 0,.slice none 0 0,.slice none 0 0,.slice none 0 0,.slice none 0 0,.slice none 0 0,.slice none 0 0,.slice none 0 0,.slice none 0 0,.slice none 0 0,.slice none 0 0,.slice none 0 0,.slice none 0 0,.slice none 0 0,.slice none 0 0,.slice none 0 0,.slice none 0 0,.slice none 0 0] [(0,1),(1,24),(25,1),(26,24)] := ⟨by kernel_rfl,by kernel_rfl⟩
theorem stT214 : StT Tryz.prog 214 [.int .i64 0,.int .i64 0,.int .i64 0] [(0,1),(1,1),(2,1)] := ⟨by kernel_rfl,by kernel_rfl⟩
theorem stT223 : StT Tryz.prog 223 [.pointer none,.slice none 0 0,.int .i64 0,.slice none 0 0,.int .i64 0,.map none] [(0,1),(1,2),(3,2),(5,1)] := ⟨by kernel_rfl,by kernel_rfl⟩
theorem stT235 : StT Tryz.prog 235 [.slice none 0 0,.map none] [(0,1),(1,1)] := ⟨by kernel_rfl,by kernel_rfl⟩
theorem arT243 : ArT Tryz.prog 243 3 2 1 [.int .i64 0,.int .i64 0] := ⟨by kernel_rfl,by kernel_rfl,by kernel_rfl⟩
theorem stT247 : StT Tryz.prog 247 [.string (str []),.int .u8 0] [(0,1),(1,1)] := ⟨by kernel_rfl,by kernel_rfl⟩
theorem arT248 : ArT Tryz.prog 248 247 3 2 [.string (str []),.int .u8 0,.string (str []),.int .u8 0,.string (str []),.int .u8 0] := ⟨by kernel_rfl,by kernel_rfl,by kernel_rfl⟩
theorem el22 : ElT Tryz.prog 22 24 3 48 := ElT.of (by kernel_rfl) (by decide)
theorem el33 : ElT Tryz.prog 33 104 3 24 := ElT.of (by kernel_rfl) (by decide)
theorem el41 : ElT Tryz.prog 41 3 1 8 := ElT.of (by kernel_rfl) (by decide)
theorem el48 : ElT Tryz.prog 48 35 2 32 := ElT.of (by kernel_rfl) (by decide)
theorem el52 : ElT Tryz.prog 52 41 1 24 := ElT.of (by kernel_rfl) (by decide)
theorem el90 : ElT Tryz.prog 90 2 1 8 := ElT.of (by kernel_rfl) (by decide)
theorem el209 : ElT Tryz.prog 209 214 3 24 := ElT.of (by kernel_rfl) (by decide)
theorem el225 : ElT Tryz.prog 225 130 4 24 := ElT.of (by kernel_rfl) (by decide)
theorem ez22 : zeroB Tryz.prog 24 = some [.int .u8 0,.string (str []),.slice none 0 0] := by kernel_rfl
theorem ez33 : zeroB Tryz.prog 104 = some [.int .i64 0,.int .i64 0,.int .i64 0] := by kernel_rfl
theorem ez41 : zeroB Tryz.prog 3 = some [.int .i64 0] := by kernel_rfl
theorem ez48 : zeroB Tryz.prog 35 = some [.slice none 0 0,.int .i64 0] := by kernel_rfl
theorem ez52 : zeroB Tryz.prog 41 = some [.slice none 0 0] := by kernel_rfl
theorem ez146 : zeroB Tryz.prog 5 = some [.int .u8 0] := by kernel_rfl
theorem ez209 : zeroB Tryz.prog 214 = some [.int .i64 0,.int .i64 0,.int .i64 0] := by kernel_rfl
theorem ez225 : zeroB Tryz.prog 130 = some [.int .i64 0,.int .i64 0,.int .u32 0,.bool false] := by kernel_rfl
theorem sl22 : SlT Tryz.prog 22 24 3 := ⟨by kernel_rfl,by kernel_rfl⟩
theorem sl33 : SlT Tryz.prog 33 104 3 := ⟨by kernel_rfl,by kernel_rfl⟩
theorem sl41 : SlT Tryz.prog 41 3 1 := ⟨by kernel_rfl,by kernel_rfl⟩
theorem sl46 : SlT Tryz.prog 46 92 12 := ⟨by kernel_rfl,by kernel_rfl⟩
theorem sl48 : SlT Tryz.prog 48 35 2 := ⟨by kernel_rfl,by kernel_rfl⟩
theorem sl52 : SlT Tryz.prog 52 41 1 := ⟨by kernel_rfl,by kernel_rfl⟩
theorem sl90 : SlT Tryz.prog 90 2 1 := ⟨by kernel_rfl,by kernel_rfl⟩
theorem sl146 : SlT Tryz.prog 146 5 1 := ⟨by kernel_rfl,by kernel_rfl⟩
theorem sl209 : SlT Tryz.prog 209 214 3 := ⟨by kernel_rfl,by kernel_rfl⟩
theorem sl225 : SlT Tryz.prog 225 130 4 := ⟨by kernel_rfl,by kernel_rfl⟩
theorem und9 : Tryz.prog.underlying 9 = some .string := by kernel_rfl
theorem und22 : Tryz.prog.underlying 22 = some (.slice 24) := by kernel_rfl
theorem und25 : Tryz.prog.underlying 25 = some (.slice 9) := by kernel_rfl
theorem und33 : Tryz.prog.underlying 33 = some (.slice 104) := by kernel_rfl
theorem und41 : Tryz.prog.underlying 41 = some (.slice 3) := by kernel_rfl
theorem und42 : Tryz.prog.underlying 42 = some (.slice 4) := by kernel_rfl
theorem und46 : Tryz.prog.underlying 46 = some (.slice 92) := by kernel_rfl
theorem und48 : Tryz.prog.underlying 48 = some (.slice 35) := by kernel_rfl
theorem und49 : Tryz.prog.underlying 49 = some (.slice 44) := by kernel_rfl
theorem und52 : Tryz.prog.underlying 52 = some (.slice 41) := by kernel_rfl
theorem und90 : Tryz.prog.underlying 90 = some (.slice 2) := by kernel_rfl
theorem und146 : Tryz.prog.underlying 146 = some (.slice 5) := by kernel_rfl
theorem und181 : Tryz.prog.underlying 181 = some (.slice 108) := by kernel_rfl
theorem und209 : Tryz.prog.underlying 209 = some (.slice 214) := by kernel_rfl
theorem und225 : Tryz.prog.underlying 225 = some (.slice 130) := by kernel_rfl
theorem conc139 : Tryz.prog.concrete 139 = true := by kernel_rfl
theorem fun9 : funB Tryz.prog 9 = some true := by kernel_rfl
theorem fun18 : funB Tryz.prog 18 = some true := by kernel_rfl
theorem fun20 : funB Tryz.prog 20 = some true := by kernel_rfl
theorem fun29 : funB Tryz.prog 29 = some true := by kernel_rfl
theorem fun30 : funB Tryz.prog 30 = some true := by kernel_rfl
theorem fun31 : funB Tryz.prog 31 = some true := by kernel_rfl
theorem fun32 : funB Tryz.prog 32 = some true := by kernel_rfl
theorem fun33 : funB Tryz.prog 33 = some true := by kernel_rfl
theorem fun34 : funB Tryz.prog 34 = some true := by kernel_rfl
theorem fun35 : funB Tryz.prog 35 = some true := by kernel_rfl
theorem fun39 : funB Tryz.prog 39 = some true := by kernel_rfl
theorem fun40 : funB Tryz.prog 40 = some true := by kernel_rfl
theorem fun41 : funB Tryz.prog 41 = some true := by kernel_rfl
theorem fun42 : funB Tryz.prog 42 = some true := by kernel_rfl
theorem fun51 : funB Tryz.prog 51 = some true := by kernel_rfl
theorem fun53 : funB Tryz.prog 53 = some true := by kernel_rfl
theorem fun54 : funB Tryz.prog 54 = some true := by kernel_rfl
theorem fun55 : funB Tryz.prog 55 = some true := by kernel_rfl
theorem fun56 : funB Tryz.prog 56 = some true := by kernel_rfl
theorem fun57 : funB Tryz.prog 57 = some true := by kernel_rfl
theorem fun63 : funB Tryz.prog 63 = some true := by kernel_rfl
theorem fun73 : funB Tryz.prog 73 = some true := by kernel_rfl
theorem fun74 : funB Tryz.prog 74 = some true := by kernel_rfl
theorem fun75 : funB Tryz.prog 75 = some true := by kernel_rfl
theorem fun76 : funB Tryz.prog 76 = some true := by kernel_rfl
theorem fun77 : funB Tryz.prog 77 = some true := by kernel_rfl
theorem fun78 : funB Tryz.prog 78 = some true := by kernel_rfl
theorem fun79 : funB Tryz.prog 79 = some true := by kernel_rfl
theorem fun80 : funB Tryz.prog 80 = some true := by kernel_rfl
theorem fun81 : funB Tryz.prog 81 = some true := by kernel_rfl
theorem fun82 : funB Tryz.prog 82 = some true := by kernel_rfl
theorem fun84 : funB Tryz.prog 84 = some true := by kernel_rfl
theorem fun85 : funB Tryz.prog 85 = some true := by kernel_rfl
theorem fun86 : funB Tryz.prog 86 = some true := by kernel_rfl
theorem fun87 : funB Tryz.prog 87 = some true := by kernel_rfl
theorem fun88 : funB Tryz.prog 88 = some true := by kernel_rfl
theorem fun89 : funB Tryz.prog 89 = some true := by kernel_rfl
theorem fun90 : funB Tryz.prog 90 = some true := by kernel_rfl
theorem fun91 : funB Tryz.prog 91 = some true := by kernel_rfl
theorem fun92 : funB Tryz.prog 92 = some true := by kernel_rfl
theorem fun93 : funB Tryz.prog 93 = some true := by kernel_rfl
theorem fun94 : funB Tryz.prog 94 = some true := by kernel_rfl
theorem fun95 : funB Tryz.prog 95 = some true := by kernel_rfl
theorem fun99 : funB Tryz.prog 99 = some true := by kernel_rfl
theorem fun100 : funB Tryz.prog 100 = some true := by kernel_rfl
theorem fun101 : funB Tryz.prog 101 = some true := by kernel_rfl
theorem fun102 : funB Tryz.prog 102 = some true := by kernel_rfl
theorem fun103 : funB Tryz.prog 103 = some true := by kernel_rfl
theorem fun104 : funB Tryz.prog 104 = some true := by kernel_rfl
theorem fun105 : funB Tryz.prog 105 = some true := by kernel_rfl
theorem fun106 : funB Tryz.prog 106 = some true := by kernel_rfl
theorem fun107 : funB Tryz.prog 107 = some true := by kernel_rfl
theorem fun108 : funB Tryz.prog 108 = some true := by kernel_rfl
theorem fun109 : funB Tryz.prog 109 = some true := by kernel_rfl
theorem fun110 : funB Tryz.prog 110 = some true := by kernel_rfl
theorem fun111 : funB Tryz.prog 111 = some true := by kernel_rfl
theorem fun112 : funB Tryz.prog 112 = some true := by kernel_rfl
theorem fun122 : funB Tryz.prog 122 = some true := by kernel_rfl
theorem fun128 : funB Tryz.prog 128 = some true := by kernel_rfl
theorem fun129 : funB Tryz.prog 129 = some true := by kernel_rfl
theorem fun130 : funB Tryz.prog 130 = some true := by kernel_rfl
theorem fun131 : funB Tryz.prog 131 = some true := by kernel_rfl
theorem fun132 : funB Tryz.prog 132 = some true := by kernel_rfl
theorem fun133 : funB Tryz.prog 133 = some true := by kernel_rfl
theorem fun134 : funB Tryz.prog 134 = some true := by kernel_rfl
theorem fun135 : funB Tryz.prog 135 = some true := by kernel_rfl
theorem fun136 : funB Tryz.prog 136 = some true := by kernel_rfl
theorem fun137 : funB Tryz.prog 137 = some true := by kernel_rfl
theorem fun138 : funB Tryz.prog 138 = some true := by kernel_rfl
theorem fun139 : funB Tryz.prog 139 = some true := by kernel_rfl
theorem fun140 : funB Tryz.prog 140 = some true := by kernel_rfl
theorem fun141 : funB Tryz.prog 141 = some true := by kernel_rfl
theorem fun142 : funB Tryz.prog 142 = some true := by kernel_rfl
theorem fun143 : funB Tryz.prog 143 = some true := by kernel_rfl
theorem fun144 : funB Tryz.prog 144 = some true := by kernel_rfl
theorem fun145 : funB Tryz.prog 145 = some true := by kernel_rfl
theorem fun146 : funB Tryz.prog 146 = some true := by kernel_rfl
theorem fun147 : funB Tryz.prog 147 = some true := by kernel_rfl
theorem fun148 : funB Tryz.prog 148 = some true := by kernel_rfl
theorem fun149 : funB Tryz.prog 149 = some true := by kernel_rfl
theorem fun150 : funB Tryz.prog 150 = some true := by kernel_rfl
theorem fun151 : funB Tryz.prog 151 = some true := by kernel_rfl
theorem fun152 : funB Tryz.prog 152 = some true := by kernel_rfl
theorem fun153 : funB Tryz.prog 153 = some true := by kernel_rfl
theorem fun154 : funB Tryz.prog 154 = some true := by kernel_rfl
theorem fun155 : funB Tryz.prog 155 = some true := by kernel_rfl
theorem fun156 : funB Tryz.prog 156 = some true := by kernel_rfl
theorem fun160 : funB Tryz.prog 160 = some true := by kernel_rfl
theorem fun161 : funB Tryz.prog 161 = some true := by kernel_rfl
theorem fun162 : funB Tryz.prog 162 = some true := by kernel_rfl
theorem fun163 : funB Tryz.prog 163 = some true := by kernel_rfl
theorem fun164 : funB Tryz.prog 164 = some true := by kernel_rfl
theorem fun165 : funB Tryz.prog 165 = some true := by kernel_rfl
theorem fun166 : funB Tryz.prog 166 = some true := by kernel_rfl
theorem fun167 : funB Tryz.prog 167 = some true := by kernel_rfl
theorem fun168 : funB Tryz.prog 168 = some true := by kernel_rfl
theorem fun170 : funB Tryz.prog 170 = some true := by kernel_rfl
theorem fun171 : funB Tryz.prog 171 = some true := by kernel_rfl
theorem fun172 : funB Tryz.prog 172 = some true := by kernel_rfl
theorem fun173 : funB Tryz.prog 173 = some true := by kernel_rfl
theorem fun175 : funB Tryz.prog 175 = some true := by kernel_rfl
theorem fun176 : funB Tryz.prog 176 = some true := by kernel_rfl
theorem fun177 : funB Tryz.prog 177 = some true := by kernel_rfl
theorem fun178 : funB Tryz.prog 178 = some true := by kernel_rfl
theorem fun179 : funB Tryz.prog 179 = some true := by kernel_rfl
theorem fun180 : funB Tryz.prog 180 = some true := by kernel_rfl
theorem fun181 : funB Tryz.prog 181 = some true := by kernel_rfl
theorem fun182 : funB Tryz.prog 182 = some true := by kernel_rfl
instance : OneI Tryz.prog 2 := ⟨one2⟩
instance : OneI Tryz.prog 3 := ⟨one3⟩
instance : OneI Tryz.prog 4 := ⟨one4⟩
instance : OneI Tryz.prog 5 := ⟨one5⟩
instance : OneI Tryz.prog 9 := ⟨one9⟩
instance : OneI Tryz.prog 22 := ⟨one22⟩
instance : OneI Tryz.prog 25 := ⟨one25⟩
instance : OneI Tryz.prog 26 := ⟨one26⟩
instance : OneI Tryz.prog 29 := ⟨one29⟩
instance : OneI Tryz.prog 33 := ⟨one33⟩
instance : OneI Tryz.prog 41 := ⟨one41⟩
instance : OneI Tryz.prog 42 := ⟨one42⟩
instance : OneI Tryz.prog 52 := ⟨one52⟩
instance : OneI Tryz.prog 90 := ⟨one90⟩
instance : OneI Tryz.prog 101 := ⟨one101⟩
instance : OneI Tryz.prog 132 := ⟨one132⟩
instance : OneI Tryz.prog 145 := ⟨one145⟩
instance : OneI Tryz.prog 146 := ⟨one146⟩
instance : OneI Tryz.prog 149 := ⟨one149⟩
instance : OneI Tryz.prog 155 := ⟨one155⟩
instance : OneI Tryz.prog 160 := ⟨one160⟩
instance : OneI Tryz.prog 161 := ⟨one161⟩
instance : OneI Tryz.prog 165 := ⟨one165⟩
instance : OneI Tryz.prog 200 := ⟨one200⟩
instance : OneI Tryz.prog 209 := ⟨one209⟩
instance : OneI Tryz.prog 221 := ⟨one221⟩
instance : OneI Tryz.prog 233 := ⟨one233⟩
instance : OneI Tryz.prog 236 := ⟨one236⟩
instance : OneI Tryz.prog 237 := ⟨one237⟩
instance : AggI Tryz.prog 24 3 := ⟨agg24⟩
instance : AggI Tryz.prog 35 2 := ⟨agg35⟩
instance : AggI Tryz.prog 44 2 := ⟨agg44⟩
instance : AggI Tryz.prog 69 3 := ⟨agg69⟩
instance : AggI Tryz.prog 92 12 := ⟨agg92⟩
instance : AggI Tryz.prog 104 3 := ⟨agg104⟩
instance : AggI Tryz.prog 108 4 := ⟨agg108⟩
instance : AggI Tryz.prog 124 2 := ⟨agg124⟩
instance : AggI Tryz.prog 130 4 := ⟨agg130⟩
instance : AggI Tryz.prog 135 48 := ⟨agg135⟩
instance : AggI Tryz.prog 139 1 := ⟨agg139⟩
instance : AggI Tryz.prog 143 3 := ⟨agg143⟩
instance : AggI Tryz.prog 148 2 := ⟨agg148⟩
instance : AggI Tryz.prog 206 3 := ⟨agg206⟩
instance : AggI Tryz.prog 212 50 := ⟨agg212⟩
instance : AggI Tryz.prog 214 3 := ⟨agg214⟩
instance : AggI Tryz.prog 223 6 := ⟨agg223⟩
instance : AggI Tryz.prog 235 2 := ⟨agg235⟩
instance : AggI Tryz.prog 243 2 := ⟨agg243⟩
instance : AggI Tryz.prog 248 6 := ⟨agg248⟩
instance : FldI Tryz.prog 24 0 0 := ⟨fld24_0⟩
instance : FldI Tryz.prog 24 1 1 := ⟨fld24_1⟩
instance : FldI Tryz.prog 24 2 2 := ⟨fld24_2⟩
instance : FldI Tryz.prog 35 0 0 := ⟨fld35_0⟩
instance : FldI Tryz.prog 35 1 1 := ⟨fld35_1⟩
instance : FldI Tryz.prog 44 0 0 := ⟨fld44_0⟩
instance : FldI Tryz.prog 44 1 1 := ⟨fld44_1⟩
instance : FldI Tryz.prog 69 0 0 := ⟨fld69_0⟩
instance : FldI Tryz.prog 69 1 1 := ⟨fld69_1⟩
instance : FldI Tryz.prog 69 2 2 := ⟨fld69_2⟩
instance : FldI Tryz.prog 92 0 0 := ⟨fld92_0⟩
instance : FldI Tryz.prog 92 1 1 := ⟨fld92_1⟩
instance : FldI Tryz.prog 92 2 2 := ⟨fld92_2⟩
instance : FldI Tryz.prog 92 3 3 := ⟨fld92_3⟩
instance : FldI Tryz.prog 92 4 4 := ⟨fld92_4⟩
instance : FldI Tryz.prog 92 5 5 := ⟨fld92_5⟩
instance : FldI Tryz.prog 92 6 6 := ⟨fld92_6⟩
instance : FldI Tryz.prog 92 7 7 := ⟨fld92_7⟩
instance : FldI Tryz.prog 92 8 8 := ⟨fld92_8⟩
instance : FldI Tryz.prog 92 9 9 := ⟨fld92_9⟩
instance : FldI Tryz.prog 92 10 10 := ⟨fld92_10⟩
instance : FldI Tryz.prog 92 11 11 := ⟨fld92_11⟩
instance : FldI Tryz.prog 104 0 0 := ⟨fld104_0⟩
instance : FldI Tryz.prog 104 1 1 := ⟨fld104_1⟩
instance : FldI Tryz.prog 104 2 2 := ⟨fld104_2⟩
instance : FldI Tryz.prog 108 0 0 := ⟨fld108_0⟩
instance : FldI Tryz.prog 108 1 3 := ⟨fld108_1⟩
instance : FldI Tryz.prog 124 0 0 := ⟨fld124_0⟩
instance : FldI Tryz.prog 124 1 1 := ⟨fld124_1⟩
instance : FldI Tryz.prog 130 0 0 := ⟨fld130_0⟩
instance : FldI Tryz.prog 130 1 1 := ⟨fld130_1⟩
instance : FldI Tryz.prog 130 2 2 := ⟨fld130_2⟩
instance : FldI Tryz.prog 130 3 3 := ⟨fld130_3⟩
instance : FldI Tryz.prog 139 0 0 := ⟨fld139_0⟩
instance : FldI Tryz.prog 143 0 0 := ⟨fld143_0⟩
instance : FldI Tryz.prog 143 1 1 := ⟨fld143_1⟩
instance : FldI Tryz.prog 143 2 2 := ⟨fld143_2⟩
instance : FldI Tryz.prog 148 0 0 := ⟨fld148_0⟩
instance : FldI Tryz.prog 148 1 1 := ⟨fld148_1⟩
instance : FldI Tryz.prog 212 0 0 := ⟨fld212_0⟩
instance : FldI Tryz.prog 212 1 1 := ⟨fld212_1⟩
instance : FldI Tryz.prog 212 2 25 := ⟨fld212_2⟩
instance : FldI Tryz.prog 212 3 26 := ⟨fld212_3⟩
instance : FldI Tryz.prog 214 0 0 := ⟨fld214_0⟩
instance : FldI Tryz.prog 214 1 1 := ⟨fld214_1⟩
instance : FldI Tryz.prog 214 2 2 := ⟨fld214_2⟩
instance : FldI Tryz.prog 223 0 0 := ⟨fld223_0⟩
instance : FldI Tryz.prog 223 1 1 := ⟨fld223_1⟩
instance : FldI Tryz.prog 223 2 3 := ⟨fld223_2⟩
instance : FldI Tryz.prog 223 3 5 := ⟨fld223_3⟩
instance : FldI Tryz.prog 235 0 0 := ⟨fld235_0⟩
instance : FldI Tryz.prog 235 1 1 := ⟨fld235_1⟩
instance : FldI Tryz.prog 247 0 0 := ⟨fld247_0⟩
instance : FldI Tryz.prog 247 1 1 := ⟨fld247_1⟩
instance : StI Tryz.prog 24 [.int .u8 0,.string (str []),.slice none 0 0] [(0,1),(1,1),(2,1)] := ⟨stT24⟩
instance : StI Tryz.prog 35 [.slice none 0 0,.int .i64 0] [(0,1),(1,1)] := ⟨stT35⟩
instance : StI Tryz.prog 44 [.slice none 0 0,.slice none 0 0] [(0,1),(1,1)] := ⟨stT44⟩
instance : StI Tryz.prog 69 [.bool false,.int .u32 0,.slice none 0 0] [(0,1),(1,1),(2,1)] := ⟨stT69⟩
instance : StI Tryz.prog 104 [.int .i64 0,.int .i64 0,.int .i64 0] [(0,1),(1,1),(2,1)] := ⟨stT104⟩
instance : StI Tryz.prog 108 [.int .u8 0,.string (str []),.slice none 0 0,.int .i64 0] [(0,3),(3,1)] := ⟨stT108⟩
instance : StI Tryz.prog 124 [.int .u32 0,.int .u32 0] [(0,1),(1,1)] := ⟨stT124⟩
instance : StI Tryz.prog 130 [.int .i64 0,.int .i64 0,.int .u32 0,.bool false] [(0,1),(1,1),(2,1),(3,1)] := ⟨stT130⟩
instance : StI Tryz.prog 139 [.int .i64 0] [(0,1)] := ⟨stT139⟩
instance : StI Tryz.prog 143 [.string (str []),.int .i64 0,.string (str [])] [(0,1),(1,1),(2,1)] := ⟨stT143⟩
instance : StI Tryz.prog 212 [.pointer none,.int .i64 0,.int .i64 0,.int .i64 0,.int .i64 0,.int .i64 0,.int .i64 0,.int .i64 0,.int .i64 0,.int .i64 0,.int .i64 0,.int .i64 0,.int .i64 0,.int .i64 0,.int .i64 0,.int .i64 0,.int .i64 0,.int .i64 0,.int .i64 0,.int .i64 0,.int .i64 0,.int .i64 0,.int .i64 0,.int .i64 0,.int .i64 0,.slice none 0 0,.slice none 0 0,.slice none 0 0,.slice none 0 0,.slice none 0 0,.slice none 0 0,.slice none 0 0,.slice none 0 0,.slice none 0 0,.slice none 0 0,.slice none 0 0,.slice none 0 0,.slice none 0 0,.slice none 0 0,.slice none 0 0,.slice none 0 0,.slice none 0 0,.slice none 0 0,.slice none 0 0,.slice none 0 0,.slice none 0 0,.slice none 0 0,.slice none 0 0,.slice none 0 0,.slice none 0 0] [(0,1),(1,24),(25,1),(26,24)] := ⟨stT212⟩
instance : StI Tryz.prog 214 [.int .i64 0,.int .i64 0,.int .i64 0] [(0,1),(1,1),(2,1)] := ⟨stT214⟩
instance : StI Tryz.prog 223 [.pointer none,.slice none 0 0,.int .i64 0,.slice none 0 0,.int .i64 0,.map none] [(0,1),(1,2),(3,2),(5,1)] := ⟨stT223⟩
instance : StI Tryz.prog 235 [.slice none 0 0,.map none] [(0,1),(1,1)] := ⟨stT235⟩
instance : StI Tryz.prog 247 [.string (str []),.int .u8 0] [(0,1),(1,1)] := ⟨stT247⟩
instance : StrI Tryz.prog 9 := ⟨und9⟩
instance : SliI Tryz.prog 22 24 := ⟨und22⟩
instance : SliI Tryz.prog 25 9 := ⟨und25⟩
instance : SliI Tryz.prog 33 104 := ⟨und33⟩
instance : SliI Tryz.prog 41 3 := ⟨und41⟩
instance : SliI Tryz.prog 42 4 := ⟨und42⟩
instance : SliI Tryz.prog 46 92 := ⟨und46⟩
instance : SliI Tryz.prog 48 35 := ⟨und48⟩
instance : SliI Tryz.prog 49 44 := ⟨und49⟩
instance : SliI Tryz.prog 52 41 := ⟨und52⟩
instance : SliI Tryz.prog 90 2 := ⟨und90⟩
instance : SliI Tryz.prog 146 5 := ⟨und146⟩
instance : SliI Tryz.prog 181 108 := ⟨und181⟩
instance : SliI Tryz.prog 209 214 := ⟨und209⟩
instance : SliI Tryz.prog 225 130 := ⟨und225⟩
end Go.Proofs.YtkgllhkhdjodeaaGreat.F
namespace Go.Proofs.YtkgllhkhdjodeaaGreat
open Go Go.Eng Go.Proofs
theorem node_c (op : Int) (s : Option Addr) (n c : Nat) (w : World) : Pure Tryz.prog 63 [.int .u8 op,.slice s n c] w (.agg #[.int .u8 op,.string (str []),.slice s n c]) := by
 refine enter Tryz.func63 rfl Tryz.ntmps63 rfl (St.init _) ?_
 refine jN 3 ?_
 refine WL.alloc F.zero24 rfl (fun b4 => ?_)
 refine jN 15 ?_
 exact WQ.ret (rs := [.cell 4 24]) rfl (.cellN F.agg24 rfl jM rfl .nil) (fun w hS => ⟨rfl,hS.drop⟩)
theorem u8_le {a b : UInt8} : a ≤ b ↔ (a.toNat : Int) ≤ (b.toNat : Int) := by rw [UInt8.le_iff_toNat_le]; omega
theorem u8_eq {a b : UInt8} : a = b ↔ (a.toNat : Int) = (b.toNat : Int) := by rw [← UInt8.toNat_inj]; omega
theorem inWordB_int (c : UInt8) : Fm.inWordB c = ((c.toNat : Int) == 95 || (decide ((48 : Int) ≤ c.toNat) && decide ((c.toNat : Int) ≤ 57)) || (decide ((97 : Int) ≤ c.toNat) && decide ((c.toNat : Int) ≤ 122)) || (decide ((65 : Int) ≤ c.toNat) && decide ((c.toNat : Int) ≤ 90))) := by
 unfold Fm.inWordB
 rw [Bool.eq_iff_iff]
 simp [u8_le,u8_eq]
theorem inWord_c (c : UInt8) (w : World) : Pure Tryz.prog 138 [.int .u8 c.toNat] w (.bool (Fm.inWordB c)) := by
 refine enter Tryz.func138 rfl Tryz.ntmps138 rfl (St.init _) ?_
 refine jN 14 ?_
 refine WA.splitB (i := 5) rfl (fun g5 => ?_) (fun g5 => ?_)
 ·refine jN 51 ?_
  exact WQ.ret (rs := [.tmp 2]) rfl (.tmp rfl .nil) (fun w hS => ⟨by simp [tup,inWordB_int, *],hS⟩)
 refine jN 9 ?_
 refine WA.splitB (i := 8) rfl (fun g8 => ?_) (fun g8 => ?_)
 ·refine jN 13 ?_
  refine WA.splitB (i := 13) rfl (fun g13 => ?_) (fun g13 => ?_)
  ·refine jN 35 ?_
   exact WQ.ret (rs := [.tmp 2]) rfl (.tmp rfl .nil) (fun w hS => ⟨by simp [tup,inWordB_int, *],hS⟩)
  refine jN 9 ?_
  refine WA.splitB (i := 16) rfl (fun g16 => ?_) (fun g16 => ?_)
  ·refine jN 13 ?_
   refine WA.splitB (i := 21) rfl (fun g21 => ?_) (fun g21 => ?_)
   ·refine jN 19 ?_
    exact WQ.ret (rs := [.tmp 2]) rfl (.tmp rfl .nil) (fun w hS => ⟨by simp [tup,inWordB_int, *],hS⟩)
   refine jN 9 ?_
   refine WA.splitB (i := 24) rfl (fun g24 => ?_) (fun g24 => ?_)
   refine jN 16 ?_
   rotate_left
   refine jN 14 ?_
   rotate_left
   all_goals
    exact WQ.ret (rs := [.tmp 2]) rfl (.tmp rfl .nil) (fun w hS => ⟨by simp [tup,inWordB_int, *],hS⟩)
  refine jN 20 ?_
  refine WA.splitB (i := 24) rfl (fun g24 => ?_) (fun g24 => ?_)
  refine jN 16 ?_
  rotate_left
  refine jN 14 ?_
  rotate_left
  all_goals
   exact WQ.ret (rs := [.tmp 2]) rfl (.tmp rfl .nil) (fun w hS => ⟨by simp [tup,inWordB_int, *],hS⟩)
 refine jN 20 ?_
 refine WA.splitB (i := 16) rfl (fun g16 => ?_) (fun g16 => ?_)
 ·refine jN 13 ?_
  refine WA.splitB (i := 21) rfl (fun g21 => ?_) (fun g21 => ?_)
  ·refine jN 19 ?_
   exact WQ.ret (rs := [.tmp 2]) rfl (.tmp rfl .nil) (fun w hS => ⟨by simp [tup,inWordB_int, *],hS⟩)
  refine jN 9 ?_
  refine WA.splitB (i := 24) rfl (fun g24 => ?_) (fun g24 => ?_)
  refine jN 16 ?_
  rotate_left
  refine jN 14 ?_
  rotate_left
  all_goals
   exact WQ.ret (rs := [.tmp 2]) rfl (.tmp rfl .nil) (fun w hS => ⟨by simp [tup,inWordB_int, *],hS⟩)
 refine jN 20 ?_
 refine WA.splitB (i := 24) rfl (fun g24 => ?_) (fun g24 => ?_)
 refine jN 16 ?_
 rotate_left
 refine jN 14 ?_
 rotate_left
 all_goals
  exact WQ.ret (rs := [.tmp 2]) rfl (.tmp rfl .nil) (fun w hS => ⟨by simp [tup,inWordB_int, *],hS⟩)
theorem take_all {l : List UInt8} {k : Nat} {c : UInt8} (h : l[k]? = some c) : (l.take (k + 1)).all Fm.inWordB = ((l.take k).all Fm.inWordB && Fm.inWordB c) := by
 rw [List.take_add_one,h]; simp
def nmBad (l : List UInt8) : Bool := l.isEmpty || decide (32 < l.length) || (match l with | [] => false | c :: _ => (48 ≤ c && c ≤ 57))
theorem nmBad_name (l : List UInt8) : Fm.isNameB l = (!nmBad l && l.all Fm.inWordB) := by
 cases l with
 | nil => rfl
 | cons c r =>
  have e : decide ((c :: r).length ≤ 32) = !decide (32 < (c :: r).length) := by
   rw [Bool.eq_iff_iff]; simp
  simp only [Fm.isNameB,nmBad,List.isEmpty_cons,Bool.false_or,e,Bool.not_or]
theorem nmBad_len {l : List UInt8} (h : nmBad l = false) : l.length ≤ 32 := by
 simp only [nmBad,Bool.or_eq_false_iff,decide_eq_false_iff_not] at h
 omega
theorem nmBad_nil {l : List UInt8} (h : decide ((l.length : Int) < 1) = true) : nmBad l = true := by
 have : l = [] := List.eq_nil_of_length_eq_zero (by simp at h; omega)
 subst this; rfl
theorem nmBad_long {l : List UInt8} (h : decide ((32 : Int) < l.length) = true) : nmBad l = true := by
 have : 32 < l.length := by simp at h; omega
 simp [nmBad,this]
theorem nmBad_digit {l : List UInt8} {c : UInt8} (hc : l[0]? = some c) (h1 : decide ((48 : Int) ≤ c.toNat) = true) : nmBad l = (decide (32 < l.length) || decide ((c.toNat : Int) ≤ 57)) := by
 cases l with
 | nil => simp at hc
 | cons a r =>
  simp at hc; subst hc
  have : (48 : UInt8) ≤ a := by rw [u8_le]; simpa using h1
  simp [nmBad,this,u8_le]
theorem nmBad_nodigit {l : List UInt8} {c : UInt8} (hc : l[0]? = some c) (h1 : decide ((48 : Int) ≤ c.toNat) = false) : nmBad l = decide (32 < l.length) := by
 cases l with
 | nil => simp at hc
 | cons a r =>
  simp at hc; subst hc
  have : ¬ (48 : UInt8) ≤ a := by rw [u8_le]; simpa using h1
  simp [nmBad,this]
theorem isName_c (l : List UInt8) (w : World) : Pure Tryz.prog 95 [.string (str l)] w (.bool (Fm.isNameB l)) := by
 refine enter Tryz.func95 rfl Tryz.ntmps95 rfl (St.init _) ?_
 refine jN 8 ?_
 refine WC.cutF [(21,.bool (nmBad l)),(0,.string (str l)),(2,.bool false)] (fun Q' hQ => ?_) ?_
 ·refine jN 9 ?_
  refine WA.splitB (i := 7) rfl (fun h7 => ?_) (fun h7 => ?_)
  ·refine jN 29 ?_
   refine WQ.byCut hQ (subF_bool ?_ ⟨rfl,rfl,trivial⟩ rfl)
   first | exact nmBad_nil h7 | exact nmBad_long h12 | (rw [nmBad_digit hc0 h16]; simp at h12; simp; omega) | (rw [nmBad_nodigit hc0 h16]; simp at h12; simp; omega)
  have hpos : 0 < l.length := by simp at h7; omega
  obtain ⟨c0,hc0⟩ : ∃ c,l[0]? = some c := ⟨l[0],by simp [hpos]⟩
  refine jN 13 ?_
  refine WA.splitB (i := 12) rfl (fun h12 => ?_) (fun h12 => ?_)
  ·refine jN 19 ?_
   refine WQ.byCut hQ (subF_bool ?_ ⟨rfl,rfl,trivial⟩ rfl)
   first | exact nmBad_nil h7 | exact nmBad_long h12 | (rw [nmBad_digit hc0 h16]; simp at h12; simp; omega) | (rw [nmBad_nodigit hc0 h16]; simp at h12; simp; omega)
  refine jN 5 ?_
  refine WL.indexS (i := 0) F.und9 rfl rfl rfl hc0 ?_
  refine jN 6 ?_
  refine WA.splitB (i := 16) rfl (fun h16 => ?_) (fun h16 => ?_)
  refine jN 5 ?_
  refine WL.indexS (i := 0) F.und9 rfl rfl rfl hc0 ?_
  refine jN 9 ?_
  rotate_left
  refine jN 12 ?_
  rotate_left
  all_goals
   refine WQ.byCut hQ (subF_bool ?_ ⟨rfl,rfl,trivial⟩ rfl)
   first | exact nmBad_nil h7 | exact nmBad_long h12 | (rw [nmBad_digit hc0 h16]; simp at h12; simp; omega) | (rw [nmBad_nodigit hc0 h16]; simp at h12; simp; omega)
 refine jN 1 ?_
 refine WC.cond rfl (fun h21 => ?_) (fun h21 => ?_)
 ·refine jN 8 ?_
  exact WQ.ret (rs := [.tmp 2]) rfl (.tmp rfl .nil) (fun w hS => ⟨by simp [tup,nmBad_name,h21],hS⟩)
 have hl : l.length ≤ 32 := nmBad_len h21
 refine jN 14 ?_
 refine WC.loop (α := Nat) (fun k => k ≤ l.length ∧ (l.take k).all Fm.inWordB = true) (fun k => [(0,.string (str l)),(2,.bool false),(23,.int .i64 l.length),(24,.int .i64 k)]) (fun _ => []) (fun k => l.length - k) (0) ?_ ?_ ?_ ?_
 ·exact ⟨by omega,by simp⟩
 ·exact ⟨rfl,rfl,rfl,rfl,trivial⟩
 ·rfl
 rintro k ⟨hk,hal⟩
 refine jN 7 ?_
 refine WC.cond rfl (fun h25 => ?_) (fun h25 => ?_)
 ·have hlt : k < l.length := by simpa using h25
  obtain ⟨c,hc⟩ : ∃ c,l[k]? = some c := ⟨l[k],by simp [hlt]⟩
  refine jN 19 ?_
  refine WL.indexS F.und9 rfl rfl rfl (by assumption) ?_
  refine jN 1 ?_
  refine WL.callV F.fun138 rfl rfl (fun w _ => inWord_c c w) ?_
  refine jN 4 ?_
  refine WC.cond rfl (fun h31 => ?_) (fun h31 => ?_)
  ·have hcw : Fm.inWordB c = false := by simpa using h31
   refine jN 12 ?_
   exact WQ.ret (rs := [.tmp 2]) rfl (.tmp rfl .nil) (fun w hS => ⟨by simp [tup,nmBad_name]; intro _; exact ⟨c,List.mem_of_getElem? hc,hcw⟩,hS⟩)
  have hcw : Fm.inWordB c = true := by simpa using h31
  refine jN 9 ?_
  refine WQ.back (k + 1) ?_ ?_ ?_ ?_
  ·exact ⟨by omega,by rw [take_all hc,hal,hcw]; rfl⟩
  ·omega
  ·exact ⟨rfl,rfl,rfl,rfl,trivial⟩
  rfl
 have hkl : k = l.length := by simp at h25; omega
 subst hkl
 rw [List.take_length] at hal
 refine jN 12 ?_
 exact WQ.ret (rs := [.tmp 2]) rfl (.tmp rfl .nil) (fun w hS => ⟨by simp [tup,nmBad_name,h21,hal],hS⟩)
theorem pre_len {rest s : List UInt8} (h : decide ((s.length : Int) ≤ rest.length) = false) : Fm.pre rest s = false := by
 have : ¬ s.length ≤ rest.length := by simp at h; omega
 simp [Fm.pre,this]
theorem pre_eq {rest s : List UInt8} (h : decide ((s.length : Int) ≤ rest.length) = true) : Fm.pre rest s = (rest.take s.length == s) := by
 have : s.length ≤ rest.length := by simpa using h
 simp [Fm.pre,this]
theorem litePrefix_c (l s : List UInt8) (w : World) : Pure Tryz.prog 167 [.string (str l),.string (str s)] w (.bool (Fm.pre l s)) := by
 refine enter Tryz.func167 rfl Tryz.ntmps167 rfl (St.init _) ?_
 refine jN 20 ?_
 refine WA.splitB (i := 10) rfl (fun h10 => ?_) (fun h10 => ?_)
 ·refine jN 11 ?_
  refine WL.y (F := fun _ => True) (Yl.sliceTo F.und9 rfl rfl (by simpa using h10)) rfl (fun _ _ => trivial) ?_
  refine jN 13 ?_
  exact WQ.ret (rs := [.tmp 4]) rfl (.tmp rfl .nil) (fun w hS => ⟨by rw [pre_eq h10]; rfl,hS⟩)
 refine jN 19 ?_
 exact WQ.ret (rs := [.tmp 4]) rfl (.tmp rfl .nil) (fun w hS => ⟨by rw [pre_len h10]; rfl,hS⟩)
theorem hasPrefix_c (l s : List UInt8) (w : World) : Pure Tryz.prog 137 [.string (str l),.string (str s)] w (.bool (Fm.pre l s)) := by
 refine enter Tryz.func137 rfl Tryz.ntmps137 rfl (St.init _) ?_
 refine jN 13 ?_
 refine WL.callV F.fun167 rfl rfl (fun w _ => litePrefix_c l s w) ?_
 refine jN 5 ?_
 exact WQ.ret (rs := [.tmp 4]) rfl (.tmp rfl .nil) (fun w hS => ⟨rfl,hS⟩)
abbrev pcell (text : List UInt8) (at_ : Nat) (word : List UInt8) : List Value := [.string (str text),.int .i64 (at_ : Int),.string (str word)]
def trouble (at_ : Nat) : List PanicEntry := [{ v := .iface 139 (.agg #[.int .i64 (at_ : Int)]),recovered := false }]
def NRpost (bp : Nat) (text : List UInt8) (w : World) : Fm.NR → Ending → World → Prop
 | .ok at_ word,e,w' => e = .returned (.tuple #[]) ∧ St w [bp] [pt bp (pcell text at_ word) 143] w'
 | .bad at_,e,w' => e = .panicked (trouble at_) ∧ ∃ cs,St w [bp] [pt bp cs 143] w'
theorem test_in {text : List UInt8} {p0 k : Nat} {c : UInt8} (hk : k ≤ Fm.blanks (text.drop p0)) (_h : decide (((p0 + k : Nat) : Int) < text.length) = true) (hc : text[p0 + k]? = some c) : decide (k < Fm.blanks (text.drop p0)) = ((c.toNat : Int) == 32) := by
 have h1 := Fm.blanks_get (text.drop p0) k hk
 rw [List.getElem?_drop,hc] at h1
 rw [Bool.eq_iff_iff,decide_eq_true_iff,← h1]
 simp only [Option.some.injEq,beq_iff_eq,u8_eq]
 rfl
theorem test_out {text : List UInt8} {p0 k : Nat} (hk : k ≤ Fm.blanks (text.drop p0)) (h : decide (((p0 + k : Nat) : Int) < text.length) = false) : decide (k < Fm.blanks (text.drop p0)) = false := by
 have h1 := Fm.blanks_get (text.drop p0) k hk
 have : text.length ≤ p0 + k := by simp at h; omega
 rw [List.getElem?_drop,List.getElem?_eq_none this] at h1
 simp at h1
 simp; omega
theorem word_in {rest : List UInt8} {n : Nat} {c : UInt8} (hn : n ≤ (Fm.word rest).length) (hc : rest[n]? = some c) : decide (n < (Fm.word rest).length) = Fm.inWordB c := by
 rw [Bool.eq_iff_iff,decide_eq_true_iff]
 exact (Fm.takeWhile_get Fm.inWordB rest n c hn hc).symm
theorem word_out {rest : List UInt8} {n : Nat} (hn : n ≤ (Fm.word rest).length) (h : decide ((n : Int) < rest.length) = false) : decide (n < (Fm.word rest).length) = false := by
 have h1 := Fm.takeWhile_le Fm.inWordB rest
 have : (Fm.word rest).length ≤ rest.length := h1
 simp at h ⊢; omega
theorem tok_bad {rest : List UInt8} (hne : rest ≠ []) (hf : Fm.signs.find? (Fm.pre rest) = none) (h : (!(Fm.word rest == [48]) && !(Fm.word rest == [49]) && !(Fm.isNameB (Fm.word rest))) = true) : Fm.tok rest = none := by
 simp at h
 simp [Fm.tok,hne,hf,h]
theorem tok_word {rest : List UInt8} (hne : rest ≠ []) (hf : Fm.signs.find? (Fm.pre rest) = none) (h : (!(Fm.word rest == [48]) && !(Fm.word rest == [49]) && !(Fm.isNameB (Fm.word rest))) = false) : Fm.tok rest = some (Fm.word rest) := by
 have : Fm.word rest = [48] ∨ Fm.word rest = [49] ∨ Fm.isNameB (Fm.word rest) = true := by
  by_cases h1 : Fm.word rest = [48]
  ·exact .inl h1
  ·by_cases h2 : Fm.word rest = [49]
   ·exact .inr (.inl h2)
   ·simp [h1,h2] at h; exact .inr (.inr h)
 simp only [Fm.tok,hne,if_false,hf,this,if_true]
theorem next_c (bp : Nat) (text wd : List UInt8) (at_ : Nat) (hle : at_ + wd.length ≤ text.length) (hmax : text.length ≤ 140737488355328) (w : World) (hp : w.heap[bp]? = some (.cells (pcell text at_ wd).toArray 143 (0,0))) :
  Calls Tryz.prog 85 [Value.pointer (some ⟨bp,0,none⟩)].toArray w (NRpost bp text w (Fm.next text at_ wd)) := by
 obtain ⟨p0,hp0⟩ : ∃ p0,p0 = at_ + wd.length := ⟨_,rfl⟩
 have hp0l : p0 ≤ text.length := by omega
 refine enter Tryz.func85 rfl Tryz.ntmps85 rfl (St.init1 hp) ?_
 refine jN 1 ?_
 refine WC.draws [([12],fun w => w.cell? ⟨bp,1,none⟩ = some (.int .i64 (at_ : Int))),([12],fun w => w.cell? ⟨bp,2,none⟩ = some (.string (str wd)))] (by kernel_rfl) (fun w hS => facts_cons (hS.cell jM rfl) (facts_cons (hS.cell jM rfl) (facts_nil))) ?_
 refine jT 0 rfl (Yl.move rfl) ?_
 refine jT 1 rfl (Yl.nilCheck rfl) ?_
 refine jT 2 rfl (Yl.fieldAddr0 F.fld143_1 rfl) ?_
 refine jF 3 0 rfl rfl (Yl.load1 F.one3 rfl) ?_
 refine jT 4 rfl (Yl.move rfl) ?_
 refine jT 5 rfl (Yl.nilCheck rfl) ?_
 refine jT 6 rfl (Yl.fieldAddr0 F.fld143_2 rfl) ?_
 refine jF 7 1 rfl rfl (Yl.load1 F.one9 rfl) ?_
 refine jT 8 rfl (Yl.lenS F.und9 rfl) ?_
 refine jT 9 rfl (Yl.add rfl rfl ⟨by omega,by omega⟩) ?_
 refine jT 10 rfl (Yl.nilCheck rfl) ?_
 refine jT 11 rfl (Yl.fieldAddr0 F.fld143_1 rfl) ?_
 refine jA 12 rfl ?_
 refine WL.store1 F.one3 rfl rfl rfl jU jS ?_
 refine jG ?_
 refine jD ?_
 refine jN 3 ?_
 refine WC.loop (α := Nat) (fun k => k ≤ Fm.blanks (text.drop p0)) (fun _ => [(0,.pointer (some ⟨bp,0,none⟩))]) (fun k => [pt bp [.string (str text),.int .i64 ((p0 + k : Nat) : Int),.string (str wd)] 143]) (fun k => Fm.blanks (text.drop p0) - k) (0) ?_ ?_ ?_ ?_
 ·exact Nat.zero_le _
 ·exact ⟨rfl,trivial⟩
 ·(subst hp0; rfl)
 rintro k hk
 refine jN 2 ?_
 refine WC.cutP [(39,.bool (decide (k < Fm.blanks (text.drop p0)))),(0,.pointer (some ⟨bp,0,none⟩))] (fun c a d v w h => by cases d <;> exact h) (fun Q' hP hQ => ?_) ?_
 ·refine WC.draws [([],fun w => w.cell? ⟨bp,1,none⟩ = some (.int .i64 ((p0 + k : Nat) : Int))),([],fun w => w.cell? ⟨bp,0,none⟩ = some (.string (str text))),([],fun w => w.cell? ⟨bp,0,none⟩ = some (.string (str text))),([],fun w => w.cell? ⟨bp,1,none⟩ = some (.int .i64 ((p0 + k : Nat) : Int)))] (by kernel_rfl) (fun w hS => facts_cons (hS.cell jM rfl) (facts_cons (hS.cell jM rfl) (facts_cons (hS.cell jM rfl) (facts_cons (hS.cell jM rfl) (facts_nil))))) ?_
  refine jT 0 rfl (Yl.move rfl) ?_
  refine jT 1 rfl (Yl.nilCheck rfl) ?_
  refine jT 2 rfl (Yl.fieldAddr0 F.fld143_1 rfl) ?_
  refine jF 3 0 rfl rfl (Yl.load1 F.one3 rfl) ?_
  refine jT 4 rfl (Yl.move rfl) ?_
  refine jT 5 rfl (Yl.nilCheck rfl) ?_
  refine jT 6 rfl (Yl.fieldAddr0 F.fld143_0 rfl) ?_
  refine jF 7 1 rfl rfl (Yl.load1 F.one9 rfl) ?_
  refine jT 8 rfl (Yl.lenS F.und9 rfl) ?_
  refine jT 9 rfl (Yl.ltI rfl rfl) ?_
  refine jT 10 rfl (Yl.move rfl) ?_
  refine fun hcl => WA.splitB (i := 28) rfl (fun h28 => ?_) (fun h28 => ?_)
  refine (show WD _ _ _ _ _ _ _ _ _ _ _ _ from ?_) hcl
  have hlt : p0 + k < text.length := by simp at h28; omega
  obtain ⟨c,hc⟩ : ∃ c,text[p0 + k]? = some c := ⟨text[p0 + k],by simp [hlt]⟩
  refine WD.takeG (i := 11) rfl rfl rfl rfl rfl rfl (by kernel_rfl) (by kernel_rfl) (by kernel_rfl) (fun _ _ _ h => hP _ _ _ _ _ h) (by kernel_rfl) need_none (Yl.move rfl) ?_
  refine WD.takeG (i := 12) rfl rfl rfl rfl rfl rfl (by kernel_rfl) (by kernel_rfl) (by kernel_rfl) (fun _ _ _ h => hP _ _ _ _ _ h) (by kernel_rfl) need_none (Yl.nilCheck rfl) ?_
  refine WD.takeG (i := 13) rfl rfl rfl rfl rfl rfl (by kernel_rfl) (by kernel_rfl) (by kernel_rfl) (fun _ _ _ h => hP _ _ _ _ _ h) (by kernel_rfl) need_none (Yl.fieldAddr0 F.fld143_0 rfl) ?_
  refine WD.takeG (i := 14) rfl rfl rfl rfl rfl rfl (by kernel_rfl) (by kernel_rfl) (by kernel_rfl) (fun _ _ _ h => hP _ _ _ _ _ h) (by kernel_rfl) (need_at 2 22 rfl (by kernel_rfl)) (Yl.load1 F.one9 rfl) ?_
  refine WD.takeG (i := 15) rfl rfl rfl rfl rfl rfl (by kernel_rfl) (by kernel_rfl) (by kernel_rfl) (fun _ _ _ h => hP _ _ _ _ _ h) (by kernel_rfl) need_none (Yl.move rfl) ?_
  refine WD.takeG (i := 16) rfl rfl rfl rfl rfl rfl (by kernel_rfl) (by kernel_rfl) (by kernel_rfl) (fun _ _ _ h => hP _ _ _ _ _ h) (by kernel_rfl) need_none (Yl.nilCheck rfl) ?_
  refine WD.takeG (i := 17) rfl rfl rfl rfl rfl rfl (by kernel_rfl) (by kernel_rfl) (by kernel_rfl) (fun _ _ _ h => hP _ _ _ _ _ h) (by kernel_rfl) need_none (Yl.fieldAddr0 F.fld143_1 rfl) ?_
  refine WD.takeG (i := 18) rfl rfl rfl rfl rfl rfl (by kernel_rfl) (by kernel_rfl) (by kernel_rfl) (fun _ _ _ h => hP _ _ _ _ _ h) (by kernel_rfl) (need_at 3 22 rfl (by kernel_rfl)) (Yl.load1 F.one3 rfl) ?_
  refine WD.takeG (i := 19) rfl rfl rfl rfl rfl rfl (by kernel_rfl) (by kernel_rfl) (by kernel_rfl) (fun _ _ _ h => hP _ _ _ _ _ h) (by kernel_rfl) need_none (Yl.indexS (i := p0 + k) F.und9 rfl rfl hc) ?_
  refine WD.takeG (i := 20) rfl rfl rfl rfl rfl rfl (by kernel_rfl) (by kernel_rfl) (by kernel_rfl) (fun _ _ _ h => hP _ _ _ _ _ h) (by kernel_rfl) need_none (Yl.eqI rfl rfl) ?_
  refine jT 21 rfl (Yl.pickT rfl rfl) ?_
  rotate_left
  refine (show WD _ _ _ _ _ _ _ _ _ _ _ _ from ?_) hcl
  refine WD.skip (i := 11) rfl rfl rfl rfl rfl rfl rfl (by kernel_rfl) (by kernel_rfl) (by kernel_rfl) (fun _ _ _ h => hP _ _ _ _ _ h) (by kernel_rfl) ?_
  refine WD.skip (i := 12) rfl rfl rfl rfl rfl rfl rfl (by kernel_rfl) (by kernel_rfl) (by kernel_rfl) (fun _ _ _ h => hP _ _ _ _ _ h) (by kernel_rfl) ?_
  refine WD.skip (i := 13) rfl rfl rfl rfl rfl rfl rfl (by kernel_rfl) (by kernel_rfl) (by kernel_rfl) (fun _ _ _ h => hP _ _ _ _ _ h) (by kernel_rfl) ?_
  refine WD.skip (i := 14) rfl rfl rfl rfl rfl rfl rfl (by kernel_rfl) (by kernel_rfl) (by kernel_rfl) (fun _ _ _ h => hP _ _ _ _ _ h) (by kernel_rfl) ?_
  refine WD.skip (i := 15) rfl rfl rfl rfl rfl rfl rfl (by kernel_rfl) (by kernel_rfl) (by kernel_rfl) (fun _ _ _ h => hP _ _ _ _ _ h) (by kernel_rfl) ?_
  refine WD.skip (i := 16) rfl rfl rfl rfl rfl rfl rfl (by kernel_rfl) (by kernel_rfl) (by kernel_rfl) (fun _ _ _ h => hP _ _ _ _ _ h) (by kernel_rfl) ?_
  refine WD.skip (i := 17) rfl rfl rfl rfl rfl rfl rfl (by kernel_rfl) (by kernel_rfl) (by kernel_rfl) (fun _ _ _ h => hP _ _ _ _ _ h) (by kernel_rfl) ?_
  refine WD.skip (i := 18) rfl rfl rfl rfl rfl rfl rfl (by kernel_rfl) (by kernel_rfl) (by kernel_rfl) (fun _ _ _ h => hP _ _ _ _ _ h) (by kernel_rfl) ?_
  refine WD.skip (i := 19) rfl rfl rfl rfl rfl rfl rfl (by kernel_rfl) (by kernel_rfl) (by kernel_rfl) (fun _ _ _ h => hP _ _ _ _ _ h) (by kernel_rfl) ?_
  refine WD.skip (i := 20) rfl rfl rfl rfl rfl rfl rfl (by kernel_rfl) (by kernel_rfl) (by kernel_rfl) (fun _ _ _ h => hP _ _ _ _ _ h) (by kernel_rfl) ?_
  refine jT 21 rfl (Yl.pickF rfl rfl) ?_
  rotate_left
  all_goals
   refine jD ?_
   refine WQ.byCut hQ (subF_bool ?_ ⟨rfl,trivial⟩ rfl)
   first | exact test_in hk h28 hc | exact test_out hk h28
 refine jN 1 ?_
 refine WC.cond rfl (fun h39 => ?_) (fun h39 => ?_)
 ·have hlt : k < Fm.blanks (text.drop p0) := by simpa using h39
  have hb := Fm.blanks_le (text.drop p0)
  simp at hb
  refine jN 22 ?_
  refine WQ.back (k + 1) ?_ ?_ ?_ ?_
  ·exact by omega
  ·omega
  ·exact ⟨rfl,trivial⟩
  rfl
 have hkb : k = Fm.blanks (text.drop p0) := by simp at h39; omega
 obtain ⟨q,hq⟩ : ∃ q,q = p0 + k := ⟨_,rfl⟩
 have hql : q ≤ text.length := by have := Fm.blanks_le (text.drop p0); simp at this; omega
 rw [← hq]
 have hnx : Fm.next text at_ wd = match Fm.tok (text.drop q) with | some x => .ok q x | none => .bad q := by rw [hq,hkb,hp0]; rfl
 clear hq hkb hk h39
 refine jN 19 ?_
 refine WC.draws [([],fun w => w.cell? ⟨bp,1,none⟩ = some (.int .i64 (q : Int))),([],fun w => w.cell? ⟨bp,0,none⟩ = some (.string (str text)))] (by kernel_rfl) (fun w hS => facts_cons (hS.cell jM rfl) (facts_cons (hS.cell jM rfl) (facts_nil))) ?_
 refine jT 0 rfl (Yl.move rfl) ?_
 refine jT 1 rfl (Yl.nilCheck rfl) ?_
 refine jT 2 rfl (Yl.fieldAddr0 F.fld143_1 rfl) ?_
 refine jF 3 0 rfl rfl (Yl.load1 F.one3 rfl) ?_
 refine jT 4 rfl (Yl.move rfl) ?_
 refine jT 5 rfl (Yl.nilCheck rfl) ?_
 refine jT 6 rfl (Yl.fieldAddr0 F.fld143_0 rfl) ?_
 refine jF 7 1 rfl rfl (Yl.load1 F.one9 rfl) ?_
 refine jT 8 rfl (Yl.lenS F.und9 rfl) ?_
 refine jT 9 rfl (Yl.eqI rfl rfl) ?_
 refine jD ?_
 refine jN 1 ?_
 refine WC.cond rfl (fun h59 => ?_) (fun h59 => ?_)
 ·have hqe : q = text.length := by simp at h59; omega
  refine jN 2 ?_
  refine WQ.ret (rs := []) rfl .nil (fun w hS => ?_)
  rw [hnx,hqe,List.drop_length]
  exact ⟨rfl,by rw [← hqe]; exact hS⟩
 have hqlt : q < text.length := by simp at h59; omega
 refine jN 3 ?_
 refine WC.draws [([],fun w => w.cell? ⟨bp,0,none⟩ = some (.string (str text))),([],fun w => w.cell? ⟨bp,1,none⟩ = some (.int .i64 (q : Int)))] (by kernel_rfl) (fun w hS => facts_cons (hS.cell jM rfl) (facts_cons (hS.cell jM rfl) (facts_nil))) ?_
 refine jT 0 rfl (Yl.move rfl) ?_
 refine jT 1 rfl (Yl.nilCheck rfl) ?_
 refine jT 2 rfl (Yl.fieldAddr0 F.fld143_0 rfl) ?_
 refine jF 3 0 rfl rfl (Yl.load1 F.one9 rfl) ?_
 refine jT 4 rfl (Yl.move rfl) ?_
 refine jT 5 rfl (Yl.nilCheck rfl) ?_
 refine jT 6 rfl (Yl.fieldAddr0 F.fld143_1 rfl) ?_
 refine jF 7 1 rfl rfl (Yl.load1 F.one3 rfl) ?_
 refine jT 8 rfl (Yl.sliceFrom F.und9 rfl rfl hql) ?_
 refine jT 9 rfl (Yl.assign rfl) ?_
 refine jD ?_
 refine jN 5 ?_
 refine WL.buildA F.arT194 rfl jB rfl ?_
 refine jN 5 ?_
 obtain ⟨rest,hrest⟩ : ∃ rest,rest = text.drop q := ⟨_,rfl⟩
 have hrl : rest.length = text.length - q := by rw [hrest]; simp
 have hrne : rest ≠ [] := by intro h0; rw [h0] at hrl; simp at hrl; omega
 rw [← hrest] at hnx ⊢
 refine WC.say 69 (.agg (Fm.signs.map (fun s => Value.string (str s))).toArray) rfl ?_
 refine WC.loop (α := Nat) (fun i => i ≤ 10 ∧ (Fm.signs.take i).all (fun s => !Fm.pre rest s) = true) (fun i => [(0,.pointer (some ⟨bp,0,none⟩)),(2,.string (str rest)),(69,.agg (Fm.signs.map (fun s => Value.string (str s))).toArray),(70,.int .i64 (i : Int))]) (fun _ => [pt bp [.string (str text),.int .i64 (q : Int),.string (str [])] 143]) (fun i => 10 - i) (0) ?_ ?_ ?_ ?_
 ·exact ⟨by omega,rfl⟩
 ·exact ⟨rfl,rfl,rfl,rfl,trivial⟩
 ·rfl
 rintro i ⟨hi,hno⟩
 refine jN 7 ?_
 refine WC.cond rfl (fun h71 => ?_) (fun h71 => ?_)
 ·have hi10 : i < 10 := by simp at h71; omega
  obtain ⟨s,hs⟩ : ∃ s,Fm.signs[i]? = some s := ⟨_,List.getElem?_eq_getElem (show i < Fm.signs.length from hi10)⟩
  refine jN 7 ?_
  refine WL.indexA1 (i := i) F.und194 F.one9 rfl rfl rfl hi10 (v := .string (str s)) (by simp [hs]) ?_
  refine jN 11 ?_
  refine WL.callV F.fun137 rfl rfl (fun w _ => hasPrefix_c rest s w) ?_
  refine jN 2 ?_
  refine WC.cond rfl (fun h75 => ?_) (fun h75 => ?_)
  ·have htok : Fm.tok rest = some s := by simp only [Fm.tok,hrne,if_false,Fm.find_at _ _ i s hno hs h75]
   refine jN 20 ?_
   refine WQ.ret (rs := []) rfl .nil (fun w hS => ?_)
   rw [hnx,htok]
   exact ⟨rfl,hS⟩
  have hpre : Fm.pre rest s = false := h75
  refine jN 9 ?_
  refine WQ.back (i + 1) ?_ ?_ ?_ ?_
  ·exact ⟨by omega,by rw [Fm.all_take_succ _ _ _ s hs,hno,hpre]; rfl⟩
  ·omega
  ·exact ⟨rfl,rfl,rfl,rfl,trivial⟩
  rfl
 have hi10 : i = 10 := by simp at h71; omega
 subst hi10
 have hfn : Fm.signs.find? (Fm.pre rest) = none := Fm.find_none _ _ hno
 refine jN 13 ?_
 refine WC.loop (α := Nat) (fun n => n ≤ (Fm.word rest).length) (fun n => [(0,.pointer (some ⟨bp,0,none⟩)),(2,.string (str rest)),(5,.int .i64 (n : Int))]) (fun _ => [pt bp [.string (str text),.int .i64 (q : Int),.string (str [])] 143]) (fun n => (Fm.word rest).length - n) (0) ?_ ?_ ?_ ?_
 ·exact Nat.zero_le _
 ·exact ⟨rfl,rfl,rfl,trivial⟩
 ·rfl
 rintro n hn
 refine jN 2 ?_
 refine WC.cutF [(90,.bool (decide (n < (Fm.word rest).length))),(0,.pointer (some ⟨bp,0,none⟩)),(2,.string (str rest)),(5,.int .i64 (n : Int))] (fun Q' hQ => ?_) ?_
 ·refine jN 1 ?_
  have hwl : (Fm.word rest).length ≤ rest.length := Fm.takeWhile_le _ _
  refine jN 10 ?_
  refine WA.splitB (i := 85) rfl (fun h85 => ?_) (fun h85 => ?_)
  have hlt : n < rest.length := by simp at h85; omega
  obtain ⟨c,hc⟩ : ∃ c,rest[n]? = some c := ⟨rest[n],by simp [hlt]⟩
  refine jN 8 ?_
  refine WL.indexS (i := n) F.und9 rfl rfl rfl hc ?_
  refine jN 2 ?_
  refine WL.callV F.fun138 rfl rfl (fun w _ => inWord_c c w) ?_
  refine jN 3 ?_
  rotate_left
  refine jN 11 ?_
  rotate_left
  all_goals
   refine WQ.byCut hQ (subF_bool ?_ ⟨rfl,rfl,rfl,trivial⟩ rfl)
   first | exact word_in hn hc | exact word_out hn h85
 refine jN 1 ?_
 refine WC.cond rfl (fun h90 => ?_) (fun h90 => ?_)
 ·have hlt : n < (Fm.word rest).length := by simpa using h90
  have hwl : (Fm.word rest).length ≤ rest.length := Fm.takeWhile_le _ _
  refine jN 12 ?_
  refine WQ.back (n + 1) ?_ ?_ ?_ ?_
  ·exact by omega
  ·omega
  ·exact ⟨rfl,rfl,rfl,trivial⟩
  rfl
 have hne : n = (Fm.word rest).length := by simp at h90; omega
 subst hne
 refine jN 14 ?_
 refine WL.y (F := fun _ => True) (Yl.sliceTo F.und9 rfl rfl (Fm.takeWhile_le _ _)) rfl (fun _ _ => trivial) ?_
 have htw : rest.take (Fm.word rest).length = Fm.word rest := Fm.takeWhile_take _ _
 rw [htw]
 refine jN 9 ?_
 refine WC.cutF [(118,.bool (!(Fm.word rest == [48]) && !(Fm.word rest == [49]) && !(Fm.isNameB (Fm.word rest)))),(0,.pointer (some ⟨bp,0,none⟩))] (fun Q' hQ => ?_) ?_
 ·refine jN 13 ?_
  refine WA.splitB (i := 104) rfl (fun h104 => ?_) (fun h104 => ?_)
  ·refine jN 19 ?_
   refine WA.splitB (i := 111) rfl (fun h111 => ?_) (fun h111 => ?_)
   refine jN 14 ?_
   refine WL.callV F.fun95 rfl rfl (fun w _ => isName_c _ w) ?_
   refine jN 6 ?_
   rotate_left
   refine jN 15 ?_
   rotate_left
   all_goals
    refine WQ.byCut hQ (subF_bool ?_ ⟨rfl,trivial⟩ rfl)
    first | (rw [h104,h111]; rfl) | (rw [h104,h111]) | (rw [h104]; rfl)
  refine jN 29 ?_
  refine WQ.byCut hQ (subF_bool ?_ ⟨rfl,trivial⟩ rfl)
  first | (rw [h104,h111]; rfl) | (rw [h104,h111]) | (rw [h104]; rfl)
 refine jN 1 ?_
 refine WC.cond rfl (fun h118 => ?_) (fun h118 => ?_)
 ·have htok : Fm.tok rest = none := tok_bad hrne hfn h118
  refine jN 12 ?_
  refine WL.makeIface F.conc139 rfl rfl ?_
  refine jN 1 ?_
  refine WL.panic rfl ?_
  refine WQ.panicked (fun w hS => ?_)
  rw [hnx,htok]
  exact ⟨rfl,_,hS⟩
 have htok : Fm.tok rest = some (Fm.word rest) := tok_word hrne hfn h118
 refine jN 1 ?_
 refine WQ.fin (rs := []) rfl .nil (fun w hS => ?_)
 rw [hnx,htok]
 exact ⟨rfl,hS⟩
def TRpost (bp : Nat) (text : List UInt8) (at_ : Nat) (wd : List UInt8) (w : World) : Fm.TR → Ending → World → Prop
 | .no,e,w' => e = .returned (.bool false) ∧ St w [bp] [pt bp (pcell text at_ wd) 143] w'
 | .yes a x,e,w' => e = .returned (.bool true) ∧ St w [bp] [pt bp (pcell text a x) 143] w'
 | .bad a,e,w' => e = .panicked (trouble a) ∧ ∃ cs,St w [bp] [pt bp cs 143] w'
def PRpost (bp : Nat) (text : List UInt8) (w : World) : Fm.PR → Ending → World → Prop
 | .ok t a x,e,w' => ∃ y : List Nat × Option Addr × Nat,e = .returned (tv t y.2.1 y.2.2) ∧ St w [bp] [own y.1 t (tv t y.2.1 y.2.2),pt bp (pcell text a x) 143] w'
 | .bad a,e,w' => e = .panicked (trouble a) ∧ ∃ cs,St w [bp] [pt bp cs 143] w'
theorem takes_eq {text wd : List UInt8} {at_ : Nat} {a : Nat} {x : List UInt8} (h : Fm.next text at_ wd = .ok a x) : Fm.takes text at_ wd wd = .yes a x := by simp [Fm.takes,h]
theorem takes_bad {text wd : List UInt8} {at_ : Nat} {a : Nat} (h : Fm.next text at_ wd = .bad a) : Fm.takes text at_ wd wd = .bad a := by simp [Fm.takes,h]
theorem takes_c (bp : Nat) (text wd s : List UInt8) (at_ : Nat) (hle : at_ + wd.length ≤ text.length) (hmax : text.length ≤ 140737488355328) (w : World) (hp : w.heap[bp]? = some (.cells (pcell text at_ wd).toArray 143 (0,0))) :
  Calls Tryz.prog 140 [Value.pointer (some ⟨bp,0,none⟩),.string (str s)].toArray w (TRpost bp text at_ wd w (Fm.takes text at_ wd s)) := by
 refine enter Tryz.func140 rfl Tryz.ntmps140 rfl (St.init1 hp) ?_
 refine jN 23 ?_
 refine WC.cond rfl (fun h10 => ?_) (fun h10 => ?_)
 ·have hne : wd ≠ s := by simpa using h10
  refine jN 8 ?_
  refine WQ.ret (rs := [.tmp 4]) rfl (.tmp rfl .nil) (fun w hS => ?_)
  rw [show Fm.takes text at_ wd s = .no by simp [Fm.takes,hne]]
  exact ⟨rfl,hS⟩
 have hes : wd = s := by simpa using h10
 subst hes
 have hN := fun (w : World) (hp : w.heap[bp]? = some (.cells (pcell text at_ wd).toArray 143 (0,0))) => next_c bp text wd at_ hle hmax w hp
 refine jN 3 ?_
 rcases hn : Fm.next text at_ wd with ⟨a,x⟩ | a
 ·rw [hn] at hN
  refine jN 4 ?_
  refine WL.call1S (bs' := pcell text a x) F.fun85 rfl rfl jR (fun w hS => hN w (hS.heap jM)) ?_
  refine jN 9 ?_
  refine WQ.ret (rs := [.tmp 4]) rfl (.tmp rfl .nil) (fun w hS => ?_)
  rw [takes_eq hn]
  exact ⟨rfl,hS⟩
 rw [hn] at hN
 refine jN 4 ?_
 refine WL.call1P F.fun85 (fun d h => by cases h; rfl) rfl jR (fun w hS => hN w (hS.heap jM)) (fun cs => ?_)
 refine jN 1 ?_
 refine WQ.panicked (fun w hS => ?_)
 rw [takes_bad hn]
 exact ⟨rfl,_,hS⟩
def MRpost (bp : Nat) (text : List UInt8) (at_ : Nat) (w : World) : Fm.TR → Ending → World → Prop
 | .no,e,w' => e = .panicked (trouble at_) ∧ ∃ cs,St w [bp] [pt bp cs 143] w'
 | .yes a x,e,w' => e = .returned (.tuple #[]) ∧ St w [bp] [pt bp (pcell text a x) 143] w'
 | .bad a,e,w' => e = .panicked (trouble a) ∧ ∃ cs,St w [bp] [pt bp cs 143] w'
theorem must_c (bp : Nat) (text wd s : List UInt8) (at_ : Nat) (hle : at_ + wd.length ≤ text.length) (hmax : text.length ≤ 140737488355328) (w : World) (hp : w.heap[bp]? = some (.cells (pcell text at_ wd).toArray 143 (0,0))) :
  Calls Tryz.prog 141 [Value.pointer (some ⟨bp,0,none⟩),.string (str s)].toArray w (MRpost bp text at_ w (Fm.takes text at_ wd s)) := by
 have hN := fun (w : World) (hp : w.heap[bp]? = some (.cells (pcell text at_ wd).toArray 143 (0,0))) => takes_c bp text wd s at_ hle hmax w hp
 refine enter Tryz.func141 rfl Tryz.ntmps141 rfl (St.init1 hp) ?_
 refine jN 1 ?_
 rcases hn : Fm.takes text at_ wd s with _ | ⟨a,x⟩ | a
 ·rw [hn] at hN
  refine jN 6 ?_
  refine WL.call1S (bs' := pcell text at_ wd) F.fun140 rfl rfl jR (fun w hS => hN w (hS.heap jM)) ?_
  refine jN 17 ?_
  refine WL.makeIface F.conc139 rfl rfl ?_
  refine jN 1 ?_
  refine WL.panic rfl ?_
  refine WQ.panicked (fun w hS => ?_)
  exact ⟨rfl,_,hS⟩
 ·rw [hn] at hN
  refine jN 6 ?_
  refine WL.call1S (bs' := pcell text a x) F.fun140 rfl rfl jR (fun w hS => hN w (hS.heap jM)) ?_
  refine jN 6 ?_
  refine WQ.fin (rs := []) rfl .nil (fun w hS => ?_)
  exact ⟨rfl,hS⟩
 rw [hn] at hN
 refine jN 6 ?_
 refine WL.call1P F.fun140 (fun d h => by cases h; rfl) rfl jR (fun w hS => hN w (hS.heap jM)) (fun cs => ?_)
 refine jN 1 ?_
 refine WQ.panicked (fun w hS => ?_)
 exact ⟨rfl,_,hS⟩
theorem _root_.Go.Eng.St.one1 {w0 w : World} {O : List Nat} {c : Chunk} {C : List Chunk} (h : St w0 O (c :: C) w) : St w0 O [c] w := h.sublist (List.Sublist.cons_cons _ (List.nil_sublist _))
theorem _root_.Go.Eng.St.two2 {w0 w : World} {O : List Nat} {c d : Chunk} {C : List Chunk} (h : St w0 O (c :: d :: C) w) : St w0 O [c,d] w := h.sublist (List.Sublist.cons_cons _ (List.Sublist.cons_cons _ (List.nil_sublist _)))
def PC (bp : Nat) (text : List UInt8) (f : Nat) (args : List Value) (nt : Fm.NT) (n : Nat) : Prop :=
 ∀ a x r w,a + x.length ≤ text.length → Fm.parse text n nt a x = some r → w.heap[bp]? = some (.cells (pcell text a x).toArray 143 (0,0)) → Calls Tryz.prog f args.toArray w (PRpost bp text w r)
abbrev pp (bp : Nat) : Value := .pointer (some ⟨bp,0,none⟩)
theorem implies_c (bp : Nat) (text : List UInt8) (hmax : text.length ≤ 140737488355328) (n : Nat) (hsub : PC bp text 179 [pp bp,.int .i64 0] (.row 0) n) (hrec : PC bp text 168 [pp bp] .implies n) :
  PC bp text 168 [pp bp] .implies (n + 1) := by
 intro a x r w hle hr hp
 simp only [Fm.parse] at hr
 refine enter Tryz.func168 rfl Tryz.ntmps168 rfl (St.init1 hp) ?_
 refine jN 3 ?_
 refine WL.alloc F.zero24 rfl (fun b2 => ?_)
 refine jN 3 ?_
 rcases Fm.bindP_ok hr with ⟨a1,h1,rfl⟩ | ⟨t1,a1,x1,h1,hr1⟩
 ·have hN := fun w hp => hsub _ _ _ w hle h1 hp
  refine jN 4 ?_
  refine WL.call1P (bs := pcell text a x) F.fun179 (fun d h => by cases h; rfl) rfl jR (fun w hS => hN w (hS.heap jM)) (fun cs => ?_)
  refine jN 1 ?_
  refine WQ.panicked (fun w hS => ?_)
  exact ⟨rfl,_,(St.pick hS (c := pt bp cs 143) jR).one1⟩
 have hN := fun w hp => hsub _ _ _ w hle h1 hp
 have g1 := Fm.parse_le _ _ _ _ _ _ _ hle h1
 refine jN 4 ?_
 refine WL.call1A (res := fun y : List Nat × Option Addr × Nat => tv t1 y.2.1 y.2.2) (c1 := fun y : List Nat × Option Addr × Nat => own y.1 t1 (tv t1 y.2.1 y.2.2)) (c2 := fun _ => pt bp (pcell text a1 x1) 143) (bs := pcell text a x) F.fun179 rfl rfl jR (fun w hS => hN w (hS.heap jM)) (fun y5 => ?_)
 refine jN 1 ?_
 refine WL.alloc F.zero24 rfl (fun b3 => ?_)
 refine jN 6 ?_
 rcases Fm.bindT_ok hr1 with ⟨ht,hr2⟩ | ⟨a2,x2,ht,hr2⟩ | ⟨a2,ht,rfl⟩
 ·have hT := fun w hp => takes_c bp text x1 [61,62] a1 g1.2 hmax w hp
  rw [ht] at hT
  injection hr2 with hr2
  subst hr2
  refine jN 4 ?_
  refine WL.call1S (bs := pcell text a1 x1) (bs' := pcell text a1 x1) F.fun140 rfl rfl jR (fun w hS => hT w (hS.heap jM)) ?_
  refine jN 15 ?_
  refine WQ.ret (rs := [.cell 2 24]) rfl (.cellN F.agg24 rfl jM rfl .nil) (fun w hS => ?_)
  exact ⟨y5,rfl,(St.pick (St.pick hS (c := pt bp (pcell text a1 x1) 143) jR) (c := own y5.1 t1 (tv t1 y5.2.1 y5.2.2)) jR).two2⟩
 ·have hT := fun w hp => takes_c bp text x1 [61,62] a1 g1.2 hmax w hp
  rw [ht] at hT
  have g2 := Fm.takes_le g1.2 ht
  refine jN 4 ?_
  refine WL.call1S (bs := pcell text a1 x1) (bs' := pcell text a2 x2) F.fun140 rfl rfl jR (fun w hS => hT w (hS.heap jM)) ?_
  refine jN 8 ?_
  rcases Fm.bindP_ok hr2 with ⟨a3,h3,rfl⟩ | ⟨t2,a3,x3,h3,hr3⟩
  ·have hM := fun w hp => hrec _ _ _ w g2.2 h3 hp
   refine WC.draws [([3,4,5],fun w => ∀ j v,[Value.int .u8 t1.op,.string (str t1.name),.slice y5.2.1 t1.kids.length y5.2.2][j]? = some v → w.cell? ⟨b3,0 + j,none⟩ = some v)] (by kernel_rfl) (fun w hS => facts_cons (fun j v hv => by rw [Nat.zero_add]; exact hS.cell jM hv) (facts_nil)) ?_
   refine jF 0 0 rfl rfl (Yl.loadN F.agg24 rfl rfl) ?_
   refine jT 1 rfl (Yl.move rfl) ?_
   refine jA 2 rfl ?_
   refine WL.call1P (bs := pcell text a2 x2) F.fun168 (fun d h => by cases h; rfl) rfl jR (fun w hS => hM w (hS.heap jM)) (fun cs => ?_)
   refine jN 1 ?_
   refine WQ.panicked (fun w hS => ?_)
   exact ⟨rfl,_,(St.pick hS (c := pt bp cs 143) jR).one1⟩
  have hM := fun w hp => hrec _ _ _ w g2.2 h3 hp
  injection hr3 with hr3
  subst hr3
  refine WC.draws [([3,4,5],fun w => ∀ j v,[Value.int .u8 t1.op,.string (str t1.name),.slice y5.2.1 t1.kids.length y5.2.2][j]? = some v → w.cell? ⟨b3,0 + j,none⟩ = some v)] (by kernel_rfl) (fun w hS => facts_cons (fun j v hv => by rw [Nat.zero_add]; exact hS.cell jM hv) (facts_nil)) ?_
  refine jF 0 0 rfl rfl (Yl.loadN F.agg24 rfl rfl) ?_
  refine jT 1 rfl (Yl.move rfl) ?_
  refine jA 2 rfl ?_
  refine WL.call1A (res := fun y : List Nat × Option Addr × Nat => tv t2 y.2.1 y.2.2) (c1 := fun y : List Nat × Option Addr × Nat => own y.1 t2 (tv t2 y.2.1 y.2.2)) (c2 := fun _ => pt bp (pcell text a3 x3) 143) (bs := pcell text a2 x2) F.fun168 rfl rfl jR (fun w hS => hM w (hS.heap jM)) (fun y12 => ?_)
  refine WD.on (closed_of (by kernel_rfl)) (fun w hS => Sx.keep (fun j v hv => by rw [Nat.zero_add]; exact hS.cell jM hv) (Sx.none)) ?_
  refine jA 3 rfl ?_
  refine WL.buildSlice F.sl22 F.ez22 rfl rfl rfl rfl jB rfl (fun b13 => ?_)
  refine jG ?_
  refine jA 4 rfl ?_
  refine WL.callV F.fun63 rfl rfl (fun w _ => node_c _ _ _ _ w) ?_
  refine jG ?_
  refine jA 5 rfl ?_
  refine WL.storeN F.agg24 rfl rfl rfl jO jU jS ?_
  refine jG ?_
  refine jD ?_
  refine jN 2 ?_
  refine WQ.ret (rs := [.cell 2 24]) rfl (.cellN F.agg24 rfl jM rfl .nil) (fun w hS => ?_)
  obtain ⟨F,h⟩ := St.node2 8 (St.pick (St.pick (St.pick (St.pick hS (c := pt bp (pcell text a3 x3) 143) jR) (c := own y12.1 t2 (tv t2 y12.2.1 y12.2.2)) jR) (c := own y5.1 t1 (tv t1 y5.2.1 y5.2.2)) jR) (c := pt b13 [.int .u8 t1.op,.string (str t1.name),.slice y5.2.1 t1.kids.length y5.2.2,.int .u8 t2.op,.string (str t2.name),.slice y12.2.1 t2.kids.length y12.2.2] 24) jR)
  exact ⟨(F,_,_),rfl,h.two2⟩
 have hT := fun w hp => takes_c bp text x1 [61,62] a1 g1.2 hmax w hp
 rw [ht] at hT
 refine jN 4 ?_
 refine WL.call1P (bs := pcell text a1 x1) F.fun140 (fun d h => by cases h; rfl) rfl jR (fun w hS => hT w (hS.heap jM)) (fun cs => ?_)
 refine jN 2 ?_
 refine WQ.panicked (fun w hS => ?_)
 exact ⟨rfl,_,(St.pick hS (c := pt bp cs 143) jR).one1⟩
theorem same_c (bp : Nat) (text : List UInt8) (hmax : text.length ≤ 140737488355328) (n : Nat) (hsub : PC bp text 168 [pp bp] .implies n) (hrec : PC bp text 168 [pp bp] .implies n) :
  PC bp text 139 [pp bp] .same (n + 1) := by
 intro a x r w hle hr hp
 simp only [Fm.parse] at hr
 refine enter Tryz.func139 rfl Tryz.ntmps139 rfl (St.init1 hp) ?_
 refine jN 3 ?_
 refine WL.alloc F.zero24 rfl (fun b2 => ?_)
 refine jN 3 ?_
 rcases Fm.bindP_ok hr with ⟨a1,h1,rfl⟩ | ⟨t1,a1,x1,h1,hr1⟩
 ·have hN := fun w hp => hsub _ _ _ w hle h1 hp
  refine jN 4 ?_
  refine WL.call1P (bs := pcell text a x) F.fun168 (fun d h => by cases h; rfl) rfl jR (fun w hS => hN w (hS.heap jM)) (fun cs => ?_)
  refine jN 1 ?_
  refine WQ.panicked (fun w hS => ?_)
  exact ⟨rfl,_,(St.pick hS (c := pt bp cs 143) jR).one1⟩
 have hN := fun w hp => hsub _ _ _ w hle h1 hp
 have g1 := Fm.parse_le _ _ _ _ _ _ _ hle h1
 refine jN 4 ?_
 refine WL.call1A (res := fun y : List Nat × Option Addr × Nat => tv t1 y.2.1 y.2.2) (c1 := fun y : List Nat × Option Addr × Nat => own y.1 t1 (tv t1 y.2.1 y.2.2)) (c2 := fun _ => pt bp (pcell text a1 x1) 143) (bs := pcell text a x) F.fun168 rfl rfl jR (fun w hS => hN w (hS.heap jM)) (fun y5 => ?_)
 refine jN 1 ?_
 refine WL.alloc F.zero24 rfl (fun b3 => ?_)
 refine jN 6 ?_
 rcases Fm.bindT_ok hr1 with ⟨ht,hr2⟩ | ⟨a2,x2,ht,hr2⟩ | ⟨a2,ht,rfl⟩
 ·have hT := fun w hp => takes_c bp text x1 [60,61,62] a1 g1.2 hmax w hp
  rw [ht] at hT
  injection hr2 with hr2
  subst hr2
  refine jN 4 ?_
  refine WL.call1S (bs := pcell text a1 x1) (bs' := pcell text a1 x1) F.fun140 rfl rfl jR (fun w hS => hT w (hS.heap jM)) ?_
  refine jN 15 ?_
  refine WQ.ret (rs := [.cell 2 24]) rfl (.cellN F.agg24 rfl jM rfl .nil) (fun w hS => ?_)
  exact ⟨y5,rfl,(St.pick (St.pick hS (c := pt bp (pcell text a1 x1) 143) jR) (c := own y5.1 t1 (tv t1 y5.2.1 y5.2.2)) jR).two2⟩
 ·have hT := fun w hp => takes_c bp text x1 [60,61,62] a1 g1.2 hmax w hp
  rw [ht] at hT
  have g2 := Fm.takes_le g1.2 ht
  refine jN 4 ?_
  refine WL.call1S (bs := pcell text a1 x1) (bs' := pcell text a2 x2) F.fun140 rfl rfl jR (fun w hS => hT w (hS.heap jM)) ?_
  refine jN 8 ?_
  rcases Fm.bindP_ok hr2 with ⟨a3,h3,rfl⟩ | ⟨t2,a3,x3,h3,hr3⟩
  ·have hM := fun w hp => hrec _ _ _ w g2.2 h3 hp
   refine WC.draws [([3,4,5],fun w => ∀ j v,[Value.int .u8 t1.op,.string (str t1.name),.slice y5.2.1 t1.kids.length y5.2.2][j]? = some v → w.cell? ⟨b3,0 + j,none⟩ = some v)] (by kernel_rfl) (fun w hS => facts_cons (fun j v hv => by rw [Nat.zero_add]; exact hS.cell jM hv) (facts_nil)) ?_
   refine jF 0 0 rfl rfl (Yl.loadN F.agg24 rfl rfl) ?_
   refine jT 1 rfl (Yl.move rfl) ?_
   refine jA 2 rfl ?_
   refine WL.call1P (bs := pcell text a2 x2) F.fun168 (fun d h => by cases h; rfl) rfl jR (fun w hS => hM w (hS.heap jM)) (fun cs => ?_)
   refine jN 1 ?_
   refine WQ.panicked (fun w hS => ?_)
   exact ⟨rfl,_,(St.pick hS (c := pt bp cs 143) jR).one1⟩
  have hM := fun w hp => hrec _ _ _ w g2.2 h3 hp
  injection hr3 with hr3
  subst hr3
  refine WC.draws [([3,4,5],fun w => ∀ j v,[Value.int .u8 t1.op,.string (str t1.name),.slice y5.2.1 t1.kids.length y5.2.2][j]? = some v → w.cell? ⟨b3,0 + j,none⟩ = some v)] (by kernel_rfl) (fun w hS => facts_cons (fun j v hv => by rw [Nat.zero_add]; exact hS.cell jM hv) (facts_nil)) ?_
  refine jF 0 0 rfl rfl (Yl.loadN F.agg24 rfl rfl) ?_
  refine jT 1 rfl (Yl.move rfl) ?_
  refine jA 2 rfl ?_
  refine WL.call1A (res := fun y : List Nat × Option Addr × Nat => tv t2 y.2.1 y.2.2) (c1 := fun y : List Nat × Option Addr × Nat => own y.1 t2 (tv t2 y.2.1 y.2.2)) (c2 := fun _ => pt bp (pcell text a3 x3) 143) (bs := pcell text a2 x2) F.fun168 rfl rfl jR (fun w hS => hM w (hS.heap jM)) (fun y12 => ?_)
  refine WD.on (closed_of (by kernel_rfl)) (fun w hS => Sx.keep (fun j v hv => by rw [Nat.zero_add]; exact hS.cell jM hv) (Sx.none)) ?_
  refine jA 3 rfl ?_
  refine WL.buildSlice F.sl22 F.ez22 rfl rfl rfl rfl jB rfl (fun b13 => ?_)
  refine jG ?_
  refine jA 4 rfl ?_
  refine WL.callV F.fun63 rfl rfl (fun w _ => node_c _ _ _ _ w) ?_
  refine jG ?_
  refine jA 5 rfl ?_
  refine WL.storeN F.agg24 rfl rfl rfl jO jU jS ?_
  refine jG ?_
  refine jD ?_
  refine jN 2 ?_
  refine WQ.ret (rs := [.cell 2 24]) rfl (.cellN F.agg24 rfl jM rfl .nil) (fun w hS => ?_)
  obtain ⟨F,h⟩ := St.node2 9 (St.pick (St.pick (St.pick (St.pick hS (c := pt bp (pcell text a3 x3) 143) jR) (c := own y12.1 t2 (tv t2 y12.2.1 y12.2.2)) jR) (c := own y5.1 t1 (tv t1 y5.2.1 y5.2.2)) jR) (c := pt b13 [.int .u8 t1.op,.string (str t1.name),.slice y5.2.1 t1.kids.length y5.2.2,.int .u8 t2.op,.string (str t2.name),.slice y12.2.1 t2.kids.length y12.2.2] 24) jR)
  exact ⟨(F,_,_),rfl,h.two2⟩
 have hT := fun w hp => takes_c bp text x1 [60,61,62] a1 g1.2 hmax w hp
 rw [ht] at hT
 refine jN 4 ?_
 refine WL.call1P (bs := pcell text a1 x1) F.fun140 (fun d h => by cases h; rfl) rfl jR (fun w hS => hT w (hS.heap jM)) (fun cs => ?_)
 refine jN 2 ?_
 refine WQ.panicked (fun w hS => ?_)
 exact ⟨rfl,_,(St.pick hS (c := pt bp cs 143) jR).one1⟩
theorem choice_c (bp : Nat) (text : List UInt8) (hmax : text.length ≤ 140737488355328) (n : Nat) (hsame : PC bp text 139 [pp bp] .same n) (hch : PC bp text 86 [pp bp] .choice n) :
  PC bp text 86 [pp bp] .choice (n + 1) := by
 intro a x r w hle hr hp
 simp only [Fm.parse] at hr
 refine enter Tryz.func86 rfl Tryz.ntmps86 rfl (St.init1 hp) ?_
 refine jN 3 ?_
 refine WL.alloc F.zero24 rfl (fun b2 => ?_)
 refine jN 3 ?_
 rcases Fm.bindP_ok hr with ⟨a1,h1,rfl⟩ | ⟨t1,a1,x1,h1,hr1⟩
 ·have hN := fun w hp => hsame _ _ _ w hle h1 hp
  refine jN 4 ?_
  refine WL.call1P (bs := pcell text a x) F.fun139 (fun d h => by cases h; rfl) rfl jR (fun w hS => hN w (hS.heap jM)) (fun cs => ?_)
  refine jN 1 ?_
  refine WQ.panicked (fun w hS => ?_)
  exact ⟨rfl,_,(St.pick hS (c := pt bp cs 143) jR).one1⟩
 have hN := fun w hp => hsame _ _ _ w hle h1 hp
 have g1 := Fm.parse_le _ _ _ _ _ _ _ hle h1
 refine jN 4 ?_
 refine WL.call1A (res := fun y : List Nat × Option Addr × Nat => tv t1 y.2.1 y.2.2) (c1 := fun y : List Nat × Option Addr × Nat => own y.1 t1 (tv t1 y.2.1 y.2.2)) (c2 := fun _ => pt bp (pcell text a1 x1) 143) (bs := pcell text a x) F.fun139 rfl rfl jR (fun w hS => hN w (hS.heap jM)) (fun y6 => ?_)
 refine jN 1 ?_
 refine WL.alloc F.zero24 rfl (fun b3 => ?_)
 refine jN 6 ?_
 rcases Fm.bindT_ok hr1 with ⟨ht,hr2⟩ | ⟨a2,x2,ht,hr2⟩ | ⟨a2,ht,rfl⟩
 ·have hT := fun w hp => takes_c bp text x1 [63] a1 g1.2 hmax w hp
  rw [ht] at hT
  injection hr2 with hr2
  subst hr2
  refine jN 4 ?_
  refine WL.call1S (bs := pcell text a1 x1) (bs' := pcell text a1 x1) F.fun140 rfl rfl jR (fun w hS => hT w (hS.heap jM)) ?_
  refine jN 15 ?_
  refine WQ.ret (rs := [.cell 2 24]) rfl (.cellN F.agg24 rfl jM rfl .nil) (fun w hS => ?_)
  exact ⟨y6,rfl,(St.pick (St.pick hS (c := pt bp (pcell text a1 x1) 143) jR) (c := own y6.1 t1 (tv t1 y6.2.1 y6.2.2)) jR).two2⟩
 ·have hT := fun w hp => takes_c bp text x1 [63] a1 g1.2 hmax w hp
  rw [ht] at hT
  have g2 := Fm.takes_le g1.2 ht
  refine jN 4 ?_
  refine WL.call1S (bs := pcell text a1 x1) (bs' := pcell text a2 x2) F.fun140 rfl rfl jR (fun w hS => hT w (hS.heap jM)) ?_
  refine jN 8 ?_
  rcases Fm.bindP_ok hr2 with ⟨a3,h3,rfl⟩ | ⟨t2,a3,x3,h3,hr3⟩
  ·have hM := fun w hp => hch _ _ _ w g2.2 h3 hp
   refine jN 4 ?_
   refine WL.call1P (bs := pcell text a2 x2) F.fun86 (fun d h => by cases h; rfl) rfl jR (fun w hS => hM w (hS.heap jM)) (fun cs => ?_)
   refine jN 1 ?_
   refine WQ.panicked (fun w hS => ?_)
   exact ⟨rfl,_,(St.pick hS (c := pt bp cs 143) jR).one1⟩
  have hM := fun w hp => hch _ _ _ w g2.2 h3 hp
  have g3 := Fm.parse_le _ _ _ _ _ _ _ g2.2 h3
  refine jN 4 ?_
  refine WL.call1A (res := fun y : List Nat × Option Addr × Nat => tv t2 y.2.1 y.2.2) (c1 := fun y : List Nat × Option Addr × Nat => own y.1 t2 (tv t2 y.2.1 y.2.2)) (c2 := fun _ => pt bp (pcell text a3 x3) 143) (bs := pcell text a2 x2) F.fun86 rfl rfl jR (fun w hS => hM w (hS.heap jM)) (fun y12 => ?_)
  refine jN 1 ?_
  refine WL.alloc F.zero24 rfl (fun b4 => ?_)
  refine jN 5 ?_
  rcases Fm.bindT_ok hr3 with ⟨ht,hr4⟩ | ⟨a4,x4,ht,hr4⟩ | ⟨a4,ht,rfl⟩
  ·clear hT
   have hT := fun w hp => must_c bp text x3 [58] a3 g3.2 hmax w hp
   rw [ht] at hT
   injection hr4 with hr4
   subst hr4
   refine jN 4 ?_
   refine WL.call1P (bs := pcell text a3 x3) F.fun141 (fun d h => by cases h; rfl) rfl jR (fun w hS => hT w (hS.heap jM)) (fun cs => ?_)
   refine jN 1 ?_
   refine WQ.panicked (fun w hS => ?_)
   exact ⟨rfl,_,(St.pick hS (c := pt bp cs 143) jR).one1⟩
  ·clear hT
   have hT := fun w hp => must_c bp text x3 [58] a3 g3.2 hmax w hp
   rw [ht] at hT
   have g4 := Fm.takes_le g3.2 ht
   refine jN 4 ?_
   refine WL.call1S (bs := pcell text a3 x3) (bs' := pcell text a4 x4) F.fun141 rfl rfl jR (fun w hS => hT w (hS.heap jM)) ?_
   refine jN 3 ?_
   rcases Fm.bindP_ok hr4 with ⟨a5,h5,rfl⟩ | ⟨t3,a5,x5,h5,hr5⟩
   ·have hM2 := fun w hp => hch _ _ _ w g4.2 h5 hp
    refine WC.draws [([4,5,6],fun w => ∀ j v,[Value.int .u8 t1.op,.string (str t1.name),.slice y6.2.1 t1.kids.length y6.2.2][j]? = some v → w.cell? ⟨b3,0 + j,none⟩ = some v),([4,5,6],fun w => ∀ j v,[Value.int .u8 t2.op,.string (str t2.name),.slice y12.2.1 t2.kids.length y12.2.2][j]? = some v → w.cell? ⟨b4,0 + j,none⟩ = some v)] (by kernel_rfl) (fun w hS => facts_cons (fun j v hv => by rw [Nat.zero_add]; exact hS.cell jM hv) (facts_cons (fun j v hv => by rw [Nat.zero_add]; exact hS.cell jM hv) (facts_nil))) ?_
    refine jF 0 0 rfl rfl (Yl.loadN F.agg24 rfl rfl) ?_
    refine jF 1 1 rfl rfl (Yl.loadN F.agg24 rfl rfl) ?_
    refine jT 2 rfl (Yl.move rfl) ?_
    refine jA 3 rfl ?_
    refine WL.call1P (bs := pcell text a4 x4) F.fun86 (fun d h => by cases h; rfl) rfl jR (fun w hS => hM2 w (hS.heap jM)) (fun cs => ?_)
    refine jN 1 ?_
    refine WQ.panicked (fun w hS => ?_)
    exact ⟨rfl,_,(St.pick hS (c := pt bp cs 143) jR).one1⟩
   have hM2 := fun w hp => hch _ _ _ w g4.2 h5 hp
   injection hr5 with hr5
   subst hr5
   refine WC.draws [([4,5,6],fun w => ∀ j v,[Value.int .u8 t1.op,.string (str t1.name),.slice y6.2.1 t1.kids.length y6.2.2][j]? = some v → w.cell? ⟨b3,0 + j,none⟩ = some v),([4,5,6],fun w => ∀ j v,[Value.int .u8 t2.op,.string (str t2.name),.slice y12.2.1 t2.kids.length y12.2.2][j]? = some v → w.cell? ⟨b4,0 + j,none⟩ = some v)] (by kernel_rfl) (fun w hS => facts_cons (fun j v hv => by rw [Nat.zero_add]; exact hS.cell jM hv) (facts_cons (fun j v hv => by rw [Nat.zero_add]; exact hS.cell jM hv) (facts_nil))) ?_
   refine jF 0 0 rfl rfl (Yl.loadN F.agg24 rfl rfl) ?_
   refine jF 1 1 rfl rfl (Yl.loadN F.agg24 rfl rfl) ?_
   refine jT 2 rfl (Yl.move rfl) ?_
   refine jA 3 rfl ?_
   refine WL.call1A (res := fun y : List Nat × Option Addr × Nat => tv t3 y.2.1 y.2.2) (c1 := fun y : List Nat × Option Addr × Nat => own y.1 t3 (tv t3 y.2.1 y.2.2)) (c2 := fun _ => pt bp (pcell text a5 x5) 143) (bs := pcell text a4 x4) F.fun86 rfl rfl jR (fun w hS => hM2 w (hS.heap jM)) (fun y18 => ?_)
   refine WD.on (closed_of (by kernel_rfl)) (fun w hS => Sx.keep (fun j v hv => by rw [Nat.zero_add]; exact hS.cell jM hv) (Sx.keep (fun j v hv => by rw [Nat.zero_add]; exact hS.cell jM hv) (Sx.none))) ?_
   refine jA 4 rfl ?_
   refine WL.buildSlice F.sl22 F.ez22 rfl rfl rfl rfl jB rfl (fun b19 => ?_)
   refine jG ?_
   refine jA 5 rfl ?_
   refine WL.callV F.fun63 rfl rfl (fun w _ => node_c _ _ _ _ w) ?_
   refine jG ?_
   refine jA 6 rfl ?_
   refine WL.storeN F.agg24 rfl rfl rfl jO jU jS ?_
   refine jG ?_
   refine jD ?_
   refine jN 2 ?_
   refine WQ.ret (rs := [.cell 2 24]) rfl (.cellN F.agg24 rfl jM rfl .nil) (fun w hS => ?_)
   obtain ⟨F,h⟩ := St.node3 10 (St.pick (St.pick (St.pick (St.pick (St.pick hS (c := pt bp (pcell text a5 x5) 143) jR) (c := own y18.1 t3 (tv t3 y18.2.1 y18.2.2)) jR) (c := own y12.1 t2 (tv t2 y12.2.1 y12.2.2)) jR) (c := own y6.1 t1 (tv t1 y6.2.1 y6.2.2)) jR) (c := pt b19 [.int .u8 t1.op,.string (str t1.name),.slice y6.2.1 t1.kids.length y6.2.2,.int .u8 t2.op,.string (str t2.name),.slice y12.2.1 t2.kids.length y12.2.2,.int .u8 t3.op,.string (str t3.name),.slice y18.2.1 t3.kids.length y18.2.2] 24) jR)
   exact ⟨(F,_,_),rfl,h.two2⟩
  clear hT
  have hT := fun w hp => must_c bp text x3 [58] a3 g3.2 hmax w hp
  rw [ht] at hT
  refine jN 4 ?_
  refine WL.call1P (bs := pcell text a3 x3) F.fun141 (fun d h => by cases h; rfl) rfl jR (fun w hS => hT w (hS.heap jM)) (fun cs => ?_)
  refine jN 1 ?_
  refine WQ.panicked (fun w hS => ?_)
  exact ⟨rfl,_,(St.pick hS (c := pt bp cs 143) jR).one1⟩
 have hT := fun w hp => takes_c bp text x1 [63] a1 g1.2 hmax w hp
 rw [ht] at hT
 refine jN 4 ?_
 refine WL.call1P (bs := pcell text a1 x1) F.fun140 (fun d h => by cases h; rfl) rfl jR (fun w hS => hT w (hS.heap jM)) (fun cs => ?_)
 refine jN 2 ?_
 refine WQ.panicked (fun w hS => ?_)
 exact ⟨rfl,_,(St.pick hS (c := pt bp cs 143) jR).one1⟩
theorem least_c (bp : Nat) (text : List UInt8) (hmax : text.length ≤ 140737488355328) (n : Nat) (hch : PC bp text 86 [pp bp] .choice n) :
  PC bp text 182 [pp bp] .least (n + 1) := by
 intro a x r w hle hr hp
 simp only [Fm.parse] at hr
 refine enter Tryz.func182 rfl Tryz.ntmps182 rfl (St.init1 hp) ?_
 refine jN 3 ?_
 refine WL.alloc F.zero24 rfl (fun b2 => ?_)
 refine jN 19 ?_
 rcases Fm.bindT_ok hr with ⟨ht,hr2⟩ | ⟨a2,x2,ht,hr2⟩ | ⟨a2,ht,rfl⟩
 ·have hT := fun w hp => takes_c bp text x [40] a hle hmax w hp
  rw [ht] at hT
  refine jN 4 ?_
  refine WL.call1S (bs := pcell text a x) (bs' := pcell text a x) F.fun140 rfl rfl jR (fun w hS => hT w (hS.heap jM)) ?_
  refine jN 13 ?_
  refine WA.splitB (i := 20) rfl (fun h20 => ?_) (fun h20 => ?_)
  ·have hx : x = [] := by simpa using h20
   have hnl : Fm.noLeaf x = true := by rw [hx]; rfl
   refine jN 27 ?_
   refine WL.makeIface F.conc139 rfl rfl ?_
   refine jN 1 ?_
   refine WL.panic rfl ?_
   refine jN 2 ?_
   rw [if_pos hnl] at hr2
   injection hr2 with hr2
   subst hr2
   refine WQ.panicked (fun w hS => ?_)
   exact ⟨rfl,_,(St.pick hS (c := pt bp (pcell text a x) 143) jR).one1⟩
  have hx : x ≠ [] := by simpa using h20
  obtain ⟨c,hc⟩ : ∃ c,x[0]? = some c := by cases x with | nil => exact absurd rfl hx | cons c r => exact ⟨c,rfl⟩
  have hnl0 : Fm.noLeaf x = !Fm.inWordB c := by cases x with | nil => cases hc | cons d r => injection hc with hc; rw [← hc]; rfl
  refine jN 5 ?_
  refine WL.indexS (i := 0) F.und9 rfl rfl rfl hc ?_
  refine jN 2 ?_
  refine WL.callV F.fun138 rfl rfl (fun w _ => inWord_c c w) ?_
  refine jN 9 ?_
  refine WC.cond rfl (fun h17 => ?_) (fun h17 => ?_)
  ·have hnl : Fm.noLeaf x = true := by first | assumption | (rw [hnl0]; exact h17)
   refine jN 12 ?_
   refine WL.makeIface F.conc139 rfl rfl ?_
   refine jN 1 ?_
   refine WL.panic rfl ?_
   refine jN 2 ?_
   rw [if_pos hnl] at hr2
   injection hr2 with hr2
   subst hr2
   refine WQ.panicked (fun w hS => ?_)
   exact ⟨rfl,_,(St.pick hS (c := pt bp (pcell text a x) 143) jR).one1⟩
  have hnl : Fm.noLeaf x = false := by first | assumption | (rw [hnl0]; exact h17)
  simp only [hnl,Bool.false_eq_true,if_false] at hr2
  refine jN 4 ?_
  rcases hn : Fm.next text a x with ⟨a1,x1⟩ | a1
  ·have hN := fun w hp => next_c bp text x a hle hmax w hp
   rw [hn] at hN hr2
   injection hr2 with hr2
   subst hr2
   refine jN 4 ?_
   refine WL.call1S (bs := pcell text a x) (bs' := pcell text a1 x1) F.fun85 rfl rfl jR (fun w hS => hN w (hS.heap jM)) ?_
   refine jN 18 ?_
   refine WC.cond rfl (fun h35 => ?_) (fun h35 => ?_)
   ·have hx1 : x = [48] := by simpa using h35
    refine jN 3 ?_
    refine WL.callV F.fun63 rfl rfl (fun w _ => node_c _ _ _ _ w) ?_
    refine jN 7 ?_
    refine WQ.ret (rs := [.cell 2 24]) rfl (.cellN F.agg24 rfl jM rfl .nil) (fun w hS => ?_)
    have h0 := St.node0 1 [] (St.pick hS (c := pt bp (pcell text a1 x1) 143) jR)
    rw [show Fm.leaf x = .mk 1 [] [] by first | simp [Fm.leaf,hx1,hx2] | simp [Fm.leaf,hx1]]
    exact ⟨([],none,0),rfl,h0.two2⟩
   have hx1 : x ≠ [48] := by simpa using h35
   refine jN 8 ?_
   refine WC.cond rfl (fun h38 => ?_) (fun h38 => ?_)
   ·have hx2 : x = [49] := by simpa using h38
    refine jN 3 ?_
    refine WL.callV F.fun63 rfl rfl (fun w _ => node_c _ _ _ _ w) ?_
    refine jN 7 ?_
    refine WQ.ret (rs := [.cell 2 24]) rfl (.cellN F.agg24 rfl jM rfl .nil) (fun w hS => ?_)
    have h0 := St.node0 2 [] (St.pick hS (c := pt bp (pcell text a1 x1) 143) jR)
    rw [show Fm.leaf x = .mk 2 [] [] by first | simp [Fm.leaf,hx1,hx2] | simp [Fm.leaf,hx1]]
    exact ⟨([],none,0),rfl,h0.two2⟩
   have hx2 : x ≠ [49] := by simpa using h38
   refine jN 14 ?_
   refine WQ.ret (rs := [.cell 2 24]) rfl (.cellN F.agg24 rfl jM rfl .nil) (fun w hS => ?_)
   have h0 := St.node0 3 x (St.pick hS (c := pt bp (pcell text a1 x1) 143) jR)
   rw [show Fm.leaf x = .mk 3 x [] by first | simp [Fm.leaf,hx1,hx2] | simp [Fm.leaf,hx1]]
   exact ⟨([],none,0),rfl,h0.two2⟩
  have hN := fun w hp => next_c bp text x a hle hmax w hp
  rw [hn] at hN hr2
  injection hr2 with hr2
  subst hr2
  refine jN 4 ?_
  refine WL.call1P (bs := pcell text a x) F.fun85 (fun d h => by cases h; rfl) rfl jR (fun w hS => hN w (hS.heap jM)) (fun cs => ?_)
  refine jN 1 ?_
  refine WQ.panicked (fun w hS => ?_)
  exact ⟨rfl,_,(St.pick hS (c := pt bp cs 143) jR).one1⟩
 ·have hT := fun w hp => takes_c bp text x [40] a hle hmax w hp
  rw [ht] at hT
  have g2 := Fm.takes_le hle ht
  refine jN 4 ?_
  refine WL.call1S (bs := pcell text a x) (bs' := pcell text a2 x2) F.fun140 rfl rfl jR (fun w hS => hT w (hS.heap jM)) ?_
  refine jN 6 ?_
  rcases Fm.bindP_ok hr2 with ⟨a3,h3,rfl⟩ | ⟨t2,a3,x3,h3,hr3⟩
  ·have hM := fun w hp => hch _ _ _ w g2.2 h3 hp
   refine jN 4 ?_
   refine WL.call1P (bs := pcell text a2 x2) F.fun86 (fun d h => by cases h; rfl) rfl jR (fun w hS => hM w (hS.heap jM)) (fun cs => ?_)
   refine jN 3 ?_
   refine WQ.panicked (fun w hS => ?_)
   exact ⟨rfl,_,(St.pick hS (c := pt bp cs 143) jR).one1⟩
  have hM := fun w hp => hch _ _ _ w g2.2 h3 hp
  have g3 := Fm.parse_le _ _ _ _ _ _ _ g2.2 h3
  refine jN 4 ?_
  refine WL.call1A (res := fun y : List Nat × Option Addr × Nat => tv t2 y.2.1 y.2.2) (c1 := fun y : List Nat × Option Addr × Nat => own y.1 t2 (tv t2 y.2.1 y.2.2)) (c2 := fun _ => pt bp (pcell text a3 x3) 143) (bs := pcell text a2 x2) F.fun86 rfl rfl jR (fun w hS => hM w (hS.heap jM)) (fun y13 => ?_)
  refine jN 1 ?_
  refine WL.alloc F.zero24 rfl (fun b4 => ?_)
  refine jN 5 ?_
  rcases Fm.bindT_ok hr3 with ⟨ht,hr4⟩ | ⟨a4,x4,ht,hr4⟩ | ⟨a4,ht,rfl⟩
  ·clear hT
   have hT := fun w hp => must_c bp text x3 [41] a3 g3.2 hmax w hp
   rw [ht] at hT
   injection hr4 with hr4
   subst hr4
   refine jN 4 ?_
   refine WL.call1P (bs := pcell text a3 x3) F.fun141 (fun d h => by cases h; rfl) rfl jR (fun w hS => hT w (hS.heap jM)) (fun cs => ?_)
   refine jN 3 ?_
   refine WQ.panicked (fun w hS => ?_)
   exact ⟨rfl,_,(St.pick hS (c := pt bp cs 143) jR).one1⟩
  ·clear hT
   have hT := fun w hp => must_c bp text x3 [41] a3 g3.2 hmax w hp
   rw [ht] at hT
   injection hr4 with hr4
   subst hr4
   refine jN 4 ?_
   refine WL.call1S (bs := pcell text a3 x3) (bs' := pcell text a4 x4) F.fun141 rfl rfl jR (fun w hS => hT w (hS.heap jM)) ?_
   refine jN 13 ?_
   refine WQ.ret (rs := [.cell 2 24]) rfl (.cellN F.agg24 rfl jM rfl .nil) (fun w hS => ?_)
   exact ⟨y13,rfl,(St.pick (St.pick hS (c := pt bp (pcell text a4 x4) 143) jR) (c := own y13.1 t2 (tv t2 y13.2.1 y13.2.2)) jR).two2⟩
  clear hT
  have hT := fun w hp => must_c bp text x3 [41] a3 g3.2 hmax w hp
  rw [ht] at hT
  refine jN 4 ?_
  refine WL.call1P (bs := pcell text a3 x3) F.fun141 (fun d h => by cases h; rfl) rfl jR (fun w hS => hT w (hS.heap jM)) (fun cs => ?_)
  refine jN 3 ?_
  refine WQ.panicked (fun w hS => ?_)
  exact ⟨rfl,_,(St.pick hS (c := pt bp cs 143) jR).one1⟩
 have hT := fun w hp => takes_c bp text x [40] a hle hmax w hp
 rw [ht] at hT
 refine jN 4 ?_
 refine WL.call1P (bs := pcell text a x) F.fun140 (fun d h => by cases h; rfl) rfl jR (fun w hS => hT w (hS.heap jM)) (fun cs => ?_)
 refine jN 3 ?_
 refine WQ.panicked (fun w hS => ?_)
 exact ⟨rfl,_,(St.pick hS (c := pt bp cs 143) jR).one1⟩
def nots : Nat → Tree → Tree
 | 0,t => t
 | k + 1,t => .mk 4 [] [nots k t]
theorem nots_in : ∀ (k : Nat) (t : Tree),nots k (.mk 4 [] [t]) = nots (k + 1) t
 | 0,_ => rfl
 | k + 1,t => by rw [nots,nots_in k t]; rfl
def wrapR (k : Nat) : Fm.PR → Fm.PR
 | .ok t a x => .ok (nots k t) a x
 | .bad a => .bad a
theorem wrapR_step {text : List UInt8} {m a k : Nat} {x : List UInt8} {rk r : Fm.PR} (h : Fm.bindP (Fm.parse text m .not a x) (fun t a x => some (.ok (.mk 4 [] [t]) a x)) = some rk) (hr : r = wrapR k rk) :
  ∃ rk',Fm.parse text m .not a x = some rk' ∧ r = wrapR (k + 1) rk' := by
 rcases Fm.bindP_ok h with ⟨b,h1,rfl⟩ | ⟨t,b,y,h1,h2⟩
 ·exact ⟨_,h1,hr⟩
 injection h2 with h2
 subst h2
 exact ⟨_,h1,by rw [hr]; simp [wrapR,nots_in]⟩
theorem takes_word {text wd s x : List UInt8} {at_ a : Nat} (h : Fm.takes text at_ wd s = .yes a x) : wd = s := by
 unfold Fm.takes at h
 split at h
 ·assumption
 cases h
theorem not_c (bp : Nat) (text : List UInt8) (hmax : text.length ≤ 140737488355328) (n : Nat) (hleast : ∀ m,m ≤ n → PC bp text 182 [pp bp] .least m) :
  PC bp text 181 [pp bp] .not (n + 1) := by
 intro a x r w hle hr hp
 refine enter Tryz.func181 rfl Tryz.ntmps181 rfl (St.init1 hp) ?_
 refine jN 3 ?_
 refine WL.alloc F.zero24 rfl (fun b2 => ?_)
 refine jN 10 ?_
 refine WC.chunks (fun w hS => (St.pick hS (c := pt bp (pcell text a x) 143) jR)) ?_
 refine WC.loop (α := Nat × Nat × Nat × List UInt8) (fun g => g.1 ≤ g.2.2.1 ∧ g.2.1 ≤ n + 1 ∧ g.2.2.1 + g.2.2.2.length ≤ text.length ∧ ∃ rk,Fm.parse text g.2.1 .not g.2.2.1 g.2.2.2 = some rk ∧ r = wrapR g.1 rk) (fun g => [(0,pp bp),(2,pp b2),(3,.int .i64 (g.1 : Int))]) (fun g => [pt bp (pcell text g.2.2.1 g.2.2.2) 143,pt b2 [Value.int .u8 0,.string (str []),.slice none 0 0] 24]) (fun g => g.2.1) ((0,n + 1,a,x)) ?_ ?_ ?_ ?_
 ·exact ⟨Nat.zero_le _,Nat.le_refl _,hle,r,hr,by cases r <;> rfl⟩
 ·exact ⟨rfl,rfl,rfl,trivial⟩
 ·rfl
 rintro ⟨k,m,ak,xk⟩ ⟨hk,hm,hle2,rk,hrk,hrw⟩
 dsimp only at hk hm hle2 hrk hrw
 show WC _ _ _ _ _ _ _ [(0,pp bp),(2,pp b2),(3,.int .i64 (k : Int))] [pt bp (pcell text ak xk) 143,pt b2 [Value.int .u8 0,.string (str []),.slice none 0 0] 24]
 obtain ⟨m,rfl⟩ : ∃ m2,m = m2 + 1 := by cases m with | zero => simp [Fm.parse] at hrk | succ m => exact ⟨m,rfl⟩
 simp only [Fm.parse] at hrk
 refine jN 2 ?_
 rcases Fm.bindT_ok hrk with ⟨ht,hrk2⟩ | ⟨a2,x2,ht,hrk2⟩ | ⟨a2,ht,rfl⟩
 ·have hT := fun w hp => takes_c bp text xk [33] ak hle2 hmax w hp
  rw [ht] at hT
  refine jN 4 ?_
  refine WL.call1S (bs := pcell text ak xk) (bs' := pcell text ak xk) F.fun140 rfl rfl jR (fun w hS => hT w (hS.heap jM)) ?_
  refine jN 9 ?_
  rcases rk with ⟨t,a1,x1⟩ | a1
  ·have hN := fun w hp => hleast m (by omega) _ _ _ w hle2 hrk2 hp
   refine jN 4 ?_
   refine WL.call1A (res := fun y : List Nat × Option Addr × Nat => tv t y.2.1 y.2.2) (c1 := fun y : List Nat × Option Addr × Nat => own y.1 t (tv t y.2.1 y.2.2)) (c2 := fun _ => pt bp (pcell text a1 x1) 143) (bs := pcell text ak xk) F.fun182 rfl rfl jR (fun w hS => hN w (hS.heap jM)) (fun y10 => ?_)
   refine jN 1 ?_
   refine WL.alloc F.zero24 rfl (fun b4 => ?_)
   refine jN 14 ?_
   refine WC.loop (α := Nat × (List Nat × Option Addr × Nat)) (fun g => g.1 ≤ k) (fun g => [(2,pp b2),(4,pp b4),(11,.int .i64 (k : Int)),(12,.int .i64 (g.1 : Int))]) (fun g => [pt b4 [.int .u8 (nots g.1 t).op,.string (str (nots g.1 t).name),.slice g.2.2.1 (nots g.1 t).kids.length g.2.2.2] 24,own g.2.1 (nots g.1 t) (tv (nots g.1 t) g.2.2.1 g.2.2.2),pt bp (pcell text a1 x1) 143,pt b2 [Value.int .u8 0,.string (str []),.slice none 0 0] 24]) (fun g => k - g.1) ((0,y10)) ?_ ?_ ?_ ?_
   ·exact Nat.zero_le _
   ·exact ⟨rfl,rfl,rfl,rfl,trivial⟩
   ·rfl
   rintro ⟨i,y⟩ hi
   dsimp only at hi
   show WC _ _ _ _ _ _ _ [(2,pp b2),(4,pp b4),(11,.int .i64 (k : Int)),(12,.int .i64 (i : Int))] [pt b4 [.int .u8 (nots i t).op,.string (str (nots i t).name),.slice y.2.1 (nots i t).kids.length y.2.2] 24,own y.1 (nots i t) (tv (nots i t) y.2.1 y.2.2),pt bp (pcell text a1 x1) 143,pt b2 [Value.int .u8 0,.string (str []),.slice none 0 0] 24]
   refine jN 7 ?_
   refine WC.cond rfl (fun h13 => ?_) (fun h13 => ?_)
   ·have hik : i < k := by simpa using h13
    refine jN 8 ?_
    refine WL.buildSlice F.sl22 F.ez22 rfl rfl rfl rfl jB rfl (fun b15 => ?_)
    refine jN 1 ?_
    refine WL.callV F.fun63 rfl rfl (fun w _ => node_c _ _ _ _ w) ?_
    refine jN 2 ?_
    refine WA.chunksE (C' := fun F => [pt b4 [.int .u8 4,.string (str []),.slice (some ⟨b15,0,none⟩) 1 1] 24,own F (nots (i + 1) t) (.agg [Value.int .u8 4,.string (str []),.slice (some ⟨b15,0,none⟩) 1 1].toArray),pt bp (pcell text a1 x1) 143,pt b2 [Value.int .u8 0,.string (str []),.slice none 0 0] 24]) (fun w hS => ?_) (fun F => ?_)
    ·obtain ⟨F,h⟩ := St.node1 4 (St.pick (St.pick hS (c := own y.1 (nots i t) (tv (nots i t) y.2.1 y.2.2)) jR) (c := pt b15 [.int .u8 (nots i t).op,.string (str (nots i t).name),.slice y.2.1 (nots i t).kids.length y.2.2] 24) jR)
     exact ⟨F,(St.pick h (c := pt b4 [.int .u8 4,.string (str []),.slice (some ⟨b15,0,none⟩) 1 1] 24) jR)⟩
    refine jN 9 ?_
    refine WQ.back ((i + 1,(F,some ⟨b15,0,none⟩,1))) ?_ ?_ ?_ ?_
    ·exact (by show i + 1 ≤ k; omega)
    ·(show k - (i + 1) < k - i; omega)
    ·exact ⟨rfl,rfl,rfl,rfl,trivial⟩
    rfl
   have hik : i = k := by simp at h13; omega
   subst hik
   refine jN 14 ?_
   subst hrw
   refine WQ.ret (rs := [.cell 2 24]) rfl (.cellN F.agg24 rfl jM rfl .nil) (fun w hS => ?_)
   exact ⟨y,rfl,(St.pick (St.pick hS (c := pt bp (pcell text a1 x1) 143) jR) (c := own y.1 (nots i t) (tv (nots i t) y.2.1 y.2.2)) jR).two2⟩
  have hN := fun w hp => hleast m (by omega) _ _ _ w hle2 hrk2 hp
  refine jN 4 ?_
  refine WL.call1P (bs := pcell text ak xk) F.fun182 (fun d h => by cases h; rfl) rfl jR (fun w hS => hN w (hS.heap jM)) (fun cs => ?_)
  refine jN 1 ?_
  subst hrw
  refine WQ.panicked (fun w hS => ?_)
  exact ⟨rfl,_,(St.pick hS (c := pt bp cs 143) jR).one1⟩
 ·have hT := fun w hp => takes_c bp text xk [33] ak hle2 hmax w hp
  rw [ht] at hT
  have g2 := Fm.takes_le hle2 ht
  refine jN 4 ?_
  refine WL.call1S (bs := pcell text ak xk) (bs' := pcell text a2 x2) F.fun140 rfl rfl jR (fun w hS => hT w (hS.heap jM)) ?_
  refine jN 15 ?_
  refine WQ.back ((k + 1,m,a2,x2)) ?_ ?_ ?_ ?_
  ·exact ⟨by have := takes_word ht; rw [this] at g2; simp at g2; show k + 1 ≤ a2; omega,by show m ≤ n + 1; omega,g2.2,wrapR_step hrk2 hrw⟩
  ·exact Nat.lt_succ_self m
  ·exact ⟨rfl,rfl,rfl,trivial⟩
  rfl
 have hT := fun w hp => takes_c bp text xk [33] ak hle2 hmax w hp
 rw [ht] at hT
 refine jN 4 ?_
 refine WL.call1P (bs := pcell text ak xk) F.fun140 (fun d h => by cases h; rfl) rfl jR (fun w hS => hT w (hS.heap jM)) (fun cs => ?_)
 refine jN 5 ?_
 subst hrw
 refine WQ.panicked (fun w hS => ?_)
 exact ⟨rfl,_,(St.pick hS (c := pt bp cs 143) jR).one1⟩
theorem _root_.Go.Eng.St.lone {w0 w : World} {O : List Nat} {C : List Chunk} {ad : Option Addr} {n cap : Nat} {e : TypeId} {F : List Nat} {t : Tree} {vs : List Value} (hn : n = 1) (h : St w0 O (rowc (.slice ad n cap) n e 3 (flat vs) :: ownL F [t] vs :: C) w) :
  ∃ g a c,ad = some ⟨g,0,none⟩ ∧ vs = [tv t a c] := by
 have hr : w.ownsRow 0 e 3 (.slice ad n cap) n (flat vs) := h.ok _ (List.mem_cons_self ..)
 have hl : F.Nodup ∧ rdL w [t] F vs := h.ok _ (List.mem_cons_of_mem _ (List.mem_cons_self ..))
 have hl2 := hl.2
 simp only [rdL] at hl2
 obtain ⟨F1,F2,v,vs',hF,hvs,h1,h2,h3⟩ := hl2
 obtain ⟨a,m,c,hv,hm⟩ := rdT_val h1
 subst hm; subst hv; subst h3
 rcases hr.2 with ⟨_,h0⟩ | ⟨g,cp,cur,hg,_⟩
 ·omega
 injection hg with ha _ _
 exact ⟨g,a,c,ha,hvs⟩
theorem _root_.Go.Eng.St.ownOne {w0 w : World} {O : List Nat} {C : List Chunk} {F : List Nat} {t : Tree} {v : Value} (h : St w0 O (ownL F [t] [v] :: C) w) : St w0 O (own F t v :: C) w :=
 h.swap (fun ⟨h1,h2⟩ => ⟨h1,by
  simp only [rdL] at h2
  obtain ⟨F1,F2,v',vs',hF,hvs,h3,h4,h5⟩ := h2
  injection hvs with e1 e2
  subst e1; subst h4
  rw [hF,List.append_nil]; exact h3⟩) (fun k hk => hk)
structure RG where
 m : Nat
 acc : List Tree
 F : List Nat
 vs : List Value
 len : Nat
 cells : List Value
 ad : Option Addr
 cap : Nat
 ak : Nat
 xk : List UInt8
theorem mkRow_ne {i : Nat} {acc : List Tree} (h : acc.length ≠ 1) : Fm.mkRow i acc = .mk (Fm.rowOp i) [] acc := by
 rcases acc with _ | ⟨a,_ | ⟨b,r⟩⟩
 ·rfl
 ·simp at h
 rfl
theorem next_le3 {ak xl tl : Nat} (h : ak + xl ≤ tl) : ak ≤ tl := by omega
theorem row_c (bp : Nat) (text : List UInt8) (hmax2 : text.length ≤ 1099511627776) (n i : Nat) (hi : i ≤ 3) (hnot : PC bp text 181 [pp bp] .not n) (hrow : i < 3 → ∀ m,m ≤ n → PC bp text 179 [pp bp,.int .i64 ((i : Int) + 1)] (.row (i + 1)) m) :
  PC bp text 179 [pp bp,.int .i64 (i : Int)] (.row i) (n + 1) := by
 intro a x r w hle hr hp
 have hmax : text.length ≤ 140737488355328 := by omega
 refine enter Tryz.func179 rfl Tryz.ntmps179 rfl (St.init1 hp) ?_
 refine jN 3 ?_
 refine WL.alloc F.zero24 rfl (fun b4 => ?_)
 refine jN 11 ?_
 refine WL.buildA F.arT248 rfl jB rfl ?_
 refine jN 1 ?_
 refine WL.alloc F.zero248 rfl (fun b5 => ?_)
 refine jN 13 ?_
 refine WC.cond rfl (fun h12 => ?_) (fun h12 => ?_)
 ·have hi3 : i = 3 := by simp at h12; omega
  subst hi3
  simp only [Fm.parse,Nat.le_refl,if_true] at hr
  refine jN 1 ?_
  rcases r with ⟨t1,a1,x1⟩ | a1
  ·have hN := fun w hp => hnot _ _ _ w hle hr hp
   refine jN 4 ?_
   refine WL.call1A (res := fun y : List Nat × Option Addr × Nat => tv t1 y.2.1 y.2.2) (c1 := fun y : List Nat × Option Addr × Nat => own y.1 t1 (tv t1 y.2.1 y.2.2)) (c2 := fun _ => pt bp (pcell text a1 x1) 143) (bs := pcell text a x) F.fun181 rfl rfl jR (fun w hS => hN w (hS.heap jM)) (fun y14 => ?_)
   refine jN 6 ?_
   refine WQ.ret (rs := [.cell 4 24]) rfl (.cellN F.agg24 rfl jM rfl .nil) (fun w hS => ?_)
   exact ⟨y14,rfl,(St.pick (St.pick hS (c := pt bp (pcell text a1 x1) 143) jR) (c := own y14.1 t1 (tv t1 y14.2.1 y14.2.2)) jR).two2⟩
  have hN := fun w hp => hnot _ _ _ w hle hr hp
  refine jN 4 ?_
  refine WL.call1P (bs := pcell text a x) F.fun181 (fun d h => by cases h; rfl) rfl jR (fun w hS => hN w (hS.heap jM)) (fun cs => ?_)
  refine jN 2 ?_
  refine WQ.panicked (fun w hS => ?_)
  exact ⟨rfl,_,(St.pick hS (c := pt bp cs 143) jR).one1⟩
 have hi3 : i < 3 := by simp at h12; omega
 simp only [Fm.parse,show ¬ 3 ≤ i by omega,if_false] at hr
 refine jN 3 ?_
 rcases Fm.bindP_ok hr with ⟨a1,h1,rfl⟩ | ⟨t1,a1,x1,h1,hr1⟩
 ·have hN := fun w hp => hrow hi3 n (Nat.le_refl _) _ _ _ w hle h1 hp
  refine jN 8 ?_
  refine WL.call1P (bs := pcell text a x) F.fun179 (fun d h => by cases h; rfl) rfl jR (fun w hS => hN w (hS.heap jM)) (fun cs => ?_)
  refine jN 1 ?_
  refine WQ.panicked (fun w hS => ?_)
  exact ⟨rfl,_,(St.pick hS (c := pt bp cs 143) jR).one1⟩
 have hN := fun w hp => hrow hi3 n (Nat.le_refl _) _ _ _ w hle h1 hp
 have g1 := Fm.parse_le _ _ _ _ _ _ _ hle h1
 refine jN 8 ?_
 refine WL.call1A (res := fun y : List Nat × Option Addr × Nat => tv t1 y.2.1 y.2.2) (c1 := fun y : List Nat × Option Addr × Nat => own y.1 t1 (tv t1 y.2.1 y.2.2)) (c2 := fun _ => pt bp (pcell text a1 x1) 143) (bs := pcell text a x) F.fun179 rfl rfl jR (fun w hS => hN w (hS.heap jM)) (fun y18 => ?_)
 refine jN 1 ?_
 refine WL.buildSlice F.sl22 F.ez22 rfl rfl rfl rfl jB rfl (fun b19 => ?_)
 refine jN 6 ?_
 refine WC.chunks (C' := [pt bp (pcell text a1 x1) 143,rowc (.slice (some ⟨b19,0,none⟩) 1 1) 1 24 3 (flat [tv t1 y18.2.1 y18.2.2]),ownL ([] ++ y18.1) ([] ++ [t1]) ([] ++ [tv t1 y18.2.1 y18.2.2]),pt b5 [Value.string (str [124]),.int .u8 6,.string (str [94]),.int .u8 7,.string (str [38]),.int .u8 5] 248,pt b4 [Value.int .u8 0,.string (str []),.slice none 0 0] 24]) (fun w hS => ?_) ?_
 ·have h1 := St.rowOf (n := 1) (sz := 3) (St.pick hS (c := pt b19 [Value.int .u8 t1.op,.string (str t1.name),.slice y18.2.1 t1.kids.length y18.2.2] 24) jR) rfl (by decide)
  have h2 := St.ownSnoc (St.ownNil (St.pick h1 (c := own y18.1 t1 (tv t1 y18.2.1 y18.2.2)) jR))
  exact (St.pick (St.pick h2 (c := rowc (.slice (some ⟨b19,0,none⟩) 1 1) 1 24 3 (flat [tv t1 y18.2.1 y18.2.2])) jR) (c := pt bp (pcell text a1 x1) 143) jR)
 refine WC.loop (α := RG) (fun g => g.m ≤ n ∧ g.acc.length ≤ g.ak + 1 ∧ g.len = g.acc.length ∧ g.cells = flat g.vs ∧ g.ak + g.xk.length ≤ text.length ∧ Fm.parse text g.m (.rest i g.acc) g.ak g.xk = some r) (fun g => [(0,pp bp),(1,.int .i64 (i : Int)),(4,pp b4),(5,pp b5),(6,.slice g.ad g.len g.cap)]) (fun g => [pt bp (pcell text g.ak g.xk) 143,rowc (.slice g.ad g.len g.cap) g.len 24 3 g.cells,ownL g.F g.acc g.vs,pt b5 [Value.string (str [124]),.int .u8 6,.string (str [94]),.int .u8 7,.string (str [38]),.int .u8 5] 248,pt b4 [Value.int .u8 0,.string (str []),.slice none 0 0] 24]) (fun g => g.m) (⟨n,[t1],y18.1,[tv t1 y18.2.1 y18.2.2],1,flat [tv t1 y18.2.1 y18.2.2],some ⟨b19,0,none⟩,1,a1,x1⟩) ?_ ?_ ?_ ?_
 ·exact ⟨Nat.le_refl _,by simp,rfl,rfl,g1.2,hr1⟩
 ·exact ⟨rfl,rfl,rfl,rfl,rfl,trivial⟩
 ·rfl
 rintro ⟨m,acc,Fb,vs,len,cells,ad,cap,ak,xk⟩ ⟨hm,hac,hlen,hcs,hle2,hrk⟩
 dsimp only at hm hac hlen hcs hle2 hrk
 show WC _ _ _ _ _ _ _ [(0,pp bp),(1,.int .i64 (i : Int)),(4,pp b4),(5,pp b5),(6,.slice ad len cap)] [pt bp (pcell text ak xk) 143,rowc (.slice ad len cap) len 24 3 cells,ownL Fb acc vs,pt b5 [Value.string (str [124]),.int .u8 6,.string (str [94]),.int .u8 7,.string (str [38]),.int .u8 5] 248,pt b4 [Value.int .u8 0,.string (str []),.slice none 0 0] 24]
 obtain ⟨m,rfl⟩ : ∃ m2,m = m2 + 1 := by cases m with | zero => simp [Fm.parse] at hrk | succ m => exact ⟨m,rfl⟩
 simp only [Fm.parse] at hrk
 have hsg : [Value.string (str [124]),.int .u8 6,.string (str [94]),.int .u8 7,.string (str [38]),.int .u8 5][0 + i * 2 + 0]? = some (.string (str (Fm.rowSign i))) := by rcases (by omega : i = 0 ∨ i = 1 ∨ i = 2) with rfl | rfl | rfl <;> rfl
 have hop : [Value.string (str [124]),.int .u8 6,.string (str [94]),.int .u8 7,.string (str [38]),.int .u8 5][0 + i * 2 + 1]? = some (.int .u8 (Fm.rowOp i)) := by rcases (by omega : i = 0 ∨ i = 1 ∨ i = 2) with rfl | rfl | rfl <;> rfl
 refine jN 2 ?_
 rcases Fm.bindT_ok hrk with ⟨ht,hrk2⟩ | ⟨a2,x2,ht,hrk2⟩ | ⟨a2,ht,rfl⟩
 ·have hT := fun w hp => takes_c bp text xk (Fm.rowSign i) ak hle2 hmax w hp
  rw [ht] at hT
  refine jN 6 ?_
  refine WL.indexAddrA F.arT248 rfl rfl rfl hi3 ?_
  refine jN 1 ?_
  refine WL.fieldAddr F.fld247_0 rfl rfl ?_
  refine jN 1 ?_
  refine WL.loadP F.one9 rfl rfl jM hsg ?_
  refine jN 1 ?_
  refine WL.call1S (bs := pcell text ak xk) (bs' := pcell text ak xk) F.fun140 rfl rfl jR (fun w hS => hT w (hS.heap jM)) ?_
  refine jN 19 ?_
  refine WC.cond rfl (fun h35 => ?_) (fun h35 => ?_)
  ·have hl1 : len = 1 := by simp at h35; omega
   subst hcs
   obtain ⟨t1,rfl⟩ : ∃ t,acc = [t] := List.length_eq_one_iff.1 (by omega)
   injection hrk2 with hrk2
   subst hrk2
   refine WC.know (φ := ∃ g a c,ad = some ⟨g,0,none⟩ ∧ vs = [tv t1 a c]) (fun w hS => St.lone hl1 (St.pick (St.pick hS (c := ownL Fb [t1] vs) jR) (c := rowc (.slice ad len cap) len 24 3 (flat vs)) jR)) (fun ⟨g,u,c,had,hvs⟩ => ?_)
   subst had; subst hvs
   refine jN 5 ?_
   refine WL.indexAddr (i := 0) F.sl22 rfl rfl rfl (by omega) ?_
   refine jN 1 ?_
   refine WL.loadN F.agg24 rfl rfl (vs := [Value.int .u8 t1.op,.string (str t1.name),.slice u t1.kids.length c]) rfl (fun w hS j v hv => ?_) ?_
   ·have hro : w.ownsRow 0 24 3 (.slice (some ⟨g,0,none⟩) len cap) len (flat [tv t1 u c]) := hS.ok (rowc (.slice (some ⟨g,0,none⟩) len cap) len 24 3 (flat [tv t1 u c])) jM
    have hq := hro.cells (g := g) rfl j v (by simpa [flat,tv,Value.cells] using hv)
    rw [add_blk] at hq
    simpa using hq
   refine jN 6 ?_
   refine WQ.ret (rs := [.cell 4 24]) rfl (.cellN F.agg24 rfl jM rfl .nil) (fun w hS => ?_)
   have h2 := St.ownOne (St.pick (St.pick hS (c := pt bp (pcell text ak xk) 143) jR) (c := ownL Fb [t1] [tv t1 u c]) jR)
   exact ⟨(Fb,u,c),rfl,h2.two2⟩
  have hl1 : acc.length ≠ 1 := by simp at h35; omega
  subst hcs
  rw [mkRow_ne hl1] at hrk2
  injection hrk2 with hrk2
  subst hrk2
  refine jN 7 ?_
  refine WL.indexAddrA F.arT248 rfl rfl rfl hi3 ?_
  refine jN 1 ?_
  refine WL.fieldAddr F.fld247_1 rfl rfl ?_
  refine jN 1 ?_
  refine WL.loadP F.one5 rfl rfl jM hop ?_
  refine jN 3 ?_
  refine WL.callV F.fun63 rfl rfl (fun w _ => node_c _ _ _ _ w) ?_
  refine jN 5 ?_
  refine WQ.ret (rs := [.cell 4 24]) rfl (.cellN F.agg24 rfl jM rfl .nil) (fun w hS => ?_)
  obtain ⟨F2,h2⟩ := St.ownNode (Fm.rowOp i) [] hlen (St.pick (St.pick (St.pick hS (c := pt bp (pcell text ak xk) 143) jR) (c := ownL Fb acc vs) jR) (c := rowc (.slice ad len cap) len 24 3 (flat vs)) jR)
  subst hlen
  exact ⟨(F2,ad,cap),rfl,h2.two2⟩
 ·have hT := fun w hp => takes_c bp text xk (Fm.rowSign i) ak hle2 hmax w hp
  rw [ht] at hT
  have g2 := Fm.takes_le hle2 ht
  refine jN 6 ?_
  refine WL.indexAddrA F.arT248 rfl rfl rfl hi3 ?_
  refine jN 1 ?_
  refine WL.fieldAddr F.fld247_0 rfl rfl ?_
  refine jN 1 ?_
  refine WL.loadP F.one9 rfl rfl jM hsg ?_
  refine jN 1 ?_
  refine WL.call1S (bs := pcell text ak xk) (bs' := pcell text a2 x2) F.fun140 rfl rfl jR (fun w hS => hT w (hS.heap jM)) ?_
  refine jN 6 ?_
  rcases Fm.bindP_ok hrk2 with ⟨a3,h3,rfl⟩ | ⟨t2,a3,x3,h3,hr3⟩
  ·have hM := fun w hp => hrow hi3 m (by omega) _ _ _ w g2.2 h3 hp
   refine jN 10 ?_
   refine WL.call1P (bs := pcell text a2 x2) F.fun179 (fun d h => by cases h; rfl) rfl jR (fun w hS => hM w (hS.heap jM)) (fun cs => ?_)
   refine jN 4 ?_
   refine WQ.panicked (fun w hS => ?_)
   exact ⟨rfl,_,(St.pick hS (c := pt bp cs 143) jR).one1⟩
  have hM := fun w hp => hrow hi3 m (by omega) _ _ _ w g2.2 h3 hp
  have g3 := Fm.parse_le _ _ _ _ _ _ _ g2.2 h3
  refine jN 10 ?_
  refine WL.call1A (res := fun y : List Nat × Option Addr × Nat => tv t2 y.2.1 y.2.2) (c1 := fun y : List Nat × Option Addr × Nat => own y.1 t2 (tv t2 y.2.1 y.2.2)) (c2 := fun _ => pt bp (pcell text a3 x3) 143) (bs := pcell text a2 x2) F.fun179 rfl rfl jR (fun w hS => hM w (hS.heap jM)) (fun y30 => ?_)
  refine jN 1 ?_
  refine WL.buildSlice F.sl22 F.ez22 rfl rfl rfl rfl jB rfl (fun b31 => ?_)
  refine jN 1 ?_
  refine WL.appendE (news := [Value.int .u8 t2.op,.string (str t2.name),.slice y30.2.1 t2.kids.length y30.2.2]) F.el22 rfl rfl rfl jR (fun w hS j u hu => by rw [Nat.zero_add]; exact hS.cell (cs := [Value.int .u8 t2.op,.string (str t2.name),.slice y30.2.1 t2.kids.length y30.2.2]) jM hu) rfl jO (Nat.le_trans (m := 1099511627800) (by have := next_le3 hle2; omega) (by decide)) (by have := next_le3 hle2; omega) (fun ad2 cap2 => ?_)
  refine jN 4 ?_
  refine WQ.chunks (C' := [pt bp (pcell text a3 x3) 143,rowc (.slice ad2 (len + 1) cap2) (len + 1) 24 3 (cells ++ [Value.int .u8 t2.op,.string (str t2.name),.slice y30.2.1 t2.kids.length y30.2.2]),ownL (Fb ++ y30.1) (acc ++ [t2]) (vs ++ [tv t2 y30.2.1 y30.2.2]),pt b5 [Value.string (str [124]),.int .u8 6,.string (str [94]),.int .u8 7,.string (str [38]),.int .u8 5] 248,pt b4 [Value.int .u8 0,.string (str []),.slice none 0 0] 24]) (fun w hS => ?_) ?_
  ·have h2 := St.ownSnoc (St.pick (St.pick hS (c := own y30.1 t2 (tv t2 y30.2.1 y30.2.2)) jR) (c := ownL Fb acc vs) jR)
   exact ((St.pick (St.pick (St.pick h2 (c := ownL (Fb ++ y30.1) (acc ++ [t2]) (vs ++ [tv t2 y30.2.1 y30.2.2])) jR) (c := rowc (.slice ad2 (len + 1) cap2) (len + 1) 24 3 (cells ++ [Value.int .u8 t2.op,.string (str t2.name),.slice y30.2.1 t2.kids.length y30.2.2])) jR) (c := pt bp (pcell text a3 x3) 143) jR)).sublist (by repeat (first | exact List.Sublist.refl _ | apply List.Sublist.cons_cons | apply List.Sublist.cons))
  refine WQ.back (⟨m,acc ++ [t2],Fb ++ y30.1,vs ++ [tv t2 y30.2.1 y30.2.2],len + 1,cells ++ [Value.int .u8 t2.op,.string (str t2.name),.slice y30.2.1 t2.kids.length y30.2.2],ad2,cap2,a3,x3⟩) ?_ ?_ ?_ ?_
  ·exact ⟨by show m ≤ n; omega,by have hw := takes_word ht; have hsl : (Fm.rowSign i).length = 1 := (by unfold Fm.rowSign; split; rfl; split <;> rfl); rw [hw,hsl] at g2; show (acc ++ [t2]).length ≤ a3 + 1; simp; omega,by show len + 1 = (acc ++ [t2]).length; simp [hlen],by show cells ++ _ = flat (vs ++ [_]); rw [hcs,flat_append]; simp [flat,tv,Value.cells],g3.2,hr3⟩
  ·exact Nat.lt_succ_self m
  ·exact ⟨rfl,rfl,rfl,rfl,rfl,trivial⟩
  rfl
 have hT := fun w hp => takes_c bp text xk (Fm.rowSign i) ak hle2 hmax w hp
 rw [ht] at hT
 refine jN 6 ?_
 refine WL.indexAddrA F.arT248 rfl rfl rfl hi3 ?_
 refine jN 1 ?_
 refine WL.fieldAddr F.fld247_0 rfl rfl ?_
 refine jN 1 ?_
 refine WL.loadP F.one9 rfl rfl jM hsg ?_
 refine jN 1 ?_
 refine WL.call1P (bs := pcell text ak xk) F.fun140 (fun d h => by cases h; rfl) rfl jR (fun w hS => hT w (hS.heap jM)) (fun cs => ?_)
 refine jN 5 ?_
 refine WQ.panicked (fun w hS => ?_)
 exact ⟨rfl,_,(St.pick hS (c := pt bp cs 143) jR).one1⟩
theorem kids_c (op : Int) (w : World) : Pure Tryz.prog 170 [.int .u8 op] w (.tuple #[.int .i64 (Fm.kidsOf op).1,.bool (Fm.kidsOf op).2]) := by
 refine enter Tryz.func170 rfl Tryz.ntmps170 rfl (St.init _) ?_
 refine jN 25 ?_
 refine WC.splitB (i := 5) rfl (fun h5 => ?_) (fun h5 => ?_)
 ·refine jN 15 ?_
  exact WQ.ret (rs := [.tmp 2,.tmp 3]) rfl (.tmp rfl (.tmp rfl .nil)) (fun w hS => ⟨by simp_all [tup,Fm.kidsOf],hS⟩)
 refine jN 9 ?_
 refine WC.splitB (i := 5) rfl (fun h5 => ?_) (fun h5 => ?_)
 ·refine jN 15 ?_
  exact WQ.ret (rs := [.tmp 2,.tmp 3]) rfl (.tmp rfl (.tmp rfl .nil)) (fun w hS => ⟨by simp_all [tup,Fm.kidsOf],hS⟩)
 refine jN 8 ?_
 refine WC.splitB (i := 5) rfl (fun h5 => ?_) (fun h5 => ?_)
 ·refine jN 12 ?_
  exact WQ.ret (rs := [.tmp 2,.tmp 3]) rfl (.tmp rfl (.tmp rfl .nil)) (fun w hS => ⟨by simp_all [tup,Fm.kidsOf],hS⟩)
 refine jN 9 ?_
 refine WC.cond rfl (fun h9 => ?_) (fun h9 => ?_)
 ·refine jN 11 ?_
  exact WQ.ret (rs := [.tmp 2,.tmp 3]) rfl (.tmp rfl (.tmp rfl .nil)) (fun w hS => ⟨by simp_all [tup,Fm.kidsOf],hS⟩)
 refine jN 9 ?_
 refine WC.splitB (i := 11) rfl (fun h11 => ?_) (fun h11 => ?_)
 ·refine jN 15 ?_
  exact WQ.ret (rs := [.tmp 2,.tmp 3]) rfl (.tmp rfl (.tmp rfl .nil)) (fun w hS => ⟨by simp_all [tup,Fm.kidsOf],hS⟩)
 refine jN 9 ?_
 refine WC.splitB (i := 11) rfl (fun h11 => ?_) (fun h11 => ?_)
 ·refine jN 15 ?_
  exact WQ.ret (rs := [.tmp 2,.tmp 3]) rfl (.tmp rfl (.tmp rfl .nil)) (fun w hS => ⟨by simp_all [tup,Fm.kidsOf],hS⟩)
 refine jN 8 ?_
 refine WC.splitB (i := 11) rfl (fun h11 => ?_) (fun h11 => ?_)
 ·refine jN 12 ?_
  exact WQ.ret (rs := [.tmp 2,.tmp 3]) rfl (.tmp rfl (.tmp rfl .nil)) (fun w hS => ⟨by simp_all [tup,Fm.kidsOf],hS⟩)
 refine jN 10 ?_
 refine WC.splitB (i := 15) rfl (fun h15 => ?_) (fun h15 => ?_)
 ·refine jN 15 ?_
  exact WQ.ret (rs := [.tmp 2,.tmp 3]) rfl (.tmp rfl (.tmp rfl .nil)) (fun w hS => ⟨by simp_all [tup,Fm.kidsOf],hS⟩)
 refine jN 8 ?_
 refine WC.splitB (i := 15) rfl (fun h15 => ?_) (fun h15 => ?_)
 ·refine jN 12 ?_
  exact WQ.ret (rs := [.tmp 2,.tmp 3]) rfl (.tmp rfl (.tmp rfl .nil)) (fun w hS => ⟨by simp_all [tup,Fm.kidsOf],hS⟩)
 refine jN 9 ?_
 refine WC.cond rfl (fun h18 => ?_) (fun h18 => ?_)
 refine jN 11 ?_
 rotate_left
 refine jN 12 ?_
 rotate_left
 all_goals
  exact WQ.ret (rs := [.tmp 2,.tmp 3]) rfl (.tmp rfl (.tmp rfl .nil)) (fun w hS => ⟨by simp_all [tup,Fm.kidsOf],hS⟩)
theorem right_c (t : Tree) (a : Option Addr) (c : Nat) (w : World) : Pure Tryz.prog 144 [tv t a c] w (.bool (Fm.rightB t)) := by
 refine enter Tryz.func144 rfl Tryz.ntmps144 rfl (St.init _) ?_
 refine jN 3 ?_
 refine WL.boxN rfl rfl (fun b1 => ?_)
 refine jN 11 ?_
 refine WL.callV F.fun170 rfl rfl (fun w _ => kids_c _ w) ?_
 refine jN 15 ?_
 refine WC.cutF [(11,.bool (Fm.kidsBad t.op t.kids.length)),(1,pp b1)] (fun Q' hQ => ?_) ?_
 ·refine jN 7 ?_
  refine WA.splitB (i := 14) rfl (fun h14 => ?_) (fun h14 => ?_)
  ·refine jN 43 ?_
   refine WQ.byCut hQ (subF_bool ?_ ⟨rfl,trivial⟩ rfl)
   first | (rw [Fm.kidsBad,h14,h17]; simp [bne]; done) | (simp_all [Fm.kidsBad]; done)
  refine jN 9 ?_
  refine WA.splitB (i := 17) rfl (fun h17 => ?_) (fun h17 => ?_)
  ·refine jN 19 ?_
   refine WA.splitB (i := 24) rfl (fun h24 => ?_) (fun h24 => ?_)
   ·refine jN 23 ?_
    refine WQ.byCut hQ (subF_bool ?_ ⟨rfl,trivial⟩ rfl)
    first | (rw [Fm.kidsBad,h14,h17]; simp [bne]; done) | (simp_all [Fm.kidsBad]; done)
   refine jN 9 ?_
   refine WA.splitB (i := 27) rfl (fun h27 => ?_) (fun h27 => ?_)
   refine jN 23 ?_
   rotate_left
   refine jN 18 ?_
   rotate_left
   all_goals
    refine WQ.byCut hQ (subF_bool ?_ ⟨rfl,trivial⟩ rfl)
    first | (rw [Fm.kidsBad,h14,h17]; simp [bne]; done) | (simp_all [Fm.kidsBad]; done)
  refine jN 24 ?_
  refine WA.splitB (i := 27) rfl (fun h27 => ?_) (fun h27 => ?_)
  refine jN 23 ?_
  rotate_left
  refine jN 18 ?_
  rotate_left
  all_goals
   refine WQ.byCut hQ (subF_bool ?_ ⟨rfl,trivial⟩ rfl)
   first | (rw [Fm.kidsBad,h14,h17]; simp [bne]; done) | (simp_all [Fm.kidsBad]; done)
 refine jN 1 ?_
 refine WC.cond rfl (fun h11 => ?_) (fun h11 => ?_)
 ·refine jN 9 ?_
  exact WQ.ret (rs := [.tmp 2]) rfl (.tmp rfl .nil) (fun w hS => ⟨by simp_all [tup,Fm.rightB],hS.drop⟩)
 refine jN 12 ?_
 refine WC.cond rfl (fun h35 => ?_) (fun h35 => ?_)
 refine jN 7 ?_
 refine WL.callV F.fun95 rfl rfl (fun w _ => isName_c _ w) ?_
 refine jN 7 ?_
 rotate_left
 refine jN 16 ?_
 rotate_left
 all_goals
  exact WQ.ret (rs := [.tmp 2]) rfl (.tmp rfl .nil) (fun w hS => ⟨by simp_all [tup,Fm.rightB],hS.drop⟩)
def VPost (bl : Nat) (w : World) : Option Nat → Ending → World → Prop
 | some l,e,w' => e = .returned (.bool true) ∧ St w [bl] [pt bl [.int .i64 (l : Int)] 3] w'
 | none,e,w' => ∃ cs,e = .returned (.bool false) ∧ St w [bl] [pt bl cs 3] w'
def NPost (bl : Nat) (w : World) : Option Nat → Ending → World → Prop
 | some l,e,w' => e = .returned (.bool false) ∧ St w [bl] [pt bl [.int .i64 (l : Int)] 3] w'
 | none,e,w' => ∃ cs,e = .returned (.bool true) ∧ St w [bl] [pt bl cs 3] w'
def IPost (bl : Nat) (w : World) : Option Nat → Ending → World → Prop
 | some l,e,w' => e = .returned (.int .i64 (-1)) ∧ St w [bl] [pt bl [.int .i64 (l : Int)] 3] w'
 | none,e,w' => ∃ x : Nat × List Value,e = .returned (.int .i64 (x.1 : Int)) ∧ St w [bl] [pt bl x.2 3] w'
def VC (lv : Nat) : Prop := ∀ t F a c left bl w,rdT w t F (tv t a c) → bl ∉ F → left ≤ 1000 → w.heap[bl]? = some (.cells [Value.int .i64 ((left : Nat) : Int)].toArray 3 (0,0)) →
 Calls Tryz.prog 94 [tv t a c,.int .i64 (lv : Int),pp bl].toArray w (VPost bl w (Fm.validT lv t left))
structure VFr (w : World) (lv bl b4 b5 : Nat) (t : Tree) (G : List Nat) (a : Option Addr) (c left : Nat) : Prop where
 rd : rdT w t G (tv t a c)
 nf : bl ∉ G
 le : left ≤ 1000
 hl : w.heap[bl]? = some (.cells [Value.int .i64 (left : Int)].toArray 3 (0,0))
 h4 : w.heap[b4]? = some (.cells [Value.int .i64 ((lv + 1 : Nat) : Int)].toArray 3 (0,0))
 h5 : w.heap[b5]? = some (.cells [pp bl].toArray 160 (0,0))
 n4 : b4 ≠ bl
 n5 : b5 ≠ bl
theorem rdT_out {w : World} {t : Tree} {F : List Nat} {v : Value} {bl : Nat} (h : rdT w t F v) (hn : bl ∉ F) : ∀ k ∈ F,k < w.heap.size ∧ k ∉ [bl] :=
 fun k hk => ⟨rdT_lt h k hk,by simp only [List.mem_singleton]; intro e; subst e; exact hn hk⟩
theorem cell_of_heap {w : World} {b : Nat} {cs : List Value} {e : TypeId} {j : Nat} {v : Value} (h : w.heap[b]? = some (.cells cs.toArray e (0,0))) (hv : cs[j]? = some v) : w.cell? ⟨b,j,none⟩ = some v := by
 simp [World.cell?,h,hv]
theorem valid1_c (lv : Nat) (hlv : lv ≤ 1000) (hV : VC lv) (t : Tree) (G : List Nat) (a : Option Addr) (c left bl b4 b5 : Nat) (w : World) (hw : VFr w lv bl b4 b5 t G a c left) :
  Calls Tryz.prog 146 [tv t a c,pp b4,pp b5].toArray w (NPost bl w (Fm.validT lv t left)) := by
 have hN := fun w hr hp => hV t G a c left bl w hr hw.nf hw.le hp
 refine enter Tryz.func146 rfl Tryz.ntmps146 rfl (St.init1 hw.hl) ?_
 refine jN 3 ?_
 refine WL.boxN rfl rfl (fun b3 => ?_)
 refine jN 5 ?_
 rcases hv : Fm.validT lv t left with _ | l
 ·rw [hv] at hN
  refine jN 4 ?_
  refine WL.load1 F.one3 rfl rfl (fun w hS => hS.oldc (cell_of_heap hw.h4 rfl) (by simp [hw.n4])) ?_
  refine jN 2 ?_
  refine WA.say 7 (.int .i64 (lv : Int)) (congrArg (fun z => some (Value.int .i64 z)) (show ((lv + 1 : Nat) : Int) - 1 = (lv : Int) by omega)) ?_
  refine jN 1 ?_
  refine WL.load1 F.one160 rfl rfl (fun w hS => hS.oldc (cell_of_heap hw.h5 rfl) (by simp [hw.n5])) ?_
  refine jN 1 ?_
  refine WL.call1B (β := List Value) (v := .bool false) (c1 := fun cs => pt bl cs 3) F.fun94 rfl rfl jR (fun w hS => hN w (hS.oldT hw.rd (rdT_out hw.rd hw.nf)) (hS.heap jM)) (fun cs9 => ?_)
  refine jN 7 ?_
  refine WQ.ret (rs := [.tmp 4]) rfl (.tmp rfl .nil) (fun w hS => ?_)
  exact ⟨cs9,rfl,(St.pick hS (c := pt bl cs9 3) jR).one1⟩
 rw [hv] at hN
 refine jN 4 ?_
 refine WL.load1 F.one3 rfl rfl (fun w hS => hS.oldc (cell_of_heap hw.h4 rfl) (by simp [hw.n4])) ?_
 refine jN 2 ?_
 refine WA.say 7 (.int .i64 (lv : Int)) (congrArg (fun z => some (Value.int .i64 z)) (show ((lv + 1 : Nat) : Int) - 1 = (lv : Int) by omega)) ?_
 refine jN 1 ?_
 refine WL.load1 F.one160 rfl rfl (fun w hS => hS.oldc (cell_of_heap hw.h5 rfl) (by simp [hw.n5])) ?_
 refine jN 1 ?_
 refine WL.call1S (v := .bool true) (bs' := [.int .i64 (l : Int)]) F.fun94 rfl rfl jR (fun w hS => hN w (hS.oldT hw.rd (rdT_out hw.rd hw.nf)) (hS.heap jM)) ?_
 refine jN 7 ?_
 refine WQ.ret (rs := [.tmp 4]) rfl (.tmp rfl .nil) (fun w hS => ?_)
 exact ⟨rfl,(St.pick hS (c := pt bl [.int .i64 (l : Int)] 3) jR).one1⟩
theorem indexV_c (lv : Nat) (hlv : lv ≤ 1000) (hV : VC lv) (t : Tree) (G : List Nat) (a : Option Addr) (c left bl b4 b5 : Nat) (w : World) (hw : VFr w lv bl b4 b5 t G a c left) :
  Calls Tryz.prog 171 [.slice a t.kids.length c,.func (.func 146) [].toArray [pp b4,pp b5].toArray].toArray w (IPost bl w (Fm.validL lv t.kids left)) := by
 refine enter Tryz.func171 rfl Tryz.ntmps171 rfl (St.init1 hw.hl) ?_
 refine jN 18 ?_
 refine WC.loop (α := Nat × Nat) (fun g => g.1 ≤ t.kids.length ∧ g.1 + g.2 ≤ 1000 ∧ Fm.validL lv t.kids left = Fm.validL lv (t.kids.drop g.1) g.2) (fun g => [(0,.slice a t.kids.length c),(1,.func (.func 146) [].toArray [pp b4,pp b5].toArray),(7,.int .i64 (t.kids.length : Int)),(8,.int .i64 (g.1 : Int))]) (fun g => [pt bl [.int .i64 (g.2 : Int)] 3]) (fun g => t.kids.length - g.1) ((0,left)) ?_ ?_ ?_ ?_
 ·exact ⟨Nat.zero_le _,by have := hw.le; show 0 + left ≤ 1000; omega,rfl⟩
 ·exact ⟨rfl,rfl,rfl,rfl,trivial⟩
 ·rfl
 rintro ⟨i,lf⟩ ⟨hi,hil,hval⟩
 dsimp only at hi hil hval
 have hlf : lf ≤ 1000 := by omega
 show WC _ _ _ _ _ _ _ [(0,.slice a t.kids.length c),(1,.func (.func 146) [].toArray [pp b4,pp b5].toArray),(7,.int .i64 (t.kids.length : Int)),(8,.int .i64 (i : Int))] [pt bl [.int .i64 (lf : Int)] 3]
 refine jN 7 ?_
 refine WC.cond rfl (fun h9 => ?_) (fun h9 => ?_)
 ·have hlt : i < t.kids.length := by simpa using h9
  obtain ⟨k,hk⟩ : ∃ k,t.kids[i]? = some k := ⟨_,List.getElem?_eq_getElem hlt⟩
  have hst := Fm.validL_drop (lv := lv) (left := lf) hk
  obtain ⟨b,off,F1,a1,c1,ha,hbF,hF1,hk1,hcells⟩ := rdT_at hw.rd hk
  subst ha
  refine jN 13 ?_
  rcases hv : Fm.validT lv k lf with _ | l
  ·rw [hv] at hst
   have hval2 : Fm.validL lv t.kids left = none := hval.trans hst
   have hN := fun w (hw : VFr w lv bl b4 b5 k F1 a1 c1 lf) => valid1_c lv hlv hV k F1 a1 c1 lf bl b4 b5 w hw
   rw [hv] at hN
   refine jN 8 ?_
   refine WL.indexAddr F.sl22 rfl rfl rfl hlt ?_
   refine jN 1 ?_
   refine WL.loadN F.agg24 rfl rfl (vs := [.int .u8 k.op,.string (str k.name),.slice a1 k.kids.length c1]) rfl (fun w hS j v hj => hS.oldc (hcells j v hj) (by simp only [List.mem_singleton]; intro e; exact hw.nf (e ▸ hbF))) ?_
   refine jN 1 ?_
   refine WL.callFA (β := List Value) (v := .bool true) (c1 := fun cs => pt bl (cs) 3) F.fun146 rfl rfl rfl jR (fun w hS => hN w ⟨hS.oldT hk1 (rdT_out hw.rd hw.nf |> fun h x hx => h x (hF1 x hx)),fun hb => hw.nf (hF1 _ hb),hlf,hS.heap jM,hS.oldh hw.h4 (by simp [hw.n4]),hS.oldh hw.h5 (by simp [hw.n5]),hw.n4,hw.n5⟩) (fun cs16 => ?_)
   refine jN 17 ?_
   refine WQ.ret (rs := [.tmp 4]) rfl (.tmp rfl .nil) (fun w hS => ?_)
   rw [hval2]
   exact ⟨(i,cs16),rfl,hS⟩
  rw [hv] at hst
  have hval2 : Fm.validL lv t.kids left = Fm.validL lv (t.kids.drop (i + 1)) l := hval.trans hst
  have hN := fun w (hw : VFr w lv bl b4 b5 k F1 a1 c1 lf) => valid1_c lv hlv hV k F1 a1 c1 lf bl b4 b5 w hw
  rw [hv] at hN
  refine jN 8 ?_
  refine WL.indexAddr F.sl22 rfl rfl rfl hlt ?_
  refine jN 1 ?_
  refine WL.loadN F.agg24 rfl rfl (vs := [.int .u8 k.op,.string (str k.name),.slice a1 k.kids.length c1]) rfl (fun w hS j v hj => hS.oldc (hcells j v hj) (by simp only [List.mem_singleton]; intro e; exact hw.nf (e ▸ hbF))) ?_
  refine jN 1 ?_
  refine WL.callFA (β := Unit) (v := .bool false) (c1 := fun cs => pt bl ([.int .i64 (l : Int)]) 3) F.fun146 rfl rfl rfl jR (fun w hS => (hN w ⟨hS.oldT hk1 (rdT_out hw.rd hw.nf |> fun h x hx => h x (hF1 x hx)),fun hb => hw.nf (hF1 _ hb),hlf,hS.heap jM,hS.oldh hw.h4 (by simp [hw.n4]),hS.oldh hw.h5 (by simp [hw.n5]),hw.n4,hw.n5⟩).mono (fun e w' h => ⟨(),h⟩)) (fun _ => ?_)
  refine jN 12 ?_
  refine WQ.back ((i + 1,l)) ?_ ?_ ?_ ?_
  ·exact ⟨by show i + 1 ≤ t.kids.length; omega,by have := Fm.validT_le hv; show i + 1 + l ≤ 1000; omega,hval2⟩
  ·(show t.kids.length - (i + 1) < t.kids.length - i; omega)
  ·exact ⟨rfl,rfl,rfl,rfl,trivial⟩
  rfl
 have hie : i = t.kids.length := by simp at h9; omega
 subst hie
 rw [List.drop_length] at hval
 have hval3 : Fm.validL lv t.kids left = some lf := hval
 refine jN 12 ?_
 refine WQ.ret (rs := [.tmp 4]) rfl (.tmp rfl .nil) (fun w hS => ?_)
 rw [hval3]
 exact ⟨rfl,hS⟩
theorem containsV_c (lv : Nat) (hlv : lv ≤ 1000) (hV : VC lv) (t : Tree) (G : List Nat) (a : Option Addr) (c left bl b4 b5 : Nat) (w : World) (hw : VFr w lv bl b4 b5 t G a c left) :
  Calls Tryz.prog 145 [.slice a t.kids.length c,.func (.func 146) [].toArray [pp b4,pp b5].toArray].toArray w (NPost bl w (Fm.validL lv t.kids left)) := by
 have hN := fun w (hw : VFr w lv bl b4 b5 t G a c left) => indexV_c lv hlv hV t G a c left bl b4 b5 w hw
 refine enter Tryz.func145 rfl Tryz.ntmps145 rfl (St.init1 hw.hl) ?_
 refine jN 7 ?_
 rcases hv : Fm.validL lv t.kids left with _ | l
 ·rw [hv] at hN
  refine jN 6 ?_
  refine WL.call1C (β := Nat × List Value) (res := fun x => .int .i64 (x.1 : Int)) (c1 := fun x => pt bl x.2 3) F.fun171 rfl rfl jR (fun w hS => hN w ⟨hS.oldT hw.rd (rdT_out hw.rd hw.nf),hw.nf,hw.le,hS.heap jM,hS.oldh hw.h4 (by simp [hw.n4]),hS.oldh hw.h5 (by simp [hw.n5]),hw.n4,hw.n5⟩) (fun x => ?_)
  refine jN 7 ?_
  refine WQ.ret (rs := [.tmp 4]) rfl (.tmp rfl .nil) (fun w hS => ?_)
  exact ⟨x.2,by simp [tup],hS⟩
 rw [hv] at hN
 refine jN 6 ?_
 refine WL.call1S (v := .int .i64 (-1)) (bs' := [.int .i64 (l : Int)]) F.fun171 rfl rfl jR (fun w hS => hN w ⟨hS.oldT hw.rd (rdT_out hw.rd hw.nf),hw.nf,hw.le,hS.heap jM,hS.oldh hw.h4 (by simp [hw.n4]),hS.oldh hw.h5 (by simp [hw.n5]),hw.n4,hw.n5⟩) ?_
 refine jN 7 ?_
 refine WQ.ret (rs := [.tmp 4]) rfl (.tmp rfl .nil) (fun w hS => ?_)
 exact ⟨rfl,hS⟩
theorem validT_none {lv left : Nat} {t : Tree} (h : (decide (lv = 0) || decide (left = 0) || !Fm.rightB t) = true) : Fm.validT lv t left = none := by
 obtain ⟨op,name,kids⟩ := t
 simp only [Bool.or_eq_true,decide_eq_true_eq,Bool.not_eq_true'] at h
 simp only [Fm.validT]
 rw [if_pos]
 rcases h with (h | h) | h
 ·exact .inl h
 ·exact .inr (.inl h)
 exact .inr (.inr h)
theorem validT_some {lv left : Nat} {t : Tree} (h : (decide (lv = 0) || decide (left = 0) || !Fm.rightB t) = false) : ∃ lv' left',lv = lv' + 1 ∧ left = left' + 1 ∧ Fm.validT lv t left = Fm.validL lv' t.kids left' := by
 obtain ⟨op,name,kids⟩ := t
 simp only [Bool.or_eq_false_iff,decide_eq_false_iff_not,Bool.not_eq_false'] at h
 refine ⟨lv - 1,left - 1,by omega,by omega,?_⟩
 simp only [Fm.validT]
 rw [if_neg]
 ·rfl
 rintro (h' | h' | h')
 ·exact h.1.1 h'
 ·exact h.1.2 h'
 rw [h.2] at h'; cases h'
theorem valid_step (lv : Nat) (hlv : lv ≤ 1000) (hV : ∀ lv',lv = lv' + 1 → VC lv') : VC lv := by
 intro t G a c left bl w hr hbl hle hp
 refine enter Tryz.func94 rfl Tryz.ntmps94 rfl (St.init1 hp) ?_
 refine jN 3 ?_
 refine WL.boxN rfl rfl (fun b3 => ?_)
 refine jN 1 ?_
 refine WL.box1 rfl rfl rfl (fun b4 => ?_)
 refine jN 1 ?_
 refine WL.box1 rfl rfl rfl (fun b5 => ?_)
 refine jN 22 ?_
 refine WC.cutF [(24,.bool (decide (lv = 0) || decide (left = 0) || !Fm.rightB t)),(3,pp b3),(4,pp b4),(5,pp b5)] (fun Q' hQ => ?_) ?_
 ·refine jN 7 ?_
  refine WA.splitB (i := 14) rfl (fun h14 => ?_) (fun h14 => ?_)
  ·refine jN 21 ?_
   refine WQ.byCut hQ (subF_bool ?_ ⟨rfl,rfl,rfl,trivial⟩ rfl)
   have e13 : ((lv : Int) == 0) = decide (lv = 0) := by rw [Bool.eq_iff_iff]; simp
   have e18 : decide ((left : Int) - 1 < 0) = decide (left = 0) := by rw [Bool.eq_iff_iff]; simp; omega
   simp_all
  refine jN 16 ?_
  refine WA.splitB (i := 20) rfl (fun h20 => ?_) (fun h20 => ?_)
  refine jN 9 ?_
  rotate_left
  refine jN 5 ?_
  refine WL.callV F.fun144 rfl rfl (fun w _ => right_c t a c w) ?_
  refine jN 6 ?_
  rotate_left
  all_goals
   refine WQ.byCut hQ (subF_bool ?_ ⟨rfl,rfl,rfl,trivial⟩ rfl)
   have e13 : ((lv : Int) == 0) = decide (lv = 0) := by rw [Bool.eq_iff_iff]; simp
   have e18 : decide ((left : Int) - 1 < 0) = decide (left = 0) := by rw [Bool.eq_iff_iff]; simp; omega
   simp_all
 refine jN 1 ?_
 refine WC.cond rfl (fun h24 => ?_) (fun h24 => ?_)
 ·have hval := validT_none h24
  refine jN 8 ?_
  refine WQ.ret (rs := [.tmp 6]) rfl (.tmp rfl .nil) (fun w hS => ?_)
  rw [hval]
  exact ⟨_,rfl,(St.pick hS (c := pt bl [.int .i64 ((left : Int) - 1)] 3) jR).one1⟩
 obtain ⟨lv,left,rfl,rfl,hval⟩ := validT_some h24
 have e : (((left + 1 : Nat) : Int) - 1) = (left : Int) := by omega
 rw [e]
 have hC := fun w (hw : VFr w lv bl b4 b5 t G a c left) => containsV_c lv (by omega) (hV lv rfl) t G a c left bl b4 b5 w hw
 refine jN 3 ?_
 rcases hvl : Fm.validL lv t.kids left with _ | l
 ·rw [hvl] at hC hval
  refine jN 8 ?_
  refine WL.call1B (β := List Value) (v := .bool true) (c1 := fun cs => pt bl cs 3) F.fun145 rfl rfl jR (fun w hS => hC w ⟨hS.oldT hr (rdT_out hr hbl),hbl,by omega,hS.heap jM,hS.heap jM,hS.heap jM,St.ne2 (St.pick (St.pick hS (c := pt bl [.int .i64 (left : Int)] 3) jR) (c := pt b4 [.int .i64 ((lv + 1 : Nat) : Int)] 3) jR),St.ne2 (St.pick (St.pick hS (c := pt bl [.int .i64 (left : Int)] 3) jR) (c := pt b5 [pp bl] 160) jR)⟩) (fun cs28 => ?_)
  refine jN 7 ?_
  refine WQ.ret (rs := [.tmp 6]) rfl (.tmp rfl .nil) (fun w hS => ?_)
  rw [hval]
  exact ⟨cs28,rfl,(St.pick hS (c := pt bl cs28 3) jR).one1⟩
 rw [hvl] at hC hval
 refine jN 8 ?_
 refine WL.call1S (v := .bool false) (bs' := [.int .i64 (l : Int)]) F.fun145 rfl rfl jR (fun w hS => hC w ⟨hS.oldT hr (rdT_out hr hbl),hbl,by omega,hS.heap jM,hS.heap jM,hS.heap jM,St.ne2 (St.pick (St.pick hS (c := pt bl [.int .i64 (left : Int)] 3) jR) (c := pt b4 [.int .i64 ((lv + 1 : Nat) : Int)] 3) jR),St.ne2 (St.pick (St.pick hS (c := pt bl [.int .i64 (left : Int)] 3) jR) (c := pt b5 [pp bl] 160) jR)⟩) ?_
 refine jN 7 ?_
 refine WQ.ret (rs := [.tmp 6]) rfl (.tmp rfl .nil) (fun w hS => ?_)
 rw [hval]
 exact ⟨rfl,(St.pick hS (c := pt bl [.int .i64 (l : Int)] 3) jR).one1⟩
theorem valid_c : ∀ lv : Nat,lv ≤ 1000 → VC lv
 | 0,h => valid_step 0 h (fun _ e => by omega)
 | lv + 1,h => valid_step (lv + 1) h (fun lv' e => by
  have : lv' = lv := by omega
  subst this
  exact valid_c lv' (by omega))
theorem Valid_c (t : Tree) (G : List Nat) (a : Option Addr) (c : Nat) (w : World) (hr : rdT w t G (tv t a c)) : Pure Tryz.prog 42 [tv t a c] w (.bool (Fm.validB t)) := by
 refine enter Tryz.func42 rfl Tryz.ntmps42 rfl (St.init _) ?_
 refine jN 3 ?_
 refine WL.boxN rfl rfl (fun b1 => ?_)
 refine jN 7 ?_
 refine WL.alloc F.zero3 rfl (fun b3 => ?_)
 refine jN 5 ?_
 rcases hv : Fm.validT 64 t 1000 with _ | l
 have hN := fun w hr hbl hp => valid_c 64 (by omega) t G a c 1000 b3 w hr hbl (Nat.le_refl _) hp
 rw [hv] at hN
 refine jN 3 ?_
 refine WA.know (φ := ∀ k ∈ G,k ≠ b3) (fun w' hS k hk e => ?_) (fun hne => ?_)
 ·have h1 := (hS.bnd (pt b3 [.int .i64 1000] 3) jM b3 rfl).2
  have h2 := rdT_lt hr k hk
  subst e
  cases h1 h2
 refine jN 1 ?_
 refine WL.call1B (β := List Value) (v := .bool false) (c1 := fun cs => pt b3 cs 3) F.fun94 rfl rfl jR (fun w hS => hN w (hS.oldT hr (fun k hk => ⟨rdT_lt hr k hk,by simp⟩)) (fun hb => hne _ hb rfl) (hS.heap jM)) (fun cs5 => ?_)
 rotate_left
 have hN := fun w hr hbl hp => valid_c 64 (by omega) t G a c 1000 b3 w hr hbl (Nat.le_refl _) hp
 rw [hv] at hN
 refine jN 3 ?_
 refine WA.know (φ := ∀ k ∈ G,k ≠ b3) (fun w' hS k hk e => ?_) (fun hne => ?_)
 ·have h1 := (hS.bnd (pt b3 [.int .i64 1000] 3) jM b3 rfl).2
  have h2 := rdT_lt hr k hk
  subst e
  cases h1 h2
 refine jN 1 ?_
 refine WL.call1S (v := .bool true) (bs' := [.int .i64 (l : Int)]) F.fun94 rfl rfl jR (fun w hS => hN w (hS.oldT hr (fun k hk => ⟨rdT_lt hr k hk,by simp⟩)) (fun hb => hne _ hb rfl) (hS.heap jM)) ?_
 rotate_left
 all_goals
  refine jN 5 ?_
  exact WQ.ret (rs := [.tmp 2]) rfl (.tmp rfl .nil) (fun w hS => ⟨by simp [tup,Fm.validB,hv],hS.drop.drop⟩)
structure PCn (bp : Nat) (text : List UInt8) (n : Nat) : Prop where
 ch : PC bp text 86 [pp bp] .choice n
 sa : PC bp text 139 [pp bp] .same n
 im : PC bp text 168 [pp bp] .implies n
 ro : ∀ i : Nat,i ≤ 3 → PC bp text 179 [pp bp,.int .i64 (i : Int)] (.row i) n
 no : PC bp text 181 [pp bp] .not n
 le : PC bp text 182 [pp bp] .least n
theorem PC.zero {bp : Nat} {text : List UInt8} {f : Nat} {args : List Value} {nt : Fm.NT} : PC bp text f args nt 0 := fun a x r w _ h _ => by simp [Fm.parse] at h
theorem pc_all (bp : Nat) (text : List UInt8) (hmax : text.length ≤ 1099511627776) : ∀ n,PCn bp text n := by
 intro n
 induction n using Nat.strongRecOn with
 | _ n ih =>
  cases n with
  | zero => exact ⟨PC.zero,PC.zero,PC.zero,fun _ _ => PC.zero,PC.zero,PC.zero⟩
  | succ n =>
   have hm : text.length ≤ 140737488355328 := by omega
   have h := ih n (Nat.lt_succ_self n)
   exact ⟨choice_c bp text hm n h.sa h.ch,same_c bp text hm n h.im h.im,implies_c bp text hm n (h.ro 0 (by omega)) h.im,
    fun i hi => row_c bp text hmax n i hi h.no (fun hi3 m hm => (ih m (by omega)).ro (i + 1) (by omega)),
    not_c bp text hm n (fun m hm => (ih m (by omega)).le),least_c bp text hm n h.ch⟩
theorem catch_idle (b2 b3 b4 : Nat) (w : World) :
  CallsD Tryz.prog 84 [pp b2,pp b3,pp b4].toArray .returning w fun e u' w' => e = .returned (.tuple #[]) ∧ u' = .returning ∧ St w [] [] w' := by
 refine enterS Tryz.func84 rfl Tryz.ntmps84 rfl rfl rfl (St.init _) Recovers.returning (fun c₀ cs => ?_)
 refine jN 5 ?_
 refine WL.bin rfl rfl rfl (v := .bool false) (fun w => by kernel_rfl) ?_
 refine jN 4 ?_
 exact WQ.finS (rs := []) rfl .nil (fun w hS => ⟨rfl,rfl,hS⟩)
theorem _root_.Go.Eng.St.init3 {w : World} {b c d : Nat} {bs cs ds : List Value} {e1 e2 e3 : TypeId} (hb : w.heap[b]? = some (.cells bs.toArray e1 (0,0))) (hc : w.heap[c]? = some (.cells cs.toArray e2 (0,0)))
  (hd : w.heap[d]? = some (.cells ds.toArray e3 (0,0))) (h1 : b ≠ c) (h2 : b ≠ d) (h3 : c ≠ d) : St w [b,c,d] [pt b bs e1,pt c cs e2,pt d ds e3] w := by
 refine ⟨rfl,rfl,rfl,Nat.le_refl _,fun _ _ _ => rfl,?_,?_,?_⟩
 ·intro x hx
  simp only [List.mem_cons,List.not_mem_nil,or_false] at hx
  rcases hx with rfl | rfl | rfl
  ·exact hb
  ·exact hc
  exact hd
 ·intro x hx k hk
  simp only [List.mem_cons,List.not_mem_nil,or_false] at hx
  rcases hx with rfl | rfl | rfl
  ·have hk' : k = b := hk
   subst hk'
   exact ⟨lt_of_heap hb,fun _ => by simp⟩
  ·have hk' : k = c := hk
   subst hk'
   exact ⟨lt_of_heap hc,fun _ => by simp⟩
  have hk' : k = d := hk
  subst hk'
  exact ⟨lt_of_heap hd,fun _ => by simp⟩
 refine .cons (fun x hx k hk hk2 => ?_) (.cons (fun x hx k hk hk2 => ?_) (.cons (fun x hx => by cases hx) .nil))
 ·have hk' : k = b := hk
  simp only [List.mem_cons,List.not_mem_nil,or_false] at hx
  rcases hx with rfl | rfl
  ·exact h1 (hk'.symm.trans hk2)
  exact h2 (hk'.symm.trans hk2)
 have hk' : k = c := hk
 simp only [List.mem_cons,List.not_mem_nil,or_false] at hx
 subst hx
 exact h3 (hk'.symm.trans hk2)
theorem catch_trouble (b2 b3 b4 : Nat) (at_ : Nat) (v2 v3 v4 : List Value) (h23 : b2 ≠ b3) (h24 : b2 ≠ b4) (h34 : b3 ≠ b4) (hv2 : v2.length = 3) (hv3 : v3.length = 1) (hv4 : v4.length = 1) (w : World)
  (h2 : w.heap[b2]? = some (.cells v2.toArray 24 (0,0))) (h3 : w.heap[b3]? = some (.cells v3.toArray 3 (0,0))) (h4 : w.heap[b4]? = some (.cells v4.toArray 29 (0,0))) :
  CallsD Tryz.prog 84 [pp b2,pp b3,pp b4].toArray (.panicking (trouble at_)) w fun e u' w' => e = .returned (.tuple #[]) ∧ u' = .panicking [{ v := .iface 139 (.agg #[.int .i64 (at_ : Int)]),recovered := true }] ∧
   St w [b2,b3,b4] [pt b2 [.int .u8 0,.string (str []),.slice none 0 0] 24,pt b3 [.int .i64 (at_ : Int)] 3,pt b4 [.int .i64 4] 29] w' := by
 obtain ⟨x1,x2,x3,rfl⟩ : ∃ x1 x2 x3,v2 = [x1,x2,x3] := by match v2,hv2 with | [x1,x2,x3],_ => exact ⟨x1,x2,x3,rfl⟩
 obtain ⟨y,rfl⟩ : ∃ y,v3 = [y] := List.length_eq_one_iff.1 hv3
 obtain ⟨z,rfl⟩ : ∃ z,v4 = [z] := List.length_eq_one_iff.1 hv4
 refine enterS Tryz.func84 rfl Tryz.ntmps84 rfl rfl rfl (St.init3 h2 h3 h4 h23 h24 h34) (Recovers.panicking _ []) (fun c₀ cs => ?_)
 refine jN 5 ?_
 refine WL.bin rfl rfl rfl (v := .bool true) (fun w => by kernel_rfl) ?_
 refine jN 8 ?_
 refine WL.typeAssert rfl rfl (v := .tuple #[.agg #[.int .i64 (at_ : Int)],.bool true]) (fun w => by kernel_rfl) ?_
 refine jN 7 ?_
 refine WL.alloc F.zero139 rfl (fun b4_1 => ?_)
 refine jN 18 ?_
 refine WC.draws [([4,5],fun w => w.cell? ⟨b4_1,0,none⟩ = some (.int .i64 (at_ : Int)))] (by kernel_rfl) (fun w hS => facts_cons (hS.cell jM rfl) (facts_nil)) ?_
 refine jT 0 rfl (Yl.build F.stT24 rfl jB) ?_
 refine jT 1 rfl (Yl.fieldAddr0 F.fld139_0 rfl) ?_
 refine jF 2 0 rfl rfl (Yl.load1 F.one3 rfl) ?_
 refine jA 3 rfl ?_
 refine WL.storeN F.agg24 rfl rfl rfl jO jU jS ?_
 refine WD.on (closed_of (by kernel_rfl)) (fun w hS => Sx.keep (hS.cell jM rfl) (Sx.none)) ?_
 refine jA 4 rfl ?_
 refine WL.store1 F.one3 rfl rfl rfl jU jS ?_
 refine jG ?_
 refine jA 5 rfl ?_
 refine WL.store1 F.one29 rfl rfl rfl jU jS ?_
 refine jG ?_
 refine jD ?_
 exact WQ.finS (rs := []) rfl .nil (fun w hS => ⟨rfl,rfl,hS.sublist (List.Sublist.cons _ (List.Sublist.refl _))⟩)
theorem _root_.Go.Eng.St.call3 {w0 w w' : World} {O : List Nat} {C cs : List Chunk} {b c d : Nat} {vb vc vd : List Value} {e1 e2 e3 : TypeId} (h : St w0 O (pt b vb e1 :: pt c vc e2 :: pt d vd e3 :: C) w) (hc : St w [b,c,d] cs w') : St w0 O (cs ++ C) w' := by
 have d1 := List.pairwise_cons.1 h.disj
 have d2 := List.pairwise_cons.1 d1.2
 have d3 := List.pairwise_cons.1 d2.2
 refine h.drop.drop.drop.call hc (fun k hk _ => ?_)
 simp only [List.mem_cons,List.not_mem_nil,or_false] at hk
 rcases hk with rfl | rfl | rfl
 ·exact ⟨fun x hx => d1.1 x (by simp [hx]) k rfl,fun hlt => (h.bnd (pt k vb e1) (by simp) k rfl).2 hlt⟩
 ·exact ⟨fun x hx => d2.1 x (by simp [hx]) k rfl,fun hlt => (h.bnd (pt k vc e2) (by simp) k rfl).2 hlt⟩
 exact ⟨fun x hx => d3.1 x hx k rfl,fun hlt => (h.bnd (pt k vd e3) (by simp) k rfl).2 hlt⟩
def ParsePost (w : World) (r : Tree × Nat × Int) (e : Ending) (w' : World) : Prop :=
 ∃ y : List Nat × Option Addr × Nat,e = .returned (.tuple #[tv r.1 y.2.1 y.2.2,.int .i64 (r.2.1 : Int),.int .i64 r.2.2]) ∧ St w [] [own y.1 r.1 (tv r.1 y.2.1 y.2.2)] w'
theorem Parse_c (text : List UInt8) (w : World) : Calls Tryz.prog 39 [Value.string (str text)].toArray w (ParsePost w (Fm.top text)) := by
 refine enterD Tryz.func39 rfl Tryz.ntmps39 rfl (St.init _) ?_
 refine jN 3 ?_
 refine WL.alloc F.zero24 rfl (fun b2 => ?_)
 refine jN 1 ?_
 refine WL.alloc F.zero3 rfl (fun b3 => ?_)
 refine jN 1 ?_
 refine WL.alloc F.zero29 rfl (fun b4 => ?_)
 refine jN 13 ?_
 refine WC.cond rfl (fun h8 => ?_) (fun h8 => ?_)
 ·have htop : Fm.top text = (Fm.zeroTree,65536,5) := by (have h9 : 65536 < text.length := by simp at h8; omega); simp only [Fm.top,h9,if_true]
  refine jN 14 ?_
  refine WQ.ret0 rfl (rs := [.cell 2 24,.cell 3 3,.cell 4 29]) (.cellN F.agg24 rfl jM rfl (.cell1 F.one3 rfl jM rfl (.cell1 F.one29 rfl jM rfl .nil))) (fun w hS => ?_)
  rw [htop]
  exact ⟨([],none,0),rfl,(St.node0 0 [] hS).one1⟩
 have hl8 : ¬ 65536 < text.length := by simp at h8; omega
 have hmax : text.length ≤ 140737488355328 := by omega
 have hmax2 : text.length ≤ 1099511627776 := by omega
 refine jN 7 ?_
 refine WL.defer (us := []) (cap := [pp b2,pp b3,pp b4]) rfl ?_
 refine jN 9 ?_
 refine WL.boxN rfl rfl (fun b13 => ?_)
 refine jN 5 ?_
 rcases hn : Fm.next text 0 [] with ⟨a,x⟩ | a
 ·have hN := fun w hp => next_c b13 text [] 0 (by simp) hmax w hp
  rw [hn] at hN
  have hle := (Fm.next_le (by simp) hn).2
  obtain ⟨r,hr⟩ := Fm.parse_total (Fm.fuel text) .choice a x hle (by simp only [Fm.rank,Fm.fuel]; omega)
  refine jN 4 ?_
  refine WL.call1S (bs := pcell text 0 []) (bs' := pcell text a x) F.fun85 rfl rfl jR (fun w hS => hN w (hS.heap jM)) ?_
  refine jN 3 ?_
  rcases r with ⟨t1,b1,x1⟩ | b1
  ·have hC := fun w hp => (pc_all b13 text hmax2 _).ch a x _ w hle hr hp
   refine jN 4 ?_
   refine WL.call1A (res := fun y : List Nat × Option Addr × Nat => tv t1 y.2.1 y.2.2) (c1 := fun y : List Nat × Option Addr × Nat => own y.1 t1 (tv t1 y.2.1 y.2.2)) (c2 := fun _ => pt b13 (pcell text b1 x1) 143) (bs := pcell text a x) F.fun86 rfl rfl jR (fun w hS => hC w (hS.heap jM)) (fun y17 => ?_)
   refine jN 19 ?_
   refine WC.cond rfl (fun h22 => ?_) (fun h22 => ?_)
   ·have hx : x1 ≠ [] := by simpa using h22
    have htop : Fm.top text = (Fm.zeroTree,b1,4) := by simp only [Fm.top,hl8,if_false,hn,hr,hx,ne_eq,not_false_eq_true,if_true]
    refine jN 12 ?_
    refine WL.makeIface F.conc139 rfl rfl ?_
    refine jN 1 ?_
    refine WL.panic rfl ?_
    refine jN 1 ?_
    refine WQ.panicD (g := 84) (us := []) (cap := [pp b2,pp b3,pp b4]) (C2 := [pt b2 [Value.int .u8 0,.string (str []),.slice none 0 0] 24,pt b3 [.int .i64 (b1 : Int)] 3,pt b4 [.int .i64 4] 29]) (v := .tuple #[]) (ch2 := [{ v := .iface 139 (.agg #[.int .i64 (b1 : Int)]),recovered := true }]) F.fun84 (fun w hS => ?_) rfl (rs := [.cell 2 24,.cell 3 3,.cell 4 29]) rfl (.cellN F.agg24 rfl jM rfl (.cell1 F.one3 rfl jM rfl (.cell1 F.one29 rfl jM rfl .nil))) (fun w hS => ?_)
    ·refine (catch_trouble b2 b3 b4 b1 _ _ _ (St.ne2 (St.pick (St.pick hS (c := pt b3 [.int .i64 0] 3) jR) (c := pt b2 [Value.int .u8 t1.op,.string (str t1.name),.slice y17.2.1 t1.kids.length y17.2.2] 24) jR)) (St.ne2 (St.pick (St.pick hS (c := pt b4 [.int .i64 0] 29) jR) (c := pt b2 [Value.int .u8 t1.op,.string (str t1.name),.slice y17.2.1 t1.kids.length y17.2.2] 24) jR)) (St.ne2 (St.pick (St.pick hS (c := pt b4 [.int .i64 0] 29) jR) (c := pt b3 [.int .i64 0] 3) jR)) rfl rfl rfl w (hS.heap (cs := [Value.int .u8 t1.op,.string (str t1.name),.slice y17.2.1 t1.kids.length y17.2.2]) jM) (hS.heap (cs := [.int .i64 0]) jM) (hS.heap (cs := [.int .i64 0]) jM)).mono (fun e u2 w2 h => ⟨h.1,h.2.1,?_⟩)
     exact (St.call3 (St.pick (St.pick (St.pick hS (c := pt b4 [.int .i64 0] 29) jR) (c := pt b3 [.int .i64 0] 3) jR) (c := pt b2 [Value.int .u8 t1.op,.string (str t1.name),.slice y17.2.1 t1.kids.length y17.2.2] 24) jR) h.2.2).sublist (List.sublist_append_left _ _)
    rw [htop]
    exact ⟨([],none,0),rfl,(St.node0 0 [] hS).one1⟩
   have hx : x1 = [] := by simpa using h22
   refine jN 8 ?_
   refine WL.callV F.fun42 rfl rfl (fun w hS => Valid_c t1 y17.1 _ _ w (hS.ok (own y17.1 t1 (tv t1 y17.2.1 y17.2.2)) jM).2) ?_
   refine jN 4 ?_
   refine WC.cond rfl (fun h31 => ?_) (fun h31 => ?_)
   ·have hv : Fm.validB t1 = false := by simpa using h31
    have htop : Fm.top text = (Fm.zeroTree,text.length,5) := by simp only [Fm.top,hl8,if_false,hn,hr,hx,ne_eq,not_true_eq_false,hv,Bool.false_eq_true]
    refine jN 18 ?_
    refine WQ.retD (g := 84) (us := []) (cap := [pp b2,pp b3,pp b4]) F.fun84 (fun w hS => (catch_idle b2 b3 b4 w).mono (fun e u2 w2 h => ⟨h.1,h.2.1,hS.call0 h.2.2⟩)) rfl (rs := [.cell 2 24,.cell 3 3,.cell 4 29]) (.cellN F.agg24 rfl jM rfl (.cell1 F.one3 rfl jM rfl (.cell1 F.one29 rfl jM rfl .nil))) (fun w hS => ?_)
    rw [htop]
    exact ⟨([],none,0),rfl,(St.node0 0 [] hS).one1⟩
   have hv : Fm.validB t1 = true := by simpa using h31
   have htop : Fm.top text = (t1,0,0) := by simp only [Fm.top,hl8,if_false,hn,hr,hx,ne_eq,not_true_eq_false,hv,if_true]
   refine jN 15 ?_
   refine WQ.retD (g := 84) (us := []) (cap := [pp b2,pp b3,pp b4]) F.fun84 (fun w hS => (catch_idle b2 b3 b4 w).mono (fun e u2 w2 h => ⟨h.1,h.2.1,hS.call0 h.2.2⟩)) rfl (rs := [.cell 2 24,.cell 3 3,.cell 4 29]) (.cellN F.agg24 rfl jM rfl (.cell1 F.one3 rfl jM rfl (.cell1 F.one29 rfl jM rfl .nil))) (fun w hS => ?_)
   rw [htop]
   exact ⟨y17,rfl,(St.pick hS (c := own y17.1 t1 (tv t1 y17.2.1 y17.2.2)) jR).one1⟩
  have hC := fun w hp => (pc_all b13 text hmax2 _).ch a x _ w hle hr hp
  have htop : Fm.top text = (Fm.zeroTree,b1,4) := by simp only [Fm.top,hl8,if_false,hn,hr]
  refine jN 4 ?_
  refine WL.call1P (bs := pcell text a x) F.fun86 (fun d h => by cases h; rfl) rfl jR (fun w hS => hC w (hS.heap jM)) (fun cs => ?_)
  refine jN 1 ?_
  refine WQ.panicD (g := 84) (us := []) (cap := [pp b2,pp b3,pp b4]) (C2 := [pt b2 [Value.int .u8 0,.string (str []),.slice none 0 0] 24,pt b3 [.int .i64 (b1 : Int)] 3,pt b4 [.int .i64 4] 29]) (v := .tuple #[]) (ch2 := [{ v := .iface 139 (.agg #[.int .i64 (b1 : Int)]),recovered := true }]) F.fun84 (fun w hS => ?_) rfl (rs := [.cell 2 24,.cell 3 3,.cell 4 29]) rfl (.cellN F.agg24 rfl jM rfl (.cell1 F.one3 rfl jM rfl (.cell1 F.one29 rfl jM rfl .nil))) (fun w hS => ?_)
  ·refine (catch_trouble b2 b3 b4 b1 _ _ _ (St.ne2 (St.pick (St.pick hS (c := pt b3 [.int .i64 0] 3) jR) (c := pt b2 [Value.int .u8 0,.string (str []),.slice none 0 0] 24) jR)) (St.ne2 (St.pick (St.pick hS (c := pt b4 [.int .i64 0] 29) jR) (c := pt b2 [Value.int .u8 0,.string (str []),.slice none 0 0] 24) jR)) (St.ne2 (St.pick (St.pick hS (c := pt b4 [.int .i64 0] 29) jR) (c := pt b3 [.int .i64 0] 3) jR)) rfl rfl rfl w (hS.heap (cs := [Value.int .u8 0,.string (str []),.slice none 0 0]) jM) (hS.heap (cs := [.int .i64 0]) jM) (hS.heap (cs := [.int .i64 0]) jM)).mono (fun e u2 w2 h => ⟨h.1,h.2.1,?_⟩)
   exact (St.call3 (St.pick (St.pick (St.pick hS (c := pt b4 [.int .i64 0] 29) jR) (c := pt b3 [.int .i64 0] 3) jR) (c := pt b2 [Value.int .u8 0,.string (str []),.slice none 0 0] 24) jR) h.2.2).sublist (List.sublist_append_left _ _)
  rw [htop]
  exact ⟨([],none,0),rfl,(St.node0 0 [] hS).one1⟩
 have hN := fun w hp => next_c b13 text [] 0 (by simp) hmax w hp
 rw [hn] at hN
 have htop : Fm.top text = (Fm.zeroTree,a,4) := by simp only [Fm.top,hl8,if_false,hn]
 refine jN 4 ?_
 refine WL.call1P (bs := pcell text 0 []) F.fun85 (fun d h => by cases h; rfl) rfl jR (fun w hS => hN w (hS.heap jM)) (fun cs => ?_)
 refine jN 1 ?_
 refine WQ.panicD (g := 84) (us := []) (cap := [pp b2,pp b3,pp b4]) (C2 := [pt b2 [Value.int .u8 0,.string (str []),.slice none 0 0] 24,pt b3 [.int .i64 (a : Int)] 3,pt b4 [.int .i64 4] 29]) (v := .tuple #[]) (ch2 := [{ v := .iface 139 (.agg #[.int .i64 (a : Int)]),recovered := true }]) F.fun84 (fun w hS => ?_) rfl (rs := [.cell 2 24,.cell 3 3,.cell 4 29]) rfl (.cellN F.agg24 rfl jM rfl (.cell1 F.one3 rfl jM rfl (.cell1 F.one29 rfl jM rfl .nil))) (fun w hS => ?_)
 ·refine (catch_trouble b2 b3 b4 a _ _ _ (St.ne2 (St.pick (St.pick hS (c := pt b3 [.int .i64 0] 3) jR) (c := pt b2 [Value.int .u8 0,.string (str []),.slice none 0 0] 24) jR)) (St.ne2 (St.pick (St.pick hS (c := pt b4 [.int .i64 0] 29) jR) (c := pt b2 [Value.int .u8 0,.string (str []),.slice none 0 0] 24) jR)) (St.ne2 (St.pick (St.pick hS (c := pt b4 [.int .i64 0] 29) jR) (c := pt b3 [.int .i64 0] 3) jR)) rfl rfl rfl w (hS.heap (cs := [Value.int .u8 0,.string (str []),.slice none 0 0]) jM) (hS.heap (cs := [.int .i64 0]) jM) (hS.heap (cs := [.int .i64 0]) jM)).mono (fun e u2 w2 h => ⟨h.1,h.2.1,?_⟩)
  exact (St.call3 (St.pick (St.pick (St.pick hS (c := pt b4 [.int .i64 0] 29) jR) (c := pt b3 [.int .i64 0] 3) jR) (c := pt b2 [Value.int .u8 0,.string (str []),.slice none 0 0] 24) jR) h.2.2).sublist (List.sublist_append_left _ _)
 rw [htop]
 exact ⟨([],none,0),rfl,(St.node0 0 [] hS).one1⟩
namespace F
theorem by146 : ByT Tryz.prog 146 9 5 := ⟨by kernel_rfl,by kernel_rfl,by
 obtain ⟨i,h1,h2⟩ := Option.map_eq_some_iff.1 (show (Tryz.prog.info? 5).map (fun i => (i.zero,i.size,i.bytes)) = some (some (.int .u8 0),1,1) by kernel_rfl)
 simp only [Prod.mk.injEq] at h2
 exact ⟨i,h1,h2.1,h2.2.1,h2.2.2⟩⟩
theorem und145 : Tryz.prog.underlying 145 = some (.pointer 148) := by kernel_rfl
theorem und229 : Tryz.prog.underlying 229 = some .unsafePointer := by kernel_rfl
theorem und198 : Tryz.prog.underlying 198 = some (.pointer 5) := by kernel_rfl
theorem cells5 : Tryz.prog.cellsOf 5 = 1 := by kernel_rfl
theorem size148 : (Tryz.prog.info? 148).map (·.size) = some 2 := by kernel_rfl
theorem lies148 : liesAt Tryz.prog Tryz.prog.depth 148 (2 / Tryz.prog.cellsOf 148) 0 148 1 = true := by kernel_rfl
end F
theorem neq88 (b : Nat) (w : World) : (do eqGuard .neq 145 (.tmp 17) (.tmp 18) (pp b) (pp b); binOp .neq 145 (pp b) (pp b) : Sem Value).run Tryz.prog w = .ok (.bool false) w := by
 obtain ⟨i,hi,hs⟩ := Option.map_eq_some_iff.1 F.size148
 have : ∀ d,(Op.equalIn (d+1) 145 (pp b) (pp b)).run Tryz.prog w = .ok true w := by
  intro d
  simp [Op.equalIn,run_underlying F.und145,sizeOf,typeInfo,hi,hs,sameAddr]
 have h2 : (Op.equal 145 (pp b) (pp b)).run Tryz.prog w = .ok true w := this 9999
 have h1 : (eqGuard .neq 145 (.tmp 17) (.tmp 18) (pp b) (pp b)).run Tryz.prog w = .ok () w := by kernel_rfl
 simp only [Sem.run_bind,h1,Result.andThen_ok]
 simp only [binOp]
 simp [h2]
def ob (v : Value) : List Nat := match v.ownBlock with | some k => [k] | none => []
theorem mem_ob {v : Value} {k : Nat} : k ∈ ob v ↔ v.ownBlock = some k := by
 unfold ob
 cases v.ownBlock with
 | none => simp
 | some j => simp [eq_comm]
theorem copyCheck_c (b : Nat) (q v : Value) (hq : q = .pointer none ∨ q = pp b) (w : World) (hp : w.heap[b]? = some (.cells [q,v].toArray 148 (0,0))) :
  Calls Tryz.prog 143 [pp b].toArray w fun e w' => e = .returned (.tuple #[]) ∧ St w [b] [pt b [pp b,v] 148] w' := by
 obtain ⟨i91,hi91,hs91⟩ := Option.map_eq_some_iff.1 F.size148
 refine enter Tryz.func143 rfl Tryz.ntmps143 rfl (St.init1 hp) ?_
 refine jN 1 ?_
 rcases hq with rfl | rfl
 ·refine jN 10 ?_
  refine WL.bin rfl rfl rfl (v := .bool true) (fun w => by kernel_rfl) ?_
  refine jN 9 ?_
  refine WL.convert rfl rfl (v := pp b) (fun w hS => Lib.run_to_unsafe w ⟨b,0,none⟩ F.und145 F.und229 hi91 (by rw [hs91]; decide) (e := 148) (cells := 2) (by simp [World.shape?,hS.heap (cs := [.pointer none,v]) (e := 148) jM]) (Nat.zero_lt_succ 1)) ?_
  refine jN 1 ?_
  refine WL.callE rfl rfl (v := pp b) (fun w => by kernel_rfl) ?_
  refine jN 1 ?_
  refine WL.convert rfl rfl (v := pp b) (fun w hS => Lib.run_from_unsafe w ⟨b,0,none⟩ F.und229 F.und145 hi91 (e := 148) (cells := 2) (by simp [World.shape?,hS.heap (cs := [.pointer none,v]) (e := 148) jM]) F.lies148) ?_
  refine jN 7 ?_
  exact WQ.fin (rs := []) rfl .nil (fun w hS => ⟨rfl,hS⟩)
 refine jN 10 ?_
 refine WL.bin rfl rfl rfl (v := .bool false) (fun w => by kernel_rfl) ?_
 refine jN 16 ?_
 refine WL.bin rfl rfl rfl (v := .bool false) (fun w => neq88 b w) ?_
 refine jN 4 ?_
 exact WQ.fin (rs := []) rfl .nil (fun w hS => ⟨rfl,hS⟩)
theorem bcells_append (l s : List UInt8) : bcells (l ++ s) = bcells l ++ bcells s := by simp [bcells]
def bld (b : Nat) (q v : Value) (l : List UInt8) : List Chunk := [pt b [q,v] 148,rowc v l.length 5 1 (bcells l)]
theorem WriteString_c (b : Nat) (q v : Value) (l s : List UInt8) (hq : q = .pointer none ∨ q = pp b) (hb : l.length + s.length ≤ 140737488355328) (w : World) (hS0 : St w (b :: ob v) (bld b q v l) w) :
  Calls Tryz.prog 89 [pp b,.string (str s)].toArray w fun e w' => ∃ x : Option Addr × Nat,e = .returned (.tuple #[.int .i64 (s.length : Int),.nilIface]) ∧ St w (b :: ob v) (bld b (pp b) (.slice x.1 (l ++ s).length x.2) (l ++ s)) w' := by
 refine enter Tryz.func89 rfl Tryz.ntmps89 rfl (C := [pt b [q,v] 148,rowc v l.length 5 1 (bcells l)]) hS0 ?_
 refine jN 13 ?_
 refine WL.call1S (v := .tuple #[]) (bs := [q,v]) (bs' := [pp b,v]) (e := 148) F.fun143 rfl rfl jR (fun w hS => copyCheck_c b q v hq w (hS.heap jM)) ?_
 refine jN 17 ?_
 refine WL.appendS F.by146 rfl rfl rfl jR hb (fun a cap => ?_)
 refine jN 21 ?_
 refine WQ.ret (rs := [.tmp 4,.tmp 5]) rfl (.tmp rfl (.tmp rfl .nil)) (fun w hS => ?_)
 refine ⟨(a,cap),rfl,?_⟩
 have h2 := (St.pick (St.pick hS (c := rowc (.slice a (l.length + s.length) cap) (l.length + s.length) 5 1 (bcells l ++ bcells s)) jR) (c := pt b [pp b,.slice a (l.length + s.length) cap] 148) jR)
 simpa only [bld,List.length_append,bcells_append] using h2.two2
theorem String_c (b : Nat) (q : Value) (a : Option Addr) (cap : Nat) (l : List UInt8) (hne : l ≠ []) (hb : l.length ≤ 140737488355328) (w : World) (hS0 : St w (b :: ob (.slice a l.length cap)) (bld b q (.slice a l.length cap) l) w) :
  Calls Tryz.prog 93 [pp b].toArray w fun e w' => e = .returned (.string (str l)) ∧ St w (b :: ob (.slice a l.length cap)) [pt b [q,.slice a l.length cap] 148] w' := by
 have hcap : cap ≠ 0 := by
  have hro : w.ownsRow 0 5 1 (.slice a l.length cap) l.length (bcells l) := hS0.ok (rowc (.slice a l.length cap) l.length 5 1 (bcells l)) jM
  have hpos := List.length_pos_iff.2 hne
  rcases hro.2 with ⟨_,h0⟩ | ⟨g,cp,cur,hv,_,_,hle,_⟩
  ·omega
  ·injection hv with _ _ hc
   omega
 refine enter Tryz.func93 rfl Tryz.ntmps93 rfl (C := [pt b [q,.slice a l.length cap] 148,rowc (.slice a l.length cap) l.length 5 1 (bcells l)]) hS0 ?_
 refine jN 7 ?_
 refine WC.draws [([4,10],fun w => w.cell? ⟨b,1,none⟩ = some (.slice a l.length cap)),([10],fun w => w.cell? ⟨b,1,none⟩ = some (.slice a l.length cap))] (by kernel_rfl) (fun w hS => facts_cons (hS.cell jM rfl) (facts_cons (hS.cell jM rfl) (facts_nil))) ?_
 refine jT 0 rfl (Yl.move rfl) ?_
 refine jT 1 rfl (Yl.nilCheck rfl) ?_
 refine jT 2 rfl (Yl.fieldAddr0 F.fld148_1 rfl) ?_
 refine jF 3 0 rfl rfl (Yl.load1 F.one146 rfl) ?_
 refine jT 5 rfl (Yl.move rfl) ?_
 refine jT 6 rfl (Yl.nilCheck rfl) ?_
 refine jT 7 rfl (Yl.fieldAddr0 F.fld148_1 rfl) ?_
 refine jF 8 1 rfl rfl (Yl.load1 F.one146 rfl) ?_
 refine jT 9 rfl (Yl.lenSl F.und146 rfl) ?_
 refine jA 4 rfl ?_
 refine WL.sliceData rfl rfl (.inr hcap) ?_
 refine WD.on (closed_of (by kernel_rfl)) (fun w hS => Sx.gone rfl (Sx.keep (hS.cell jM rfl) (Sx.none))) ?_
 refine jA 10 rfl ?_
 refine WL.unsafeString F.und198 F.cells5 rfl rfl rfl jR hne hb ?_
 refine jG ?_
 refine jT 11 rfl (Yl.assign rfl) ?_
 refine jD ?_
 refine jN 2 ?_
 exact WQ.ret (rs := [.tmp 2]) rfl (.tmp rfl .nil) (fun w hS => ⟨rfl,hS⟩)
open Go Go.Eng Go.Proofs
def Bare (w : World) (O : List Nat) (a : Option Addr) (bs : List Int) : Prop := ∀ i u,bs[i]? = some u → ∃ b off,a = some ⟨b,off,none⟩ ∧ b ∉ O ∧ w.cell? ⟨b,off + i,none⟩ = some (.int .u8 u)
theorem contains_take {bs : List Int} {v u : Int} {i : Nat} (h : bs[i]? = some u) : (bs.take (i + 1)).contains v = ((bs.take i).contains v || (v == u)) := by
 rw [List.take_add_one,h]
 rw [Bool.eq_iff_iff]
 simp [List.contains_eq_mem]
theorem indexU_c (bs : List Int) (a : Option Addr) (c : Nat) (v : Int) (hlen : bs.length ≤ 1000) (w : World) (hb : Bare w [] a bs) :
  Calls Tryz.prog 142 [.slice a bs.length c,.int .u8 v].toArray w fun e w' => ∃ r : { r : Int // decide (0 ≤ r) = bs.contains v },e = .returned (.int .i64 r.1) ∧ St w [] [] w' := by
 refine enter Tryz.func142 rfl Tryz.ntmps142 rfl (St.init _) ?_
 refine jN 18 ?_
 refine WC.loop (α := Nat) (fun i => i ≤ bs.length ∧ (bs.take i).contains v = false) (fun i => [(0,.slice a bs.length c),(1,.int .u8 v),(7,.int .i64 (bs.length : Int)),(8,.int .i64 (i : Int))]) (fun _ => []) (fun i => bs.length - i) (0) ?_ ?_ ?_ ?_
 ·exact ⟨Nat.zero_le _,rfl⟩
 ·exact ⟨rfl,rfl,rfl,rfl,trivial⟩
 ·rfl
 rintro i ⟨hi,hno⟩
 refine jN 7 ?_
 refine WC.cond rfl (fun h9 => ?_) (fun h9 => ?_)
 ·have hlt : i < bs.length := by simpa using h9
  obtain ⟨u,hu⟩ : ∃ u,bs[i]? = some u := ⟨_,List.getElem?_eq_getElem hlt⟩
  obtain ⟨b,off,rfl,hbo,hcell⟩ := hb i u hu
  refine jN 21 ?_
  refine WL.indexAddr F.sl146 rfl rfl rfl hlt ?_
  refine jN 1 ?_
  refine WL.load1 F.one5 rfl rfl (v := .int .u8 u) (fun w hS => hS.oldc (by simpa using hcell) (by simp)) ?_
  refine jN 4 ?_
  refine WC.cond rfl (fun h16 => ?_) (fun h16 => ?_)
  ·refine jN 14 ?_
   refine WQ.ret (rs := [.tmp 4]) rfl (.tmp rfl .nil) (fun w hS => ⟨⟨(i : Int),?_⟩,rfl,hS⟩)
   have h2 : bs.contains v = true := by
    have hvu : v = u := by simpa using h16
    subst hvu
    simpa using List.mem_of_getElem? hu
   rw [h2]; simp
  refine jN 9 ?_
  refine WQ.back (i + 1) ?_ ?_ ?_ ?_
  ·exact ⟨by omega,by rw [contains_take hu,hno,h16]; rfl⟩
  ·omega
  ·exact ⟨rfl,rfl,rfl,rfl,trivial⟩
  rfl
 have hie : i = bs.length := by simp at h9; omega
 subst hie
 rw [List.take_length] at hno
 refine jN 12 ?_
 refine WQ.ret (rs := [.tmp 4]) rfl (.tmp rfl .nil) (fun w hS => ⟨⟨-1,?_⟩,rfl,hS⟩)
 rw [hno]; rfl
theorem containsU_c (bs : List Int) (a : Option Addr) (c : Nat) (v : Int) (hlen : bs.length ≤ 1000) (w : World) (hb : Bare w [] a bs) : Pure Tryz.prog 88 [.slice a bs.length c,.int .u8 v] w (.bool (bs.contains v)) := by
 refine enter Tryz.func88 rfl Tryz.ntmps88 rfl (St.init _) ?_
 refine jN 13 ?_
 refine jC (β := { r : Int // decide (0 ≤ r) = bs.contains v }) (res := fun r => .int .i64 r.1) (cs := fun _ => []) F.fun142 rfl (fun w hS _ => indexU_c bs a c v hlen w (fun i u hu => ?_)) (fun r => ?_)
 ·obtain ⟨b,off,h1,h2,h3⟩ := hb i u hu
  exact ⟨b,off,h1,by simp,hS.oldc h3 (by simp)⟩
 refine jN 7 ?_
 refine WQ.ret (rs := [.tmp 4]) rfl (.tmp rfl .nil) (fun w hS => ⟨?_,hS⟩)
 exact congrArg (fun b => Ending.returned (Value.bool b)) r.2
theorem sign_c (op i : Int) (w : World) : Pure Tryz.prog 91 [.int .u8 op,.int .i64 i] w (.string (str (Fm.signS op i))) := by
 refine enter Tryz.func91 rfl Tryz.ntmps91 rfl (St.init _) ?_
 refine jN 22 ?_
 refine WC.cond rfl (fun h6 => ?_) (fun h6 => ?_)
 ·refine jN 9 ?_
  exact WQ.ret (rs := [.tmp 4]) rfl (.tmp rfl .nil) (fun w hS => ⟨by simp_all [tup,Fm.signS,str],hS⟩)
 refine jN 8 ?_
 refine WC.cond rfl (fun h8 => ?_) (fun h8 => ?_)
 ·refine jN 9 ?_
  exact WQ.ret (rs := [.tmp 4]) rfl (.tmp rfl .nil) (fun w hS => ⟨by simp_all [tup,Fm.signS,str],hS⟩)
 refine jN 8 ?_
 refine WC.cond rfl (fun h10 => ?_) (fun h10 => ?_)
 ·refine jN 9 ?_
  exact WQ.ret (rs := [.tmp 4]) rfl (.tmp rfl .nil) (fun w hS => ⟨by simp_all [tup,Fm.signS,str],hS⟩)
 refine jN 8 ?_
 refine WC.cond rfl (fun h12 => ?_) (fun h12 => ?_)
 ·refine jN 9 ?_
  exact WQ.ret (rs := [.tmp 4]) rfl (.tmp rfl .nil) (fun w hS => ⟨by simp_all [tup,Fm.signS,str],hS⟩)
 refine jN 8 ?_
 refine WC.cond rfl (fun h14 => ?_) (fun h14 => ?_)
 ·refine jN 9 ?_
  exact WQ.ret (rs := [.tmp 4]) rfl (.tmp rfl .nil) (fun w hS => ⟨by simp_all [tup,Fm.signS,str],hS⟩)
 refine jN 12 ?_
 refine WC.cond rfl (fun h17 => ?_) (fun h17 => ?_)
 refine jN 8 ?_
 rotate_left
 refine jN 9 ?_
 rotate_left
 all_goals
  exact WQ.ret (rs := [.tmp 4]) rfl (.tmp rfl .nil) (fun w hS => ⟨by simp_all [tup,Fm.signS,str],hS⟩)
theorem bare_c (op i : Int) (w : World) :
  Calls Tryz.prog 92 [.int .u8 op,.int .i64 i].toArray w fun e w' => ∃ x : Nat × Option Addr × Nat,(x.2.1 = some ⟨x.1,0,none⟩ ∨ Fm.bareN op i = 0) ∧ e = .returned (.slice x.2.1 (Fm.bareL.take (Fm.bareN op i)).length x.2.2) ∧ St w [] [pt x.1 (Fm.bareL.map (Value.int .u8)) 5] w' := by
 refine enter Tryz.func92 rfl Tryz.ntmps92 rfl (St.init _) ?_
 refine jN 9 ?_
 refine WL.buildSlice F.sl146 F.ez146 rfl rfl rfl rfl jB rfl (fun b6 => ?_)
 refine jN 16 ?_
 refine WC.cond rfl (fun h7 => ?_) (fun h7 => ?_)
 ·refine jN 9 ?_
  refine WQ.ret (rs := [.tmp 4]) rfl (.tmp rfl .nil) (fun w hS => ?_)
  first | (refine ⟨(b6,some ⟨b6,0,none⟩,6),.inl rfl,?_,hS⟩; simp_all [tup,Fm.bareN,Fm.bareL]; done) | (refine ⟨(b6,none,0),.inr ?_,?_,hS⟩ <;> simp_all [tup,Fm.bareN,Fm.bareL]; done)
 refine jN 10 ?_
 refine WC.cond rfl (fun h10 => ?_) (fun h10 => ?_)
 ·refine jN 5 ?_
  refine WL.y (F := fun _ => True) (Yl.sliceSlTo (n := 1) F.sl146 rfl rfl (by decide)) rfl (fun _ _ => trivial) ?_
  refine jN 7 ?_
  refine WQ.ret (rs := [.tmp 4]) rfl (.tmp rfl .nil) (fun w hS => ?_)
  first | (refine ⟨(b6,some ⟨b6,0,none⟩,6),.inl rfl,?_,hS⟩; simp_all [tup,Fm.bareN,Fm.bareL]; done) | (refine ⟨(b6,none,0),.inr ?_,?_,hS⟩ <;> simp_all [tup,Fm.bareN,Fm.bareL]; done)
 refine jN 10 ?_
 refine WC.cond rfl (fun h15 => ?_) (fun h15 => ?_)
 ·refine jN 5 ?_
  refine WL.y (F := fun _ => True) (Yl.sliceSlTo (n := 2) F.sl146 rfl rfl (by decide)) rfl (fun _ _ => trivial) ?_
  refine jN 7 ?_
  refine WQ.ret (rs := [.tmp 4]) rfl (.tmp rfl .nil) (fun w hS => ?_)
  first | (refine ⟨(b6,some ⟨b6,0,none⟩,6),.inl rfl,?_,hS⟩; simp_all [tup,Fm.bareN,Fm.bareL]; done) | (refine ⟨(b6,none,0),.inr ?_,?_,hS⟩ <;> simp_all [tup,Fm.bareN,Fm.bareL]; done)
 refine jN 8 ?_
 refine WA.splitB (i := 23) rfl (fun h23 => ?_) (fun h23 => ?_)
 ·refine jN 12 ?_
  refine WC.cond rfl (fun h20 => ?_) (fun h20 => ?_)
  ·refine jN 5 ?_
   refine WL.y (F := fun _ => True) (Yl.sliceSlTo (n := 3) F.sl146 rfl rfl (by decide)) rfl (fun _ _ => trivial) ?_
   refine jN 7 ?_
   refine WQ.ret (rs := [.tmp 4]) rfl (.tmp rfl .nil) (fun w hS => ?_)
   first | (refine ⟨(b6,some ⟨b6,0,none⟩,6),.inl rfl,?_,hS⟩; simp_all [tup,Fm.bareN,Fm.bareL]; done) | (refine ⟨(b6,none,0),.inr ?_,?_,hS⟩ <;> simp_all [tup,Fm.bareN,Fm.bareL]; done)
  refine jN 8 ?_
  refine WA.splitB (i := 32) rfl (fun h32 => ?_) (fun h32 => ?_)
  ·refine jN 16 ?_
   refine WL.y (F := fun _ => True) (Yl.sliceSlTo (n := 4) F.sl146 rfl rfl (by decide)) rfl (fun _ _ => trivial) ?_
   refine jN 7 ?_
   refine WQ.ret (rs := [.tmp 4]) rfl (.tmp rfl .nil) (fun w hS => ?_)
   first | (refine ⟨(b6,some ⟨b6,0,none⟩,6),.inl rfl,?_,hS⟩; simp_all [tup,Fm.bareN,Fm.bareL]; done) | (refine ⟨(b6,none,0),.inr ?_,?_,hS⟩ <;> simp_all [tup,Fm.bareN,Fm.bareL]; done)
  refine jN 12 ?_
  refine WC.cond rfl (fun h29 => ?_) (fun h29 => ?_)
  ·refine jN 5 ?_
   refine WL.y (F := fun _ => True) (Yl.sliceSlTo (n := 4) F.sl146 rfl rfl (by decide)) rfl (fun _ _ => trivial) ?_
   refine jN 7 ?_
   refine WQ.ret (rs := [.tmp 4]) rfl (.tmp rfl .nil) (fun w hS => ?_)
   first | (refine ⟨(b6,some ⟨b6,0,none⟩,6),.inl rfl,?_,hS⟩; simp_all [tup,Fm.bareN,Fm.bareL]; done) | (refine ⟨(b6,none,0),.inr ?_,?_,hS⟩ <;> simp_all [tup,Fm.bareN,Fm.bareL]; done)
  refine jN 10 ?_
  refine WC.cond rfl (fun h38 => ?_) (fun h38 => ?_)
  refine jN 5 ?_
  refine WL.y (F := fun _ => True) (Yl.sliceSlTo (n := 5) F.sl146 rfl rfl (by decide)) rfl (fun _ _ => trivial) ?_
  refine jN 7 ?_
  rotate_left
  refine jN 12 ?_
  rotate_left
  all_goals
   refine WQ.ret (rs := [.tmp 4]) rfl (.tmp rfl .nil) (fun w hS => ?_)
   first | (refine ⟨(b6,some ⟨b6,0,none⟩,6),.inl rfl,?_,hS⟩; simp_all [tup,Fm.bareN,Fm.bareL]; done) | (refine ⟨(b6,none,0),.inr ?_,?_,hS⟩ <;> simp_all [tup,Fm.bareN,Fm.bareL]; done)
 refine jN 19 ?_
 refine WA.splitB (i := 32) rfl (fun h32 => ?_) (fun h32 => ?_)
 ·refine jN 16 ?_
  refine WL.y (F := fun _ => True) (Yl.sliceSlTo (n := 4) F.sl146 rfl rfl (by decide)) rfl (fun _ _ => trivial) ?_
  refine jN 7 ?_
  refine WQ.ret (rs := [.tmp 4]) rfl (.tmp rfl .nil) (fun w hS => ?_)
  first | (refine ⟨(b6,some ⟨b6,0,none⟩,6),.inl rfl,?_,hS⟩; simp_all [tup,Fm.bareN,Fm.bareL]; done) | (refine ⟨(b6,none,0),.inr ?_,?_,hS⟩ <;> simp_all [tup,Fm.bareN,Fm.bareL]; done)
 refine jN 12 ?_
 refine WC.cond rfl (fun h29 => ?_) (fun h29 => ?_)
 ·refine jN 5 ?_
  refine WL.y (F := fun _ => True) (Yl.sliceSlTo (n := 4) F.sl146 rfl rfl (by decide)) rfl (fun _ _ => trivial) ?_
  refine jN 7 ?_
  refine WQ.ret (rs := [.tmp 4]) rfl (.tmp rfl .nil) (fun w hS => ?_)
  first | (refine ⟨(b6,some ⟨b6,0,none⟩,6),.inl rfl,?_,hS⟩; simp_all [tup,Fm.bareN,Fm.bareL]; done) | (refine ⟨(b6,none,0),.inr ?_,?_,hS⟩ <;> simp_all [tup,Fm.bareN,Fm.bareL]; done)
 refine jN 10 ?_
 refine WC.cond rfl (fun h38 => ?_) (fun h38 => ?_)
 refine jN 5 ?_
 refine WL.y (F := fun _ => True) (Yl.sliceSlTo (n := 5) F.sl146 rfl rfl (by decide)) rfl (fun _ _ => trivial) ?_
 refine jN 7 ?_
 rotate_left
 refine jN 12 ?_
 rotate_left
 all_goals
  refine WQ.ret (rs := [.tmp 4]) rfl (.tmp rfl .nil) (fun w hS => ?_)
  first | (refine ⟨(b6,some ⟨b6,0,none⟩,6),.inl rfl,?_,hS⟩; simp_all [tup,Fm.bareN,Fm.bareL]; done) | (refine ⟨(b6,none,0),.inr ?_,?_,hS⟩ <;> simp_all [tup,Fm.bareN,Fm.bareL]; done)
section
variable {P : Program} {w0 : World} {O : List Nat} {ops : Array Oper} {Q : Exit → Act → World → Prop} {N : Nat} {D : List Deferred} {L : FL} {C : List Chunk} {K : Act → World → Prop}
variable {d : Nat} {ty : TypeId} {pos : String} {af : Array Edge}
theorem bld_fp1 {b : Nat} {q v : Value} {n : Nat} {xs : List Value} : ∀ c ∈ [pt b [q,v] 148,rowc v n 5 1 xs],∀ k,c.fp k → k ∈ b :: ob v := by
 intro c hc k hk
 simp only [List.mem_cons,List.not_mem_nil,or_false] at hc
 rcases hc with rfl | rfl
 ·have : k = b := hk
  simp [this]
 exact List.mem_cons_of_mem _ (mem_ob.2 hk)
theorem bld_fp2 {b : Nat} {q v : Value} {n : Nat} {xs : List Value} : ∀ k ∈ b :: ob v,∃ c ∈ [pt b [q,v] 148,rowc v n 5 1 xs],c.fp k := by
 intro k hk
 rcases List.mem_cons.1 hk with rfl | hk
 ·exact ⟨_,List.mem_cons_self ..,rfl⟩
 exact ⟨_,List.mem_cons_of_mem _ (List.mem_cons_self ..),mem_ob.1 hk⟩
theorem WL.callB {β : Type} {f : FuncId} {xs : List Operand} {tys : Array TypeId} {vs : List Value} {res : β → Value} {c1 c2 : β → Chunk} {q v : Value} {l : List UInt8} {b : Nat} {Ca C1 : List Chunk}
  (hf : funB P f = some true) (hd : Nat.blt d N = true) (hx : evs L xs = some vs) (hr1 : Rem (pt b [q,v] 148) C Ca) (hr2 : Rem (rowc v l.length 5 1 (bcells l)) Ca C1)
  (hc : ∀ w,St w0 O (pt b [q,v] 148 :: rowc v l.length 5 1 (bcells l) :: C1) w → St w (b :: ob v) (bld b q v l) w → Calls P f vs.toArray w fun e w' => ∃ x,e = .returned (res x) ∧ St w (b :: ob v) [c1 x,c2 x] w')
  (h : ∀ x,WA w0 O K N D ((d,res x) :: L) (c1 x :: c2 x :: C1)) :
  WK P w0 O ops Q ⟨some d,.call { callee := .value (.func f),args := xs.toArray,argTypes := tys },ty,pos,af,none⟩ K N D L C :=
 WL.callC (Cs := [pt b [q,v] 148,rowc v l.length 5 1 (bcells l)]) (cs := fun x => [c1 x,c2 x]) (O' := b :: ob v) hf (fun d' e => by cases e; exact hd) hx (hr1.perm.trans (hr2.perm.cons _)) bld_fp1 bld_fp2 hc h
theorem WL.callFB {β : Type} {f : FuncId} {x : Operand} {xs : List Operand} {tys : Array TypeId} {vs us cap : List Value} {res : β → Value} {c1 c2 : β → Chunk} {q v : Value} {l : List UInt8} {b : Nat} {Ca C1 : List Chunk}
  (hf : funB P f = some true) (hd : Nat.blt d N = true) (hfv : ev L x = some (.func (.func f) us.toArray cap.toArray)) (hx : evs L xs = some vs) (hr1 : Rem (pt b [q,v] 148) C Ca) (hr2 : Rem (rowc v l.length 5 1 (bcells l)) Ca C1)
  (hc : ∀ w,St w0 O (pt b [q,v] 148 :: rowc v l.length 5 1 (bcells l) :: C1) w → St w (b :: ob v) (bld b q v l) w → Calls P f (us ++ vs ++ cap).toArray w fun e w' => ∃ x,e = .returned (res x) ∧ St w (b :: ob v) [c1 x,c2 x] w')
  (h : ∀ x,WA w0 O K N D ((d,res x) :: L) (c1 x :: c2 x :: C1)) :
  WK P w0 O ops Q ⟨some d,.call { callee := .value x,args := xs.toArray,argTypes := tys },ty,pos,af,none⟩ K N D L C :=
 WL.callFC (Cs := [pt b [q,v] 148,rowc v l.length 5 1 (bcells l)]) (cs := fun x => [c1 x,c2 x]) (O' := b :: ob v) hf (fun d' e => by cases e; exact hd) hfv hx (hr1.perm.trans (hr2.perm.cons _)) bld_fp1 bld_fp2 hc h
end
structure PEnv (w : World) (O : List Nat) (bo bp bk : Nat) (t : Tree) (G : List Nat) (a : Option Addr) (c : Nat) : Prop where
 rd : rdT w t G (tv t a c)
 nf : ∀ k ∈ G,k ∉ O
 h5 : w.heap[bp]? = some (.cells [Value.func (.func 90) [].toArray [pp bo,pp bk].toArray].toArray 149 (0,0))
 h6 : w.heap[bk]? = some (.cells [Value.func (.func 87) [].toArray [pp bp,pp bo].toArray].toArray 155 (0,0))
 n5 : bp ∉ O
 n6 : bk ∉ O
theorem PEnv.next {w0 w : World} {O O' : List Nat} {C : List Chunk} {bo bp bk : Nat} {t : Tree} {G : List Nat} {a : Option Addr} {c : Nat} (hE : PEnv w0 O bo bp bk t G a c) (hS : St w0 O C w) (hO : ∀ k ∈ O',∃ ch ∈ C,ch.fp k) :
  PEnv w O' bo bp bk t G a c := by
 have hn : ∀ k,k < w0.heap.size → k ∉ O → k ∉ O' := fun k hlt hk hk' => by
  obtain ⟨ch,h1,h2⟩ := hO k hk'
  exact hk ((hS.bnd ch h1 k h2).2 hlt)
 exact ⟨hS.oldT hE.rd (fun k hk => ⟨rdT_lt hE.rd k hk,hE.nf k hk⟩),fun k hk => hn k (rdT_lt hE.rd k hk) (hE.nf k hk),hS.oldh hE.h5 hE.n5,hS.oldh hE.h6 hE.n6,hn _ (lt_of_heap hE.h5) hE.n5,hn _ (lt_of_heap hE.h6) hE.n6⟩
theorem PEnv.nextB {w0 w : World} {O : List Nat} {C1 : List Chunk} {bo bp bk : Nat} {t : Tree} {G : List Nat} {a : Option Addr} {c : Nat} {q v : Value} {n : Nat} {xs : List Value} (hE : PEnv w0 O bo bp bk t G a c) (hS : St w0 O (pt bo [q,v] 148 :: rowc v n 5 1 xs :: C1) w) :
  PEnv w (bo :: ob v) bo bp bk t G a c := hE.next hS (fun k hk => by
 obtain ⟨ch,h1,h2⟩ := bld_fp2 (b := bo) (q := q) (v := v) (n := n) (xs := xs) k hk
 exact ⟨ch,List.mem_append_left C1 h1,h2⟩)
theorem PEnv.kid {w : World} {O : List Nat} {bo bp bk : Nat} {t k : Tree} {G : List Nat} {a : Option Addr} {c i : Nat} (hE : PEnv w O bo bp bk t G a c) (hi : t.kids[i]? = some k) :
  ∃ b off F1 a1 c1,a = some ⟨b,off,none⟩ ∧ b ∉ O ∧ PEnv w O bo bp bk k F1 a1 c1 ∧
   (∀ j v,[Value.int .u8 k.op,.string (str k.name),.slice a1 k.kids.length c1][j]? = some v → w.cell? ⟨b,off + i * 3 + j,none⟩ = some v) := by
 obtain ⟨b,off,F1,a1,c1,ha,hb,hF,hr,hc⟩ := rdT_at hE.rd hi
 exact ⟨b,off,F1,a1,c1,ha,hE.nf b hb,⟨hr,fun x hx => hE.nf x (hF x hx),hE.h5,hE.h6,hE.n5,hE.n6⟩,hc⟩
abbrev PX (bo : Nat) : Type := { x : Value × Option Addr × Nat // x.1 = .pointer none ∨ x.1 = pp bo }
def PutPost (w : World) (bo : Nat) (v : Value) (l : List UInt8) (e : Ending) (w' : World) : Prop :=
 ∃ x : PX bo,e = .returned (.tuple #[]) ∧ St w (bo :: ob v) [pt bo [x.1.1,.slice x.1.2.1 l.length x.1.2.2] 148,rowc (.slice x.1.2.1 l.length x.1.2.2) l.length 5 1 (bcells l)] w'
def PutC (t : Tree) : Prop := ∀ G a c q ba bc l l2 bo bp bk w,l2 = l ++ Fm.putS t → PEnv w (bo :: ob (.slice ba (List.length l) bc)) bo bp bk t G a c → Fm.notOk t = true → (q = .pointer none ∨ q = pp bo) → List.length l + (Fm.putS t).length ≤ 70368744177664 →
 St w (bo :: ob (.slice ba l.length bc)) (bld bo q (.slice ba l.length bc) l) w → Calls Tryz.prog 90 [tv t a c,pp bo,pp bk].toArray w (PutPost w bo (.slice ba l.length bc) l2)
def KidC (t : Tree) : Prop := ∀ G a c q ba bc l l2 bs sa sc bo bp bk w,l2 = l ++ Fm.kidS t bs → PEnv w (bo :: ob (.slice ba (List.length l) bc)) bo bp bk t G a c → Bare w (bo :: ob (.slice ba l.length bc)) sa bs → List.length bs ≤ 1000 → Fm.notOk t = true → (q = .pointer none ∨ q = pp bo) →
 List.length l + (Fm.kidS t bs).length ≤ 70368744177664 → St w (bo :: ob (.slice ba l.length bc)) (bld bo q (.slice ba l.length bc) l) w →
 Calls Tryz.prog 87 [tv t a c,.slice sa bs.length sc,pp bp,pp bo].toArray w (PutPost w bo (.slice ba l.length bc) l2)
theorem WriteString_e (b : Nat) (q v : Value) (l s l2 : List UInt8) (n : Nat) (hl2 : l2 = l ++ s) (hq : q = .pointer none ∨ q = pp b) (hb : l.length + s.length ≤ 140737488355328) (hn : n = s.length) (w : World) (hS0 : St w (b :: ob v) (bld b q v l) w) :
  Calls Tryz.prog 89 [pp b,.string (str s)].toArray w fun e w' => ∃ x : Option Addr × Nat,e = .returned (.tuple #[.int .i64 (n : Int),.nilIface]) ∧ St w (b :: ob v) (bld b (pp b) (.slice x.1 l2.length x.2) l2) w' := by
 subst hl2; subst hn
 exact WriteString_c b q v l s hq hb w hS0
theorem Bare.of_new {w0 w : World} {O : List Nat} {C1 : List Chunk} {b g k : Nat} {q v : Value} {n : Nat} {xs : List Value} {bs : List Int} {sa : Option Addr} (hS : St w0 O (pt b [q,v] 148 :: rowc v n 5 1 xs :: C1) w) (hm : pt g (bs.map (Value.int .u8)) 5 ∈ C1)
  (hs : sa = some ⟨g,0,none⟩ ∨ k = 0) : Bare w (b :: ob v) sa (bs.take k) := by
 intro i u hu
 rcases hs with hs | hs
 ·refine ⟨g,0,hs,fun hk => ?_,?_⟩
  ·obtain ⟨ch,h1,h2⟩ := bld_fp2 (b := b) (q := q) (v := v) (n := n) (xs := xs) g hk
   have hd := List.pairwise_append.1 (show ([pt b [q,v] 148,rowc v n 5 1 xs] ++ C1).Pairwise _ from hS.disj)
   exact hd.2.2 ch h1 _ hm g h2 rfl
  rw [Nat.zero_add]
  refine hS.cell (cs := bs.map (Value.int .u8)) (e := 5) (List.mem_cons_of_mem _ (List.mem_cons_of_mem _ hm)) ?_
  have : bs[i]? = some u := by
   rw [List.getElem?_take] at hu
   split at hu
   ·exact hu
   ·cases hu
  simp [this]
 subst hs
 simp at hu
theorem putK_drop {op : Int} {i : Nat} {ts : List Tree} {k : Tree} (h : ts[i]? = some k) :
  Fm.putK op (i : Int) (ts.drop i) = (if (0 : Int) < (i : Int) then [32] ++ Fm.signS op (i : Int) ++ [32] else []) ++ Fm.kidS k (Fm.bareL.take (Fm.bareN op (i : Int))) ++ Fm.putK op ((i + 1 : Nat) : Int) (ts.drop (i + 1)) := by
 obtain ⟨hi,he⟩ := List.getElem?_eq_some_iff.1 h
 rw [List.drop_eq_getElem_cons hi,he]
 simp only [Fm.putK,Fm.kidS]
 rfl
theorem notOk_kid {t k : Tree} {i : Nat} (h : Fm.notOk t = true) (hi : t.kids[i]? = some k) : Fm.notOk k = true := by
 obtain ⟨op,name,kids⟩ := t
 simp only [Fm.notOk,Bool.and_eq_true] at h
 have : ∀ (ts : List Tree) (i : Nat),Fm.notOkL ts = true → ts[i]? = some k → Fm.notOk k = true := by
  intro ts
  induction ts with
  | nil => intro i _ hi; simp at hi
  | cons a r ih =>
   intro i h hi
   simp only [Fm.notOkL,Bool.and_eq_true] at h
   cases i with
   | zero => simp at hi; subst hi; exact h.1
   | succ i => exact ih i h.2 (by simpa using hi)
 exact this kids i h.2 hi
open Go Go.Eng Go.Proofs
theorem kid_c (t : Tree) (hk : PutC t) : KidC t := by
 intro G a c q ba bc l l2 bs sa sc bo bp bk w hl2 hE hbare hbs hn hq hlen hS0
 refine enter Tryz.func87 rfl Tryz.ntmps87 rfl (C := [pt bo [q,.slice ba l.length bc] 148,rowc (.slice ba l.length bc) l.length 5 1 (bcells l)]) hS0 ?_
 refine jN 3 ?_
 refine WL.boxN rfl rfl (fun b4 => ?_)
 refine jN 12 ?_
 refine WL.callV F.fun88 rfl rfl (fun w hS => containsU_c bs sa sc t.op hbs w (fun i u hu => ?_)) ?_
 ·obtain ⟨b,off,h1,h2,h3⟩ := hbare i u hu
  exact ⟨b,off,h1,by simp,hS.oldc h3 h2⟩
 refine jN 2 ?_
 refine WA.splitB (i := 10) rfl (fun h10 => ?_) (fun h10 => ?_)
 ·have hks : Fm.kidS t bs = Fm.putS t := by unfold Fm.kidS; rw [if_pos]; rw [h10]; rfl
  refine jN 13 ?_
  rw [hks] at hlen hl2
  refine jN 1 ?_
  refine WL.load1 F.one149 rfl rfl (fun w hS => hS.oldc (cell_of_heap hE.h5 rfl) hE.n5) ?_
  refine jN 3 ?_
  refine WL.callFB (β := PX bo) (res := fun _ => .tuple #[]) (c1 := fun x => pt bo [x.1.1,.slice x.1.2.1 l2.length x.1.2.2] 148) (c2 := fun x => rowc (.slice x.1.2.1 l2.length x.1.2.2) l2.length 5 1 (bcells l2)) (q := q) (v := .slice ba l.length bc) (l := l) (b := bo) (us := []) (cap := [pp bo,pp bk]) F.fun90 rfl rfl rfl jR jR (fun w hS hS2 => hk G a c q ba bc l l2 bo bp bk w hl2 (hE.nextB hS) hn hq hlen hS2) (fun x17 => ?_)
  refine jN 4 ?_
  refine WQ.ret (rs := []) rfl .nil (fun w hS => ?_)
  have h2 := ((St.pick (St.pick hS (c := rowc (.slice x17.1.2.1 l2.length x17.1.2.2) l2.length 5 1 (bcells l2)) jR) (c := pt bo [x17.1.1,.slice x17.1.2.1 l2.length x17.1.2.2] 148) jR)).two2
  skip
  exact ⟨x17,rfl,h2⟩
 refine jN 13 ?_
 refine WC.cond rfl (fun h14 => ?_) (fun h14 => ?_)
 ·have hks : Fm.kidS t bs = Fm.putS t := by unfold Fm.kidS; rw [if_pos]; first | (rw [h10]; rfl) | (rw [h14]; simp)
  refine jN 2 ?_
  rw [hks] at hlen hl2
  refine jN 1 ?_
  refine WL.load1 F.one149 rfl rfl (fun w hS => hS.oldc (cell_of_heap hE.h5 rfl) hE.n5) ?_
  refine jN 3 ?_
  refine WL.callFB (β := PX bo) (res := fun _ => .tuple #[]) (c1 := fun x => pt bo [x.1.1,.slice x.1.2.1 l2.length x.1.2.2] 148) (c2 := fun x => rowc (.slice x.1.2.1 l2.length x.1.2.2) l2.length 5 1 (bcells l2)) (q := q) (v := .slice ba l.length bc) (l := l) (b := bo) (us := []) (cap := [pp bo,pp bk]) F.fun90 rfl rfl rfl jR jR (fun w hS hS2 => hk G a c q ba bc l l2 bo bp bk w hl2 (hE.nextB hS) hn hq hlen hS2) (fun x17 => ?_)
  refine jN 4 ?_
  refine WQ.ret (rs := []) rfl .nil (fun w hS => ?_)
  have h2 := ((St.pick (St.pick hS (c := rowc (.slice x17.1.2.1 l2.length x17.1.2.2) l2.length 5 1 (bcells l2)) jR) (c := pt bo [x17.1.1,.slice x17.1.2.1 l2.length x17.1.2.2] 148) jR)).two2
  skip
  exact ⟨x17,rfl,h2⟩
 have hks : Fm.kidS t bs = [40] ++ Fm.putS t ++ [41] := by unfold Fm.kidS; rw [if_neg]; rw [h10,h14]; simp
 rw [hks] at hlen hl2
 obtain ⟨la,hla⟩ : ∃ l2 : List UInt8,l2 = l ++ [40] := ⟨_,rfl⟩
 obtain ⟨lb,hlb⟩ : ∃ l2 : List UInt8,l2 = la ++ Fm.putS t := ⟨_,rfl⟩
 have hl3 : l2 = lb ++ [41] := by rw [hl2,hlb,hla]; simp [List.append_assoc]
 refine jN 5 ?_
 refine WL.callB (β := Option Addr × Nat) (res := fun _ => .tuple #[.int .i64 (List.length [40] : Nat),.nilIface]) (c1 := fun x => pt bo [pp bo,.slice x.1 la.length x.2] 148) (c2 := fun x => rowc (.slice x.1 la.length x.2) la.length 5 1 (bcells la)) (q := q) (v := .slice ba l.length bc) (l := l) (b := bo) F.fun89 rfl rfl jR jR (fun w hS hS2 => WriteString_e bo _ _ l [40] la _ hla (hq) (by simp only [hla,List.length_append,List.length_cons,List.length_nil] at hlen ⊢; omega) rfl w hS2) (fun x18 => ?_)
 refine jN 5 ?_
 refine WL.load1 F.one149 rfl rfl (fun w hS => hS.oldc (cell_of_heap hE.h5 rfl) hE.n5) ?_
 refine jN 3 ?_
 refine WL.callFB (β := PX bo) (res := fun _ => .tuple #[]) (c1 := fun x => pt bo [x.1.1,.slice x.1.2.1 lb.length x.1.2.2] 148) (c2 := fun x => rowc (.slice x.1.2.1 lb.length x.1.2.2) lb.length 5 1 (bcells lb)) (q := (pp bo)) (v := .slice x18.1 la.length x18.2) (l := la) (b := bo) (us := []) (cap := [pp bo,pp bk]) F.fun90 rfl rfl rfl jR jR (fun w hS hS2 => hk G a c (pp bo) x18.1 x18.2 la lb bo bp bk w hlb (hE.nextB hS) hn (.inr rfl) (by simp only [hla,List.length_append,List.length_cons,List.length_nil] at hlen ⊢; omega) hS2) (fun x21 => ?_)
 refine jN 4 ?_
 refine WL.callB (β := Option Addr × Nat) (res := fun _ => .tuple #[.int .i64 (List.length [41] : Nat),.nilIface]) (c1 := fun x => pt bo [pp bo,.slice x.1 l2.length x.2] 148) (c2 := fun x => rowc (.slice x.1 l2.length x.2) l2.length 5 1 (bcells l2)) (q := x21.1.1) (v := .slice x21.1.2.1 lb.length x21.1.2.2) (l := lb) (b := bo) F.fun89 rfl rfl jR jR (fun w hS hS2 => WriteString_e bo _ _ lb [41] l2 _ hl3 (x21.2) (by simp only [hlb,hla,List.length_append,List.length_cons,List.length_nil] at hlen ⊢; omega) rfl w hS2) (fun x22 => ?_)
 refine jN 1 ?_
 refine WQ.fin (rs := []) rfl .nil (fun w hS => ?_)
 have h2 := ((St.pick (St.pick hS (c := rowc (.slice x22.1 l2.length x22.2) l2.length 5 1 (bcells l2)) jR) (c := pt bo [pp bo,.slice x22.1 l2.length x22.2] 148) jR)).two2
 exact ⟨⟨(pp bo,x22.1,x22.2),.inr rfl⟩,rfl,h2⟩
theorem putS_mk (t : Tree) : Fm.putS t = if t.op = 1 then [48] else if t.op = 2 then [49] else if t.op = 3 then t.name else if t.op = 4 then [33] ++ Fm.putN t.kids else Fm.putK t.op 0 t.kids := by
 obtain ⟨op,name,kids⟩ := t
 simp only [Fm.putS,Tree.op,Tree.name,Tree.kids]
 rfl
theorem not_kid {t : Tree} (h : Fm.notOk t = true) (h4 : t.op = 4) : ∃ k,t.kids[0]? = some k := by
 obtain ⟨op,name,kids⟩ := t
 have : op = 4 := h4
 subst this
 cases kids with
 | nil => simp [Fm.notOk] at h
 | cons k r => exact ⟨k,rfl⟩
theorem putN_kid {t k : Tree} (h : t.kids[0]? = some k) : Fm.putN t.kids = Fm.kidS k [] := by
 obtain ⟨op,name,kids⟩ := t
 cases kids with
 | nil => simp [Tree.kids] at h
 | cons k2 r =>
  have : k2 = k := by simpa [Tree.kids] using h
  subst this
  simp [Fm.putN,Fm.kidS,Tree.kids]
structure PG where
 i : Nat
 q : Value
 ba : Option Addr
 bc : Nat
 lc : List UInt8
theorem put_step (t : Tree) (ih : ∀ k ∈ t.kids,PutC k) : PutC t := by
 intro G a c q ba bc l l2 bo bp bk w hl2 hE hn hq hlen hS0
 refine enter Tryz.func90 rfl Tryz.ntmps90 rfl (C := [pt bo [q,.slice ba l.length bc] 148,rowc (.slice ba l.length bc) l.length 5 1 (bcells l)]) hS0 ?_
 refine jN 3 ?_
 refine WL.boxN rfl rfl (fun b3 => ?_)
 refine jN 19 ?_
 refine WC.cond rfl (fun h33 => ?_) (fun h33 => ?_)
 ·have h1 : t.op = 1 := by simpa using h33
  rw [show Fm.putS t = [48] by rw [putS_mk,if_pos h1]] at hl2 hlen
  refine jN 2 ?_
  refine WL.callB (β := Option Addr × Nat) (res := fun _ => .tuple #[.int .i64 (List.length [48] : Nat),.nilIface]) (c1 := fun x => pt bo [pp bo,.slice x.1 l2.length x.2] 148) (c2 := fun x => rowc (.slice x.1 l2.length x.2) l2.length 5 1 (bcells l2)) (q := q) (v := .slice ba l.length bc) (l := l) (b := bo) F.fun89 rfl rfl jR jR (fun w hS hS2 => WriteString_e bo _ _ l [48] l2 _ hl2 (hq) (by simp only [List.length_append,List.length_cons,List.length_nil] at hlen ⊢; omega) rfl w hS2) (fun x35 => ?_)
  refine jN 2 ?_
  refine WQ.fin (rs := []) rfl .nil (fun w hS => ?_)
  have h2 := ((St.pick (St.pick hS (c := rowc (.slice x35.1 l2.length x35.2) l2.length 5 1 (bcells l2)) jR) (c := pt bo [pp bo,.slice x35.1 l2.length x35.2] 148) jR)).two2
  exact ⟨⟨(pp bo,x35.1,x35.2),.inr rfl⟩,rfl,h2⟩
 have h1 : t.op ≠ 1 := by simpa using h33
 refine jN 8 ?_
 refine WC.cond rfl (fun h36 => ?_) (fun h36 => ?_)
 ·have h2 : t.op = 2 := by simpa using h36
  rw [show Fm.putS t = [49] by rw [putS_mk,if_neg h1,if_pos h2]] at hl2 hlen
  refine jN 2 ?_
  refine WL.callB (β := Option Addr × Nat) (res := fun _ => .tuple #[.int .i64 (List.length [49] : Nat),.nilIface]) (c1 := fun x => pt bo [pp bo,.slice x.1 l2.length x.2] 148) (c2 := fun x => rowc (.slice x.1 l2.length x.2) l2.length 5 1 (bcells l2)) (q := q) (v := .slice ba l.length bc) (l := l) (b := bo) F.fun89 rfl rfl jR jR (fun w hS hS2 => WriteString_e bo _ _ l [49] l2 _ hl2 (hq) (by simp only [List.length_append,List.length_cons,List.length_nil] at hlen ⊢; omega) rfl w hS2) (fun x35 => ?_)
  refine jN 2 ?_
  refine WQ.fin (rs := []) rfl .nil (fun w hS => ?_)
  have h2 := ((St.pick (St.pick hS (c := rowc (.slice x35.1 l2.length x35.2) l2.length 5 1 (bcells l2)) jR) (c := pt bo [pp bo,.slice x35.1 l2.length x35.2] 148) jR)).two2
  exact ⟨⟨(pp bo,x35.1,x35.2),.inr rfl⟩,rfl,h2⟩
 have h2 : t.op ≠ 2 := by simpa using h36
 refine jN 8 ?_
 refine WC.cond rfl (fun h39 => ?_) (fun h39 => ?_)
 ·have h3 : t.op = 3 := by simpa using h39
  rw [show Fm.putS t = t.name by rw [putS_mk,if_neg h1,if_neg h2,if_pos h3]] at hl2 hlen
  refine jN 6 ?_
  refine WL.callB (β := Option Addr × Nat) (res := fun _ => .tuple #[.int .i64 (List.length t.name : Nat),.nilIface]) (c1 := fun x => pt bo [pp bo,.slice x.1 l2.length x.2] 148) (c2 := fun x => rowc (.slice x.1 l2.length x.2) l2.length 5 1 (bcells l2)) (q := q) (v := .slice ba l.length bc) (l := l) (b := bo) F.fun89 rfl rfl jR jR (fun w hS hS2 => WriteString_e bo _ _ l t.name l2 _ hl2 (hq) (by omega) rfl w hS2) (fun x35 => ?_)
  refine jN 2 ?_
  refine WQ.fin (rs := []) rfl .nil (fun w hS => ?_)
  have h2 := ((St.pick (St.pick hS (c := rowc (.slice x35.1 l2.length x35.2) l2.length 5 1 (bcells l2)) jR) (c := pt bo [pp bo,.slice x35.1 l2.length x35.2] 148) jR)).two2
  exact ⟨⟨(pp bo,x35.1,x35.2),.inr rfl⟩,rfl,h2⟩
 have h3 : t.op ≠ 3 := by simpa using h39
 refine jN 8 ?_
 refine WC.cond rfl (fun h44 => ?_) (fun h44 => ?_)
 ·have h4 : t.op = 4 := by simpa using h44
  obtain ⟨k,hk⟩ := not_kid hn h4
  rw [show Fm.putS t = [33] ++ Fm.kidS k [] by rw [putS_mk,if_neg h1,if_neg h2,if_neg h3,if_pos h4,putN_kid hk]] at hl2 hlen
  obtain ⟨b,off,F1,a1,c1,rfl,hbO,hEk,hcells⟩ := hE.kid hk
  obtain ⟨la,hla⟩ : ∃ l2 : List UInt8,l2 = l ++ [33] := ⟨_,rfl⟩
  have hle : l2 = la ++ Fm.kidS k [] := by rw [hl2,hla,List.append_assoc]
  have hlk : 0 < t.kids.length := (List.getElem?_eq_some_iff.1 hk).1
  have hKid := kid_c k (ih k (List.mem_of_getElem? hk))
  refine jN 3 ?_
  refine WL.callB (β := Option Addr × Nat) (res := fun _ => .tuple #[.int .i64 (List.length [33] : Nat),.nilIface]) (c1 := fun x => pt bo [pp bo,.slice x.1 la.length x.2] 148) (c2 := fun x => rowc (.slice x.1 la.length x.2) la.length 5 1 (bcells la)) (q := q) (v := .slice ba l.length bc) (l := l) (b := bo) F.fun89 rfl rfl jR jR (fun w hS hS2 => WriteString_e bo _ _ l [33] la _ hla (hq) (by simp only [hla,List.length_append,List.length_cons,List.length_nil] at hlen ⊢; omega) rfl w hS2) (fun x46 => ?_)
  refine jN 2 ?_
  refine WC.draws [([5],fun w => w.cell? ⟨bk,0,none⟩ = some (Value.func (.func 87) [].toArray [pp bp,pp bo].toArray)),([5],fun w => w.cell? ⟨b3,2,none⟩ = some (.slice (some ⟨b,off,none⟩) t.kids.length c)),([5],fun w => ∀ j v,[Value.int .u8 k.op,.string (str k.name),.slice a1 k.kids.length c1][j]? = some v → w.cell? ⟨b,off + 0 * 3 + j,none⟩ = some v)] (by kernel_rfl) (fun w hS => facts_cons (hS.oldc (cell_of_heap hE.h6 rfl) hE.n6) (facts_cons (hS.cell jM rfl) (facts_cons (fun j v hj => hS.oldc (hcells j v hj) hbO) (facts_nil)))) ?_
  refine jF 0 0 rfl rfl (Yl.load1 F.one155 rfl) ?_
  refine jT 1 rfl (Yl.fieldAddr0 F.fld24_2 rfl) ?_
  refine jF 2 1 rfl rfl (Yl.load1 F.one22 rfl) ?_
  refine jT 3 rfl (Yl.indexAddr (i := 0) F.sl22 rfl rfl hlk) ?_
  refine jF 4 2 rfl rfl (Yl.loadN F.agg24 rfl rfl) ?_
  refine jA 5 rfl ?_
  refine WL.callFB (β := PX bo) (res := fun _ => .tuple #[]) (c1 := fun x => pt bo [x.1.1,.slice x.1.2.1 l2.length x.1.2.2] 148) (c2 := fun x => rowc (.slice x.1.2.1 l2.length x.1.2.2) l2.length 5 1 (bcells l2)) (q := (pp bo)) (v := .slice x46.1 la.length x46.2) (l := la) (b := bo) (us := []) (cap := [pp bp,pp bo]) F.fun87 rfl rfl rfl jR jR (fun w hS hS2 => hKid F1 a1 c1 (pp bo) x46.1 x46.2 la l2 [] none 0 bo bp bk w hle (hEk.nextB hS) (fun i u hu => by simp at hu) (by simp) (notOk_kid hn hk) (.inr rfl) (by simp only [hla,List.length_append,List.length_cons,List.length_nil] at hlen ⊢; omega) hS2) (fun x52 => ?_)
  refine jG ?_
  refine jD ?_
  refine jN 1 ?_
  refine WQ.fin (rs := []) rfl .nil (fun w hS => ?_)
  have h2 := ((St.pick (St.pick hS (c := rowc (.slice x52.1.2.1 l2.length x52.1.2.2) l2.length 5 1 (bcells l2)) jR) (c := pt bo [x52.1.1,.slice x52.1.2.1 l2.length x52.1.2.2] 148) jR)).two2
  skip
  exact ⟨x52,rfl,h2⟩
 have h4 : t.op ≠ 4 := by simpa using h44
 rw [show Fm.putS t = Fm.putK t.op 0 t.kids by rw [putS_mk,if_neg h1,if_neg h2,if_neg h3,if_neg h4]] at hl2 hlen
 refine jN 13 ?_
 refine WC.chunks (fun w hS => (St.pick (St.pick hS (c := rowc (.slice ba l.length bc) l.length 5 1 (bcells l)) jR) (c := pt bo [q,.slice ba l.length bc] 148) jR)) ?_
 refine WC.loop (α := PG) (fun g => g.i ≤ t.kids.length ∧ g.i ≤ g.lc.length + 1 ∧ (g.q = .pointer none ∨ g.q = pp bo) ∧ g.lc ++ Fm.putK t.op (g.i : Int) (t.kids.drop g.i) = l2) (fun g => [(1,pp bo),(2,pp bk),(3,pp b3),(9,.slice a t.kids.length c),(10,.int .i64 (t.kids.length : Int)),(11,.int .i64 (g.i : Int))]) (fun g => [pt bo [g.q,.slice g.ba g.lc.length g.bc] 148,rowc (.slice g.ba g.lc.length g.bc) g.lc.length 5 1 (bcells g.lc),pt b3 [.int .u8 t.op,.string (str t.name),.slice a t.kids.length c] 24]) (fun g => t.kids.length - g.i) (⟨0,q,ba,bc,l⟩) ?_ ?_ ?_ ?_
 ·exact ⟨Nat.zero_le _,Nat.zero_le _,hq,hl2.symm⟩
 ·exact ⟨rfl,rfl,rfl,rfl,rfl,rfl,trivial⟩
 ·rfl
 rintro ⟨i,q,ba,bc,lc⟩ ⟨hi,hil,hq,hput⟩
 dsimp only at hi hil hq hput
 show WC _ _ _ _ _ _ _ [(1,pp bo),(2,pp bk),(3,pp b3),(9,.slice a t.kids.length c),(10,.int .i64 (t.kids.length : Int)),(11,.int .i64 (i : Int))] [pt bo [q,.slice ba lc.length bc] 148,rowc (.slice ba lc.length bc) lc.length 5 1 (bcells lc),pt b3 [.int .u8 t.op,.string (str t.name),.slice a t.kids.length c] 24]
 refine jN 7 ?_
 refine WC.cond rfl (fun h12 => ?_) (fun h12 => ?_)
 ·have hlt : i < t.kids.length := by simpa using h12
  obtain ⟨k,hk⟩ : ∃ k,t.kids[i]? = some k := ⟨_,List.getElem?_eq_getElem hlt⟩
  obtain ⟨b,off,F1,a1,c1,rfl,hbO,hEk,hcells⟩ := hE.kid hk
  have hput2 := hput
  rw [putK_drop hk] at hput2
  have hi46 : i ≤ 70368744177665 := by (have h9 := congrArg List.length hput; simp only [hl2,List.length_append] at h9; omega)
  have hKid := kid_c k (ih k (List.mem_of_getElem? hk))
  refine jN 9 ?_
  refine WL.indexAddr F.sl22 rfl rfl rfl hlt ?_
  refine jN 1 ?_
  refine WL.loadN F.agg24 rfl rfl (vs := [Value.int .u8 k.op,.string (str k.name),.slice a1 k.kids.length c1]) rfl (fun w hS j v hj => hS.oldc (hcells j v hj) hbO) ?_
  refine jN 1 ?_
  refine WL.alloc F.zero24 rfl (fun b5 => ?_)
  refine jN 15 ?_
  refine WC.cond rfl (fun h17 => ?_) (fun h17 => ?_)
  have hip : (0 : Int) < (i : Int) := by simpa using h17
  rw [if_pos hip] at hput2
  obtain ⟨ld,hld⟩ : ∃ l2 : List UInt8,l2 = lc ++ ([32] ++ Fm.signS t.op (i : Int) ++ [32]) := ⟨_,rfl⟩
  obtain ⟨le,hle⟩ : ∃ l2 : List UInt8,l2 = ld ++ Fm.kidS k (Fm.bareL.take (Fm.bareN t.op (i : Int))) := ⟨_,rfl⟩
  have hput3 : le ++ Fm.putK t.op ((i + 1 : Nat) : Int) (t.kids.drop (i + 1)) = l2 := by rw [← hput2,hle,hld]; simp only [List.append_assoc]
  have hil2 : i + 1 ≤ le.length + 1 := by (rw [hle,hld]; simp only [List.length_append,List.length_cons,List.length_nil]; omega)
  refine jN 8 ?_
  refine WL.callV F.fun91 rfl rfl (fun w _ => sign_c _ _ w) ?_
  refine jN 1 ?_
  refine WL.addS (m := [32]) rfl rfl rfl (by have := Fm.signS_len t.op (i : Int); simp only [List.length_cons,List.length_nil]; omega) ?_
  refine jN 1 ?_
  refine WL.addS (n := [32]) rfl rfl rfl (by have := Fm.signS_len t.op (i : Int); simp only [List.length_append,List.length_cons,List.length_nil]; omega) ?_
  refine jN 1 ?_
  refine WL.callB (β := Option Addr × Nat) (res := fun _ => .tuple #[.int .i64 (List.length ([32] ++ Fm.signS t.op (i : Int) ++ [32]) : Nat),.nilIface]) (c1 := fun x => pt bo [pp bo,.slice x.1 ld.length x.2] 148) (c2 := fun x => rowc (.slice x.1 ld.length x.2) ld.length 5 1 (bcells ld)) (q := q) (v := .slice ba lc.length bc) (l := lc) (b := bo) F.fun89 rfl rfl jR jR (fun w hS hS2 => WriteString_e bo _ _ lc ([32] ++ Fm.signS t.op (i : Int) ++ [32]) ld _ hld (hq) (by have h9 := congrArg List.length hput2; simp only [hl2,List.length_append,List.length_cons,List.length_nil] at h9 hlen ⊢; omega) rfl w hS2) (fun x24 => ?_)
  refine jN 2 ?_
  refine WC.draws [([6],fun w => w.cell? ⟨bk,0,none⟩ = some (Value.func (.func 87) [].toArray [pp bp,pp bo].toArray)),([6],fun w => ∀ j v,[Value.int .u8 k.op,.string (str k.name),.slice a1 k.kids.length c1][j]? = some v → w.cell? ⟨b5,0 + j,none⟩ = some v),([5,6],fun w => w.cell? ⟨b3,0,none⟩ = some (.int .u8 t.op))] (by kernel_rfl) (fun w hS => facts_cons (hS.oldc (cell_of_heap hE.h6 rfl) hE.n6) (facts_cons (fun j v hv => by rw [Nat.zero_add]; exact hS.cell jM hv) (facts_cons (hS.cell jM rfl) (facts_nil)))) ?_
  refine jF 0 0 rfl rfl (Yl.load1 F.one155 rfl) ?_
  refine jF 1 1 rfl rfl (Yl.loadN F.agg24 rfl rfl) ?_
  refine jT 2 rfl (Yl.fieldAddr0 F.fld24_0 rfl) ?_
  refine jF 3 2 rfl rfl (Yl.load1 F.one5 rfl) ?_
  refine jT 4 rfl (Yl.move rfl) ?_
  refine jA 5 rfl ?_
  refine jC (β := { x : Nat × Option Addr × Nat // x.2.1 = some ⟨x.1,0,none⟩ ∨ Fm.bareN t.op (i : Int) = 0 }) (res := fun x => .slice x.1.2.1 (Fm.bareL.take (Fm.bareN t.op (i : Int))).length x.1.2.2) (cs := fun x => [pt x.1.1 (Fm.bareL.map (Value.int .u8)) 5]) F.fun92 rfl (fun w hS _ => (bare_c t.op (i : Int) w).mono (fun e w2 h => ?_)) (fun x30 => ?_)
  ·obtain ⟨x,h1,h2,h3⟩ := h
   exact ⟨⟨x,h1⟩,h2,h3⟩
  refine WD.on (closed_of (by kernel_rfl)) (fun w hS => Sx.keep (hS.oldc (cell_of_heap hE.h6 rfl) hE.n6) (Sx.keep (fun j v hv => by rw [Nat.zero_add]; exact hS.cell jM hv) (Sx.gone rfl (Sx.none)))) ?_
  refine jA 6 rfl ?_
  refine WL.callFB (β := PX bo) (res := fun _ => .tuple #[]) (c1 := fun x => pt bo [x.1.1,.slice x.1.2.1 le.length x.1.2.2] 148) (c2 := fun x => rowc (.slice x.1.2.1 le.length x.1.2.2) le.length 5 1 (bcells le)) (q := (pp bo)) (v := .slice x24.1 ld.length x24.2) (l := ld) (b := bo) (us := []) (cap := [pp bp,pp bo]) F.fun87 rfl rfl rfl jR jR (fun w hS hS2 => hKid F1 a1 c1 ((pp bo)) (x24.1) (x24.2) ld le (Fm.bareL.take (Fm.bareN t.op (i : Int))) x30.1.2.1 x30.1.2.2 bo bp bk w hle (hEk.nextB hS) (Bare.of_new hS (g := x30.1.1) jM x30.2) (by simp [Fm.bareL]; omega) (notOk_kid hn hk) ((.inr rfl)) (by have h9 := congrArg List.length hput2; simp only [hl2,hld,List.length_append,List.length_cons,List.length_nil] at h9 hlen ⊢; omega) hS2) (fun x31 => ?_)
  rotate_left
  have hip : ¬ (0 : Int) < (i : Int) := by simpa using h17
  rw [if_neg hip] at hput2
  obtain ⟨le,hle⟩ : ∃ l2 : List UInt8,l2 = lc ++ Fm.kidS k (Fm.bareL.take (Fm.bareN t.op (i : Int))) := ⟨_,rfl⟩
  have hput3 : le ++ Fm.putK t.op ((i + 1 : Nat) : Int) (t.kids.drop (i + 1)) = l2 := by rw [← hput2,hle]; simp only [List.append_assoc,List.nil_append]
  have hil2 : i + 1 ≤ le.length + 1 := by omega
  refine jN 2 ?_
  refine WC.draws [([6],fun w => w.cell? ⟨bk,0,none⟩ = some (Value.func (.func 87) [].toArray [pp bp,pp bo].toArray)),([6],fun w => ∀ j v,[Value.int .u8 k.op,.string (str k.name),.slice a1 k.kids.length c1][j]? = some v → w.cell? ⟨b5,0 + j,none⟩ = some v),([5,6],fun w => w.cell? ⟨b3,0,none⟩ = some (.int .u8 t.op))] (by kernel_rfl) (fun w hS => facts_cons (hS.oldc (cell_of_heap hE.h6 rfl) hE.n6) (facts_cons (fun j v hv => by rw [Nat.zero_add]; exact hS.cell jM hv) (facts_cons (hS.cell jM rfl) (facts_nil)))) ?_
  refine jF 0 0 rfl rfl (Yl.load1 F.one155 rfl) ?_
  refine jF 1 1 rfl rfl (Yl.loadN F.agg24 rfl rfl) ?_
  refine jT 2 rfl (Yl.fieldAddr0 F.fld24_0 rfl) ?_
  refine jF 3 2 rfl rfl (Yl.load1 F.one5 rfl) ?_
  refine jT 4 rfl (Yl.move rfl) ?_
  refine jA 5 rfl ?_
  refine jC (β := { x : Nat × Option Addr × Nat // x.2.1 = some ⟨x.1,0,none⟩ ∨ Fm.bareN t.op (i : Int) = 0 }) (res := fun x => .slice x.1.2.1 (Fm.bareL.take (Fm.bareN t.op (i : Int))).length x.1.2.2) (cs := fun x => [pt x.1.1 (Fm.bareL.map (Value.int .u8)) 5]) F.fun92 rfl (fun w hS _ => (bare_c t.op (i : Int) w).mono (fun e w2 h => ?_)) (fun x30 => ?_)
  ·obtain ⟨x,h1,h2,h3⟩ := h
   exact ⟨⟨x,h1⟩,h2,h3⟩
  refine WD.on (closed_of (by kernel_rfl)) (fun w hS => Sx.keep (hS.oldc (cell_of_heap hE.h6 rfl) hE.n6) (Sx.keep (fun j v hv => by rw [Nat.zero_add]; exact hS.cell jM hv) (Sx.gone rfl (Sx.none)))) ?_
  refine jA 6 rfl ?_
  refine WL.callFB (β := PX bo) (res := fun _ => .tuple #[]) (c1 := fun x => pt bo [x.1.1,.slice x.1.2.1 le.length x.1.2.2] 148) (c2 := fun x => rowc (.slice x.1.2.1 le.length x.1.2.2) le.length 5 1 (bcells le)) (q := q) (v := .slice ba lc.length bc) (l := lc) (b := bo) (us := []) (cap := [pp bp,pp bo]) F.fun87 rfl rfl rfl jR jR (fun w hS hS2 => hKid F1 a1 c1 (q) (ba) (bc) lc le (Fm.bareL.take (Fm.bareN t.op (i : Int))) x30.1.2.1 x30.1.2.2 bo bp bk w hle (hEk.nextB hS) (Bare.of_new hS (g := x30.1.1) jM x30.2) (by simp [Fm.bareL]; omega) (notOk_kid hn hk) (hq) (by have h9 := congrArg List.length hput2; simp only [hl2,List.length_append,List.length_cons,List.length_nil] at h9 hlen ⊢; omega) hS2) (fun x31 => ?_)
  rotate_left
  all_goals
   refine jG ?_
   refine jD ?_
   refine jN 8 ?_
   refine WQ.chunks (C' := [pt bo [x31.1.1,.slice x31.1.2.1 le.length x31.1.2.2] 148,rowc (.slice x31.1.2.1 le.length x31.1.2.2) le.length 5 1 (bcells le),pt b3 [.int .u8 t.op,.string (str t.name),.slice (some ⟨b,off,none⟩) t.kids.length c] 24]) (fun w hS => (jK hS)) ?_
   refine WQ.back (⟨i + 1,x31.1.1,x31.1.2.1,x31.1.2.2,le⟩) ?_ ?_ ?_ ?_
   ·exact ⟨by show i + 1 ≤ t.kids.length; omega,hil2,x31.2,hput3⟩
   ·(show t.kids.length - (i + 1) < t.kids.length - i; omega)
   ·exact ⟨rfl,rfl,rfl,rfl,rfl,rfl,trivial⟩
   rfl
 have hie : i = t.kids.length := by simp at h12; omega
 subst hie
 rw [List.drop_length] at hput
 have hlc : lc = l2 := by rw [← hput]; simp [Fm.putK]
 subst hlc
 refine jN 5 ?_
 refine WQ.fin (rs := []) rfl .nil (fun w hS => ?_)
 have h2 := ((St.pick (St.pick hS (c := rowc (.slice ba lc.length bc) lc.length 5 1 (bcells lc)) jR) (c := pt bo [q,.slice ba lc.length bc] 148) jR)).two2
 exact ⟨⟨(q,ba,bc),hq⟩,rfl,h2⟩
theorem put_c : ∀ t : Tree,PutC t
 | .mk op name kids => put_step _ (fun k hk => put_c k)
termination_by t => SizeOf.sizeOf t
decreasing_by
 have hk' : k ∈ kids := hk
 have := List.sizeOf_lt_of_mem hk'
 simp only [Tree.mk.sizeOf_spec]
 omega
theorem putS_ne : ∀ {lv : Nat} {t : Tree} {left l : Nat},Fm.validT lv t left = some l → Fm.putS t ≠ []
 | lv,.mk op name [],left,l,h => by
  simp only [Fm.validT] at h
  split at h
  ·cases h
  ·rename_i hc
   have hr : Fm.rightB (.mk op name []) = true := by
    cases hh : Fm.rightB (.mk op name []) with
    | true => rfl
    | false => exact absurd (.inr (.inr hh)) hc
   simp only [Fm.putS]
   split
   ·simp
   split
   ·simp
   split
   ·rename_i h3
    have := Fm.rightB_name hr h3
    intro hn
    simp only [Tree.name] at this
    rw [hn] at this
    simp at this
   split
   ·simp
   ·exfalso
    rename_i h1 h2 h3 h4
    have hb : Fm.kidsBad op 0 = true := by
     simp only [Fm.kidsBad,Fm.kidsOf]
     rw [if_neg (by omega),if_neg (by omega)]
     split
     ·rfl
     split
     ·rfl
     split <;> rfl
    simp [Fm.rightB,Tree.op,Tree.kids,hb] at hr
 | lv,.mk op name (k :: ks),left,l,h => by
  simp only [Fm.validT] at h
  split at h
  ·cases h
  ·rename_i hc
   simp only [Fm.validL] at h
   split at h
   ·cases h
   ·rename_i j hj
    have hk := putS_ne hj
    have hr : Fm.rightB (.mk op name (k :: ks)) = true := by
     cases hh : Fm.rightB (.mk op name (k :: ks)) with
     | true => rfl
     | false => exact absurd (.inr (.inr hh)) hc
    simp only [Fm.putS]
    split
    ·simp
    split
    ·simp
    split
    ·rename_i h3
     have := Fm.rightB_name hr h3
     intro hn
     simp only [Tree.name] at this
     rw [hn] at this
     simp at this
    split
    ·simp
    ·simp only [Fm.putK]
     intro hn
     have h1 := (List.append_eq_nil_iff.1 (List.append_eq_nil_iff.1 hn).1).2
     revert h1
     split <;> simp [hk]
def printS (t : Tree) : List UInt8 := if Fm.validB t then Fm.putS t else []
theorem Print_c (t : Tree) (G : List Nat) (a : Option Addr) (c : Nat) (w : World) (hr : rdT w t G (tv t a c)) : Pure Tryz.prog 40 [tv t a c] w (.tuple #[.string (str (printS t)),.int .i64 (if Fm.validB t then 0 else 2)]) := by
 refine enter Tryz.func40 rfl Tryz.ntmps40 rfl (St.init _) ?_
 refine jN 3 ?_
 refine WL.boxN rfl rfl (fun b1 => ?_)
 refine jN 12 ?_
 refine WL.callV F.fun42 rfl rfl (fun w hS => Valid_c t G a c w (hS.oldT hr (fun k hk => ⟨rdT_lt hr k hk,by simp⟩))) ?_
 refine jN 4 ?_
 refine WC.cond rfl (fun h9 => ?_) (fun h9 => ?_)
 ·have hv : Fm.validB t = false := by simpa using h9
  refine jN 10 ?_
  refine WQ.ret (rs := [.tmp 2,.tmp 3]) rfl (.tmp rfl (.tmp rfl .nil)) (fun w hS => ⟨?_,hS.drop⟩)
  simp [printS,hv,tup,str]
 have hv : Fm.validB t = true := by simpa using h9
 obtain ⟨lf,hlf⟩ : ∃ lf,Fm.validT 64 t 1000 = some lf := Option.isSome_iff_exists.1 hv
 have hlen := Fm.putS_len hlf
 have hne := putS_ne hlf
 have hno := Fm.notOk_valid hlf
 refine jN 5 ?_
 refine WL.alloc F.zero148 rfl (fun b4 => ?_)
 refine jN 5 ?_
 refine WL.alloc F.zero149 rfl (fun b5 => ?_)
 refine jN 7 ?_
 refine WL.alloc F.zero155 rfl (fun b6 => ?_)
 refine jN 18 ?_
 refine WA.chunks (fun w hS => hS.rowNil 5 1) ?_
 refine jN 1 ?_
 refine WL.callFB (β := PX b4) (res := fun _ => .tuple #[]) (c1 := fun x => pt b4 [x.1.1,.slice x.1.2.1 (Fm.putS t).length x.1.2.2] 148) (c2 := fun x => rowc (.slice x.1.2.1 (Fm.putS t).length x.1.2.2) (Fm.putS t).length 5 1 (bcells (Fm.putS t))) (q := .pointer none) (v := .slice none 0 0) (l := []) (b := b4) (us := []) (cap := [pp b4,pp b6]) F.fun90 rfl rfl rfl jR jR (fun w hS hS2 => put_c t G a c (.pointer none) none 0 [] (Fm.putS t) b4 b5 b6 w rfl ⟨hS.oldT hr (fun k hk => ⟨rdT_lt hr k hk,by simp⟩),fun k hk hk2 => ?_,hS.heap (cs := [Value.func (.func 90) [].toArray [pp b4,pp b6].toArray]) jM,hS.heap (cs := [Value.func (.func 87) [].toArray [pp b5,pp b4].toArray]) jM,?_,?_⟩ hno (.inl rfl) (by simp only [List.length_nil]; omega) hS2) (fun x14 => ?_)
 ·have hk3 : k = b4 := by simpa [ob,Value.ownBlock] using hk2
  subst hk3
  have h1 := (hS.bnd (pt k [.pointer none,.slice none 0 0] 148) jM k rfl).2 (rdT_lt hr k hk)
  cases h1
 ·have h1 := St.ne2 (St.pick (St.pick hS (c := pt b4 [.pointer none,.slice none 0 0] 148) jR) (c := pt b5 [Value.func (.func 90) [].toArray [pp b4,pp b6].toArray] 149) jR)
  simpa [ob,Value.ownBlock] using h1
 ·have h1 := St.ne2 (St.pick (St.pick hS (c := pt b4 [.pointer none,.slice none 0 0] 148) jR) (c := pt b6 [Value.func (.func 87) [].toArray [pp b5,pp b4].toArray] 155) jR)
  simpa [ob,Value.ownBlock] using h1
 refine jN 5 ?_
 refine WL.callC (β := Unit) (res := fun _ => .string (str (Fm.putS t))) (cs := fun _ => [pt b4 [x14.1.1,.slice x14.1.2.1 (Fm.putS t).length x14.1.2.2] 148]) (Cs := [pt b4 [x14.1.1,.slice x14.1.2.1 (Fm.putS t).length x14.1.2.2] 148,rowc (.slice x14.1.2.1 (Fm.putS t).length x14.1.2.2) (Fm.putS t).length 5 1 (bcells (Fm.putS t))]) (O' := b4 :: ob (.slice x14.1.2.1 (Fm.putS t).length x14.1.2.2)) F.fun93 (fun d h => by cases h; rfl) rfl (List.Perm.refl _) bld_fp1 bld_fp2 (fun w hS hS2 => (String_c b4 _ _ _ (Fm.putS t) hne (by omega) w hS2).mono (fun e w2 h => ⟨(),h⟩)) (fun _ => ?_)
 refine jN 7 ?_
 refine WQ.ret (rs := [.tmp 2,.tmp 3]) rfl (.tmp rfl (.tmp rfl .nil)) (fun w hS => ⟨?_,hS.sublist (List.nil_sublist _)⟩)
 simp [printS,hv,tup]
theorem _root_.Go.Eng.Yl.as {P : Program} {N : Nat} {D : List Deferred} {L : FL} {F : World → Prop} {o : Oper} {v v' : Value} (h : Yl P N D L F o v) (e : v = v') : Yl P N D L F o v' := e ▸ h
abbrev kv (k : Fm.Kn) : Value := .agg [.int .u32 (k.1 : Int),.int .u32 (k.2 : Int)].toArray
def KB (k : Fm.Kn) : Prop := k.1 < 4294967296 ∧ k.2 < 4294967296
def RdC (w : World) (c : List Int) (a : Option Addr) : Prop := ∀ j x,c[j]? = some x → ∃ b off,a = some ⟨b,off,none⟩ ∧ w.cell? ⟨b,off + j,none⟩ = some (.int .i64 x)
theorem RdC.next {w0 w : World} {C : List Chunk} {c : List Int} {a : Option Addr} (h : RdC w0 c a) (hS : St w0 [] C w) : RdC w c a := fun j x hx => by
 obtain ⟨b,off,ha,hc⟩ := h j x hx
 exact ⟨b,off,ha,hS.oldc hc (by simp)⟩
structure RdLL (w : World) (ls : List (List Int)) (a : Option Addr) (us : List Value) : Prop where
 len : us.length = ls.length
 hd : ∀ (i : Nat) (u : Value),us[i]? = some u → ∃ b off,a = some ⟨b,off,none⟩ ∧ w.cell? ⟨b,off + i,none⟩ = some u
 rd : ∀ (i : Nat) (c : List Int) (u : Value),ls[i]? = some c → us[i]? = some u → ∃ (a1 : Option Addr) (cap : Nat),u = Value.slice a1 c.length cap ∧ RdC w c a1
theorem RdLL.next {w0 w : World} {C : List Chunk} {ls : List (List Int)} {a : Option Addr} {us : List Value} (h : RdLL w0 ls a us) (hS : St w0 [] C w) : RdLL w ls a us :=
 ⟨h.len,fun i u hu => by
  obtain ⟨b,off,ha,hc⟩ := h.hd i u hu
  exact ⟨b,off,ha,hS.oldc hc (by simp)⟩,fun i c u hc hu => by
  obtain ⟨a1,cap,h1,h2⟩ := h.rd i c u hc hu
  exact ⟨a1,cap,h1,h2.next hS⟩⟩
theorem RdLL.at {w : World} {ls : List (List Int)} {a : Option Addr} {us : List Value} {i : Nat} (h : RdLL w ls a us) (hi : i < ls.length) : ∃ c b off a1 cap,ls[i]? = some c ∧ a = some ⟨b,off,none⟩ ∧ w.cell? ⟨b,off + i,none⟩ = some (.slice a1 c.length cap) ∧ RdC w c a1 := by
 have hi' : i < us.length := by rw [h.len]; exact hi
 have h1 : us[i]? = some us[i] := List.getElem?_eq_getElem hi'
 have h2 : ls[i]? = some ls[i] := List.getElem?_eq_getElem hi
 obtain ⟨b,off,ha,hc⟩ := h.hd i _ h1
 obtain ⟨a1,cap,hu,hr⟩ := h.rd i _ _ h2 h1
 exact ⟨ls[i],b,off,a1,cap,h2,ha,by rw [hc,hu],hr⟩
theorem literal_c (n l : Int) (hn : -1000 ≤ n ∧ n ≤ 1000) (w : World) : Pure Tryz.prog 162 [.int .i64 n,.int .i64 l] w (.bool (Fm.litB n l)) := by
 refine enter Tryz.func162 rfl Tryz.ntmps162 rfl (St.init _) ?_
 refine jN 14 ?_
 refine WA.splitB (i := 7) rfl (fun h7 => ?_) (fun h7 => ?_)
 ·refine jN 8 ?_
  refine WL.negI rfl rfl (by omega) ?_
  refine jN 7 ?_
  refine WA.splitB (i := 13) rfl (fun h13 => ?_) (fun h13 => ?_)
  refine jN 16 ?_
  rotate_left
  refine jN 13 ?_
  rotate_left
  all_goals
   refine WQ.ret (rs := [.tmp 4]) rfl (.tmp rfl .nil) (fun w hS => ⟨?_,hS⟩)
   first | (simp_all [tup,Fm.litB]; done) | (simp_all [tup,Fm.litB]; omega)
 refine jN 25 ?_
 refine WQ.ret (rs := [.tmp 4]) rfl (.tmp rfl .nil) (fun w hS => ⟨?_,hS⟩)
 first | (simp_all [tup,Fm.litB]; done) | (simp_all [tup,Fm.litB]; omega)
theorem fits1_c (n l : Int) (hn : -1000 ≤ n ∧ n ≤ 1000) (bn : Nat) (w : World) (hb : w.heap[bn]? = some (.cells [Value.int .i64 n].toArray 3 (0,0))) : Pure Tryz.prog 161 [.int .i64 l,pp bn] w (.bool (!Fm.litB n l)) := by
 refine enter Tryz.func161 rfl Tryz.ntmps161 rfl (St.init _) ?_
 refine jN 9 ?_
 refine WL.load1 F.one3 rfl rfl (fun w hS => hS.oldc (cell_of_heap hb rfl) (by simp)) ?_
 refine jN 3 ?_
 refine WL.callV F.fun162 rfl rfl (fun w _ => literal_c n l hn w) ?_
 refine jN 7 ?_
 exact WQ.ret (rs := [.tmp 3]) rfl (.tmp rfl .nil) (fun w hS => ⟨rfl,hS⟩)
theorem all_take {p : Int → Bool} {c : List Int} {i : Nat} {x : Int} (h : c[i]? = some x) : (c.take (i + 1)).all p = ((c.take i).all p && p x) := by
 rw [List.take_add_one,h]; simp
theorem indexC_c (n : Int) (hn : -1000 ≤ n ∧ n ≤ 1000) (c : List Int) (a : Option Addr) (cap bn : Nat) (hlen : c.length ≤ 1000) (w : World) (hb : w.heap[bn]? = some (.cells [Value.int .i64 n].toArray 3 (0,0))) (hr : RdC w c a) :
  Calls Tryz.prog 175 [.slice a c.length cap,.func (.func 161) [].toArray [pp bn].toArray].toArray w fun e w' => ∃ r : { r : Int // decide (0 ≤ r) = !c.all (Fm.litB n) },e = .returned (.int .i64 r.1) ∧ St w [] [] w' := by
 refine enter Tryz.func175 rfl Tryz.ntmps175 rfl (St.init _) ?_
 refine jN 18 ?_
 refine WC.loop (α := Nat) (fun i => i ≤ c.length ∧ (c.take i).all (Fm.litB n) = true) (fun i => [(0,.slice a c.length cap),(1,.func (.func 161) [].toArray [pp bn].toArray),(7,.int .i64 (c.length : Int)),(8,.int .i64 (i : Int))]) (fun _ => []) (fun i => c.length - i) (0) ?_ ?_ ?_ ?_
 ·exact ⟨Nat.zero_le _,rfl⟩
 ·exact ⟨rfl,rfl,rfl,rfl,trivial⟩
 ·rfl
 rintro i ⟨hi,hno⟩
 refine jN 7 ?_
 refine WC.cond rfl (fun h9 => ?_) (fun h9 => ?_)
 ·have hlt : i < c.length := by simpa using h9
  obtain ⟨x,hx⟩ : ∃ x,c[i]? = some x := ⟨_,List.getElem?_eq_getElem hlt⟩
  obtain ⟨b,off,rfl,hcell⟩ := hr i x hx
  refine jN 21 ?_
  refine WL.indexAddr F.sl41 rfl rfl rfl hlt ?_
  refine jN 1 ?_
  refine WL.load1 F.one3 rfl rfl (v := .int .i64 x) (fun w hS => hS.oldc (by simpa using hcell) (by simp)) ?_
  refine jN 1 ?_
  refine WL.callFC (β := Unit) (res := fun _ => .bool (!Fm.litB n x)) (cs := fun _ => []) (Cs := []) (O' := []) (us := []) (cap := [pp bn]) F.fun161 (fun d h => by cases h; rfl) rfl rfl (List.Perm.refl _) (by simp) (by simp) (fun w hS _ => (fits1_c n x hn bn w (hS.oldh hb (by simp))).mono (fun e w2 h => ⟨(),h⟩)) (fun _ => ?_)
  refine jN 2 ?_
  refine WC.cond rfl (fun h16 => ?_) (fun h16 => ?_)
  ·refine jN 14 ?_
   refine WQ.ret (rs := [.tmp 4]) rfl (.tmp rfl .nil) (fun w hS => ⟨⟨(i : Int),?_⟩,rfl,hS⟩)
   have h2 : c.all (Fm.litB n) = false := by
    rw [List.all_eq_false]
    exact ⟨x,List.mem_of_getElem? hx,by simpa using h16⟩
   rw [h2]; simp
  refine jN 9 ?_
  refine WQ.back (i + 1) ?_ ?_ ?_ ?_
  ·exact ⟨by omega,by rw [all_take hx,hno]; simpa using h16⟩
  ·omega
  ·exact ⟨rfl,rfl,rfl,rfl,trivial⟩
  rfl
 have hie : i = c.length := by simp at h9; omega
 subst hie
 rw [List.take_length] at hno
 refine jN 12 ?_
 refine WQ.ret (rs := [.tmp 4]) rfl (.tmp rfl .nil) (fun w hS => ⟨⟨-1,?_⟩,rfl,hS⟩)
 rw [hno]; rfl
theorem containsC_c (n : Int) (hn : -1000 ≤ n ∧ n ≤ 1000) (c : List Int) (a : Option Addr) (cap bn : Nat) (hlen : c.length ≤ 1000) (w : World) (hb : w.heap[bn]? = some (.cells [Value.int .i64 n].toArray 3 (0,0))) (hr : RdC w c a) :
  Pure Tryz.prog 160 [.slice a c.length cap,.func (.func 161) [].toArray [pp bn].toArray] w (.bool (!c.all (Fm.litB n))) := by
 refine enter Tryz.func160 rfl Tryz.ntmps160 rfl (St.init _) ?_
 refine jN 13 ?_
 refine jC (β := { r : Int // decide (0 ≤ r) = !c.all (Fm.litB n) }) (res := fun r => .int .i64 r.1) (cs := fun _ => []) F.fun175 rfl (fun w hS _ => indexC_c n hn c a cap bn hlen w (hS.oldh hb (by simp)) (hr.next hS)) (fun r => ?_)
 refine jN 7 ?_
 refine WQ.ret (rs := [.tmp 4]) rfl (.tmp rfl .nil) (fun w hS => ⟨?_,hS⟩)
 exact congrArg (fun b => Ending.returned (Value.bool b)) r.2
theorem fits_c (n : Int) (hn : -1000 ≤ n ∧ n ≤ 1000) (c : List Int) (a : Option Addr) (cap : Nat) (w : World) (hr : RdC w c a) : Pure Tryz.prog 128 [.int .i64 n,.slice a c.length cap] w (.bool (Fm.fitsB n c)) := by
 refine enter Tryz.func128 rfl Tryz.ntmps128 rfl (St.init _) ?_
 refine jN 3 ?_
 refine WL.box1 rfl rfl rfl (fun b2 => ?_)
 refine jN 14 ?_
 refine WA.splitB (i := 8) rfl (fun h8 => ?_) (fun h8 => ?_)
 have hl64 : c.length ≤ 64 := by simp at h8; omega
 refine jN 8 ?_
 refine WL.callV F.fun160 rfl rfl (fun w hS => containsC_c n hn c a cap b2 (by omega) w (hS.heap (cs := [.int .i64 n]) (e := 3) jM) (fun j x hx => ?_)) ?_
 ·obtain ⟨b,off,ha,hc⟩ := hr j x hx
  exact ⟨b,off,ha,hS.oldc hc (by simp)⟩
 refine jN 10 ?_
 rotate_left
 refine jN 15 ?_
 rotate_left
 all_goals
  refine WQ.ret (rs := [.tmp 4]) rfl (.tmp rfl .nil) (fun w hS => ⟨?_,hS.drop⟩)
  first | (have h9 : c.length ≤ 64 := hl64; simp [tup,Fm.fitsB,h9]; done) | (have h9 : ¬ c.length ≤ 64 := (by simp at h8; omega); simp [tup,Fm.fitsB,h9]; done)
theorem may_c (n : Int) (ls : List (List Int)) (a : Option Addr) (cap : Nat) (us : List Value) (w : World) (hr : RdLL w ls a us) : Pure Tryz.prog 73 [.int .i64 n,.slice a ls.length cap] w (.int .i64 (Fm.mayE n ls)) := by
 refine enter Tryz.func73 rfl Tryz.ntmps73 rfl (St.init _) ?_
 refine jN 15 ?_
 refine WA.splitB (i := 9) rfl (fun h9 => ?_) (fun h9 => ?_)
 ·have hm : Fm.mayE n ls = 3 := by (unfold Fm.mayE; rw [if_pos]; left; simpa using h9)
  refine jN 17 ?_
  refine WQ.ret (rs := [.tmp 4]) rfl (.tmp rfl .nil) (fun w hS => ⟨?_,hS⟩)
  rw [hm]; rfl
 refine jN 10 ?_
 refine WC.cond rfl (fun h12 => ?_) (fun h12 => ?_)
 ·have hm : Fm.mayE n ls = 3 := by (unfold Fm.mayE; rw [if_pos]; first | (right; simpa using h12) | (left; simpa using h9))
  refine jN 8 ?_
  refine WQ.ret (rs := [.tmp 4]) rfl (.tmp rfl .nil) (fun w hS => ⟨?_,hS⟩)
  rw [hm]; rfl
 have hn0 : ¬ (n < 0 ∨ 24 < n) := by (simp at h9 h12; omega)
 have hnb : -1000 ≤ n ∧ n ≤ 1000 := by omega
 refine jN 13 ?_
 refine WC.cond rfl (fun h15 => ?_) (fun h15 => ?_)
 ·have hm : Fm.mayE n ls = 2 := by (unfold Fm.mayE; rw [if_neg hn0,if_pos]; simp at h15; omega)
  refine jN 8 ?_
  refine WQ.ret (rs := [.tmp 4]) rfl (.tmp rfl .nil) (fun w hS => ⟨?_,hS⟩)
  rw [hm]; rfl
 have hl0 : ¬ 4096 < ls.length := by (simp at h15; omega)
 refine jN 14 ?_
 refine WC.loop (α := Nat) (fun i => i ≤ ls.length ∧ (ls.take i).all (Fm.fitsB n) = true) (fun i => [(0,.int .i64 n),(16,.slice a ls.length cap),(17,.int .i64 (ls.length : Int)),(18,.int .i64 (i : Int))]) (fun _ => []) (fun i => ls.length - i) (0) ?_ ?_ ?_ ?_
 ·exact ⟨Nat.zero_le _,rfl⟩
 ·exact ⟨rfl,rfl,rfl,rfl,trivial⟩
 ·rfl
 rintro i ⟨hi,hno⟩
 refine jN 7 ?_
 refine WC.cond rfl (fun h19 => ?_) (fun h19 => ?_)
 ·have hlt : i < ls.length := by simpa using h19
  obtain ⟨c,b,off,a1,cap1,hc,rfl,hcell,hrc⟩ := hr.at hlt
  refine jN 7 ?_
  refine WL.indexAddr F.sl52 rfl rfl rfl hlt ?_
  refine jN 1 ?_
  refine WL.load1 F.one41 rfl rfl (v := .slice a1 c.length cap1) (fun w hS => hS.oldc (by simpa using hcell) (by simp)) ?_
  refine jN 11 ?_
  refine WL.callV F.fun128 rfl rfl (fun w hS => fits_c n hnb c a1 cap1 w (hrc.next hS)) ?_
  refine jN 4 ?_
  refine WC.cond rfl (fun h25 => ?_) (fun h25 => ?_)
  ·have hm : Fm.mayE n ls = 2 := by
    unfold Fm.mayE; rw [if_neg hn0,if_neg hl0,if_neg]
    rw [Bool.not_eq_true,List.all_eq_false]
    exact ⟨c,List.mem_of_getElem? hc,by simpa using h25⟩
   refine jN 12 ?_
   refine WQ.ret (rs := [.tmp 4]) rfl (.tmp rfl .nil) (fun w hS => ⟨?_,hS⟩)
   rw [hm]; rfl
  refine jN 9 ?_
  refine WQ.back (i + 1) ?_ ?_ ?_ ?_
  ·exact ⟨by omega,by rw [List.take_add_one,hc]; simp only [Option.toList,List.all_append,hno,List.all_cons,List.all_nil]; simpa using h25⟩
  ·omega
  ·exact ⟨rfl,rfl,rfl,rfl,trivial⟩
  rfl
 have hie : i = ls.length := by simp at h19; omega
 subst hie
 rw [List.take_length] at hno
 have hm : Fm.mayE n ls = 0 := by (unfold Fm.mayE; rw [if_neg hn0,if_neg hl0,if_pos hno])
 refine jN 12 ?_
 refine WQ.ret (rs := [.tmp 4]) rfl (.tmp rfl .nil) (fun w hS => ⟨?_,hS⟩)
 rw [hm]; rfl
theorem pow32 {k : Nat} (h : k < 32) : 2 ^ k < 4294967296 := Nat.lt_of_lt_of_le (Nat.pow_lt_pow_right (by decide) h) (by decide)
theorem KB.with {k : Fm.Kn} {l : Int} (hk : KB k) (hl : l ≠ 0 ∧ -32 ≤ l ∧ l ≤ 32) : KB (Fm.withK k l) := by
 unfold Fm.withK
 split
 ·exact ⟨Nat.or_lt_two_pow (n := 32) hk.1 (pow32 (by omega)),hk.2⟩
 exact ⟨hk.1,Nat.or_lt_two_pow (n := 32) hk.2 (pow32 (by omega))⟩
abbrev Lit (l : Int) : Prop := l ≠ 0 ∧ -32 ≤ l ∧ l ≤ 32
theorem has_c (k : Fm.Kn) (l : Int) (hk : KB k) (hl : Lit l) (w : World) : Pure Tryz.prog 80 [kv k,.int .i64 l] w (.bool (Fm.hasK k l)) := by
 refine enter Tryz.func80 rfl Tryz.ntmps80 rfl (St.init _) ?_
 refine jN 3 ?_
 refine WL.boxN rfl rfl (fun b2 => ?_)
 refine jN 13 ?_
 refine WC.cond rfl (fun h6 => ?_) (fun h6 => ?_)
 ·have hp : 0 < l := by simpa using h6
  refine jN 10 ?_
  refine WA.say 10 (.int .i64 (((l - 1).toNat : Nat) : Int)) (congrArg (fun z => some (Value.int .i64 z)) (show l - 1 = (((l - 1).toNat : Nat) : Int) by omega)) ?_
  refine jN 1 ?_
  refine WL.bin (v := .int .u32 (((k.1 >>> (l - 1).toNat : Nat)) : Int)) rfl rfl rfl (fun w => run_shr (by omega) _ _ _ w) ?_
  refine jN 1 ?_
  refine WL.bin (v := .int .u32 ((((k.1 >>> (l - 1).toNat) &&& 1 : Nat)) : Int)) rfl rfl rfl (fun w => run_and (Nat.lt_of_le_of_lt (Nat.shiftRight_le _ _) hk.1) (by decide) _ _ _ w) ?_
  refine jN 8 ?_
  refine WQ.ret (rs := [.tmp 4]) rfl (.tmp rfl .nil) (fun w hS => ⟨?_,hS.drop⟩)
  exact congrArg (fun b => Ending.returned (Value.bool b)) ((Fm.testBit_shift k.1 (l - 1).toNat).trans (by unfold Fm.hasK; rw [if_pos hp]))
 have hp : ¬ 0 < l := by simpa using h6
 refine jN 11 ?_
 refine WL.negI rfl rfl (by omega) ?_
 refine jN 2 ?_
 refine WA.say 18 (.int .i64 (((-l - 1).toNat : Nat) : Int)) (congrArg (fun z => some (Value.int .i64 z)) (show -l - 1 = (((-l - 1).toNat : Nat) : Int) by omega)) ?_
 refine jN 1 ?_
 refine WL.bin (v := .int .u32 (((k.2 >>> (-l - 1).toNat : Nat)) : Int)) rfl rfl rfl (fun w => run_shr (by omega) _ _ _ w) ?_
 refine jN 1 ?_
 refine WL.bin (v := .int .u32 ((((k.2 >>> (-l - 1).toNat) &&& 1 : Nat)) : Int)) rfl rfl rfl (fun w => run_and (Nat.lt_of_le_of_lt (Nat.shiftRight_le _ _) hk.2) (by decide) _ _ _ w) ?_
 refine jN 7 ?_
 refine WQ.ret (rs := [.tmp 4]) rfl (.tmp rfl .nil) (fun w hS => ⟨?_,hS.drop⟩)
 exact congrArg (fun b => Ending.returned (Value.bool b)) ((Fm.testBit_shift k.2 (-l - 1).toNat).trans (by unfold Fm.hasK; rw [if_neg hp]))
theorem with_c (k : Fm.Kn) (l : Int) (hk : KB k) (hl : Lit l) (w : World) : Pure Tryz.prog 78 [kv k,.int .i64 l] w (kv (Fm.withK k l)) := by
 refine enter Tryz.func78 rfl Tryz.ntmps78 rfl (St.init _) ?_
 refine jN 3 ?_
 refine WL.boxN rfl rfl (fun b2 => ?_)
 refine jN 1 ?_
 refine WL.alloc F.zero124 rfl (fun b4 => ?_)
 refine jN 11 ?_
 refine WC.cond rfl (fun h6 => ?_) (fun h6 => ?_)
 have hp : 0 < l := by simpa using h6
 have hw : Fm.withK k l = (k.1 ||| 2 ^ (l - 1).toNat,k.2) := by unfold Fm.withK; rw [if_pos hp]
 refine WC.draws [([7],fun w => w.cell? ⟨b2,0,none⟩ = some (.int .u32 (k.1 : Int)))] (by kernel_rfl) (fun w hS => facts_cons (hS.cell jM rfl) (facts_nil)) ?_
 refine jT 0 rfl (Yl.fieldAddr0 F.fld124_0 rfl) ?_
 refine jF 1 0 rfl rfl (Yl.load1 F.one26 rfl) ?_
 refine jT 2 rfl (Yl.move rfl) ?_
 refine jT 3 rfl (Yl.as (Yl.sub rfl rfl ⟨by omega,by omega⟩) (congrArg (Value.int .i64) (show l - 1 = (((l - 1).toNat : Nat) : Int) by omega))) ?_
 refine jT 4 rfl (Yl.bin (v := .int .u32 ((2 ^ (l - 1).toNat : Nat) : Int)) rfl rfl (fun w => run_shl1 (by omega) _ _ _ w)) ?_
 refine jT 5 rfl (Yl.bin (v := .int .u32 ((k.1 ||| 2 ^ (l - 1).toNat : Nat) : Int)) rfl rfl (fun w => run_or hk.1 (pow32 (by omega)) _ _ _ w)) ?_
 refine jT 6 rfl (Yl.fieldAddr0 F.fld124_0 rfl) ?_
 refine jA 7 rfl ?_
 rotate_left
 have hp : ¬ 0 < l := by simpa using h6
 have hw : Fm.withK k l = (k.1,k.2 ||| 2 ^ (-l - 1).toNat) := by unfold Fm.withK; rw [if_neg hp]
 refine WC.draws [([8],fun w => w.cell? ⟨b2,1,none⟩ = some (.int .u32 (k.2 : Int)))] (by kernel_rfl) (fun w hS => facts_cons (hS.cell jM rfl) (facts_nil)) ?_
 refine jT 0 rfl (Yl.fieldAddr0 F.fld124_1 rfl) ?_
 refine jF 1 0 rfl rfl (Yl.load1 F.one26 rfl) ?_
 refine jT 2 rfl (Yl.move rfl) ?_
 refine jT 3 rfl (Yl.negI rfl (by omega)) ?_
 refine jT 4 rfl (Yl.as (Yl.sub rfl rfl ⟨by omega,by omega⟩) (congrArg (Value.int .i64) (show -l - 1 = (((-l - 1).toNat : Nat) : Int) by omega))) ?_
 refine jT 5 rfl (Yl.bin (v := .int .u32 ((2 ^ (-l - 1).toNat : Nat) : Int)) rfl rfl (fun w => run_shl1 (by omega) _ _ _ w)) ?_
 refine jT 6 rfl (Yl.bin (v := .int .u32 ((k.2 ||| 2 ^ (-l - 1).toNat : Nat) : Int)) rfl rfl (fun w => run_or hk.2 (pow32 (by omega)) _ _ _ w)) ?_
 refine jT 7 rfl (Yl.fieldAddr0 F.fld124_1 rfl) ?_
 refine jA 8 rfl ?_
 rotate_left
 all_goals
  refine WL.store1 F.one26 rfl rfl rfl jU jS ?_
  refine jG ?_
  refine jD ?_
  refine jN 10 ?_
  refine WQ.ret (rs := [.cell 4 124]) rfl (.cellN F.agg124 rfl jM rfl .nil) (fun w hS => ⟨?_,hS.drop.drop⟩)
  rw [hw]; rfl
theorem unitG_drop {k : Fm.Kn} {c : List Int} {i : Nat} {x op : Int} (h : c[i]? = some x) : Fm.unitG k op (c.drop i) = if Fm.hasK k x then (0,false) else if Fm.hasK k (-x) || x == op then Fm.unitG k op (c.drop (i + 1)) else if op ≠ 0 then (0,false) else Fm.unitG k x (c.drop (i + 1)) := by
 obtain ⟨hi,he⟩ := List.getElem?_eq_some_iff.1 h
 rw [List.drop_eq_getElem_cons hi,he]
 simp only [Fm.unitG]
theorem unitG_mem {k : Fm.Kn} {x : Int} : ∀ {c : List Int} {op : Int},Fm.unitG k op c = (x,true) → x = op ∨ x ∈ c
 | [],op,h => by simp only [Fm.unitG,Prod.mk.injEq,and_true] at h; exact .inl h.symm
 | l :: ls,op,h => by
  simp only [Fm.unitG] at h
  split at h
  ·simp at h
  split at h
  ·rcases unitG_mem h with h1 | h1
   ·exact .inl h1
   ·exact .inr (List.mem_cons_of_mem _ h1)
  split at h
  ·simp at h
  ·rcases unitG_mem h with h1 | h1
   ·exact .inr (by rw [h1]; exact List.mem_cons_self ..)
   ·exact .inr (List.mem_cons_of_mem _ h1)
theorem unit_c (k : Fm.Kn) (c : List Int) (a : Option Addr) (cap : Nat) (hk : KB k) (hc : ∀ x ∈ c,Lit x) (hlen : c.length ≤ 1099511627776) (w : World) (hr : RdC w c a) :
  Pure Tryz.prog 131 [kv k,.slice a c.length cap] w (.tuple #[.int .i64 (Fm.unitK k c).1,.bool (Fm.unitK k c).2]) := by
 refine enter Tryz.func131 rfl Tryz.ntmps131 rfl (St.init _) ?_
 refine jN 3 ?_
 refine WL.boxN rfl rfl (fun b2 => ?_)
 refine jN 24 ?_
 refine WC.loop (α := Nat × Int) (fun g => g.1 ≤ c.length ∧ Fm.unitG k g.2 (c.drop g.1) = Fm.unitK k c) (fun g => [(2,pp b2),(6,.int .i64 g.2),(9,.slice a c.length cap),(10,.int .i64 (c.length : Int)),(11,.int .i64 (g.1 : Int))]) (fun _ => [pt b2 [.int .u32 (k.1 : Int),.int .u32 (k.2 : Int)] 124]) (fun g => c.length - g.1) ((0,0)) ?_ ?_ ?_ ?_
 ·exact ⟨Nat.zero_le _,rfl⟩
 ·exact ⟨rfl,rfl,rfl,rfl,rfl,trivial⟩
 ·rfl
 rintro ⟨i,op⟩ ⟨hi,hu⟩
 dsimp only at hi hu
 show WC _ _ _ _ _ _ _ [(2,pp b2),(6,.int .i64 op),(9,.slice a c.length cap),(10,.int .i64 (c.length : Int)),(11,.int .i64 (i : Int))] [pt b2 [.int .u32 (k.1 : Int),.int .u32 (k.2 : Int)] 124]
 refine jN 7 ?_
 refine WC.cond rfl (fun h12 => ?_) (fun h12 => ?_)
 ·have hlt : i < c.length := by simpa using h12
  obtain ⟨x,hx⟩ : ∃ x,c[i]? = some x := ⟨_,List.getElem?_eq_getElem hlt⟩
  obtain ⟨b,off,rfl,hcell⟩ := hr i x hx
  have hxl := hc x (List.mem_of_getElem? hx)
  have hxn : Lit (-x) := ⟨by omega,by omega,by omega⟩
  have hu2 := hu
  rw [unitG_drop hx] at hu2
  refine jN 7 ?_
  refine WL.indexAddr F.sl41 rfl rfl rfl hlt ?_
  refine jN 1 ?_
  refine WL.load1 F.one3 rfl rfl (v := .int .i64 x) (fun w hS => hS.oldc (by simpa using hcell) (by simp)) ?_
  refine jN 12 ?_
  refine WL.callV F.fun80 rfl rfl (fun w _ => has_c k x hk hxl w) ?_
  refine jN 4 ?_
  refine WC.cond rfl (fun h16 => ?_) (fun h16 => ?_)
  ·rw [h16] at hu2
   refine jN 15 ?_
   refine WQ.ret (rs := [.tmp 4,.tmp 5]) rfl (.tmp rfl (.tmp rfl .nil)) (fun w hS => ⟨?_,hS.drop⟩)
   rw [← hu2]; rfl
  rw [h16] at hu2
  simp only [Bool.false_eq_true,if_false] at hu2
  refine jN 7 ?_
  refine WL.negI rfl rfl (by omega) ?_
  refine jN 1 ?_
  refine WL.callV F.fun80 rfl rfl (fun w _ => has_c k (-x) hk hxn w) ?_
  refine jN 2 ?_
  refine WA.splitB (i := 25) rfl (fun h25 => ?_) (fun h25 => ?_)
  ·rw [h25] at hu2
   simp only [Bool.true_or,if_true] at hu2
   refine jN 23 ?_
   refine WQ.back ((i + 1,op)) ?_ ?_ ?_ ?_
   ·exact ⟨by show i + 1 ≤ c.length; omega,hu2⟩
   ·(show c.length - (i + 1) < c.length - i; omega)
   ·exact ⟨rfl,rfl,rfl,rfl,rfl,trivial⟩
   rfl
  rw [h25] at hu2
  simp only [Bool.false_or] at hu2
  refine jN 15 ?_
  refine WC.cond rfl (fun h20 => ?_) (fun h20 => ?_)
  ·have h20b : (x == op) = true := h20
   rw [h20b] at hu2
   simp only [if_true] at hu2
   refine jN 10 ?_
   refine WQ.back ((i + 1,op)) ?_ ?_ ?_ ?_
   ·exact ⟨by show i + 1 ≤ c.length; omega,hu2⟩
   ·(show c.length - (i + 1) < c.length - i; omega)
   ·exact ⟨rfl,rfl,rfl,rfl,rfl,trivial⟩
   rfl
  have h20b : (x == op) = false := h20
  rw [h20b] at hu2
  simp only [Bool.false_eq_true,if_false] at hu2
  refine jN 10 ?_
  refine WC.cond rfl (fun h30 => ?_) (fun h30 => ?_)
  ·have hop : op ≠ 0 := by simpa using h30
   rw [if_pos hop] at hu2
   refine jN 15 ?_
   refine WQ.ret (rs := [.tmp 4,.tmp 5]) rfl (.tmp rfl (.tmp rfl .nil)) (fun w hS => ⟨?_,hS.drop⟩)
   rw [← hu2]; rfl
  have hop : op = 0 := by simpa using h30
  rw [if_neg (by simpa using hop)] at hu2
  refine jN 15 ?_
  refine WQ.back ((i + 1,x)) ?_ ?_ ?_ ?_
  ·exact ⟨by show i + 1 ≤ c.length; omega,hu2⟩
  ·(show c.length - (i + 1) < c.length - i; omega)
  ·exact ⟨rfl,rfl,rfl,rfl,rfl,trivial⟩
  rfl
 have hie : i = c.length := by simp at h12; omega
 subst hie
 rw [List.drop_length] at hu
 refine jN 16 ?_
 refine WQ.ret (rs := [.tmp 4,.tmp 5]) rfl (.tmp rfl (.tmp rfl .nil)) (fun w hS => ⟨?_,hS.drop⟩)
 rw [← hu]; rfl
theorem passK_drop {ls : List (List Int)} {i : Nat} {c : List Int} {k : Fm.Kn} {ag : Bool} (h : ls[i]? = some c) :
  Fm.passK (ls.drop i) k ag = if Fm.clash k then .inl k else if (Fm.unitK k c).2 && (Fm.unitK k c).1 == 0 then .inl k else if (Fm.unitK k c).2 then Fm.passK (ls.drop (i + 1)) (Fm.withK k (Fm.unitK k c).1) true else Fm.passK (ls.drop (i + 1)) k ag := by
 obtain ⟨hi,he⟩ := List.getElem?_eq_some_iff.1 h
 rw [List.drop_eq_getElem_cons hi,he]
 simp only [Fm.passK]
theorem clash_ne {k : Fm.Kn} : (((k.1 &&& k.2 : Nat) : Int) != 0) = Fm.clash k := by
 unfold Fm.clash
 rw [bne,Bool.eq_iff_iff]
 simp
theorem clash_eq {k : Fm.Kn} : (((k.1 &&& k.2 : Nat) : Int) == 0) = !Fm.clash k := by
 rw [← clash_ne,bne,Bool.not_not]
theorem closed_c (ls : List (List Int)) (a : Option Addr) (cap : Nat) (us : List Value) (k : Fm.Kn) (f : Nat) (r : Fm.Kn × Bool) (hk : KB k) (hls : ∀ c ∈ ls,∀ x ∈ c,Lit x) (hcl : ∀ c ∈ ls,c.length ≤ 1099511627776) (hlen : ls.length ≤ 1099511627776)
  (w : World) (hr : RdLL w ls a us) (h : Fm.closedF f ls k = some r) : Pure Tryz.prog 79 [.slice a ls.length cap,kv k] w (.tuple #[kv r.1,.bool r.2]) := by
 refine enter Tryz.func79 rfl Tryz.ntmps79 rfl (St.init _) ?_
 refine jN 3 ?_
 refine WL.boxN rfl rfl (fun b3 => ?_)
 refine jN 1 ?_
 refine WL.alloc F.zero124 rfl (fun b4 => ?_)
 refine jN 12 ?_
 refine WC.loop (α := Nat × Fm.Kn × Bool) (fun g => KB g.2.1 ∧ (g.2.2 = true → Fm.closedF g.1 ls g.2.1 = some r) ∧ (g.2.2 = false → r = (g.2.1,!Fm.clash g.2.1))) (fun g => [(0,.slice a ls.length cap),(3,pp b3),(4,pp b4),(6,.bool g.2.2)]) (fun g => [pt b4 [.int .u32 0,.int .u32 0] 124,pt b3 [.int .u32 (g.2.1.1 : Int),.int .u32 (g.2.1.2 : Int)] 124]) (fun g => if g.2.2 then g.1 + 1 else 0) ((f,k,true)) ?_ ?_ ?_ ?_
 ·exact ⟨hk,fun _ => h,fun h0 => by cases h0⟩
 ·exact ⟨rfl,rfl,rfl,rfl,trivial⟩
 ·rfl
 rintro ⟨f,k,ag⟩ ⟨hk,hT,hF⟩
 dsimp only at hk hT hF
 show WC _ _ _ _ _ _ _ [(0,.slice a ls.length cap),(3,pp b3),(4,pp b4),(6,.bool ag)] [pt b4 [.int .u32 0,.int .u32 0] 124,pt b3 [.int .u32 (k.1 : Int),.int .u32 (k.2 : Int)] 124]
 refine jN 7 ?_
 refine WC.cond rfl (fun h11 => ?_) (fun h11 => ?_)
 ·subst h11
  have hcf := hT rfl
  obtain ⟨f,rfl⟩ : ∃ f2,f = f2 + 1 := by cases f with | zero => simp [Fm.closedF] at hcf | succ f => exact ⟨f,rfl⟩
  simp only [Fm.closedF] at hcf
  obtain ⟨pr,hpr⟩ : ∃ pr,pr = Fm.passK ls k false := ⟨_,rfl⟩
  rw [← hpr] at hcf
  refine jN 20 ?_
  refine WC.loop (α := Nat × Fm.Kn × Bool) (fun g => g.1 ≤ ls.length ∧ KB g.2.1 ∧ Fm.passK (ls.drop g.1) g.2.1 g.2.2 = pr) (fun g => [(0,.slice a ls.length cap),(3,pp b3),(4,pp b4),(6,.bool g.2.2),(12,.slice a ls.length cap),(13,.int .i64 (ls.length : Int)),(14,.int .i64 (g.1 : Int))]) (fun g => [pt b4 [.int .u32 0,.int .u32 0] 124,pt b3 [.int .u32 (g.2.1.1 : Int),.int .u32 (g.2.1.2 : Int)] 124]) (fun g => ls.length - g.1) ((0,k,false)) ?_ ?_ ?_ ?_
  ·exact ⟨Nat.zero_le _,hk,hpr.symm⟩
  ·exact ⟨rfl,rfl,rfl,rfl,rfl,rfl,rfl,trivial⟩
  ·rfl
  rintro ⟨i,k,ag⟩ ⟨hi,hk,hpass⟩
  dsimp only at hi hk hpass
  show WC _ _ _ _ _ _ _ [(0,.slice a ls.length cap),(3,pp b3),(4,pp b4),(6,.bool ag),(12,.slice a ls.length cap),(13,.int .i64 (ls.length : Int)),(14,.int .i64 (i : Int))] [pt b4 [.int .u32 0,.int .u32 0] 124,pt b3 [.int .u32 (k.1 : Int),.int .u32 (k.2 : Int)] 124]
  refine jN 7 ?_
  refine WC.cond rfl (fun h15 => ?_) (fun h15 => ?_)
  ·have hlt : i < ls.length := by simpa using h15
   obtain ⟨c,b,off,a1,cap1,hc,rfl,hcell,hrc⟩ := hr.at hlt
   have hpass2 := hpass
   rw [passK_drop hc] at hpass2
   have hcm := List.mem_of_getElem? hc
   refine jN 7 ?_
   refine WL.indexAddr F.sl52 rfl rfl rfl hlt ?_
   refine jN 1 ?_
   refine WL.load1 F.one41 rfl rfl (v := .slice a1 c.length cap1) (fun w hS => hS.oldc (by simpa using hcell) (by simp)) ?_
   refine jN 16 ?_
   refine WL.bin (v := .int .u32 ((k.1 &&& k.2 : Nat) : Int)) rfl rfl rfl (fun w => run_and hk.1 hk.2 _ _ _ w) ?_
   refine jN 4 ?_
   refine WC.cond rfl (fun h23 => ?_) (fun h23 => ?_)
   ·rw [clash_ne] at h23
    rw [if_pos h23] at hpass2
    rw [← hpass2] at hcf
    have hr3 : (k,false) = r := by simpa using hcf
    subst hr3
    refine jN 20 ?_
    refine WQ.ret (rs := [.cell 4 124,.tmp 5]) rfl (.cellN F.agg124 rfl jM rfl (.tmp rfl .nil)) (fun w hS => ⟨?_,hS.drop.drop⟩)
    rfl
   rw [clash_ne] at h23
   rw [if_neg (by rw [h23]; decide)] at hpass2
   refine jN 9 ?_
   refine WL.callV F.fun131 rfl rfl (fun w hS => unit_c k c a1 cap1 hk (hls c hcm) (hcl c hcm) w (hrc.next hS)) ?_
   refine jN 19 ?_
   refine WA.splitB (i := 32) rfl (fun h32 => ?_) (fun h32 => ?_)
   ·refine jN 10 ?_
    refine WC.cond rfl (fun h35 => ?_) (fun h35 => ?_)
    ·rw [if_pos (by rw [h32]; exact h35)] at hpass2
     rw [← hpass2] at hcf
     have hr3 : (k,false) = r := by simpa using hcf
     subst hr3
     refine jN 20 ?_
     refine WQ.ret (rs := [.cell 4 124,.tmp 5]) rfl (.cellN F.agg124 rfl jM rfl (.tmp rfl .nil)) (fun w hS => ⟨?_,hS.drop.drop⟩)
     rfl
    refine jN 8 ?_
    refine WC.cond rfl (fun h37 => ?_) (fun h37 => ?_)
    ·have hx0 : (Fm.unitK k c).1 ≠ 0 := by first | (simpa using h35) | (exact absurd h37 (by rw [h32]; decide))
     have hxl : Lit (Fm.unitK k c).1 := by
      rcases unitG_mem (x := (Fm.unitK k c).1) (c := c) (op := 0) (k := k) (by have := h37; unfold Fm.unitK at this ⊢; rw [← this]) with h0 | h0
      ·exact absurd h0 hx0
      ·exact hls c hcm _ h0
     have hpass3 : Fm.passK (ls.drop (i + 1)) (Fm.withK k (Fm.unitK k c).1) true = pr := by
      rw [if_neg,if_pos h37] at hpass2
      ·exact hpass2
      ·simp [hx0]
     refine jN 7 ?_
     refine WL.callV F.fun78 rfl rfl (fun w _ => with_c k _ hk hxl w) ?_
     refine jN 16 ?_
     refine WQ.back ((i + 1,Fm.withK k (Fm.unitK k c).1,true)) ?_ ?_ ?_ ?_
     ·exact ⟨by show i + 1 ≤ ls.length; omega,hk.with hxl,hpass3⟩
     ·(show ls.length - (i + 1) < ls.length - i; omega)
     ·exact ⟨rfl,rfl,rfl,rfl,rfl,rfl,rfl,trivial⟩
     rfl
    have hpass3 : Fm.passK (ls.drop (i + 1)) k ag = pr := by
     rw [if_neg,if_neg] at hpass2
     ·exact hpass2
     ·rw [h37]; decide
     ·rw [h37]; simp
    refine jN 9 ?_
    refine WQ.back ((i + 1,k,ag)) ?_ ?_ ?_ ?_
    ·exact ⟨by show i + 1 ≤ ls.length; omega,hk,hpass3⟩
    ·(show ls.length - (i + 1) < ls.length - i; omega)
    ·exact ⟨rfl,rfl,rfl,rfl,rfl,rfl,rfl,trivial⟩
    rfl
   refine jN 17 ?_
   refine WC.cond rfl (fun h37 => ?_) (fun h37 => ?_)
   ·have hx0 : (Fm.unitK k c).1 ≠ 0 := by first | (simpa using h35) | (exact absurd h37 (by rw [h32]; decide))
    have hxl : Lit (Fm.unitK k c).1 := by
     rcases unitG_mem (x := (Fm.unitK k c).1) (c := c) (op := 0) (k := k) (by have := h37; unfold Fm.unitK at this ⊢; rw [← this]) with h0 | h0
     ·exact absurd h0 hx0
     ·exact hls c hcm _ h0
    have hpass3 : Fm.passK (ls.drop (i + 1)) (Fm.withK k (Fm.unitK k c).1) true = pr := by
     rw [if_neg,if_pos h37] at hpass2
     ·exact hpass2
     ·simp [hx0]
    refine jN 7 ?_
    refine WL.callV F.fun78 rfl rfl (fun w _ => with_c k _ hk hxl w) ?_
    refine jN 16 ?_
    refine WQ.back ((i + 1,Fm.withK k (Fm.unitK k c).1,true)) ?_ ?_ ?_ ?_
    ·exact ⟨by show i + 1 ≤ ls.length; omega,hk.with hxl,hpass3⟩
    ·(show ls.length - (i + 1) < ls.length - i; omega)
    ·exact ⟨rfl,rfl,rfl,rfl,rfl,rfl,rfl,trivial⟩
    rfl
   have hpass3 : Fm.passK (ls.drop (i + 1)) k ag = pr := by
    rw [if_neg,if_neg] at hpass2
    ·exact hpass2
    ·rw [h37]; decide
    ·rw [h37]; simp
   refine jN 9 ?_
   refine WQ.back ((i + 1,k,ag)) ?_ ?_ ?_ ?_
   ·exact ⟨by show i + 1 ≤ ls.length; omega,hk,hpass3⟩
   ·(show ls.length - (i + 1) < ls.length - i; omega)
   ·exact ⟨rfl,rfl,rfl,rfl,rfl,rfl,rfl,trivial⟩
   rfl
  have hie : i = ls.length := by simp at h15; omega
  subst hie
  refine jN 5 ?_
  rw [List.drop_length] at hpass
  have hpr2 : pr = .inr (k,ag) := hpass.symm
  rw [hpr2] at hcf
  simp only at hcf
  refine WQ.back ((f,k,ag)) ?_ ?_ ?_ ?_
  ·exact ⟨hk,fun h0 => by rw [show ag = true from h0] at hcf; simpa using hcf,fun h0 => by rw [show ag = false from h0] at hcf; simpa using hcf.symm⟩
  ·(show (if ag = true then f + 1 else 0) < f + 1 + 1; split <;> omega)
  ·exact ⟨rfl,rfl,rfl,rfl,trivial⟩
  rfl
 have hres := hF h11
 refine jN 6 ?_
 refine WC.draws [([7],fun w => ∀ j v,[Value.int .u32 (k.1 : Int),.int .u32 (k.2 : Int)][j]? = some v → w.cell? ⟨b3,0 + j,none⟩ = some v),([],fun w => w.cell? ⟨b3,0,none⟩ = some (.int .u32 (k.1 : Int))),([],fun w => w.cell? ⟨b3,1,none⟩ = some (.int .u32 (k.2 : Int)))] (by kernel_rfl) (fun w hS => facts_cons (fun j v hv => by rw [Nat.zero_add]; exact hS.cell jM hv) (facts_cons (hS.cell jM rfl) (facts_cons (hS.cell jM rfl) (facts_nil)))) ?_
 refine jF 0 0 rfl rfl (Yl.loadN F.agg124 rfl rfl) ?_
 refine jT 1 rfl (Yl.fieldAddr0 F.fld124_0 rfl) ?_
 refine jF 2 1 rfl rfl (Yl.load1 F.one26 rfl) ?_
 refine jT 3 rfl (Yl.fieldAddr0 F.fld124_1 rfl) ?_
 refine jF 4 2 rfl rfl (Yl.load1 F.one26 rfl) ?_
 refine jT 5 rfl (Yl.bin (v := .int .u32 ((k.1 &&& k.2 : Nat) : Int)) rfl rfl (fun w => run_and hk.1 hk.2 _ _ _ w)) ?_
 refine jT 6 rfl (Yl.eqI rfl rfl) ?_
 refine jA 7 rfl ?_
 refine WL.storeN F.agg124 rfl rfl rfl jO jU jS ?_
 refine WD.on (closed_of (by kernel_rfl)) (fun w hS => Sx.gone rfl (Sx.keep (hS.cell jM rfl) (Sx.keep (hS.cell jM rfl) (Sx.none)))) ?_
 refine jT 8 rfl (Yl.assign rfl) ?_
 refine jD ?_
 refine jN 2 ?_
 refine WQ.ret (rs := [.cell 4 124,.tmp 5]) rfl (.cellN F.agg124 rfl jM rfl (.tmp rfl .nil)) (fun w hS => ⟨?_,hS.drop.drop⟩)
 rw [hres]
 exact congrArg (fun b => Ending.returned (Value.tuple #[kv k,Value.bool b])) clash_eq
end Go.Proofs.YtkgllhkhdjodeaaGreat
