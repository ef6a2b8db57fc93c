/- The closed facts of this program, by name: printed by a program out of the translation. -/
import Derived.Test.YtbippghgkbapnaaProg
import Derived.Test.YtbippghgkbapnaaEng4
import Derived.KernelRfl
namespace Go.Proofs.Ytbippghgkbapnaa.F
open Go Go.Eng Go.Proofs
theorem one3 : One Try.prog 3 := ⟨by kernel_rfl, by kernel_rfl⟩
theorem one4 : One Try.prog 4 := ⟨by kernel_rfl, by kernel_rfl⟩
theorem one5 : One Try.prog 5 := ⟨by kernel_rfl, by kernel_rfl⟩
theorem one9 : One Try.prog 9 := ⟨by kernel_rfl, by kernel_rfl⟩
theorem one23 : One Try.prog 23 := ⟨by kernel_rfl, by kernel_rfl⟩
theorem one26 : One Try.prog 26 := ⟨by kernel_rfl, by kernel_rfl⟩
theorem one38 : One Try.prog 38 := ⟨by kernel_rfl, by kernel_rfl⟩
theorem one41 : One Try.prog 41 := ⟨by kernel_rfl, by kernel_rfl⟩
theorem one54 : One Try.prog 54 := ⟨by kernel_rfl, by kernel_rfl⟩
theorem one61 : One Try.prog 61 := ⟨by kernel_rfl, by kernel_rfl⟩
theorem one69 : One Try.prog 69 := ⟨by kernel_rfl, by kernel_rfl⟩
theorem one78 : One Try.prog 78 := ⟨by kernel_rfl, by kernel_rfl⟩
theorem one88 : One Try.prog 88 := ⟨by kernel_rfl, by kernel_rfl⟩
theorem one89 : One Try.prog 89 := ⟨by kernel_rfl, by kernel_rfl⟩
theorem one97 : One Try.prog 97 := ⟨by kernel_rfl, by kernel_rfl⟩
theorem one115 : One Try.prog 115 := ⟨by kernel_rfl, by kernel_rfl⟩
theorem one119 : One Try.prog 119 := ⟨by kernel_rfl, by kernel_rfl⟩
theorem agg25 : Agg Try.prog 25 3 := ⟨by kernel_rfl, by kernel_rfl⟩
theorem agg43 : Agg Try.prog 43 3 := ⟨by kernel_rfl, by kernel_rfl⟩
theorem agg72 : Agg Try.prog 72 1 := ⟨by kernel_rfl, by kernel_rfl⟩
theorem agg76 : Agg Try.prog 76 3 := ⟨by kernel_rfl, by kernel_rfl⟩
theorem agg82 : Agg Try.prog 82 3 := ⟨by kernel_rfl, by kernel_rfl⟩
theorem agg91 : Agg Try.prog 91 2 := ⟨by kernel_rfl, by kernel_rfl⟩
theorem agg103 : Agg Try.prog 103 2 := ⟨by kernel_rfl, by kernel_rfl⟩
theorem agg146 : Agg Try.prog 146 6 := ⟨by kernel_rfl, by kernel_rfl⟩
theorem zero3 : zeroB Try.prog 3 = some [.int .i64 0] := by kernel_rfl
theorem zero25 : zeroB Try.prog 25 = some [.int .u8 0, .string (str []), .slice none 0 0] := by kernel_rfl
theorem zero26 : zeroB Try.prog 26 = some [.int .i64 0] := by kernel_rfl
theorem zero43 : zeroB Try.prog 43 = some [.bool false, .int .u32 0, .slice none 0 0] := by kernel_rfl
theorem zero61 : zeroB Try.prog 61 = some [.slice none 0 0] := by kernel_rfl
theorem zero69 : zeroB Try.prog 69 = some [.nilFunc] := by kernel_rfl
theorem zero72 : zeroB Try.prog 72 = some [.int .i64 0] := by kernel_rfl
theorem zero82 : zeroB Try.prog 82 = some [.slice none 0 0, .int .i64 0, .bool false] := by kernel_rfl
theorem zero91 : zeroB Try.prog 91 = some [.pointer none, .slice none 0 0] := by kernel_rfl
theorem zero97 : zeroB Try.prog 97 = some [.nilFunc] := by kernel_rfl
theorem zero103 : zeroB Try.prog 103 = some [.int .u32 0, .int .u32 0] := by kernel_rfl
theorem zero119 : zeroB Try.prog 119 = some [.map none] := by kernel_rfl
theorem zero146 : zeroB Try.prog 146 = some [.string (str []), .int .u8 0, .string (str []), .int .u8 0, .string (str []), .int .u8 0] := by kernel_rfl
theorem fld25_0 : fldB Try.prog 25 0 = some 0 := by kernel_rfl
theorem fld25_1 : fldB Try.prog 25 1 = some 1 := by kernel_rfl
theorem fld25_2 : fldB Try.prog 25 2 = some 2 := by kernel_rfl
theorem fld43_0 : fldB Try.prog 43 0 = some 0 := by kernel_rfl
theorem fld43_1 : fldB Try.prog 43 1 = some 1 := by kernel_rfl
theorem fld43_2 : fldB Try.prog 43 2 = some 2 := by kernel_rfl
theorem fld72_0 : fldB Try.prog 72 0 = some 0 := by kernel_rfl
theorem fld76_0 : fldB Try.prog 76 0 = some 0 := by kernel_rfl
theorem fld76_1 : fldB Try.prog 76 1 = some 1 := by kernel_rfl
theorem fld76_2 : fldB Try.prog 76 2 = some 2 := by kernel_rfl
theorem fld82_0 : fldB Try.prog 82 0 = some 0 := by kernel_rfl
theorem fld82_1 : fldB Try.prog 82 1 = some 1 := by kernel_rfl
theorem fld82_2 : fldB Try.prog 82 2 = some 2 := by kernel_rfl
theorem fld86_0 : fldB Try.prog 86 0 = some 0 := by kernel_rfl
theorem fld86_1 : fldB Try.prog 86 1 = some 1 := by kernel_rfl
theorem fld91_0 : fldB Try.prog 91 0 = some 0 := by kernel_rfl
theorem fld91_1 : fldB Try.prog 91 1 = some 1 := by kernel_rfl
theorem fld103_0 : fldB Try.prog 103 0 = some 0 := by kernel_rfl
theorem fld103_1 : fldB Try.prog 103 1 = some 1 := by kernel_rfl
theorem fld145_0 : fldB Try.prog 145 0 = some 0 := by kernel_rfl
theorem fld145_1 : fldB Try.prog 145 1 = some 1 := by kernel_rfl
theorem stT25 : StT Try.prog 25 [.int .u8 0, .string (str []), .slice none 0 0] [(0, 1), (1, 1), (2, 1)] := ⟨by kernel_rfl, by kernel_rfl⟩
theorem stT43 : StT Try.prog 43 [.bool false, .int .u32 0, .slice none 0 0] [(0, 1), (1, 1), (2, 1)] := ⟨by kernel_rfl, by kernel_rfl⟩
theorem stT72 : StT Try.prog 72 [.int .i64 0] [(0, 1)] := ⟨by kernel_rfl, by kernel_rfl⟩
theorem stT76 : StT Try.prog 76 [.string (str []), .int .i64 0, .string (str [])] [(0, 1), (1, 1), (2, 1)] := ⟨by kernel_rfl, by kernel_rfl⟩
theorem stT82 : StT Try.prog 82 [.slice none 0 0, .int .i64 0, .bool false] [(0, 1), (1, 1), (2, 1)] := ⟨by kernel_rfl, by kernel_rfl⟩
theorem stT86 : StT Try.prog 86 [.int .i64 0, .string (str [])] [(0, 1), (1, 1)] := ⟨by kernel_rfl, by kernel_rfl⟩
theorem stT103 : StT Try.prog 103 [.int .u32 0, .int .u32 0] [(0, 1), (1, 1)] := ⟨by kernel_rfl, by kernel_rfl⟩
theorem arT122 : ArT Try.prog 122 9 10 1 [.string (str []), .string (str []), .string (str []), .string (str []), .string (str []), .string (str []), .string (str []), .string (str []), .string (str []), .string (str [])] := ⟨by kernel_rfl, by kernel_rfl, by kernel_rfl⟩
theorem und122 : Try.prog.underlying 122 = some (.array 10 9) := by kernel_rfl
theorem stT145 : StT Try.prog 145 [.string (str []), .int .u8 0] [(0, 1), (1, 1)] := ⟨by kernel_rfl, by kernel_rfl⟩
theorem arT146 : ArT Try.prog 146 145 3 2 [.string (str []), .int .u8 0, .string (str []), .int .u8 0, .string (str []), .int .u8 0] := ⟨by kernel_rfl, by kernel_rfl, by kernel_rfl⟩
theorem und146 : Try.prog.underlying 146 = some (.array 3 145) := by kernel_rfl
theorem el23 : ElT Try.prog 23 25 3 48 := ElT.of (by kernel_rfl) (by decide)
theorem el38 : ElT Try.prog 38 54 1 24 := ElT.of (by kernel_rfl) (by decide)
theorem el48 : ElT Try.prog 48 41 1 4 := ElT.of (by kernel_rfl) (by decide)
theorem el54 : ElT Try.prog 54 3 1 8 := ElT.of (by kernel_rfl) (by decide)
theorem el61 : ElT Try.prog 61 9 1 16 := ElT.of (by kernel_rfl) (by decide)
theorem el78 : ElT Try.prog 78 86 2 24 := ElT.of (by kernel_rfl) (by decide)
theorem el89 : ElT Try.prog 89 5 1 1 := ElT.of (by kernel_rfl) (by decide)
theorem ez23 : zeroB Try.prog 25 = some [.int .u8 0, .string (str []), .slice none 0 0] := by kernel_rfl
theorem ez38 : zeroB Try.prog 54 = some [.slice none 0 0] := by kernel_rfl
theorem ez48 : zeroB Try.prog 41 = some [.int .u32 0] := by kernel_rfl
theorem ez54 : zeroB Try.prog 3 = some [.int .i64 0] := by kernel_rfl
theorem ez61 : zeroB Try.prog 9 = some [.string (str [])] := by kernel_rfl
theorem ez78 : zeroB Try.prog 86 = some [.int .i64 0, .string (str [])] := by kernel_rfl
theorem ez89 : zeroB Try.prog 5 = some [.int .u8 0] := by kernel_rfl
theorem sl23 : SlT Try.prog 23 25 3 := ⟨by kernel_rfl, by kernel_rfl⟩
theorem sl38 : SlT Try.prog 38 54 1 := ⟨by kernel_rfl, by kernel_rfl⟩
theorem sl48 : SlT Try.prog 48 41 1 := ⟨by kernel_rfl, by kernel_rfl⟩
theorem sl54 : SlT Try.prog 54 3 1 := ⟨by kernel_rfl, by kernel_rfl⟩
theorem sl61 : SlT Try.prog 61 9 1 := ⟨by kernel_rfl, by kernel_rfl⟩
theorem sl78 : SlT Try.prog 78 86 2 := ⟨by kernel_rfl, by kernel_rfl⟩
theorem sl89 : SlT Try.prog 89 5 1 := ⟨by kernel_rfl, by kernel_rfl⟩
theorem und9 : Try.prog.underlying 9 = some .string := by kernel_rfl
theorem und23 : Try.prog.underlying 23 = some (.slice 25) := by kernel_rfl
theorem und38 : Try.prog.underlying 38 = some (.slice 54) := by kernel_rfl
theorem und48 : Try.prog.underlying 48 = some (.slice 41) := by kernel_rfl
theorem und54 : Try.prog.underlying 54 = some (.slice 3) := by kernel_rfl
theorem und61 : Try.prog.underlying 61 = some (.slice 9) := by kernel_rfl
theorem und78 : Try.prog.underlying 78 = some (.slice 86) := by kernel_rfl
theorem und89 : Try.prog.underlying 89 = some (.slice 5) := by kernel_rfl
theorem conc72 : Try.prog.concrete 72 = true := by kernel_rfl
theorem fun3 : funB Try.prog 3 = some true := by kernel_rfl
theorem fun4 : funB Try.prog 4 = some true := by kernel_rfl
theorem fun5 : funB Try.prog 5 = some true := by kernel_rfl
theorem fun6 : funB Try.prog 6 = some true := by kernel_rfl
theorem fun7 : funB Try.prog 7 = some true := by kernel_rfl
theorem fun8 : funB Try.prog 8 = some true := by kernel_rfl
theorem fun9 : funB Try.prog 9 = some true := by kernel_rfl
theorem fun10 : funB Try.prog 10 = some true := by kernel_rfl
theorem fun11 : funB Try.prog 11 = some true := by kernel_rfl
theorem fun12 : funB Try.prog 12 = some true := by kernel_rfl
theorem fun13 : funB Try.prog 13 = some true := by kernel_rfl
theorem fun14 : funB Try.prog 14 = some true := by kernel_rfl
theorem fun15 : funB Try.prog 15 = some true := by kernel_rfl
theorem fun16 : funB Try.prog 16 = some true := by kernel_rfl
theorem fun17 : funB Try.prog 17 = some true := by kernel_rfl
theorem fun18 : funB Try.prog 18 = some true := by kernel_rfl
theorem fun19 : funB Try.prog 19 = some true := by kernel_rfl
theorem fun20 : funB Try.prog 20 = some true := by kernel_rfl
theorem fun21 : funB Try.prog 21 = some true := by kernel_rfl
theorem fun22 : funB Try.prog 22 = some true := by kernel_rfl
theorem fun23 : funB Try.prog 23 = some true := by kernel_rfl
theorem fun24 : funB Try.prog 24 = some true := by kernel_rfl
theorem fun25 : funB Try.prog 25 = some true := by kernel_rfl
theorem fun26 : funB Try.prog 26 = some true := by kernel_rfl
theorem fun27 : funB Try.prog 27 = some true := by kernel_rfl
theorem fun28 : funB Try.prog 28 = some true := by kernel_rfl
theorem fun29 : funB Try.prog 29 = some true := by kernel_rfl
theorem fun30 : funB Try.prog 30 = some true := by kernel_rfl
theorem fun31 : funB Try.prog 31 = some true := by kernel_rfl
theorem fun32 : funB Try.prog 32 = some true := by kernel_rfl
theorem fun33 : funB Try.prog 33 = some true := by kernel_rfl
theorem fun34 : funB Try.prog 34 = some true := by kernel_rfl
theorem fun35 : funB Try.prog 35 = some true := by kernel_rfl
theorem fun36 : funB Try.prog 36 = some true := by kernel_rfl
theorem fun37 : funB Try.prog 37 = some true := by kernel_rfl
theorem fun38 : funB Try.prog 38 = some true := by kernel_rfl
theorem fun39 : funB Try.prog 39 = some true := by kernel_rfl
theorem fun40 : funB Try.prog 40 = some true := by kernel_rfl
theorem fun41 : funB Try.prog 41 = some true := by kernel_rfl
theorem fun42 : funB Try.prog 42 = some true := by kernel_rfl
theorem fun43 : funB Try.prog 43 = some true := by kernel_rfl
theorem fun44 : funB Try.prog 44 = some true := by kernel_rfl
theorem fun45 : funB Try.prog 45 = some true := by kernel_rfl
theorem fun46 : funB Try.prog 46 = some true := by kernel_rfl
theorem fun47 : funB Try.prog 47 = some true := by kernel_rfl
theorem fun48 : funB Try.prog 48 = some true := by kernel_rfl
theorem fun49 : funB Try.prog 49 = some true := by kernel_rfl
theorem fun50 : funB Try.prog 50 = some true := by kernel_rfl
theorem fun51 : funB Try.prog 51 = some true := by kernel_rfl
theorem fun52 : funB Try.prog 52 = some true := by kernel_rfl
theorem fun53 : funB Try.prog 53 = some true := by kernel_rfl
theorem fun54 : funB Try.prog 54 = some true := by kernel_rfl
theorem fun55 : funB Try.prog 55 = some true := by kernel_rfl
theorem fun56 : funB Try.prog 56 = some true := by kernel_rfl
theorem fun57 : funB Try.prog 57 = some true := by kernel_rfl
theorem fun58 : funB Try.prog 58 = some true := by kernel_rfl
theorem fun59 : funB Try.prog 59 = some true := by kernel_rfl
theorem fun60 : funB Try.prog 60 = some true := by kernel_rfl
theorem fun61 : funB Try.prog 61 = some true := by kernel_rfl
theorem fun62 : funB Try.prog 62 = some true := by kernel_rfl
theorem fun63 : funB Try.prog 63 = some true := by kernel_rfl
theorem fun64 : funB Try.prog 64 = some true := by kernel_rfl
theorem fun65 : funB Try.prog 65 = some true := by kernel_rfl
theorem fun66 : funB Try.prog 66 = some true := by kernel_rfl
theorem fun67 : funB Try.prog 67 = some true := by kernel_rfl
theorem fun68 : funB Try.prog 68 = some true := by kernel_rfl
theorem fun69 : funB Try.prog 69 = some true := by kernel_rfl
theorem fun70 : funB Try.prog 70 = some true := by kernel_rfl
theorem fun71 : funB Try.prog 71 = some true := by kernel_rfl
theorem fun72 : funB Try.prog 72 = some true := by kernel_rfl
theorem fun73 : funB Try.prog 73 = some true := by kernel_rfl
theorem fun74 : funB Try.prog 74 = some true := by kernel_rfl
theorem fun75 : funB Try.prog 75 = some true := by kernel_rfl
theorem fun76 : funB Try.prog 76 = some true := by kernel_rfl
theorem fun77 : funB Try.prog 77 = some true := by kernel_rfl
theorem fun78 : funB Try.prog 78 = some true := by kernel_rfl
theorem fun79 : funB Try.prog 79 = some true := by kernel_rfl
theorem fun80 : funB Try.prog 80 = some true := by kernel_rfl
theorem fun81 : funB Try.prog 81 = some true := by kernel_rfl
theorem fun82 : funB Try.prog 82 = some true := by kernel_rfl
theorem fun83 : funB Try.prog 83 = some true := by kernel_rfl
theorem fun84 : funB Try.prog 84 = some true := by kernel_rfl
theorem fun85 : funB Try.prog 85 = some true := by kernel_rfl
theorem fun86 : funB Try.prog 86 = some true := by kernel_rfl
theorem fun87 : funB Try.prog 87 = some true := by kernel_rfl
theorem fun88 : funB Try.prog 88 = some true := by kernel_rfl
theorem fun89 : funB Try.prog 89 = some true := by kernel_rfl
theorem fun90 : funB Try.prog 90 = some true := by kernel_rfl
theorem fun91 : funB Try.prog 91 = some true := by kernel_rfl
theorem fun92 : funB Try.prog 92 = some true := by kernel_rfl
theorem fun93 : funB Try.prog 93 = some true := by kernel_rfl
theorem fun94 : funB Try.prog 94 = some true := by kernel_rfl
theorem fun95 : funB Try.prog 95 = some true := by kernel_rfl
theorem fun96 : funB Try.prog 96 = some true := by kernel_rfl
theorem fun97 : funB Try.prog 97 = some true := by kernel_rfl
theorem fun98 : funB Try.prog 98 = some true := by kernel_rfl
theorem fun99 : funB Try.prog 99 = some true := by kernel_rfl
theorem fun100 : funB Try.prog 100 = some true := by kernel_rfl
theorem fun101 : funB Try.prog 101 = some true := by kernel_rfl
theorem fun102 : funB Try.prog 102 = some true := by kernel_rfl
theorem fun103 : funB Try.prog 103 = some true := by kernel_rfl
theorem fun104 : funB Try.prog 104 = some true := by kernel_rfl
theorem fun105 : funB Try.prog 105 = some true := by kernel_rfl
theorem fun106 : funB Try.prog 106 = some true := by kernel_rfl
theorem fun107 : funB Try.prog 107 = some true := by kernel_rfl
theorem fun109 : funB Try.prog 109 = some true := by kernel_rfl
theorem fun110 : funB Try.prog 110 = some true := by kernel_rfl
theorem fun111 : funB Try.prog 111 = some true := by kernel_rfl
theorem fun112 : funB Try.prog 112 = some true := by kernel_rfl
theorem fun113 : funB Try.prog 113 = some true := by kernel_rfl
theorem fun114 : funB Try.prog 114 = some true := by kernel_rfl
theorem fun115 : funB Try.prog 115 = some true := by kernel_rfl
end Go.Proofs.Ytbippghgkbapnaa.F
