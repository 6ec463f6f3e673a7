import Derived.Test.YtheogjehgjbhaaaV11
import Derived.Test.YtheogjehgjbhaaaChecked
namespace Go.V
open Go Go.RowKit Go.Proofs
set_option maxRecDepth 100000
set_option linter.unusedVariables false
set_option linter.unusedSimpArgs false
theorem boolT_4 : boolT Try.prog 4 = true := by kernel_rfl
theorem elemOf_9 : elemOf Try.prog 9 = none := by kernel_rfl
theorem elemOf_22 : elemOf Try.prog 22 = some 42 := by kernel_rfl
theorem elemOf_23 : elemOf Try.prog 23 = some 3 := by kernel_rfl
theorem elemOf_33 : elemOf Try.prog 33 = some 23 := by kernel_rfl
theorem elemOf_40 : elemOf Try.prog 40 = some 93 := by kernel_rfl
theorem elemOf_43 : elemOf Try.prog 43 = some 4 := by kernel_rfl
theorem elemOf_50 : elemOf Try.prog 50 = some 71 := by kernel_rfl
theorem elemOf_58 : elemOf Try.prog 58 = some 84 := by kernel_rfl
theorem elemOf_62 : elemOf Try.prog 62 = some 58 := by kernel_rfl
theorem elemOf_68 : elemOf Try.prog 68 = some 75 := by kernel_rfl
theorem elemOf_69 : elemOf Try.prog 69 = some 75 := by kernel_rfl
theorem elemOf_93 : elemOf Try.prog 93 = some 128 := by kernel_rfl
theorem elemOf_110 : elemOf Try.prog 110 = some 69 := by kernel_rfl
theorem elemOf_161 : elemOf Try.prog 161 = some 163 := by kernel_rfl
theorem elemSize_22 : elemSize Try.prog 22 = some 9 := by kernel_rfl
theorem elemSize_23 : elemSize Try.prog 23 = some 1 := by kernel_rfl
theorem elemSize_33 : elemSize Try.prog 33 = some 1 := by kernel_rfl
theorem elemSize_40 : elemSize Try.prog 40 = some 1 := by kernel_rfl
theorem elemSize_43 : elemSize Try.prog 43 = some 1 := by kernel_rfl
theorem elemSize_50 : elemSize Try.prog 50 = some 4 := by kernel_rfl
theorem elemSize_58 : elemSize Try.prog 58 = some 2 := by kernel_rfl
theorem elemSize_62 : elemSize Try.prog 62 = some 1 := by kernel_rfl
theorem elemSize_68 : elemSize Try.prog 68 = some 3 := by kernel_rfl
theorem elemSize_69 : elemSize Try.prog 69 = some 3 := by kernel_rfl
theorem elemSize_93 : elemSize Try.prog 93 = some 3 := by kernel_rfl
theorem elemSize_110 : elemSize Try.prog 110 = some 1 := by kernel_rfl
theorem elemSize_161 : elemSize Try.prog 161 = some 3 := by kernel_rfl
theorem eqShape_52 : eqShape Try.prog 52 = some [(0, 0), (1, 0)] := by kernel_rfl
theorem fieldOff_25_0 : fieldOff Try.prog 25 0 = some 0 := by kernel_rfl
theorem fieldOff_25_1 : fieldOff Try.prog 25 1 = some 1 := by kernel_rfl
theorem fieldOff_25_2 : fieldOff Try.prog 25 2 = some 2 := by kernel_rfl
theorem fieldOff_42_0 : fieldOff Try.prog 42 0 = some 0 := by kernel_rfl
theorem fieldOff_42_1 : fieldOff Try.prog 42 1 = some 1 := by kernel_rfl
theorem fieldOff_42_2 : fieldOff Try.prog 42 2 = some 2 := by kernel_rfl
theorem fieldOff_42_3 : fieldOff Try.prog 42 3 = some 3 := by kernel_rfl
theorem fieldOff_42_4 : fieldOff Try.prog 42 4 = some 4 := by kernel_rfl
theorem fieldOff_42_5 : fieldOff Try.prog 42 5 = some 5 := by kernel_rfl
theorem fieldOff_42_6 : fieldOff Try.prog 42 6 = some 6 := by kernel_rfl
theorem fieldOff_42_7 : fieldOff Try.prog 42 7 = some 7 := by kernel_rfl
theorem fieldOff_42_8 : fieldOff Try.prog 42 8 = some 8 := by kernel_rfl
theorem fieldOff_52_0 : fieldOff Try.prog 52 0 = some 0 := by kernel_rfl
theorem fieldOff_52_1 : fieldOff Try.prog 52 1 = some 1 := by kernel_rfl
theorem fieldOff_71_0 : fieldOff Try.prog 71 0 = some 0 := by kernel_rfl
theorem fieldOff_71_1 : fieldOff Try.prog 71 1 = some 1 := by kernel_rfl
theorem fieldOff_71_2 : fieldOff Try.prog 71 2 = some 3 := by kernel_rfl
theorem fieldOff_75_0 : fieldOff Try.prog 75 0 = some 0 := by kernel_rfl
theorem fieldOff_75_1 : fieldOff Try.prog 75 1 = some 1 := by kernel_rfl
theorem fieldOff_75_2 : fieldOff Try.prog 75 2 = some 2 := by kernel_rfl
theorem fieldOff_84_0 : fieldOff Try.prog 84 0 = some 0 := by kernel_rfl
theorem fieldOff_84_1 : fieldOff Try.prog 84 1 = some 1 := by kernel_rfl
theorem fieldOff_128_0 : fieldOff Try.prog 128 0 = some 0 := by kernel_rfl
theorem fieldOff_128_1 : fieldOff Try.prog 128 1 = some 1 := by kernel_rfl
theorem fieldOff_128_2 : fieldOff Try.prog 128 2 = some 2 := by kernel_rfl
theorem fieldOff_135_0 : fieldOff Try.prog 135 0 = some 0 := by kernel_rfl
theorem fieldOff_135_1 : fieldOff Try.prog 135 1 = some 3 := by kernel_rfl
theorem fieldOff_157_0 : fieldOff Try.prog 157 0 = some 0 := by kernel_rfl
theorem fieldOff_157_1 : fieldOff Try.prog 157 1 = some 1 := by kernel_rfl
theorem fieldOff_163_0 : fieldOff Try.prog 163 0 = some 0 := by kernel_rfl
theorem fieldOff_177_0 : fieldOff Try.prog 177 0 = some 0 := by kernel_rfl
theorem fieldOff_177_1 : fieldOff Try.prog 177 1 = some 1 := by kernel_rfl
theorem fieldOff_214_0 : fieldOff Try.prog 214 0 = some 0 := by kernel_rfl
theorem fieldOff_214_1 : fieldOff Try.prog 214 1 = some 1 := by kernel_rfl
theorem flatT_3 : flatT Try.prog 3 = true := by kernel_rfl
theorem flatT_4 : flatT Try.prog 4 = true := by kernel_rfl
theorem flatT_23 : flatT Try.prog 23 = false := by kernel_rfl
theorem flatT_42 : flatT Try.prog 42 = false := by kernel_rfl
theorem flatT_58 : flatT Try.prog 58 = false := by kernel_rfl
theorem flatT_69 : flatT Try.prog 69 = false := by kernel_rfl
theorem flatT_71 : flatT Try.prog 71 = false := by kernel_rfl
theorem flatT_75 : flatT Try.prog 75 = true := by kernel_rfl
theorem flatT_84 : flatT Try.prog 84 = false := by kernel_rfl
theorem flatT_93 : flatT Try.prog 93 = false := by kernel_rfl
theorem flatT_128 : flatT Try.prog 128 = true := by kernel_rfl
theorem flatT_163 : flatT Try.prog 163 = false := by kernel_rfl
theorem intT_3_220 : intT Try.prog 3 220 = some .u64 := by kernel_rfl
theorem intT_3_235 : intT Try.prog 3 235 = some .u64 := by kernel_rfl
theorem intT_220_3 : intT Try.prog 220 3 = some .i64 := by kernel_rfl
theorem intT_235_3 : intT Try.prog 235 3 = some .i64 := by kernel_rfl
theorem layout_25 : layout Try.prog 25 = some ([(0, 1), (1, 1), (2, 1)], [.slice none 0 0, .slice none 0 0, .int .i64 0]) := by kernel_rfl
theorem layout_42 : layout Try.prog 42 = some ([(0, 1), (1, 1), (2, 1), (3, 1), (4, 1), (5, 1), (6, 1), (7, 1), (8, 1)], [.int .i64 0, .slice none 0 0, .slice none 0 0, .slice none 0 0, .slice none 0 0, .int .i64 0, .int .i64 0, .int .i64 0, .int .i64 0]) := by kernel_rfl
theorem layout_52 : layout Try.prog 52 = some ([(0, 1), (1, 1)], [.int .i64 0, .int .i64 0]) := by kernel_rfl
theorem layout_71 : layout Try.prog 71 = some ([(0, 1), (1, 2), (3, 1)], [.slice none 0 0, .int .i64 0, .int .i64 0, .int .i64 0]) := by kernel_rfl
theorem layout_75 : layout Try.prog 75 = some ([(0, 1), (1, 1), (2, 1)], [.int .i64 0, .int .i64 0, .string ⟨#[]⟩]) := by kernel_rfl
theorem layout_84 : layout Try.prog 84 = some ([(0, 1), (1, 1)], [.slice none 0 0, .int .i64 0]) := by kernel_rfl
theorem layout_135 : layout Try.prog 135 = some ([(0, 3), (3, 1)], [.slice none 0 0, .slice none 0 0, .int .i64 0, .slice none 0 0]) := by kernel_rfl
theorem layout_157 : layout Try.prog 157 = some ([(0, 1), (1, 1)], [.int .i64 0, .int .i64 0]) := by kernel_rfl
theorem layout_163 : layout Try.prog 163 = some ([(0, 2), (2, 1)], [.slice none 0 0, .int .i64 0, .bool false]) := by kernel_rfl
theorem layout_177 : layout Try.prog 177 = some ([(0, 1), (1, 1)], [.int .i64 0, .int .i64 0]) := by kernel_rfl
theorem layout_214 : layout Try.prog 214 = some ([(0, 1), (1, 1)], [.slice none 0 0, .slice none 0 0]) := by kernel_rfl
theorem loadC_3 (a : PV) (l_ : List PV) : loadC Try.prog 3 (a :: l_) = some a := by kernel_rfl
theorem loadC_4 (a : PV) (l_ : List PV) : loadC Try.prog 4 (a :: l_) = some a := by kernel_rfl
theorem loadC_9 (a : PV) (l_ : List PV) : loadC Try.prog 9 (a :: l_) = some a := by kernel_rfl
theorem loadC_22 (a : PV) (l_ : List PV) : loadC Try.prog 22 (a :: l_) = some a := by kernel_rfl
theorem loadC_23 (a : PV) (l_ : List PV) : loadC Try.prog 23 (a :: l_) = some a := by kernel_rfl
theorem loadC_25 (a b c : PV) (l_ : List PV) : loadC Try.prog 25 (a :: b :: c :: l_) = some (.agg [a, b, c]) := by kernel_rfl
theorem loadC_28 (a : PV) (l_ : List PV) : loadC Try.prog 28 (a :: l_) = some a := by kernel_rfl
theorem loadC_33 (a : PV) (l_ : List PV) : loadC Try.prog 33 (a :: l_) = some a := by kernel_rfl
theorem loadC_40 (a : PV) (l_ : List PV) : loadC Try.prog 40 (a :: l_) = some a := by kernel_rfl
theorem loadC_42 (a b c d e f g h i : PV) (l_ : List PV) : loadC Try.prog 42 (a :: b :: c :: d :: e :: f :: g :: h :: i :: l_) = some (.agg [a, b, c, d, e, f, g, h, i]) := by kernel_rfl
theorem loadC_43 (a : PV) (l_ : List PV) : loadC Try.prog 43 (a :: l_) = some a := by kernel_rfl
theorem loadC_52 (a b : PV) (l_ : List PV) : loadC Try.prog 52 (a :: b :: l_) = some (.agg [a, b]) := by kernel_rfl
theorem loadC_58 (a : PV) (l_ : List PV) : loadC Try.prog 58 (a :: l_) = some a := by kernel_rfl
theorem loadC_69 (a : PV) (l_ : List PV) : loadC Try.prog 69 (a :: l_) = some a := by kernel_rfl
theorem loadC_71 (a b c d : PV) (l_ : List PV) : loadC Try.prog 71 (a :: b :: c :: d :: l_) = some (.agg [a, b, c, d]) := by kernel_rfl
theorem loadC_75 (a b c : PV) (l_ : List PV) : loadC Try.prog 75 (a :: b :: c :: l_) = some (.agg [a, b, c]) := by kernel_rfl
theorem loadC_84 (a b : PV) (l_ : List PV) : loadC Try.prog 84 (a :: b :: l_) = some (.agg [a, b]) := by kernel_rfl
theorem loadC_93 (a : PV) (l_ : List PV) : loadC Try.prog 93 (a :: l_) = some a := by kernel_rfl
theorem loadC_128 (a b c : PV) (l_ : List PV) : loadC Try.prog 128 (a :: b :: c :: l_) = some (.agg [a, b, c]) := by kernel_rfl
theorem loadC_157 (a b : PV) (l_ : List PV) : loadC Try.prog 157 (a :: b :: l_) = some (.agg [a, b]) := by kernel_rfl
theorem loadC_161 (a : PV) (l_ : List PV) : loadC Try.prog 161 (a :: l_) = some a := by kernel_rfl
theorem loadC_163 (a b c : PV) (l_ : List PV) : loadC Try.prog 163 (a :: b :: c :: l_) = some (.agg [a, b, c]) := by kernel_rfl
theorem loadC_164 (a : PV) (l_ : List PV) : loadC Try.prog 164 (a :: l_) = some a := by kernel_rfl
theorem rowSize_3 : rowSize Try.prog 3 = some 1 := by kernel_rfl
theorem rowSize_4 : rowSize Try.prog 4 = some 1 := by kernel_rfl
theorem rowSize_23 : rowSize Try.prog 23 = some 1 := by kernel_rfl
theorem rowSize_42 : rowSize Try.prog 42 = some 9 := by kernel_rfl
theorem rowSize_58 : rowSize Try.prog 58 = some 1 := by kernel_rfl
theorem rowSize_69 : rowSize Try.prog 69 = some 1 := by kernel_rfl
theorem rowSize_71 : rowSize Try.prog 71 = some 4 := by kernel_rfl
theorem rowSize_75 : rowSize Try.prog 75 = some 3 := by kernel_rfl
theorem rowSize_84 : rowSize Try.prog 84 = some 2 := by kernel_rfl
theorem rowSize_93 : rowSize Try.prog 93 = some 1 := by kernel_rfl
theorem rowSize_128 : rowSize Try.prog 128 = some 3 := by kernel_rfl
theorem rowSize_163 : rowSize Try.prog 163 = some 3 := by kernel_rfl
theorem sizeT_3 : sizeT Try.prog 3 = some 1 := by kernel_rfl
theorem sizeT_4 : sizeT Try.prog 4 = some 1 := by kernel_rfl
theorem sizeT_9 : sizeT Try.prog 9 = some 1 := by kernel_rfl
theorem sizeT_23 : sizeT Try.prog 23 = some 1 := by kernel_rfl
theorem sizeT_25 : sizeT Try.prog 25 = some 3 := by kernel_rfl
theorem sizeT_28 : sizeT Try.prog 28 = some 1 := by kernel_rfl
theorem sizeT_42 : sizeT Try.prog 42 = some 9 := by kernel_rfl
theorem sizeT_43 : sizeT Try.prog 43 = some 1 := by kernel_rfl
theorem sizeT_58 : sizeT Try.prog 58 = some 1 := by kernel_rfl
theorem sizeT_71 : sizeT Try.prog 71 = some 4 := by kernel_rfl
theorem sizeT_75 : sizeT Try.prog 75 = some 3 := by kernel_rfl
theorem sizeT_84 : sizeT Try.prog 84 = some 2 := by kernel_rfl
theorem sizeT_128 : sizeT Try.prog 128 = some 3 := by kernel_rfl
theorem sizeT_157 : sizeT Try.prog 157 = some 2 := by kernel_rfl
theorem sizeT_161 : sizeT Try.prog 161 = some 1 := by kernel_rfl
theorem sizeT_163 : sizeT Try.prog 163 = some 3 := by kernel_rfl
theorem sizeT_177 : sizeT Try.prog 177 = some 2 := by kernel_rfl
theorem sliceT_23 : sliceT Try.prog 23 = true := by kernel_rfl
theorem sliceT_58 : sliceT Try.prog 58 = true := by kernel_rfl
theorem sliceT_69 : sliceT Try.prog 69 = true := by kernel_rfl
theorem sliceT_161 : sliceT Try.prog 161 = true := by kernel_rfl
theorem strT_9 : strT Try.prog 9 = true := by kernel_rfl
theorem strT_22 : strT Try.prog 22 = false := by kernel_rfl
theorem strT_23 : strT Try.prog 23 = false := by kernel_rfl
theorem strT_33 : strT Try.prog 33 = false := by kernel_rfl
theorem strT_40 : strT Try.prog 40 = false := by kernel_rfl
theorem strT_43 : strT Try.prog 43 = false := by kernel_rfl
theorem strT_50 : strT Try.prog 50 = false := by kernel_rfl
theorem strT_58 : strT Try.prog 58 = false := by kernel_rfl
theorem strT_62 : strT Try.prog 62 = false := by kernel_rfl
theorem strT_68 : strT Try.prog 68 = false := by kernel_rfl
theorem strT_69 : strT Try.prog 69 = false := by kernel_rfl
theorem strT_93 : strT Try.prog 93 = false := by kernel_rfl
theorem strT_110 : strT Try.prog 110 = false := by kernel_rfl
theorem strT_161 : strT Try.prog 161 = false := by kernel_rfl
theorem zeroOf_3 : zeroOf Try.prog 3 = some [.int .i64 0] := by kernel_rfl
theorem zeroOf_4 : zeroOf Try.prog 4 = some [.bool false] := by kernel_rfl
theorem zeroOf_23 : zeroOf Try.prog 23 = some [.slice none 0 0] := by kernel_rfl
theorem zeroOf_25 : zeroOf Try.prog 25 = some [.slice none 0 0, .slice none 0 0, .int .i64 0] := by kernel_rfl
theorem zeroOf_28 : zeroOf Try.prog 28 = some [.int .i64 0] := by kernel_rfl
theorem zeroOf_42 : zeroOf Try.prog 42 = some [.int .i64 0, .slice none 0 0, .slice none 0 0, .slice none 0 0, .slice none 0 0, .int .i64 0, .int .i64 0, .int .i64 0, .int .i64 0] := by kernel_rfl
theorem zeroOf_43 : zeroOf Try.prog 43 = some [.slice none 0 0] := by kernel_rfl
theorem zeroOf_58 : zeroOf Try.prog 58 = some [.slice none 0 0] := by kernel_rfl
theorem zeroOf_71 : zeroOf Try.prog 71 = some [.slice none 0 0, .int .i64 0, .int .i64 0, .int .i64 0] := by kernel_rfl
theorem zeroOf_75 : zeroOf Try.prog 75 = some [.int .i64 0, .int .i64 0, .string ⟨#[]⟩] := by kernel_rfl
theorem zeroOf_84 : zeroOf Try.prog 84 = some [.slice none 0 0, .int .i64 0] := by kernel_rfl
theorem zeroOf_128 : zeroOf Try.prog 128 = some [.int .i64 0, .int .i64 0, .string ⟨#[]⟩] := by kernel_rfl
theorem zeroOf_157 : zeroOf Try.prog 157 = some [.int .i64 0, .int .i64 0] := by kernel_rfl
theorem zeroOf_177 : zeroOf Try.prog 177 = some [.int .i64 0, .int .i64 0] := by kernel_rfl
theorem fit_3 (c : List PV) : Fit Try.prog 3 [c] = ((c.length == 1 && pures c && c.all flatP) = true) := fit_oneF rowSize_3 flatT_3 c
theorem fit_4 (c : List PV) : Fit Try.prog 4 [c] = ((c.length == 1 && pures c && c.all flatP) = true) := fit_oneF rowSize_4 flatT_4 c
theorem fit_23 (c : List PV) : Fit Try.prog 23 [c] = ((c.length == 1 && pures c) = true) := fit_one rowSize_23 flatT_23 c
theorem fit_42 (c : List PV) : Fit Try.prog 42 [c] = ((c.length == 9 && pures c) = true) := fit_one rowSize_42 flatT_42 c
theorem fit_58 (c : List PV) : Fit Try.prog 58 [c] = ((c.length == 1 && pures c) = true) := fit_one rowSize_58 flatT_58 c
theorem fit_69 (c : List PV) : Fit Try.prog 69 [c] = ((c.length == 1 && pures c) = true) := fit_one rowSize_69 flatT_69 c
theorem fit_71 (c : List PV) : Fit Try.prog 71 [c] = ((c.length == 4 && pures c) = true) := fit_one rowSize_71 flatT_71 c
theorem fit_75 (c : List PV) : Fit Try.prog 75 [c] = ((c.length == 3 && pures c && c.all flatP) = true) := fit_oneF rowSize_75 flatT_75 c
theorem fit_84 (c : List PV) : Fit Try.prog 84 [c] = ((c.length == 2 && pures c) = true) := fit_one rowSize_84 flatT_84 c
theorem fit_93 (c : List PV) : Fit Try.prog 93 [c] = ((c.length == 1 && pures c) = true) := fit_one rowSize_93 flatT_93 c
theorem fit_128 (c : List PV) : Fit Try.prog 128 [c] = ((c.length == 3 && pures c && c.all flatP) = true) := fit_oneF rowSize_128 flatT_128 c
theorem fit_163 (c : List PV) : Fit Try.prog 163 [c] = ((c.length == 3 && pures c) = true) := fit_one rowSize_163 flatT_163 c
attribute [go_sem] boolT_4 elemOf_9 elemOf_22 elemOf_23 elemOf_33 elemOf_40 elemOf_43 elemOf_50 elemOf_58 elemOf_62 elemOf_68 elemOf_69 elemOf_93 elemOf_110 elemOf_161 elemSize_22 elemSize_23 elemSize_33 elemSize_40 elemSize_43 elemSize_50 elemSize_58 elemSize_62 elemSize_68 elemSize_69 elemSize_93 elemSize_110 elemSize_161 eqShape_52 fieldOff_25_0 fieldOff_25_1 fieldOff_25_2 fieldOff_42_0 fieldOff_42_1 fieldOff_42_2 fieldOff_42_3 fieldOff_42_4 fieldOff_42_5 fieldOff_42_6 fieldOff_42_7 fieldOff_42_8 fieldOff_52_0 fieldOff_52_1 fieldOff_71_0 fieldOff_71_1 fieldOff_71_2 fieldOff_75_0 fieldOff_75_1 fieldOff_75_2 fieldOff_84_0 fieldOff_84_1 fieldOff_128_0 fieldOff_128_1 fieldOff_128_2 fieldOff_135_0 fieldOff_135_1 fieldOff_157_0 fieldOff_157_1 fieldOff_163_0 fieldOff_177_0 fieldOff_177_1 fieldOff_214_0 fieldOff_214_1 flatT_3 flatT_4 flatT_23 flatT_42 flatT_58 flatT_69 flatT_71 flatT_75 flatT_84 flatT_93 flatT_128 flatT_163 intT_3_220 intT_3_235 intT_220_3 intT_235_3 layout_25 layout_42 layout_52 layout_71 layout_75 layout_84 layout_135 layout_157 layout_163 layout_177 layout_214 loadC_3 loadC_4 loadC_9 loadC_22 loadC_23 loadC_25 loadC_28 loadC_33 loadC_40 loadC_42 loadC_43 loadC_52 loadC_58 loadC_69 loadC_71 loadC_75 loadC_84 loadC_93 loadC_128 loadC_157 loadC_161 loadC_163 loadC_164 rowSize_3 rowSize_4 rowSize_23 rowSize_42 rowSize_58 rowSize_69 rowSize_71 rowSize_75 rowSize_84 rowSize_93 rowSize_128 rowSize_163 sizeT_3 sizeT_4 sizeT_9 sizeT_23 sizeT_25 sizeT_28 sizeT_42 sizeT_43 sizeT_58 sizeT_71 sizeT_75 sizeT_84 sizeT_128 sizeT_157 sizeT_161 sizeT_163 sizeT_177 sliceT_23 sliceT_58 sliceT_69 sliceT_161 strT_9 strT_22 strT_23 strT_33 strT_40 strT_43 strT_50 strT_58 strT_62 strT_68 strT_69 strT_93 strT_110 strT_161 zeroOf_3 zeroOf_4 zeroOf_23 zeroOf_25 zeroOf_28 zeroOf_42 zeroOf_43 zeroOf_58 zeroOf_71 zeroOf_75 zeroOf_84 zeroOf_128 zeroOf_157 zeroOf_177 fit_3 fit_4 fit_23 fit_42 fit_58 fit_69 fit_71 fit_75 fit_84 fit_93 fit_128 fit_163
end Go.V
