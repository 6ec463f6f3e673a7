import Derived.Test.YtbccejopeclhmaaGreatM3
import Derived.Test.YtbccejopeclhmaaGreatChecked
namespace Go.V
open Go Go.RowKit Go.Proofs
set_option maxRecDepth 100000
set_option linter.unusedVariables false
set_option linter.unusedSimpArgs false
theorem boolT_4 : boolT Tryz.prog 4 = true := by kernel_rfl
theorem elemOf_9 : elemOf Tryz.prog 9 = none := by kernel_rfl
theorem elemOf_22 : elemOf Tryz.prog 22 = some 3 := by kernel_rfl
theorem elemOf_23 : elemOf Tryz.prog 23 = some 94 := by kernel_rfl
theorem elemOf_26 : elemOf Tryz.prog 26 = some 61 := by kernel_rfl
theorem elemOf_31 : elemOf Tryz.prog 31 = some 26 := by kernel_rfl
theorem elemOf_44 : elemOf Tryz.prog 44 = some 25 := by kernel_rfl
theorem elemOf_54 : elemOf Tryz.prog 54 = some 22 := by kernel_rfl
theorem elemOf_58 : elemOf Tryz.prog 58 = some 83 := by kernel_rfl
theorem elemOf_59 : elemOf Tryz.prog 59 = some 83 := by kernel_rfl
theorem elemOf_63 : elemOf Tryz.prog 63 = some 66 := by kernel_rfl
theorem elemOf_66 : elemOf Tryz.prog 66 = some 120 := by kernel_rfl
theorem elemOf_94 : elemOf Tryz.prog 94 = some 132 := by kernel_rfl
theorem elemOf_105 : elemOf Tryz.prog 105 = some 4 := by kernel_rfl
theorem elemOf_133 : elemOf Tryz.prog 133 = some 135 := by kernel_rfl
theorem elemOf_160 : elemOf Tryz.prog 160 = some 59 := by kernel_rfl
theorem elemSize_22 : elemSize Tryz.prog 22 = some 1 := by kernel_rfl
theorem elemSize_23 : elemSize Tryz.prog 23 = some 1 := by kernel_rfl
theorem elemSize_26 : elemSize Tryz.prog 26 = some 2 := by kernel_rfl
theorem elemSize_31 : elemSize Tryz.prog 31 = some 1 := by kernel_rfl
theorem elemSize_44 : elemSize Tryz.prog 44 = some 9 := by kernel_rfl
theorem elemSize_54 : elemSize Tryz.prog 54 = some 1 := by kernel_rfl
theorem elemSize_58 : elemSize Tryz.prog 58 = some 3 := by kernel_rfl
theorem elemSize_59 : elemSize Tryz.prog 59 = some 3 := by kernel_rfl
theorem elemSize_63 : elemSize Tryz.prog 63 = some 1 := by kernel_rfl
theorem elemSize_66 : elemSize Tryz.prog 66 = some 4 := by kernel_rfl
theorem elemSize_94 : elemSize Tryz.prog 94 = some 3 := by kernel_rfl
theorem elemSize_105 : elemSize Tryz.prog 105 = some 1 := by kernel_rfl
theorem elemSize_133 : elemSize Tryz.prog 133 = some 3 := by kernel_rfl
theorem elemSize_160 : elemSize Tryz.prog 160 = some 1 := by kernel_rfl
theorem fieldOff_25_0 : fieldOff Tryz.prog 25 0 = some 0 := by kernel_rfl
theorem fieldOff_25_1 : fieldOff Tryz.prog 25 1 = some 1 := by kernel_rfl
theorem fieldOff_25_2 : fieldOff Tryz.prog 25 2 = some 2 := by kernel_rfl
theorem fieldOff_25_3 : fieldOff Tryz.prog 25 3 = some 3 := by kernel_rfl
theorem fieldOff_25_4 : fieldOff Tryz.prog 25 4 = some 4 := by kernel_rfl
theorem fieldOff_25_5 : fieldOff Tryz.prog 25 5 = some 5 := by kernel_rfl
theorem fieldOff_25_6 : fieldOff Tryz.prog 25 6 = some 6 := by kernel_rfl
theorem fieldOff_25_7 : fieldOff Tryz.prog 25 7 = some 7 := by kernel_rfl
theorem fieldOff_25_8 : fieldOff Tryz.prog 25 8 = some 8 := by kernel_rfl
theorem fieldOff_46_0 : fieldOff Tryz.prog 46 0 = some 0 := by kernel_rfl
theorem fieldOff_46_1 : fieldOff Tryz.prog 46 1 = some 1 := by kernel_rfl
theorem fieldOff_46_2 : fieldOff Tryz.prog 46 2 = some 2 := by kernel_rfl
theorem fieldOff_61_0 : fieldOff Tryz.prog 61 0 = some 0 := by kernel_rfl
theorem fieldOff_61_1 : fieldOff Tryz.prog 61 1 = some 1 := by kernel_rfl
theorem fieldOff_65_0 : fieldOff Tryz.prog 65 0 = some 0 := by kernel_rfl
theorem fieldOff_65_1 : fieldOff Tryz.prog 65 1 = some 1 := by kernel_rfl
theorem fieldOff_83_0 : fieldOff Tryz.prog 83 0 = some 0 := by kernel_rfl
theorem fieldOff_83_1 : fieldOff Tryz.prog 83 1 = some 1 := by kernel_rfl
theorem fieldOff_83_2 : fieldOff Tryz.prog 83 2 = some 2 := by kernel_rfl
theorem fieldOff_120_0 : fieldOff Tryz.prog 120 0 = some 0 := by kernel_rfl
theorem fieldOff_120_1 : fieldOff Tryz.prog 120 1 = some 1 := by kernel_rfl
theorem fieldOff_120_2 : fieldOff Tryz.prog 120 2 = some 3 := by kernel_rfl
theorem fieldOff_132_0 : fieldOff Tryz.prog 132 0 = some 0 := by kernel_rfl
theorem fieldOff_132_1 : fieldOff Tryz.prog 132 1 = some 1 := by kernel_rfl
theorem fieldOff_132_2 : fieldOff Tryz.prog 132 2 = some 2 := by kernel_rfl
theorem fieldOff_135_0 : fieldOff Tryz.prog 135 0 = some 0 := by kernel_rfl
theorem fieldOff_135_1 : fieldOff Tryz.prog 135 1 = some 2 := by kernel_rfl
theorem fieldOff_165_0 : fieldOff Tryz.prog 165 0 = some 0 := by kernel_rfl
theorem fieldOff_165_1 : fieldOff Tryz.prog 165 1 = some 1 := by kernel_rfl
theorem fieldOff_182_0 : fieldOff Tryz.prog 182 0 = some 0 := by kernel_rfl
theorem fieldOff_182_1 : fieldOff Tryz.prog 182 1 = some 3 := by kernel_rfl
theorem fieldOff_218_0 : fieldOff Tryz.prog 218 0 = some 0 := by kernel_rfl
theorem fieldOff_218_1 : fieldOff Tryz.prog 218 1 = some 1 := by kernel_rfl
theorem fieldOff_243_0 : fieldOff Tryz.prog 243 0 = some 0 := by kernel_rfl
theorem fieldOff_243_1 : fieldOff Tryz.prog 243 1 = some 1 := by kernel_rfl
theorem flatT_3 : flatT Tryz.prog 3 = true := by kernel_rfl
theorem flatT_4 : flatT Tryz.prog 4 = true := by kernel_rfl
theorem flatT_22 : flatT Tryz.prog 22 = false := by kernel_rfl
theorem flatT_25 : flatT Tryz.prog 25 = false := by kernel_rfl
theorem flatT_26 : flatT Tryz.prog 26 = false := by kernel_rfl
theorem flatT_59 : flatT Tryz.prog 59 = false := by kernel_rfl
theorem flatT_61 : flatT Tryz.prog 61 = false := by kernel_rfl
theorem flatT_66 : flatT Tryz.prog 66 = false := by kernel_rfl
theorem flatT_83 : flatT Tryz.prog 83 = true := by kernel_rfl
theorem flatT_94 : flatT Tryz.prog 94 = false := by kernel_rfl
theorem flatT_120 : flatT Tryz.prog 120 = false := by kernel_rfl
theorem flatT_132 : flatT Tryz.prog 132 = true := by kernel_rfl
theorem flatT_135 : flatT Tryz.prog 135 = false := by kernel_rfl
theorem intT_3_197 : intT Tryz.prog 3 197 = some .u64 := by kernel_rfl
theorem intT_3_240 : intT Tryz.prog 3 240 = some .u64 := by kernel_rfl
theorem intT_5_3 : intT Tryz.prog 5 3 = some .i64 := by kernel_rfl
theorem intT_197_3 : intT Tryz.prog 197 3 = some .i64 := by kernel_rfl
theorem intT_240_3 : intT Tryz.prog 240 3 = some .i64 := by kernel_rfl
theorem layout_25 : layout Tryz.prog 25 = some ([(0, 1), (1, 1), (2, 1), (3, 1), (4, 1), (5, 1), (6, 1), (7, 1), (8, 1)], [.int .i64 0, .slice none 0 0, .slice none 0 0, .slice none 0 0, .slice none 0 0, .int .i64 0, .int .i64 0, .int .i64 0, .int .i64 0]) := by kernel_rfl
theorem layout_46 : layout Tryz.prog 46 = some ([(0, 1), (1, 1), (2, 1)], [.slice none 0 0, .slice none 0 0, .int .i64 0]) := by kernel_rfl
theorem layout_61 : layout Tryz.prog 61 = some ([(0, 1), (1, 1)], [.slice none 0 0, .int .i64 0]) := by kernel_rfl
theorem layout_83 : layout Tryz.prog 83 = some ([(0, 1), (1, 1), (2, 1)], [.int .i64 0, .int .i64 0, .string ⟨#[]⟩]) := by kernel_rfl
theorem layout_135 : layout Tryz.prog 135 = some ([(0, 2), (2, 1)], [.slice none 0 0, .int .i64 0, .bool false]) := by kernel_rfl
theorem layout_165 : layout Tryz.prog 165 = some ([(0, 1), (1, 1)], [.int .i64 0, .int .i64 0]) := by kernel_rfl
theorem layout_182 : layout Tryz.prog 182 = some ([(0, 3), (3, 1)], [.slice none 0 0, .slice none 0 0, .int .i64 0, .slice none 0 0]) := by kernel_rfl
theorem layout_218 : layout Tryz.prog 218 = some ([(0, 1), (1, 1)], [.int .i64 0, .int .i64 0]) := by kernel_rfl
theorem layout_243 : layout Tryz.prog 243 = some ([(0, 1), (1, 1)], [.slice none 0 0, .slice none 0 0]) := by kernel_rfl
theorem loadC_3 (a : PV) (l_ : List PV) : loadC Tryz.prog 3 (a :: l_) = some a := by kernel_rfl
theorem loadC_4 (a : PV) (l_ : List PV) : loadC Tryz.prog 4 (a :: l_) = some a := by kernel_rfl
theorem loadC_9 (a : PV) (l_ : List PV) : loadC Tryz.prog 9 (a :: l_) = some a := by kernel_rfl
theorem loadC_22 (a : PV) (l_ : List PV) : loadC Tryz.prog 22 (a :: l_) = some a := by kernel_rfl
theorem loadC_23 (a : PV) (l_ : List PV) : loadC Tryz.prog 23 (a :: l_) = some a := by kernel_rfl
theorem loadC_25 (a b c d e f g h i : PV) (l_ : List PV) : loadC Tryz.prog 25 (a :: b :: c :: d :: e :: f :: g :: h :: i :: l_) = some (.agg [a, b, c, d, e, f, g, h, i]) := by kernel_rfl
theorem loadC_26 (a : PV) (l_ : List PV) : loadC Tryz.prog 26 (a :: l_) = some a := by kernel_rfl
theorem loadC_33 (a : PV) (l_ : List PV) : loadC Tryz.prog 33 (a :: l_) = some a := by kernel_rfl
theorem loadC_44 (a : PV) (l_ : List PV) : loadC Tryz.prog 44 (a :: l_) = some a := by kernel_rfl
theorem loadC_46 (a b c : PV) (l_ : List PV) : loadC Tryz.prog 46 (a :: b :: c :: l_) = some (.agg [a, b, c]) := by kernel_rfl
theorem loadC_54 (a : PV) (l_ : List PV) : loadC Tryz.prog 54 (a :: l_) = some a := by kernel_rfl
theorem loadC_59 (a : PV) (l_ : List PV) : loadC Tryz.prog 59 (a :: l_) = some a := by kernel_rfl
theorem loadC_61 (a b : PV) (l_ : List PV) : loadC Tryz.prog 61 (a :: b :: l_) = some (.agg [a, b]) := by kernel_rfl
theorem loadC_65 (a b : PV) (l_ : List PV) : loadC Tryz.prog 65 (a :: b :: l_) = some (.agg [a, b]) := by kernel_rfl
theorem loadC_66 (a : PV) (l_ : List PV) : loadC Tryz.prog 66 (a :: l_) = some a := by kernel_rfl
theorem loadC_83 (a b c : PV) (l_ : List PV) : loadC Tryz.prog 83 (a :: b :: c :: l_) = some (.agg [a, b, c]) := by kernel_rfl
theorem loadC_94 (a : PV) (l_ : List PV) : loadC Tryz.prog 94 (a :: l_) = some a := by kernel_rfl
theorem loadC_105 (a : PV) (l_ : List PV) : loadC Tryz.prog 105 (a :: l_) = some a := by kernel_rfl
theorem loadC_120 (a b c d : PV) (l_ : List PV) : loadC Tryz.prog 120 (a :: b :: c :: d :: l_) = some (.agg [a, b, c, d]) := by kernel_rfl
theorem loadC_132 (a b c : PV) (l_ : List PV) : loadC Tryz.prog 132 (a :: b :: c :: l_) = some (.agg [a, b, c]) := by kernel_rfl
theorem loadC_133 (a : PV) (l_ : List PV) : loadC Tryz.prog 133 (a :: l_) = some a := by kernel_rfl
theorem loadC_135 (a b c : PV) (l_ : List PV) : loadC Tryz.prog 135 (a :: b :: c :: l_) = some (.agg [a, b, c]) := by kernel_rfl
theorem loadC_136 (a : PV) (l_ : List PV) : loadC Tryz.prog 136 (a :: l_) = some a := by kernel_rfl
theorem loadC_165 (a b : PV) (l_ : List PV) : loadC Tryz.prog 165 (a :: b :: l_) = some (.agg [a, b]) := by kernel_rfl
theorem loadC_230 (a : PV) (l_ : List PV) : loadC Tryz.prog 230 (a :: l_) = some a := by kernel_rfl
theorem rowSize_3 : rowSize Tryz.prog 3 = some 1 := by kernel_rfl
theorem rowSize_4 : rowSize Tryz.prog 4 = some 1 := by kernel_rfl
theorem rowSize_22 : rowSize Tryz.prog 22 = some 1 := by kernel_rfl
theorem rowSize_25 : rowSize Tryz.prog 25 = some 9 := by kernel_rfl
theorem rowSize_26 : rowSize Tryz.prog 26 = some 1 := by kernel_rfl
theorem rowSize_59 : rowSize Tryz.prog 59 = some 1 := by kernel_rfl
theorem rowSize_61 : rowSize Tryz.prog 61 = some 2 := by kernel_rfl
theorem rowSize_66 : rowSize Tryz.prog 66 = some 1 := by kernel_rfl
theorem rowSize_83 : rowSize Tryz.prog 83 = some 3 := by kernel_rfl
theorem rowSize_94 : rowSize Tryz.prog 94 = some 1 := by kernel_rfl
theorem rowSize_120 : rowSize Tryz.prog 120 = some 4 := by kernel_rfl
theorem rowSize_132 : rowSize Tryz.prog 132 = some 3 := by kernel_rfl
theorem rowSize_135 : rowSize Tryz.prog 135 = some 3 := by kernel_rfl
theorem sizeT_3 : sizeT Tryz.prog 3 = some 1 := by kernel_rfl
theorem sizeT_4 : sizeT Tryz.prog 4 = some 1 := by kernel_rfl
theorem sizeT_9 : sizeT Tryz.prog 9 = some 1 := by kernel_rfl
theorem sizeT_22 : sizeT Tryz.prog 22 = some 1 := by kernel_rfl
theorem sizeT_25 : sizeT Tryz.prog 25 = some 9 := by kernel_rfl
theorem sizeT_26 : sizeT Tryz.prog 26 = some 1 := by kernel_rfl
theorem sizeT_33 : sizeT Tryz.prog 33 = some 1 := by kernel_rfl
theorem sizeT_46 : sizeT Tryz.prog 46 = some 3 := by kernel_rfl
theorem sizeT_61 : sizeT Tryz.prog 61 = some 2 := by kernel_rfl
theorem sizeT_83 : sizeT Tryz.prog 83 = some 3 := by kernel_rfl
theorem sizeT_105 : sizeT Tryz.prog 105 = some 1 := by kernel_rfl
theorem sizeT_120 : sizeT Tryz.prog 120 = some 4 := by kernel_rfl
theorem sizeT_132 : sizeT Tryz.prog 132 = some 3 := by kernel_rfl
theorem sizeT_133 : sizeT Tryz.prog 133 = some 1 := by kernel_rfl
theorem sizeT_135 : sizeT Tryz.prog 135 = some 3 := by kernel_rfl
theorem sizeT_165 : sizeT Tryz.prog 165 = some 2 := by kernel_rfl
theorem sizeT_218 : sizeT Tryz.prog 218 = some 2 := by kernel_rfl
theorem sliceT_22 : sliceT Tryz.prog 22 = true := by kernel_rfl
theorem sliceT_26 : sliceT Tryz.prog 26 = true := by kernel_rfl
theorem sliceT_59 : sliceT Tryz.prog 59 = true := by kernel_rfl
theorem sliceT_133 : sliceT Tryz.prog 133 = true := by kernel_rfl
theorem strT_9 : strT Tryz.prog 9 = true := by kernel_rfl
theorem strT_22 : strT Tryz.prog 22 = false := by kernel_rfl
theorem strT_23 : strT Tryz.prog 23 = false := by kernel_rfl
theorem strT_26 : strT Tryz.prog 26 = false := by kernel_rfl
theorem strT_31 : strT Tryz.prog 31 = false := by kernel_rfl
theorem strT_44 : strT Tryz.prog 44 = false := by kernel_rfl
theorem strT_54 : strT Tryz.prog 54 = false := by kernel_rfl
theorem strT_58 : strT Tryz.prog 58 = false := by kernel_rfl
theorem strT_59 : strT Tryz.prog 59 = false := by kernel_rfl
theorem strT_63 : strT Tryz.prog 63 = false := by kernel_rfl
theorem strT_66 : strT Tryz.prog 66 = false := by kernel_rfl
theorem strT_94 : strT Tryz.prog 94 = false := by kernel_rfl
theorem strT_133 : strT Tryz.prog 133 = false := by kernel_rfl
theorem strT_160 : strT Tryz.prog 160 = false := by kernel_rfl
theorem zeroOf_3 : zeroOf Tryz.prog 3 = some [.int .i64 0] := by kernel_rfl
theorem zeroOf_4 : zeroOf Tryz.prog 4 = some [.bool false] := by kernel_rfl
theorem zeroOf_22 : zeroOf Tryz.prog 22 = some [.slice none 0 0] := by kernel_rfl
theorem zeroOf_25 : zeroOf Tryz.prog 25 = some [.int .i64 0, .slice none 0 0, .slice none 0 0, .slice none 0 0, .slice none 0 0, .int .i64 0, .int .i64 0, .int .i64 0, .int .i64 0] := by kernel_rfl
theorem zeroOf_26 : zeroOf Tryz.prog 26 = some [.slice none 0 0] := by kernel_rfl
theorem zeroOf_33 : zeroOf Tryz.prog 33 = some [.int .i64 0] := by kernel_rfl
theorem zeroOf_46 : zeroOf Tryz.prog 46 = some [.slice none 0 0, .slice none 0 0, .int .i64 0] := by kernel_rfl
theorem zeroOf_61 : zeroOf Tryz.prog 61 = some [.slice none 0 0, .int .i64 0] := by kernel_rfl
theorem zeroOf_83 : zeroOf Tryz.prog 83 = some [.int .i64 0, .int .i64 0, .string ⟨#[]⟩] := by kernel_rfl
theorem zeroOf_105 : zeroOf Tryz.prog 105 = some [.slice none 0 0] := by kernel_rfl
theorem zeroOf_120 : zeroOf Tryz.prog 120 = some [.slice none 0 0, .int .i64 0, .int .i64 0, .int .i64 0] := by kernel_rfl
theorem zeroOf_132 : zeroOf Tryz.prog 132 = some [.int .i64 0, .int .i64 0, .string ⟨#[]⟩] := by kernel_rfl
theorem zeroOf_135 : zeroOf Tryz.prog 135 = some [.slice none 0 0, .int .i64 0, .bool false] := by kernel_rfl
theorem zeroOf_165 : zeroOf Tryz.prog 165 = some [.int .i64 0, .int .i64 0] := by kernel_rfl
theorem zeroOf_218 : zeroOf Tryz.prog 218 = some [.int .i64 0, .int .i64 0] := by kernel_rfl
theorem fit_3 (c : List PV) : Fit Tryz.prog 3 [c] = ((c.length == 1 && pures c && c.all flatP) = true) := fit_oneF rowSize_3 flatT_3 c
theorem fit_4 (c : List PV) : Fit Tryz.prog 4 [c] = ((c.length == 1 && pures c && c.all flatP) = true) := fit_oneF rowSize_4 flatT_4 c
theorem fit_22 (c : List PV) : Fit Tryz.prog 22 [c] = ((c.length == 1 && pures c) = true) := fit_one rowSize_22 flatT_22 c
theorem fit_25 (c : List PV) : Fit Tryz.prog 25 [c] = ((c.length == 9 && pures c) = true) := fit_one rowSize_25 flatT_25 c
theorem fit_26 (c : List PV) : Fit Tryz.prog 26 [c] = ((c.length == 1 && pures c) = true) := fit_one rowSize_26 flatT_26 c
theorem fit_59 (c : List PV) : Fit Tryz.prog 59 [c] = ((c.length == 1 && pures c) = true) := fit_one rowSize_59 flatT_59 c
theorem fit_61 (c : List PV) : Fit Tryz.prog 61 [c] = ((c.length == 2 && pures c) = true) := fit_one rowSize_61 flatT_61 c
theorem fit_66 (c : List PV) : Fit Tryz.prog 66 [c] = ((c.length == 1 && pures c) = true) := fit_one rowSize_66 flatT_66 c
theorem fit_83 (c : List PV) : Fit Tryz.prog 83 [c] = ((c.length == 3 && pures c && c.all flatP) = true) := fit_oneF rowSize_83 flatT_83 c
theorem fit_94 (c : List PV) : Fit Tryz.prog 94 [c] = ((c.length == 1 && pures c) = true) := fit_one rowSize_94 flatT_94 c
theorem fit_120 (c : List PV) : Fit Tryz.prog 120 [c] = ((c.length == 4 && pures c) = true) := fit_one rowSize_120 flatT_120 c
theorem fit_132 (c : List PV) : Fit Tryz.prog 132 [c] = ((c.length == 3 && pures c && c.all flatP) = true) := fit_oneF rowSize_132 flatT_132 c
theorem fit_135 (c : List PV) : Fit Tryz.prog 135 [c] = ((c.length == 3 && pures c) = true) := fit_one rowSize_135 flatT_135 c
attribute [go_sem] boolT_4 elemOf_9 elemOf_22 elemOf_23 elemOf_26 elemOf_31 elemOf_44 elemOf_54 elemOf_58 elemOf_59 elemOf_63 elemOf_66 elemOf_94 elemOf_105 elemOf_133 elemOf_160 elemSize_22 elemSize_23 elemSize_26 elemSize_31 elemSize_44 elemSize_54 elemSize_58 elemSize_59 elemSize_63 elemSize_66 elemSize_94 elemSize_105 elemSize_133 elemSize_160 fieldOff_25_0 fieldOff_25_1 fieldOff_25_2 fieldOff_25_3 fieldOff_25_4 fieldOff_25_5 fieldOff_25_6 fieldOff_25_7 fieldOff_25_8 fieldOff_46_0 fieldOff_46_1 fieldOff_46_2 fieldOff_61_0 fieldOff_61_1 fieldOff_65_0 fieldOff_65_1 fieldOff_83_0 fieldOff_83_1 fieldOff_83_2 fieldOff_120_0 fieldOff_120_1 fieldOff_120_2 fieldOff_132_0 fieldOff_132_1 fieldOff_132_2 fieldOff_135_0 fieldOff_135_1 fieldOff_165_0 fieldOff_165_1 fieldOff_182_0 fieldOff_182_1 fieldOff_218_0 fieldOff_218_1 fieldOff_243_0 fieldOff_243_1 flatT_3 flatT_4 flatT_22 flatT_25 flatT_26 flatT_59 flatT_61 flatT_66 flatT_83 flatT_94 flatT_120 flatT_132 flatT_135 intT_3_197 intT_3_240 intT_5_3 intT_197_3 intT_240_3 layout_25 layout_46 layout_61 layout_83 layout_135 layout_165 layout_182 layout_218 layout_243 loadC_3 loadC_4 loadC_9 loadC_22 loadC_23 loadC_25 loadC_26 loadC_33 loadC_44 loadC_46 loadC_54 loadC_59 loadC_61 loadC_65 loadC_66 loadC_83 loadC_94 loadC_105 loadC_120 loadC_132 loadC_133 loadC_135 loadC_136 loadC_165 loadC_230 rowSize_3 rowSize_4 rowSize_22 rowSize_25 rowSize_26 rowSize_59 rowSize_61 rowSize_66 rowSize_83 rowSize_94 rowSize_120 rowSize_132 rowSize_135 sizeT_3 sizeT_4 sizeT_9 sizeT_22 sizeT_25 sizeT_26 sizeT_33 sizeT_46 sizeT_61 sizeT_83 sizeT_105 sizeT_120 sizeT_132 sizeT_133 sizeT_135 sizeT_165 sizeT_218 sliceT_22 sliceT_26 sliceT_59 sliceT_133 strT_9 strT_22 strT_23 strT_26 strT_31 strT_44 strT_54 strT_58 strT_59 strT_63 strT_66 strT_94 strT_133 strT_160 zeroOf_3 zeroOf_4 zeroOf_22 zeroOf_25 zeroOf_26 zeroOf_33 zeroOf_46 zeroOf_61 zeroOf_83 zeroOf_105 zeroOf_120 zeroOf_132 zeroOf_135 zeroOf_165 zeroOf_218 fit_3 fit_4 fit_22 fit_25 fit_26 fit_59 fit_61 fit_66 fit_83 fit_94 fit_120 fit_132 fit_135
end Go.V
