import Derived.Test.YtfmhmlijnidflaaV11
import Derived.Test.YtfmhmlijnidflaaChecked
namespace Go.V
open Go Go.RowKit Go.Proofs
set_option maxRecDepth 100000
set_option linter.unusedVariables false
set_option linter.unusedSimpArgs false
theorem boolT_4 : boolT Try.prog 4 = true := by kernel_rfl
theorem elemOf_9 : elemOf Try.prog 9 = none := by kernel_rfl
theorem elemOf_22 : elemOf Try.prog 22 = some 3 := by kernel_rfl
theorem elemOf_23 : elemOf Try.prog 23 = some 80 := by kernel_rfl
theorem elemOf_26 : elemOf Try.prog 26 = some 43 := by kernel_rfl
theorem elemOf_38 : elemOf Try.prog 38 = some 47 := by kernel_rfl
theorem elemOf_39 : elemOf Try.prog 39 = some 47 := by kernel_rfl
theorem elemOf_50 : elemOf Try.prog 50 = some 59 := by kernel_rfl
theorem elemOf_61 : elemOf Try.prog 61 = some 4 := by kernel_rfl
theorem elemOf_69 : elemOf Try.prog 69 = some 25 := by kernel_rfl
theorem elemOf_74 : elemOf Try.prog 74 = some 5 := by kernel_rfl
theorem elemOf_80 : elemOf Try.prog 80 = some 131 := by kernel_rfl
theorem elemOf_92 : elemOf Try.prog 92 = some 39 := by kernel_rfl
theorem elemOf_102 : elemOf Try.prog 102 = some 50 := by kernel_rfl
theorem elemOf_122 : elemOf Try.prog 122 = some 22 := by kernel_rfl
theorem elemOf_157 : elemOf Try.prog 157 = some 159 := by kernel_rfl
theorem elemSize_22 : elemSize Try.prog 22 = some 1 := by kernel_rfl
theorem elemSize_23 : elemSize Try.prog 23 = some 1 := by kernel_rfl
theorem elemSize_26 : elemSize Try.prog 26 = some 4 := by kernel_rfl
theorem elemSize_38 : elemSize Try.prog 38 = some 3 := by kernel_rfl
theorem elemSize_39 : elemSize Try.prog 39 = some 3 := by kernel_rfl
theorem elemSize_50 : elemSize Try.prog 50 = some 2 := by kernel_rfl
theorem elemSize_61 : elemSize Try.prog 61 = some 1 := by kernel_rfl
theorem elemSize_69 : elemSize Try.prog 69 = some 9 := by kernel_rfl
theorem elemSize_80 : elemSize Try.prog 80 = some 3 := by kernel_rfl
theorem elemSize_92 : elemSize Try.prog 92 = some 1 := by kernel_rfl
theorem elemSize_102 : elemSize Try.prog 102 = some 1 := by kernel_rfl
theorem elemSize_122 : elemSize Try.prog 122 = some 1 := by kernel_rfl
theorem elemSize_157 : elemSize Try.prog 157 = some 3 := by kernel_rfl
theorem eqShape_41 : eqShape Try.prog 41 = some [(0, 0), (1, 0)] := by kernel_rfl
theorem eqShape_47 : eqShape Try.prog 47 = some [(0, 0), (1, 0), (2, 2)] := by kernel_rfl
theorem eqShape_131 : eqShape Try.prog 131 = some [(0, 0), (1, 0), (2, 2)] := by kernel_rfl
theorem fieldOff_25_0 : fieldOff Try.prog 25 0 = some 0 := by kernel_rfl
theorem fieldOff_25_1 : fieldOff Try.prog 25 1 = some 1 := by kernel_rfl
theorem fieldOff_25_2 : fieldOff Try.prog 25 2 = some 2 := by kernel_rfl
theorem fieldOff_25_3 : fieldOff Try.prog 25 3 = some 3 := by kernel_rfl
theorem fieldOff_25_4 : fieldOff Try.prog 25 4 = some 4 := by kernel_rfl
theorem fieldOff_25_5 : fieldOff Try.prog 25 5 = some 5 := by kernel_rfl
theorem fieldOff_25_6 : fieldOff Try.prog 25 6 = some 6 := by kernel_rfl
theorem fieldOff_25_7 : fieldOff Try.prog 25 7 = some 7 := by kernel_rfl
theorem fieldOff_25_8 : fieldOff Try.prog 25 8 = some 8 := by kernel_rfl
theorem fieldOff_41_0 : fieldOff Try.prog 41 0 = some 0 := by kernel_rfl
theorem fieldOff_41_1 : fieldOff Try.prog 41 1 = some 1 := by kernel_rfl
theorem fieldOff_43_0 : fieldOff Try.prog 43 0 = some 0 := by kernel_rfl
theorem fieldOff_43_1 : fieldOff Try.prog 43 1 = some 1 := by kernel_rfl
theorem fieldOff_43_2 : fieldOff Try.prog 43 2 = some 3 := by kernel_rfl
theorem fieldOff_47_0 : fieldOff Try.prog 47 0 = some 0 := by kernel_rfl
theorem fieldOff_47_1 : fieldOff Try.prog 47 1 = some 1 := by kernel_rfl
theorem fieldOff_47_2 : fieldOff Try.prog 47 2 = some 2 := by kernel_rfl
theorem fieldOff_59_0 : fieldOff Try.prog 59 0 = some 0 := by kernel_rfl
theorem fieldOff_59_1 : fieldOff Try.prog 59 1 = some 1 := by kernel_rfl
theorem fieldOff_71_0 : fieldOff Try.prog 71 0 = some 0 := by kernel_rfl
theorem fieldOff_71_1 : fieldOff Try.prog 71 1 = some 1 := by kernel_rfl
theorem fieldOff_71_2 : fieldOff Try.prog 71 2 = some 2 := by kernel_rfl
theorem fieldOff_124_0 : fieldOff Try.prog 124 0 = some 0 := by kernel_rfl
theorem fieldOff_124_1 : fieldOff Try.prog 124 1 = some 3 := by kernel_rfl
theorem fieldOff_124_2 : fieldOff Try.prog 124 2 = some 4 := by kernel_rfl
theorem fieldOff_131_0 : fieldOff Try.prog 131 0 = some 0 := by kernel_rfl
theorem fieldOff_131_1 : fieldOff Try.prog 131 1 = some 1 := by kernel_rfl
theorem fieldOff_131_2 : fieldOff Try.prog 131 2 = some 2 := by kernel_rfl
theorem fieldOff_153_0 : fieldOff Try.prog 153 0 = some 0 := by kernel_rfl
theorem fieldOff_153_1 : fieldOff Try.prog 153 1 = some 1 := by kernel_rfl
theorem fieldOff_159_0 : fieldOff Try.prog 159 0 = some 0 := by kernel_rfl
theorem fieldOff_159_1 : fieldOff Try.prog 159 1 = some 2 := by kernel_rfl
theorem fieldOff_208_0 : fieldOff Try.prog 208 0 = some 0 := by kernel_rfl
theorem fieldOff_208_1 : fieldOff Try.prog 208 1 = some 3 := by kernel_rfl
theorem fieldOff_213_0 : fieldOff Try.prog 213 0 = some 0 := by kernel_rfl
theorem fieldOff_213_1 : fieldOff Try.prog 213 1 = some 1 := by kernel_rfl
theorem fieldOff_224_0 : fieldOff Try.prog 224 0 = some 0 := by kernel_rfl
theorem fieldOff_224_1 : fieldOff Try.prog 224 1 = some 1 := by kernel_rfl
theorem flatT_3 : flatT Try.prog 3 = true := by kernel_rfl
theorem flatT_4 : flatT Try.prog 4 = true := by kernel_rfl
theorem flatT_5 : flatT Try.prog 5 = true := by kernel_rfl
theorem flatT_22 : flatT Try.prog 22 = false := by kernel_rfl
theorem flatT_25 : flatT Try.prog 25 = false := by kernel_rfl
theorem flatT_39 : flatT Try.prog 39 = false := by kernel_rfl
theorem flatT_43 : flatT Try.prog 43 = false := by kernel_rfl
theorem flatT_47 : flatT Try.prog 47 = true := by kernel_rfl
theorem flatT_50 : flatT Try.prog 50 = false := by kernel_rfl
theorem flatT_59 : flatT Try.prog 59 = false := by kernel_rfl
theorem flatT_80 : flatT Try.prog 80 = false := by kernel_rfl
theorem flatT_131 : flatT Try.prog 131 = true := by kernel_rfl
theorem flatT_159 : flatT Try.prog 159 = false := by kernel_rfl
theorem intT_3_115 : intT Try.prog 3 115 = some .u64 := by kernel_rfl
theorem intT_3_251 : intT Try.prog 3 251 = some .u64 := by kernel_rfl
theorem intT_115_3 : intT Try.prog 115 3 = some .i64 := by kernel_rfl
theorem intT_115_5 : intT Try.prog 115 5 = some .u8 := by kernel_rfl
theorem intT_251_3 : intT Try.prog 251 3 = some .i64 := by kernel_rfl
theorem layout_25 : layout Try.prog 25 = some ([(0, 1), (1, 1), (2, 1), (3, 1), (4, 1), (5, 1), (6, 1), (7, 1), (8, 1)], [.int .i64 0, .slice none 0 0, .slice none 0 0, .slice none 0 0, .slice none 0 0, .int .i64 0, .int .i64 0, .int .i64 0, .int .i64 0]) := by kernel_rfl
theorem layout_41 : layout Try.prog 41 = some ([(0, 1), (1, 1)], [.int .i64 0, .int .i64 0]) := by kernel_rfl
theorem layout_43 : layout Try.prog 43 = some ([(0, 1), (1, 2), (3, 1)], [.slice none 0 0, .int .i64 0, .int .i64 0, .int .i64 0]) := by kernel_rfl
theorem layout_47 : layout Try.prog 47 = some ([(0, 1), (1, 1), (2, 1)], [.int .i64 0, .int .i64 0, .string ⟨#[]⟩]) := by kernel_rfl
theorem layout_59 : layout Try.prog 59 = some ([(0, 1), (1, 1)], [.slice none 0 0, .int .i64 0]) := by kernel_rfl
theorem layout_71 : layout Try.prog 71 = some ([(0, 1), (1, 1), (2, 1)], [.slice none 0 0, .slice none 0 0, .int .i64 0]) := by kernel_rfl
theorem layout_153 : layout Try.prog 153 = some ([(0, 1), (1, 1)], [.int .i64 0, .int .i64 0]) := by kernel_rfl
theorem layout_159 : layout Try.prog 159 = some ([(0, 2), (2, 1)], [.slice none 0 0, .int .i64 0, .bool false]) := by kernel_rfl
theorem layout_208 : layout Try.prog 208 = some ([(0, 3), (3, 1)], [.slice none 0 0, .slice none 0 0, .int .i64 0, .slice none 0 0]) := by kernel_rfl
theorem layout_213 : layout Try.prog 213 = some ([(0, 1), (1, 1)], [.slice none 0 0, .slice none 0 0]) := by kernel_rfl
theorem layout_224 : layout Try.prog 224 = some ([(0, 1), (1, 1)], [.int .i64 0, .int .i64 0]) := by kernel_rfl
theorem loadC_3 (a : PV) (l_ : List PV) : loadC Try.prog 3 (a :: l_) = some a := by kernel_rfl
theorem loadC_4 (a : PV) (l_ : List PV) : loadC Try.prog 4 (a :: l_) = some a := by kernel_rfl
theorem loadC_9 (a : PV) (l_ : List PV) : loadC Try.prog 9 (a :: l_) = some a := by kernel_rfl
theorem loadC_22 (a : PV) (l_ : List PV) : loadC Try.prog 22 (a :: l_) = some a := by kernel_rfl
theorem loadC_23 (a : PV) (l_ : List PV) : loadC Try.prog 23 (a :: l_) = some a := by kernel_rfl
theorem loadC_25 (a b c d e f g h i : PV) (l_ : List PV) : loadC Try.prog 25 (a :: b :: c :: d :: e :: f :: g :: h :: i :: l_) = some (.agg [a, b, c, d, e, f, g, h, i]) := by kernel_rfl
theorem loadC_31 (a : PV) (l_ : List PV) : loadC Try.prog 31 (a :: l_) = some a := by kernel_rfl
theorem loadC_39 (a : PV) (l_ : List PV) : loadC Try.prog 39 (a :: l_) = some a := by kernel_rfl
theorem loadC_41 (a b : PV) (l_ : List PV) : loadC Try.prog 41 (a :: b :: l_) = some (.agg [a, b]) := by kernel_rfl
theorem loadC_43 (a b c d : PV) (l_ : List PV) : loadC Try.prog 43 (a :: b :: c :: d :: l_) = some (.agg [a, b, c, d]) := by kernel_rfl
theorem loadC_47 (a b c : PV) (l_ : List PV) : loadC Try.prog 47 (a :: b :: c :: l_) = some (.agg [a, b, c]) := by kernel_rfl
theorem loadC_50 (a : PV) (l_ : List PV) : loadC Try.prog 50 (a :: l_) = some a := by kernel_rfl
theorem loadC_59 (a b : PV) (l_ : List PV) : loadC Try.prog 59 (a :: b :: l_) = some (.agg [a, b]) := by kernel_rfl
theorem loadC_61 (a : PV) (l_ : List PV) : loadC Try.prog 61 (a :: l_) = some a := by kernel_rfl
theorem loadC_69 (a : PV) (l_ : List PV) : loadC Try.prog 69 (a :: l_) = some a := by kernel_rfl
theorem loadC_71 (a b c : PV) (l_ : List PV) : loadC Try.prog 71 (a :: b :: c :: l_) = some (.agg [a, b, c]) := by kernel_rfl
theorem loadC_80 (a : PV) (l_ : List PV) : loadC Try.prog 80 (a :: l_) = some a := by kernel_rfl
theorem loadC_119 (a : PV) (l_ : List PV) : loadC Try.prog 119 (a :: l_) = some a := by kernel_rfl
theorem loadC_121 (a : PV) (l_ : List PV) : loadC Try.prog 121 (a :: l_) = some a := by kernel_rfl
theorem loadC_122 (a : PV) (l_ : List PV) : loadC Try.prog 122 (a :: l_) = some a := by kernel_rfl
theorem loadC_131 (a b c : PV) (l_ : List PV) : loadC Try.prog 131 (a :: b :: c :: l_) = some (.agg [a, b, c]) := by kernel_rfl
theorem loadC_153 (a b : PV) (l_ : List PV) : loadC Try.prog 153 (a :: b :: l_) = some (.agg [a, b]) := by kernel_rfl
theorem loadC_157 (a : PV) (l_ : List PV) : loadC Try.prog 157 (a :: l_) = some a := by kernel_rfl
theorem loadC_159 (a b c : PV) (l_ : List PV) : loadC Try.prog 159 (a :: b :: c :: l_) = some (.agg [a, b, c]) := by kernel_rfl
theorem loadC_160 (a : PV) (l_ : List PV) : loadC Try.prog 160 (a :: l_) = some a := by kernel_rfl
theorem rowSize_3 : rowSize Try.prog 3 = some 1 := by kernel_rfl
theorem rowSize_4 : rowSize Try.prog 4 = some 1 := by kernel_rfl
theorem rowSize_5 : rowSize Try.prog 5 = some 1 := by kernel_rfl
theorem rowSize_22 : rowSize Try.prog 22 = some 1 := by kernel_rfl
theorem rowSize_25 : rowSize Try.prog 25 = some 9 := by kernel_rfl
theorem rowSize_39 : rowSize Try.prog 39 = some 1 := by kernel_rfl
theorem rowSize_43 : rowSize Try.prog 43 = some 4 := by kernel_rfl
theorem rowSize_47 : rowSize Try.prog 47 = some 3 := by kernel_rfl
theorem rowSize_50 : rowSize Try.prog 50 = some 1 := by kernel_rfl
theorem rowSize_59 : rowSize Try.prog 59 = some 2 := by kernel_rfl
theorem rowSize_80 : rowSize Try.prog 80 = some 1 := by kernel_rfl
theorem rowSize_131 : rowSize Try.prog 131 = some 3 := by kernel_rfl
theorem rowSize_159 : rowSize Try.prog 159 = some 3 := by kernel_rfl
theorem sizeT_3 : sizeT Try.prog 3 = some 1 := by kernel_rfl
theorem sizeT_4 : sizeT Try.prog 4 = some 1 := by kernel_rfl
theorem sizeT_9 : sizeT Try.prog 9 = some 1 := by kernel_rfl
theorem sizeT_22 : sizeT Try.prog 22 = some 1 := by kernel_rfl
theorem sizeT_23 : sizeT Try.prog 23 = some 1 := by kernel_rfl
theorem sizeT_25 : sizeT Try.prog 25 = some 9 := by kernel_rfl
theorem sizeT_31 : sizeT Try.prog 31 = some 1 := by kernel_rfl
theorem sizeT_43 : sizeT Try.prog 43 = some 4 := by kernel_rfl
theorem sizeT_47 : sizeT Try.prog 47 = some 3 := by kernel_rfl
theorem sizeT_50 : sizeT Try.prog 50 = some 1 := by kernel_rfl
theorem sizeT_59 : sizeT Try.prog 59 = some 2 := by kernel_rfl
theorem sizeT_61 : sizeT Try.prog 61 = some 1 := by kernel_rfl
theorem sizeT_69 : sizeT Try.prog 69 = some 1 := by kernel_rfl
theorem sizeT_71 : sizeT Try.prog 71 = some 3 := by kernel_rfl
theorem sizeT_122 : sizeT Try.prog 122 = some 1 := by kernel_rfl
theorem sizeT_131 : sizeT Try.prog 131 = some 3 := by kernel_rfl
theorem sizeT_153 : sizeT Try.prog 153 = some 2 := by kernel_rfl
theorem sizeT_157 : sizeT Try.prog 157 = some 1 := by kernel_rfl
theorem sizeT_159 : sizeT Try.prog 159 = some 3 := by kernel_rfl
theorem sizeT_224 : sizeT Try.prog 224 = some 2 := by kernel_rfl
theorem sliceT_22 : sliceT Try.prog 22 = true := by kernel_rfl
theorem sliceT_39 : sliceT Try.prog 39 = true := by kernel_rfl
theorem sliceT_50 : sliceT Try.prog 50 = true := by kernel_rfl
theorem sliceT_69 : sliceT Try.prog 69 = true := by kernel_rfl
theorem sliceT_80 : sliceT Try.prog 80 = true := by kernel_rfl
theorem sliceT_157 : sliceT Try.prog 157 = true := by kernel_rfl
theorem strT_9 : strT Try.prog 9 = true := by kernel_rfl
theorem strT_22 : strT Try.prog 22 = false := by kernel_rfl
theorem strT_23 : strT Try.prog 23 = false := by kernel_rfl
theorem strT_26 : strT Try.prog 26 = false := by kernel_rfl
theorem strT_38 : strT Try.prog 38 = false := by kernel_rfl
theorem strT_39 : strT Try.prog 39 = false := by kernel_rfl
theorem strT_50 : strT Try.prog 50 = false := by kernel_rfl
theorem strT_69 : strT Try.prog 69 = false := by kernel_rfl
theorem strT_80 : strT Try.prog 80 = false := by kernel_rfl
theorem strT_92 : strT Try.prog 92 = false := by kernel_rfl
theorem strT_102 : strT Try.prog 102 = false := by kernel_rfl
theorem strT_122 : strT Try.prog 122 = false := by kernel_rfl
theorem strT_157 : strT Try.prog 157 = false := by kernel_rfl
theorem zeroOf_3 : zeroOf Try.prog 3 = some [.int .i64 0] := by kernel_rfl
theorem zeroOf_4 : zeroOf Try.prog 4 = some [.bool false] := by kernel_rfl
theorem zeroOf_22 : zeroOf Try.prog 22 = some [.slice none 0 0] := by kernel_rfl
theorem zeroOf_25 : zeroOf Try.prog 25 = some [.int .i64 0, .slice none 0 0, .slice none 0 0, .slice none 0 0, .slice none 0 0, .int .i64 0, .int .i64 0, .int .i64 0, .int .i64 0] := by kernel_rfl
theorem zeroOf_31 : zeroOf Try.prog 31 = some [.int .i64 0] := by kernel_rfl
theorem zeroOf_43 : zeroOf Try.prog 43 = some [.slice none 0 0, .int .i64 0, .int .i64 0, .int .i64 0] := by kernel_rfl
theorem zeroOf_47 : zeroOf Try.prog 47 = some [.int .i64 0, .int .i64 0, .string ⟨#[]⟩] := by kernel_rfl
theorem zeroOf_50 : zeroOf Try.prog 50 = some [.slice none 0 0] := by kernel_rfl
theorem zeroOf_59 : zeroOf Try.prog 59 = some [.slice none 0 0, .int .i64 0] := by kernel_rfl
theorem zeroOf_61 : zeroOf Try.prog 61 = some [.slice none 0 0] := by kernel_rfl
theorem zeroOf_71 : zeroOf Try.prog 71 = some [.slice none 0 0, .slice none 0 0, .int .i64 0] := by kernel_rfl
theorem zeroOf_131 : zeroOf Try.prog 131 = some [.int .i64 0, .int .i64 0, .string ⟨#[]⟩] := by kernel_rfl
theorem zeroOf_153 : zeroOf Try.prog 153 = some [.int .i64 0, .int .i64 0] := by kernel_rfl
theorem zeroOf_159 : zeroOf Try.prog 159 = some [.slice none 0 0, .int .i64 0, .bool false] := by kernel_rfl
theorem zeroOf_224 : zeroOf Try.prog 224 = some [.int .i64 0, .int .i64 0] := by kernel_rfl
theorem fit_3 (c : List PV) : Fit Try.prog 3 [c] = ((c.length == 1 && pures c && c.all flatP) = true) := fit_oneF rowSize_3 flatT_3 c
theorem fit_4 (c : List PV) : Fit Try.prog 4 [c] = ((c.length == 1 && pures c && c.all flatP) = true) := fit_oneF rowSize_4 flatT_4 c
theorem fit_5 (c : List PV) : Fit Try.prog 5 [c] = ((c.length == 1 && pures c && c.all flatP) = true) := fit_oneF rowSize_5 flatT_5 c
theorem fit_22 (c : List PV) : Fit Try.prog 22 [c] = ((c.length == 1 && pures c) = true) := fit_one rowSize_22 flatT_22 c
theorem fit_25 (c : List PV) : Fit Try.prog 25 [c] = ((c.length == 9 && pures c) = true) := fit_one rowSize_25 flatT_25 c
theorem fit_39 (c : List PV) : Fit Try.prog 39 [c] = ((c.length == 1 && pures c) = true) := fit_one rowSize_39 flatT_39 c
theorem fit_43 (c : List PV) : Fit Try.prog 43 [c] = ((c.length == 4 && pures c) = true) := fit_one rowSize_43 flatT_43 c
theorem fit_47 (c : List PV) : Fit Try.prog 47 [c] = ((c.length == 3 && pures c && c.all flatP) = true) := fit_oneF rowSize_47 flatT_47 c
theorem fit_50 (c : List PV) : Fit Try.prog 50 [c] = ((c.length == 1 && pures c) = true) := fit_one rowSize_50 flatT_50 c
theorem fit_59 (c : List PV) : Fit Try.prog 59 [c] = ((c.length == 2 && pures c) = true) := fit_one rowSize_59 flatT_59 c
theorem fit_80 (c : List PV) : Fit Try.prog 80 [c] = ((c.length == 1 && pures c) = true) := fit_one rowSize_80 flatT_80 c
theorem fit_131 (c : List PV) : Fit Try.prog 131 [c] = ((c.length == 3 && pures c && c.all flatP) = true) := fit_oneF rowSize_131 flatT_131 c
theorem fit_159 (c : List PV) : Fit Try.prog 159 [c] = ((c.length == 3 && pures c) = true) := fit_one rowSize_159 flatT_159 c
attribute [go_sem] boolT_4 elemOf_9 elemOf_22 elemOf_23 elemOf_26 elemOf_38 elemOf_39 elemOf_50 elemOf_61 elemOf_69 elemOf_74 elemOf_80 elemOf_92 elemOf_102 elemOf_122 elemOf_157 elemSize_22 elemSize_23 elemSize_26 elemSize_38 elemSize_39 elemSize_50 elemSize_61 elemSize_69 elemSize_80 elemSize_92 elemSize_102 elemSize_122 elemSize_157 eqShape_41 eqShape_47 eqShape_131 fieldOff_25_0 fieldOff_25_1 fieldOff_25_2 fieldOff_25_3 fieldOff_25_4 fieldOff_25_5 fieldOff_25_6 fieldOff_25_7 fieldOff_25_8 fieldOff_41_0 fieldOff_41_1 fieldOff_43_0 fieldOff_43_1 fieldOff_43_2 fieldOff_47_0 fieldOff_47_1 fieldOff_47_2 fieldOff_59_0 fieldOff_59_1 fieldOff_71_0 fieldOff_71_1 fieldOff_71_2 fieldOff_124_0 fieldOff_124_1 fieldOff_124_2 fieldOff_131_0 fieldOff_131_1 fieldOff_131_2 fieldOff_153_0 fieldOff_153_1 fieldOff_159_0 fieldOff_159_1 fieldOff_208_0 fieldOff_208_1 fieldOff_213_0 fieldOff_213_1 fieldOff_224_0 fieldOff_224_1 flatT_3 flatT_4 flatT_5 flatT_22 flatT_25 flatT_39 flatT_43 flatT_47 flatT_50 flatT_59 flatT_80 flatT_131 flatT_159 intT_3_115 intT_3_251 intT_115_3 intT_115_5 intT_251_3 layout_25 layout_41 layout_43 layout_47 layout_59 layout_71 layout_153 layout_159 layout_208 layout_213 layout_224 loadC_3 loadC_4 loadC_9 loadC_22 loadC_23 loadC_25 loadC_31 loadC_39 loadC_41 loadC_43 loadC_47 loadC_50 loadC_59 loadC_61 loadC_69 loadC_71 loadC_80 loadC_119 loadC_121 loadC_122 loadC_131 loadC_153 loadC_157 loadC_159 loadC_160 rowSize_3 rowSize_4 rowSize_5 rowSize_22 rowSize_25 rowSize_39 rowSize_43 rowSize_47 rowSize_50 rowSize_59 rowSize_80 rowSize_131 rowSize_159 sizeT_3 sizeT_4 sizeT_9 sizeT_22 sizeT_23 sizeT_25 sizeT_31 sizeT_43 sizeT_47 sizeT_50 sizeT_59 sizeT_61 sizeT_69 sizeT_71 sizeT_122 sizeT_131 sizeT_153 sizeT_157 sizeT_159 sizeT_224 sliceT_22 sliceT_39 sliceT_50 sliceT_69 sliceT_80 sliceT_157 strT_9 strT_22 strT_23 strT_26 strT_38 strT_39 strT_50 strT_69 strT_80 strT_92 strT_102 strT_122 strT_157 zeroOf_3 zeroOf_4 zeroOf_22 zeroOf_25 zeroOf_31 zeroOf_43 zeroOf_47 zeroOf_50 zeroOf_59 zeroOf_61 zeroOf_71 zeroOf_131 zeroOf_153 zeroOf_159 zeroOf_224 fit_3 fit_4 fit_5 fit_22 fit_25 fit_39 fit_43 fit_47 fit_50 fit_59 fit_80 fit_131 fit_159
end Go.V
