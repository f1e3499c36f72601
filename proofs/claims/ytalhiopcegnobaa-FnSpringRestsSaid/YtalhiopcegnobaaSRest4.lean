/- Tables of springs near their rest, Damp 3/4. No condition. -/
import Derived.Test.YtalhiopcegnobaaSRest3
set_option linter.unusedVariables false
set_option linter.unusedSimpArgs false
namespace Go.Fw
theorem pr_31 : prB (3 / 4) (1 / 4) 17 8 = true := by decide +kernel
theorem cv_31_00 : cover (3 / 4) (1 / 4) (1 / 100000) 40 1 (Bx.sub (Bx.sub (Bx.mk 0 17 0 8) 0) 0) = true := by decide +kernel
theorem cv_31_01 : cover (3 / 4) (1 / 4) (1 / 100000) 40 1 (Bx.sub (Bx.sub (Bx.mk 0 17 0 8) 0) 1) = true := by decide +kernel
theorem cv_31_02 : cover (3 / 4) (1 / 4) (1 / 100000) 40 1 (Bx.sub (Bx.sub (Bx.mk 0 17 0 8) 0) 2) = true := by decide +kernel
theorem cv_31_03 : cover (3 / 4) (1 / 4) (1 / 100000) 40 1 (Bx.sub (Bx.sub (Bx.mk 0 17 0 8) 0) 3) = true := by decide +kernel
theorem cv_31_0 : cover (3 / 4) (1 / 4) (1 / 100000) 40 2 (Bx.sub (Bx.mk 0 17 0 8) 0) = true := cover_of cv_31_00 cv_31_01 cv_31_02 cv_31_03
theorem cv_31_10 : cover (3 / 4) (1 / 4) (1 / 100000) 40 1 (Bx.sub (Bx.sub (Bx.mk 0 17 0 8) 1) 0) = true := by decide +kernel
theorem cv_31_11 : cover (3 / 4) (1 / 4) (1 / 100000) 40 1 (Bx.sub (Bx.sub (Bx.mk 0 17 0 8) 1) 1) = true := by decide +kernel
theorem cv_31_12 : cover (3 / 4) (1 / 4) (1 / 100000) 40 1 (Bx.sub (Bx.sub (Bx.mk 0 17 0 8) 1) 2) = true := by decide +kernel
theorem cv_31_13 : cover (3 / 4) (1 / 4) (1 / 100000) 40 1 (Bx.sub (Bx.sub (Bx.mk 0 17 0 8) 1) 3) = true := by decide +kernel
theorem cv_31_1 : cover (3 / 4) (1 / 4) (1 / 100000) 40 2 (Bx.sub (Bx.mk 0 17 0 8) 1) = true := cover_of cv_31_10 cv_31_11 cv_31_12 cv_31_13
theorem cv_31_20 : cover (3 / 4) (1 / 4) (1 / 100000) 40 1 (Bx.sub (Bx.sub (Bx.mk 0 17 0 8) 2) 0) = true := by decide +kernel
theorem cv_31_21 : cover (3 / 4) (1 / 4) (1 / 100000) 40 1 (Bx.sub (Bx.sub (Bx.mk 0 17 0 8) 2) 1) = true := by decide +kernel
theorem cv_31_22 : cover (3 / 4) (1 / 4) (1 / 100000) 40 1 (Bx.sub (Bx.sub (Bx.mk 0 17 0 8) 2) 2) = true := by decide +kernel
theorem cv_31_23 : cover (3 / 4) (1 / 4) (1 / 100000) 40 1 (Bx.sub (Bx.sub (Bx.mk 0 17 0 8) 2) 3) = true := by decide +kernel
theorem cv_31_2 : cover (3 / 4) (1 / 4) (1 / 100000) 40 2 (Bx.sub (Bx.mk 0 17 0 8) 2) = true := cover_of cv_31_20 cv_31_21 cv_31_22 cv_31_23
theorem cv_31_30 : cover (3 / 4) (1 / 4) (1 / 100000) 40 1 (Bx.sub (Bx.sub (Bx.mk 0 17 0 8) 3) 0) = true := by decide +kernel
theorem cv_31_31 : cover (3 / 4) (1 / 4) (1 / 100000) 40 1 (Bx.sub (Bx.sub (Bx.mk 0 17 0 8) 3) 1) = true := by decide +kernel
theorem cv_31_32 : cover (3 / 4) (1 / 4) (1 / 100000) 40 1 (Bx.sub (Bx.sub (Bx.mk 0 17 0 8) 3) 2) = true := by decide +kernel
theorem cv_31_33 : cover (3 / 4) (1 / 4) (1 / 100000) 40 1 (Bx.sub (Bx.sub (Bx.mk 0 17 0 8) 3) 3) = true := by decide +kernel
theorem cv_31_3 : cover (3 / 4) (1 / 4) (1 / 100000) 40 2 (Bx.sub (Bx.mk 0 17 0 8) 3) = true := cover_of cv_31_30 cv_31_31 cv_31_32 cv_31_33
theorem cv_31 : cover (3 / 4) (1 / 4) (1 / 100000) 40 3 (Bx.mk 0 17 0 8) = true := cover_of cv_31_0 cv_31_1 cv_31_2 cv_31_3
theorem pr_32 : prB (3 / 4) (1 / 2) 14 9 = true := by decide +kernel
theorem cv_32_00 : cover (3 / 4) (1 / 2) (1 / 100000) 40 1 (Bx.sub (Bx.sub (Bx.mk 0 14 0 9) 0) 0) = true := by decide +kernel
theorem cv_32_01 : cover (3 / 4) (1 / 2) (1 / 100000) 40 1 (Bx.sub (Bx.sub (Bx.mk 0 14 0 9) 0) 1) = true := by decide +kernel
theorem cv_32_02 : cover (3 / 4) (1 / 2) (1 / 100000) 40 1 (Bx.sub (Bx.sub (Bx.mk 0 14 0 9) 0) 2) = true := by decide +kernel
theorem cv_32_03 : cover (3 / 4) (1 / 2) (1 / 100000) 40 1 (Bx.sub (Bx.sub (Bx.mk 0 14 0 9) 0) 3) = true := by decide +kernel
theorem cv_32_0 : cover (3 / 4) (1 / 2) (1 / 100000) 40 2 (Bx.sub (Bx.mk 0 14 0 9) 0) = true := cover_of cv_32_00 cv_32_01 cv_32_02 cv_32_03
theorem cv_32_10 : cover (3 / 4) (1 / 2) (1 / 100000) 40 1 (Bx.sub (Bx.sub (Bx.mk 0 14 0 9) 1) 0) = true := by decide +kernel
theorem cv_32_11 : cover (3 / 4) (1 / 2) (1 / 100000) 40 1 (Bx.sub (Bx.sub (Bx.mk 0 14 0 9) 1) 1) = true := by decide +kernel
theorem cv_32_12 : cover (3 / 4) (1 / 2) (1 / 100000) 40 1 (Bx.sub (Bx.sub (Bx.mk 0 14 0 9) 1) 2) = true := by decide +kernel
theorem cv_32_13 : cover (3 / 4) (1 / 2) (1 / 100000) 40 1 (Bx.sub (Bx.sub (Bx.mk 0 14 0 9) 1) 3) = true := by decide +kernel
theorem cv_32_1 : cover (3 / 4) (1 / 2) (1 / 100000) 40 2 (Bx.sub (Bx.mk 0 14 0 9) 1) = true := cover_of cv_32_10 cv_32_11 cv_32_12 cv_32_13
theorem cv_32_20 : cover (3 / 4) (1 / 2) (1 / 100000) 40 1 (Bx.sub (Bx.sub (Bx.mk 0 14 0 9) 2) 0) = true := by decide +kernel
theorem cv_32_21 : cover (3 / 4) (1 / 2) (1 / 100000) 40 1 (Bx.sub (Bx.sub (Bx.mk 0 14 0 9) 2) 1) = true := by decide +kernel
theorem cv_32_22 : cover (3 / 4) (1 / 2) (1 / 100000) 40 1 (Bx.sub (Bx.sub (Bx.mk 0 14 0 9) 2) 2) = true := by decide +kernel
theorem cv_32_23 : cover (3 / 4) (1 / 2) (1 / 100000) 40 1 (Bx.sub (Bx.sub (Bx.mk 0 14 0 9) 2) 3) = true := by decide +kernel
theorem cv_32_2 : cover (3 / 4) (1 / 2) (1 / 100000) 40 2 (Bx.sub (Bx.mk 0 14 0 9) 2) = true := cover_of cv_32_20 cv_32_21 cv_32_22 cv_32_23
theorem cv_32_30 : cover (3 / 4) (1 / 2) (1 / 100000) 40 1 (Bx.sub (Bx.sub (Bx.mk 0 14 0 9) 3) 0) = true := by decide +kernel
theorem cv_32_31 : cover (3 / 4) (1 / 2) (1 / 100000) 40 1 (Bx.sub (Bx.sub (Bx.mk 0 14 0 9) 3) 1) = true := by decide +kernel
theorem cv_32_32 : cover (3 / 4) (1 / 2) (1 / 100000) 40 1 (Bx.sub (Bx.sub (Bx.mk 0 14 0 9) 3) 2) = true := by decide +kernel
theorem cv_32_33 : cover (3 / 4) (1 / 2) (1 / 100000) 40 1 (Bx.sub (Bx.sub (Bx.mk 0 14 0 9) 3) 3) = true := by decide +kernel
theorem cv_32_3 : cover (3 / 4) (1 / 2) (1 / 100000) 40 2 (Bx.sub (Bx.mk 0 14 0 9) 3) = true := cover_of cv_32_30 cv_32_31 cv_32_32 cv_32_33
theorem cv_32 : cover (3 / 4) (1 / 2) (1 / 100000) 40 3 (Bx.mk 0 14 0 9) = true := cover_of cv_32_0 cv_32_1 cv_32_2 cv_32_3
theorem pr_33 : prB (3 / 4) (3 / 4) 13 10 = true := by decide +kernel
theorem cv_33_00 : cover (3 / 4) (3 / 4) (1 / 100000) 40 1 (Bx.sub (Bx.sub (Bx.mk 0 13 0 10) 0) 0) = true := by decide +kernel
theorem cv_33_01 : cover (3 / 4) (3 / 4) (1 / 100000) 40 1 (Bx.sub (Bx.sub (Bx.mk 0 13 0 10) 0) 1) = true := by decide +kernel
theorem cv_33_02 : cover (3 / 4) (3 / 4) (1 / 100000) 40 1 (Bx.sub (Bx.sub (Bx.mk 0 13 0 10) 0) 2) = true := by decide +kernel
theorem cv_33_03 : cover (3 / 4) (3 / 4) (1 / 100000) 40 1 (Bx.sub (Bx.sub (Bx.mk 0 13 0 10) 0) 3) = true := by decide +kernel
theorem cv_33_0 : cover (3 / 4) (3 / 4) (1 / 100000) 40 2 (Bx.sub (Bx.mk 0 13 0 10) 0) = true := cover_of cv_33_00 cv_33_01 cv_33_02 cv_33_03
theorem cv_33_10 : cover (3 / 4) (3 / 4) (1 / 100000) 40 1 (Bx.sub (Bx.sub (Bx.mk 0 13 0 10) 1) 0) = true := by decide +kernel
theorem cv_33_11 : cover (3 / 4) (3 / 4) (1 / 100000) 40 1 (Bx.sub (Bx.sub (Bx.mk 0 13 0 10) 1) 1) = true := by decide +kernel
theorem cv_33_12 : cover (3 / 4) (3 / 4) (1 / 100000) 40 1 (Bx.sub (Bx.sub (Bx.mk 0 13 0 10) 1) 2) = true := by decide +kernel
theorem cv_33_13 : cover (3 / 4) (3 / 4) (1 / 100000) 40 1 (Bx.sub (Bx.sub (Bx.mk 0 13 0 10) 1) 3) = true := by decide +kernel
theorem cv_33_1 : cover (3 / 4) (3 / 4) (1 / 100000) 40 2 (Bx.sub (Bx.mk 0 13 0 10) 1) = true := cover_of cv_33_10 cv_33_11 cv_33_12 cv_33_13
theorem cv_33_20 : cover (3 / 4) (3 / 4) (1 / 100000) 40 1 (Bx.sub (Bx.sub (Bx.mk 0 13 0 10) 2) 0) = true := by decide +kernel
theorem cv_33_21 : cover (3 / 4) (3 / 4) (1 / 100000) 40 1 (Bx.sub (Bx.sub (Bx.mk 0 13 0 10) 2) 1) = true := by decide +kernel
theorem cv_33_22 : cover (3 / 4) (3 / 4) (1 / 100000) 40 1 (Bx.sub (Bx.sub (Bx.mk 0 13 0 10) 2) 2) = true := by decide +kernel
theorem cv_33_23 : cover (3 / 4) (3 / 4) (1 / 100000) 40 1 (Bx.sub (Bx.sub (Bx.mk 0 13 0 10) 2) 3) = true := by decide +kernel
theorem cv_33_2 : cover (3 / 4) (3 / 4) (1 / 100000) 40 2 (Bx.sub (Bx.mk 0 13 0 10) 2) = true := cover_of cv_33_20 cv_33_21 cv_33_22 cv_33_23
theorem cv_33_30 : cover (3 / 4) (3 / 4) (1 / 100000) 40 1 (Bx.sub (Bx.sub (Bx.mk 0 13 0 10) 3) 0) = true := by decide +kernel
theorem cv_33_31 : cover (3 / 4) (3 / 4) (1 / 100000) 40 1 (Bx.sub (Bx.sub (Bx.mk 0 13 0 10) 3) 1) = true := by decide +kernel
theorem cv_33_32 : cover (3 / 4) (3 / 4) (1 / 100000) 40 1 (Bx.sub (Bx.sub (Bx.mk 0 13 0 10) 3) 2) = true := by decide +kernel
theorem cv_33_33 : cover (3 / 4) (3 / 4) (1 / 100000) 40 1 (Bx.sub (Bx.sub (Bx.mk 0 13 0 10) 3) 3) = true := by decide +kernel
theorem cv_33_3 : cover (3 / 4) (3 / 4) (1 / 100000) 40 2 (Bx.sub (Bx.mk 0 13 0 10) 3) = true := cover_of cv_33_30 cv_33_31 cv_33_32 cv_33_33
theorem cv_33 : cover (3 / 4) (3 / 4) (1 / 100000) 40 3 (Bx.mk 0 13 0 10) = true := cover_of cv_33_0 cv_33_1 cv_33_2 cv_33_3
end Go.Fw
