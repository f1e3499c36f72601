/- Tables of springs near their rest, Damp 1/4 and 1/2. No condition. -/
import Derived.Test.YtalhiopcegnobaaSRest2
set_option linter.unusedVariables false
set_option linter.unusedSimpArgs false
namespace Go.Fw
theorem pr_11 : prB (1 / 4) (1 / 4) 29 4 = true := by decide +kernel
theorem cv_11_0 : cover (1 / 4) (1 / 4) (1 / 100000) 40 2 (Bx.sub (Bx.mk 0 29 0 4) 0) = true := by decide +kernel
theorem cv_11_1 : cover (1 / 4) (1 / 4) (1 / 100000) 40 2 (Bx.sub (Bx.mk 0 29 0 4) 1) = true := by decide +kernel
theorem cv_11_2 : cover (1 / 4) (1 / 4) (1 / 100000) 40 2 (Bx.sub (Bx.mk 0 29 0 4) 2) = true := by decide +kernel
theorem cv_11_3 : cover (1 / 4) (1 / 4) (1 / 100000) 40 2 (Bx.sub (Bx.mk 0 29 0 4) 3) = true := by decide +kernel
theorem cv_11 : cover (1 / 4) (1 / 4) (1 / 100000) 40 3 (Bx.mk 0 29 0 4) = true := cover_of cv_11_0 cv_11_1 cv_11_2 cv_11_3
theorem pr_12 : prB (1 / 4) (1 / 2) 15 4 = true := by decide +kernel
theorem cv_12_0 : cover (1 / 4) (1 / 2) (1 / 100000) 40 2 (Bx.sub (Bx.mk 0 15 0 4) 0) = true := by decide +kernel
theorem cv_12_1 : cover (1 / 4) (1 / 2) (1 / 100000) 40 2 (Bx.sub (Bx.mk 0 15 0 4) 1) = true := by decide +kernel
theorem cv_12_2 : cover (1 / 4) (1 / 2) (1 / 100000) 40 2 (Bx.sub (Bx.mk 0 15 0 4) 2) = true := by decide +kernel
theorem cv_12_3 : cover (1 / 4) (1 / 2) (1 / 100000) 40 2 (Bx.sub (Bx.mk 0 15 0 4) 3) = true := by decide +kernel
theorem cv_12 : cover (1 / 4) (1 / 2) (1 / 100000) 40 3 (Bx.mk 0 15 0 4) = true := cover_of cv_12_0 cv_12_1 cv_12_2 cv_12_3
theorem pr_13 : prB (1 / 4) (3 / 4) 10 4 = true := by decide +kernel
theorem cv_13_0 : cover (1 / 4) (3 / 4) (1 / 100000) 40 2 (Bx.sub (Bx.mk 0 10 0 4) 0) = true := by decide +kernel
theorem cv_13_1 : cover (1 / 4) (3 / 4) (1 / 100000) 40 2 (Bx.sub (Bx.mk 0 10 0 4) 1) = true := by decide +kernel
theorem cv_13_2 : cover (1 / 4) (3 / 4) (1 / 100000) 40 2 (Bx.sub (Bx.mk 0 10 0 4) 2) = true := by decide +kernel
theorem cv_13_3 : cover (1 / 4) (3 / 4) (1 / 100000) 40 2 (Bx.sub (Bx.mk 0 10 0 4) 3) = true := by decide +kernel
theorem cv_13 : cover (1 / 4) (3 / 4) (1 / 100000) 40 3 (Bx.mk 0 10 0 4) = true := cover_of cv_13_0 cv_13_1 cv_13_2 cv_13_3
theorem pr_21 : prB (1 / 2) (1 / 4) 13 4 = true := by decide +kernel
theorem cv_21_0 : cover (1 / 2) (1 / 4) (1 / 100000) 40 2 (Bx.sub (Bx.mk 0 13 0 4) 0) = true := by decide +kernel
theorem cv_21_1 : cover (1 / 2) (1 / 4) (1 / 100000) 40 2 (Bx.sub (Bx.mk 0 13 0 4) 1) = true := by decide +kernel
theorem cv_21_2 : cover (1 / 2) (1 / 4) (1 / 100000) 40 2 (Bx.sub (Bx.mk 0 13 0 4) 2) = true := by decide +kernel
theorem cv_21_3 : cover (1 / 2) (1 / 4) (1 / 100000) 40 2 (Bx.sub (Bx.mk 0 13 0 4) 3) = true := by decide +kernel
theorem cv_21 : cover (1 / 2) (1 / 4) (1 / 100000) 40 3 (Bx.mk 0 13 0 4) = true := cover_of cv_21_0 cv_21_1 cv_21_2 cv_21_3
theorem pr_22 : prB (1 / 2) (1 / 2) 8 5 = true := by decide +kernel
theorem cv_22_0 : cover (1 / 2) (1 / 2) (1 / 100000) 40 2 (Bx.sub (Bx.mk 0 8 0 5) 0) = true := by decide +kernel
theorem cv_22_1 : cover (1 / 2) (1 / 2) (1 / 100000) 40 2 (Bx.sub (Bx.mk 0 8 0 5) 1) = true := by decide +kernel
theorem cv_22_2 : cover (1 / 2) (1 / 2) (1 / 100000) 40 2 (Bx.sub (Bx.mk 0 8 0 5) 2) = true := by decide +kernel
theorem cv_22_3 : cover (1 / 2) (1 / 2) (1 / 100000) 40 2 (Bx.sub (Bx.mk 0 8 0 5) 3) = true := by decide +kernel
theorem cv_22 : cover (1 / 2) (1 / 2) (1 / 100000) 40 3 (Bx.mk 0 8 0 5) = true := cover_of cv_22_0 cv_22_1 cv_22_2 cv_22_3
theorem pr_23 : prB (1 / 2) (3 / 4) 7 5 = true := by decide +kernel
theorem cv_23_0 : cover (1 / 2) (3 / 4) (1 / 100000) 40 2 (Bx.sub (Bx.mk 0 7 0 5) 0) = true := by decide +kernel
theorem cv_23_1 : cover (1 / 2) (3 / 4) (1 / 100000) 40 2 (Bx.sub (Bx.mk 0 7 0 5) 1) = true := by decide +kernel
theorem cv_23_2 : cover (1 / 2) (3 / 4) (1 / 100000) 40 2 (Bx.sub (Bx.mk 0 7 0 5) 2) = true := by decide +kernel
theorem cv_23_3 : cover (1 / 2) (3 / 4) (1 / 100000) 40 2 (Bx.sub (Bx.mk 0 7 0 5) 3) = true := by decide +kernel
theorem cv_23 : cover (1 / 2) (3 / 4) (1 / 100000) 40 3 (Bx.mk 0 7 0 5) = true := cover_of cv_23_0 cv_23_1 cv_23_2 cv_23_3
end Go.Fw
