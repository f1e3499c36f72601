/- FnTurnsBetween: the turn between two vectors. No condition. -/
import Derived.Test.YthmpjkfccbchfaaFEq8
set_option linter.unusedVariables false
set_option linter.unusedSimpArgs false
namespace Go.Fw

/-! ### the law in rational numbers -/
section
variable (w a1 a2 a3 b1 b2 b3 : Rat)
theorem tb1 : px w (a2 * b3 - a3 * b2) (a3 * b1 - a1 * b3) (a1 * b2 - a2 * b1) a1 a2 a3 = ((w - (a1 * b1 + a2 * b2 + a3 * b3)) * (w - (a1 * b1 + a2 * b2 + a3 * b3)) - (a1 * a1 + a2 * a2 + a3 * a3) * (b1 * b1 + b2 * b2 + b3 * b3)) * a1 + 2 * w * (a1 * a1 + a2 * a2 + a3 * a3) * b1 := by unfold px; grind
theorem tb2 : py w (a2 * b3 - a3 * b2) (a3 * b1 - a1 * b3) (a1 * b2 - a2 * b1) a1 a2 a3 = ((w - (a1 * b1 + a2 * b2 + a3 * b3)) * (w - (a1 * b1 + a2 * b2 + a3 * b3)) - (a1 * a1 + a2 * a2 + a3 * a3) * (b1 * b1 + b2 * b2 + b3 * b3)) * a2 + 2 * w * (a1 * a1 + a2 * a2 + a3 * a3) * b2 := by unfold py; grind
theorem tb3 : pz w (a2 * b3 - a3 * b2) (a3 * b1 - a1 * b3) (a1 * b2 - a2 * b1) a1 a2 a3 = ((w - (a1 * b1 + a2 * b2 + a3 * b3)) * (w - (a1 * b1 + a2 * b2 + a3 * b3)) - (a1 * a1 + a2 * a2 + a3 * a3) * (b1 * b1 + b2 * b2 + b3 * b3)) * a3 + 2 * w * (a1 * a1 + a2 * a2 + a3 * a3) * b3 := by unfold pz; grind
theorem tbS : w * w + (a2 * b3 - a3 * b2) * (a2 * b3 - a3 * b2) + (a3 * b1 - a1 * b3) * (a3 * b1 - a1 * b3) + (a1 * b2 - a2 * b1) * (a1 * b2 - a2 * b1) = w * w + (a1 * a1 + a2 * a2 + a3 * a3) * (b1 * b1 + b2 * b2 + b3 * b3) - (a1 * b1 + a2 * b2 + a3 * b3) * (a1 * b1 + a2 * b2 + a3 * b3) := by grind
end

section
variable (k w x y z a b c : Rat)
theorem px_hom : px (w * k) (x * k) (y * k) (z * k) a b c = px w x y z a b c * (k * k) := by unfold px; grind
theorem py_hom : py (w * k) (x * k) (y * k) (z * k) a b c = py w x y z a b c * (k * k) := by unfold py; grind
theorem pz_hom : pz (w * k) (x * k) (y * k) (z * k) a b c = pz w x y z a b c * (k * k) := by unfold pz; grind
end

theorem cancel_r {a b c : Rat} (hc : 0 < c) (h : a * c ≤ b * c) : a ≤ b := by
  refine Rat.not_lt.1 fun hl => ?_
  have := Rat.mul_lt_mul_of_pos_right hl hc
  grind
theorem In.cancel {a M c : Rat} (hc : 0 < c) (h : In (a * c) (M * c)) : In a M := ⟨cancel_r hc (by have := h.1; grind), cancel_r hc h.2⟩

/-- The two factors. A, B: squares; D: the inner product; K: the square of the turn's length. -/
theorem tb_num {m n A B D w K S : Rat} (hm0 : 1 / 5 ≤ m) (hn0 : 1 / 5 ≤ n) (hm : Near (m * m) A (A * (41 / 100000000))) (hn : Near (n * n) B (B * (41 / 100000000))) (hA : 0 ≤ A) (hB : 0 ≤ B) (hD : D * D ≤ A * B)
    (hw : Near w (m * n + D) (m * n * (2 / 10000000))) (hw2 : m * n * (1 / 1025) ≤ w) (hS : S = w * w + A * B - D * D) (hK : Near K S (S * (1 / 2500000))) :
    0 < K ∧ In ((w - D) * (w - D) - A * B) (1 / 1000 * K) ∧ In (n * (2 * w * A) - m * K) (4 / 1000 * m * K) := by
  have hX : 1 / 25 ≤ m * n := by
    have := Rat.mul_le_mul_of_nonneg_left hn0 (show (0 : Rat) ≤ m by grind)
    grind
  have hm1 := hm.1; have hm2 := hm.2; have hn1 := hn.1; have hn2 := hn.2
  have hmm : 0 ≤ m * m := sq_nn m
  have hnn : 0 ≤ n * n := sq_nn n
  have ea : In (A - m * m) (m * m * (42 / 100000000)) := ⟨by grind, by grind⟩
  have eb : In (B - n * n) (n * n * (42 / 100000000)) := ⟨by grind, by grind⟩
  have e1 := ea.mul eb
  have hmn : In (m * m) (m * m) := ⟨by grind, by grind⟩
  have hnn' : In (n * n) (n * n) := ⟨by grind, by grind⟩
  have e2 := hmn.mul eb
  have e3 := ea.mul hnn'
  have hXX : m * m * (n * n) = m * n * (m * n) := by grind
  -- A B against (m n)^2
  have eAB : In (A * B - m * n * (m * n)) (m * n * (m * n) * (841 / 1000000000)) := by
    have q : A * B - m * n * (m * n) = (A - m * m) * (B - n * n) + m * m * (B - n * n) + (A - m * m) * (n * n) := by grind
    rw [q]
    have q2 := sq_nn (m * n)
    have := e1.1; have := e1.2; have := e2.1; have := e2.2; have := e3.1; have := e3.2
    exact ⟨by grind, by grind⟩
  have hnA : In (n * A - m * (m * n)) (m * (m * n) * (42 / 100000000)) := by
    have hnp : In n n := ⟨by grind, by grind⟩
    have := hnp.mul ea
    rw [show n * (A - m * m) = n * A - m * (m * n) by grind] at this
    exact ⟨by have := this.1; grind, by have := this.2; grind⟩
  generalize hXd : m * n = X at *
  have hXX0 := sq_nn X
  -- D and w
  have hDX : In D (X * (1000001 / 1000000)) := In.of_sq (by have := eAB.2; grind) (by grind)
  have hw1 := hw.1; have hw3 := hw.2
  have hwX : w ≤ X * (201 / 100) := by have := hDX.2; grind
  have hpi : In (w - D - X) (X * (2 / 10000000)) := ⟨by grind, by grind⟩
  have hpp : In ((w - D) * (w - D) - X * X) (X * X * (41 / 100000000)) := by
    have h1 : In (w - D + X) (X * (20000003 / 10000000)) := ⟨by have := hpi.1; grind, by have := hpi.2; grind⟩
    have h2 := hpi.mul h1
    rw [show (w - D - X) * (w - D + X) = (w - D) * (w - D) - X * X by grind] at h2
    exact h2.mono (by grind)
  have hpAB : In ((w - D) * (w - D) - A * B) (X * X * (126 / 100000000)) := ⟨by have := hpp.1; have := eAB.2; grind, by have := hpp.2; have := eAB.1; grind⟩
  -- S against 2 w X
  have hwin : In w (X * (201 / 100)) := ⟨by grind, hwX⟩
  have hSX : In (2 * w * X - S) (X * X * (21 / 10000000)) := by
    have h1 := hwin.mul hpi
    have q : 2 * w * X - S = (-2) * (w * (w - D - X)) + ((w - D) * (w - D) - A * B) := by rw [hS]; grind
    rw [q]
    have := h1.1; have := h1.2; have := hpAB.1; have := hpAB.2
    exact ⟨by grind, by grind⟩
  have hwXX := Rat.mul_le_mul_of_nonneg_right hwX (show 0 ≤ X by grind)
  have hwXL := Rat.mul_le_mul_of_nonneg_right hw2 (show 0 ≤ X by grind)
  have hS1 := hSX.1; have hS2 := hSX.2
  have hK1 := hK.1; have hK2 := hK.2
  have hKX : In (2 * w * X - K) (X * X * (4 / 1000000)) := ⟨by grind, by grind⟩
  have hXXp : 1 / 625 ≤ X * X := by have := sq_le (a := 1 / 25) (b := X) (by decide +kernel) hX; grind
  have hKlow : X * X * (1 / 515) ≤ K := by have := hKX.2; grind
  refine ⟨by grind, hpAB.mono (by grind), ?_⟩
  have hmX : In (2 * w * (n * A - m * X)) (m * (X * X) * (17 / 10000000)) := by
    have h1 := hwin.mul hnA
    have q : 2 * w * (n * A - m * X) = 2 * (w * (n * A - m * X)) := by grind
    rw [q]
    have hm3 : 0 ≤ m * (X * X) := Rat.mul_nonneg (by grind) hXX0
    have := h1.1; have := h1.2
    exact ⟨by grind, by grind⟩
  have hmin : In m m := ⟨by grind, by grind⟩
  have hmK := hmin.mul hKX
  have hmKl := Rat.mul_le_mul_of_nonneg_left hKlow (show 0 ≤ m by grind)
  have q : n * (2 * w * A) - m * K = 2 * w * (n * A - m * X) + m * (2 * w * X - K) := by grind
  rw [q]
  have := hmX.1; have := hmX.2; have := hmK.1; have := hmK.2
  exact ⟨by grind, by grind⟩


theorem eq_of_mul {a b c : Rat} (hc : 0 < c) (h : a * c = b * c) : a = b := by
  have h1 : (a - b) * c = 0 := by grind
  rcases Rat.mul_eq_zero.1 h1 with h2 | h2
  · grind
  · rw [h2] at hc; exact absurd hc (by decide)

/-- The first way: over the middle. -/
theorem tb_first {m n w N a1 a2 a3 b1 b2 b3 q0 q1 q2 q3 : Rat} (hm0 : 1 / 5 ≤ m) (hn0 : 1 / 5 ≤ n) (hm : Near (m * m) (a1 * a1 + a2 * a2 + a3 * a3) ((a1 * a1 + a2 * a2 + a3 * a3) * (41 / 100000000))) (hn : Near (n * n) (b1 * b1 + b2 * b2 + b3 * b3) ((b1 * b1 + b2 * b2 + b3 * b3) * (41 / 100000000)))
    (hw : Near w (m * n + (a1 * b1 + a2 * b2 + a3 * b3)) (m * n * (2 / 10000000))) (hw2 : m * n * (1 / 1025) ≤ w)
    (hK : Near (N * N) (w * w + (a2 * b3 - a3 * b2) * (a2 * b3 - a3 * b2) + (a3 * b1 - a1 * b3) * (a3 * b1 - a1 * b3) + (a1 * b2 - a2 * b1) * (a1 * b2 - a2 * b1)) ((w * w + (a2 * b3 - a3 * b2) * (a2 * b3 - a3 * b2) + (a3 * b1 - a1 * b3) * (a3 * b1 - a1 * b3) + (a1 * b2 - a2 * b1) * (a1 * b2 - a2 * b1)) * (1 / 2500000)))
    (h0 : q0 * N = w) (h1 : q1 * N = a2 * b3 - a3 * b2) (h2 : q2 * N = a3 * b1 - a1 * b3) (h3 : q3 * N = a1 * b2 - a2 * b1) (ha : NB a1 a2 a3 (m * (101 / 100))) (hb : NB b1 b2 b3 (n * (101 / 100))) :
    NB (n * px q0 q1 q2 q3 a1 a2 a3 - m * b1) (n * py q0 q1 q2 q3 a1 a2 a3 - m * b2) (n * pz q0 q1 q2 q3 a1 a2 a3 - m * b3) (m * n * (48 / 1000)) := by
  have s1 := sq_nn a1; have s2 := sq_nn a2; have s3 := sq_nn a3; have s4 := sq_nn b1; have s5 := sq_nn b2; have s6 := sq_nn b3
  have hD : (a1 * b1 + a2 * b2 + a3 * b3) * (a1 * b1 + a2 * b2 + a3 * b3) ≤ (a1 * a1 + a2 * a2 + a3 * a3) * (b1 * b1 + b2 * b2 + b3 * b3) := by
    have e := tbS 0 a1 a2 a3 b1 b2 b3
    have p1 := sq_nn (a2 * b3 - a3 * b2); have p2 := sq_nn (a3 * b1 - a1 * b3); have p3 := sq_nn (a1 * b2 - a2 * b1)
    grind
  obtain ⟨k0, k1, k2⟩ := tb_num hm0 hn0 hm hn (by grind) (by grind) hD hw hw2 (tbS w a1 a2 a3 b1 b2 b3) hK
  have g1 := px_hom N q0 q1 q2 q3 a1 a2 a3
  have g2 := py_hom N q0 q1 q2 q3 a1 a2 a3
  have g3 := pz_hom N q0 q1 q2 q3 a1 a2 a3
  rw [h0, h1, h2, h3] at g1 g2 g3
  rw [tb1] at g1
  rw [tb2] at g2
  rw [tb3] at g3
  generalize a1 * a1 + a2 * a2 + a3 * a3 = A at *
  generalize a1 * b1 + a2 * b2 + a3 * b3 = D at *
  generalize b1 * b1 + b2 * b2 + b3 * b3 = B at *
  generalize (w - D) * (w - D) - A * B = E at *
  generalize N * N = K at *
  have kn : K ≠ 0 := by grind
  have eα := div_mul (a := E) kn
  have eγ := div_mul (a := 2 * w * A) kn
  generalize E / K = α at *
  generalize 2 * w * A / K = γ at *
  have j1 : In α (1 / 1000) := In.cancel k0 (by rw [eα]; exact k1)
  have j2 : In (n * γ - m) (4 / 1000 * m) := In.cancel k0 (by
    rw [show (n * γ - m) * K = n * (γ * K) - m * K by grind, eγ]; exact k2)
  have hnin : In n n := ⟨by grind, by grind⟩
  have f : ∀ p a b : Rat, E * a + 2 * w * A * b = p * K → n * p - m * b = n * α * a + (n * γ - m) * b := fun p a b h => by
    have hp : p = α * a + γ * b := eq_of_mul k0 (by rw [← h, ← eα, ← eγ]; grind)
    rw [hp]; grind
  rw [f _ _ _ g1, f _ _ _ g2, f _ _ _ g3]
  have hmn : 0 ≤ m * n := Rat.mul_nonneg (by grind) (by grind)
  exact ((ha.smul (hnin.mul j1)).add (hb.smul j2)).mono (by grind)

/-- The second way: half a turn. -/
theorem tb_second {m n N a1 a2 a3 b1 b2 b3 c1 c2 c3 q0 q1 q2 q3 : Rat} (hm0 : 1 / 5 ≤ m) (hn0 : 1 / 5 ≤ n) (hm : Near (m * m) (a1 * a1 + a2 * a2 + a3 * a3) ((a1 * a1 + a2 * a2 + a3 * a3) * (41 / 100000000))) (hn : Near (n * n) (b1 * b1 + b2 * b2 + b3 * b3) ((b1 * b1 + b2 * b2 + b3 * b3) * (41 / 100000000)))
    (hw : m * n + (a1 * b1 + a2 * b2 + a3 * b3) ≤ m * n * (1 / 1000)) (hc : c1 * a1 + c2 * a2 + c3 * a3 = 0) (hc0 : 1 / 16 ≤ 0 * 0 + c1 * c1 + c2 * c2 + c3 * c3)
    (hK : Near (N * N) (0 * 0 + c1 * c1 + c2 * c2 + c3 * c3) ((0 * 0 + c1 * c1 + c2 * c2 + c3 * c3) * (1 / 2500000)))
    (h0 : q0 * N = 0) (h1 : q1 * N = c1) (h2 : q2 * N = c2) (h3 : q3 * N = c3) (ha : NB a1 a2 a3 (m * (101 / 100))) :
    NB (n * px q0 q1 q2 q3 a1 a2 a3 - m * b1) (n * py q0 q1 q2 q3 a1 a2 a3 - m * b2) (n * pz q0 q1 q2 q3 a1 a2 a3 - m * b3) (m * n * (48 / 1000)) := by
  have g1 := px_hom N q0 q1 q2 q3 a1 a2 a3
  have g2 := py_hom N q0 q1 q2 q3 a1 a2 a3
  have g3 := pz_hom N q0 q1 q2 q3 a1 a2 a3
  rw [h0, h1, h2, h3] at g1 g2 g3
  have i1 : px 0 c1 c2 c3 a1 a2 a3 = -(0 * 0 + c1 * c1 + c2 * c2 + c3 * c3) * a1 := by
    have : px 0 c1 c2 c3 a1 a2 a3 = 2 * c1 * (c1 * a1 + c2 * a2 + c3 * a3) - (0 * 0 + c1 * c1 + c2 * c2 + c3 * c3) * a1 := by unfold px; grind
    rw [this, hc]; grind
  have i2 : py 0 c1 c2 c3 a1 a2 a3 = -(0 * 0 + c1 * c1 + c2 * c2 + c3 * c3) * a2 := by
    have : py 0 c1 c2 c3 a1 a2 a3 = 2 * c2 * (c1 * a1 + c2 * a2 + c3 * a3) - (0 * 0 + c1 * c1 + c2 * c2 + c3 * c3) * a2 := by unfold py; grind
    rw [this, hc]; grind
  have i3 : pz 0 c1 c2 c3 a1 a2 a3 = -(0 * 0 + c1 * c1 + c2 * c2 + c3 * c3) * a3 := by
    have : pz 0 c1 c2 c3 a1 a2 a3 = 2 * c3 * (c1 * a1 + c2 * a2 + c3 * a3) - (0 * 0 + c1 * c1 + c2 * c2 + c3 * c3) * a3 := by unfold pz; grind
    rw [this, hc]; grind
  rw [i1] at g1
  rw [i2] at g2
  rw [i3] at g3
  generalize 0 * 0 + c1 * c1 + c2 * c2 + c3 * c3 = S at *
  generalize N * N = K at *
  have hK1 := hK.1; have hK2 := hK.2
  have k0 : 0 < K := by grind
  have kn : K ≠ 0 := by grind
  have eκ := div_mul (a := S) kn
  generalize S / K = κ at *
  have j1 : In (κ - 1) (1 / 1000000) := In.cancel k0 (by
    rw [show (κ - 1) * K = κ * K - K by grind, eκ]; exact ⟨by grind, by grind⟩)
  have f : ∀ p a b : Rat, -S * a = p * K → n * p - m * b = -(n * a + m * b) + (-(n * (κ - 1))) * a := fun p a b h => by
    have hp : p = -κ * a := eq_of_mul k0 (by rw [← h, ← eκ]; grind)
    rw [hp]; grind
  rw [f _ _ _ g1, f _ _ _ g2, f _ _ _ g3]
  have hnin : In n n := ⟨by grind, by grind⟩
  have hmn : 0 ≤ m * n := Rat.mul_nonneg (by grind) (by grind)
  have hsum : NB (n * a1 + m * b1) (n * a2 + m * b2) (n * a3 + m * b3) (m * n * (46 / 1000)) := by
    refine ⟨?_, Rat.mul_nonneg hmn (by decide +kernel)⟩
    have e : (n * a1 + m * b1) * (n * a1 + m * b1) + (n * a2 + m * b2) * (n * a2 + m * b2) + (n * a3 + m * b3) * (n * a3 + m * b3) = n * n * (a1 * a1 + a2 * a2 + a3 * a3) + m * m * (b1 * b1 + b2 * b2 + b3 * b3) + 2 * (m * n) * (a1 * b1 + a2 * b2 + a3 * b3) := by grind
    rw [e]
    generalize a1 * a1 + a2 * a2 + a3 * a3 = A at *
    generalize a1 * b1 + a2 * b2 + a3 * b3 = D at *
    generalize b1 * b1 + b2 * b2 + b3 * b3 = B at *
    have hm1 := hm.1; have hn1 := hn.1
    have u1 := Rat.mul_le_mul_of_nonneg_left (show A ≤ m * m * (100000042 / 100000000) by have := sq_nn m; grind) (sq_nn n)
    have u2 := Rat.mul_le_mul_of_nonneg_left (show B ≤ n * n * (100000042 / 100000000) by have := sq_nn n; grind) (sq_nn m)
    have u3 := Rat.mul_le_mul_of_nonneg_left hw hmn
    have q := sq_nn (m * n)
    grind
  exact (hsum.neg.add (ha.smul (hnin.mul j1).neg)).mono (by grind)

/-! ### words -/
theorem Ev.R2 {x : Nat} {n : Int} {N : Nat} (h : Ev x n 2 N) : R1 x = (n : Rat) * (1 / 4) := by
  have hw : w2 (-(2 : Nat) : Int) = 1 / 4 := by decide +kernel
  have h1 := h.2.1
  rw [hw] at h1
  exact h1
theorem Ev.R4 {x : Nat} {n : Int} {N : Nat} (h : Ev x n (2 + 2) N) : R1 x = (n : Rat) * (1 / 16) := by
  have hw : w2 (-((2 + 2 : Nat) : Int)) = 1 / 16 := by decide +kernel
  have h1 := h.2.1
  rw [hw] at h1
  exact h1

theorem QV.VE {v : dVec} (h : QV v) : ∃ x y z, Fw.VE v x y z 2 16 := by
  obtain ⟨⟨_, x, hx, _⟩, ⟨_, y, hy, _⟩, _, z, hz, _⟩ := h
  exact ⟨x, y, z, hx, hy, hz⟩

theorem cross_E {a b : dVec} (ha : QV a) (hb : QV b) : finV (t_i_CrossOf a b) ∧ R1 (t_i_CrossOf a b).1 = R1 a.2.1 * R1 b.2.2.1 - R1 a.2.2.1 * R1 b.2.1 ∧ R1 (t_i_CrossOf a b).2.1 = R1 a.2.2.1 * R1 b.1 - R1 a.1 * R1 b.2.2.1 ∧ R1 (t_i_CrossOf a b).2.2.1 = R1 a.1 * R1 b.2.1 - R1 a.2.1 * R1 b.1 := by
  obtain ⟨x, y, z, v⟩ := ha.VE
  obtain ⟨x', y', z', v'⟩ := hb.VE
  obtain ⟨c1, c2, c3⟩ := v.cross v' (by decide) (by decide)
  refine ⟨⟨c1.1, c2.1, c3.1⟩, ?_, ?_, ?_⟩
  · rw [c1.R4, v.2.1.R2, v.2.2.R2, v'.2.1.R2, v'.2.2.R2, Rat.intCast_sub, Rat.intCast_mul, Rat.intCast_mul]; grind
  · rw [c2.R4, v.1.R2, v.2.2.R2, v'.1.R2, v'.2.2.R2, Rat.intCast_sub, Rat.intCast_mul, Rat.intCast_mul]; grind
  · rw [c3.R4, v.1.R2, v.2.1.R2, v'.1.R2, v'.2.1.R2, Rat.intCast_sub, Rat.intCast_mul, Rat.intCast_mul]; grind

theorem inner_E {a b : dVec} (ha : QV a) (hb : QV b) : fin .f32 (t_i_InnerOf a b) ∧ R1 (t_i_InnerOf a b) = R1 a.1 * R1 b.1 + R1 a.2.1 * R1 b.2.1 + R1 a.2.2.1 * R1 b.2.2.1 := by
  obtain ⟨x, y, z, v⟩ := ha.VE
  obtain ⟨x', y', z', v'⟩ := hb.VE
  have c := ((v.1.mul v'.1 (by decide) (by decide)).add (v.2.1.mul v'.2.1 (by decide) (by decide)) (by decide) (by decide)).add (v.2.2.mul v'.2.2 (by decide) (by decide)) (by decide) (by decide)
  refine ⟨c.1, ?_⟩
  have e : R1 (t_i_InnerOf a b) = _ := c.R4
  rw [e, v.1.R2, v.2.1.R2, v.2.2.R2, v'.1.R2, v'.2.1.R2, v'.2.2.R2, Rat.intCast_add, Rat.intCast_add, Rat.intCast_mul, Rat.intCast_mul, Rat.intCast_mul]; grind

theorem quart_lit0 : Quart 0 := by
  have h := quart_of (n := 16) (by decide)
  rw [(quart_tab 16 (by decide)).2.2 rfl] at h
  exact h
theorem quart_lit1 : Quart 1065353216 := by
  have h := quart_of (n := 20) (by decide)
  have e : fdiv .f32 (fofInt .f32 (((20 : Nat) : Int) - 16)) 1082130432 = 1065353216 := by decide +kernel
  rw [e] at h
  exact h
theorem R1_one : R1 1065353216 = 1 := by decide +kernel
theorem R1_zero : R1 0 = 0 := R_zero _

/-- A vector of quarters is zero, or not small. -/
theorem QV.zero_or {v : dVec} (h : QV v) : v = (0, (0, (0, ()))) ∨ 1 / 16 ≤ R1 v.1 * R1 v.1 + R1 v.2.1 * R1 v.2.1 + R1 v.2.2.1 * R1 v.2.2.1 := by
  have p1 := sq_nn (R1 v.1); have p2 := sq_nn (R1 v.2.1); have p3 := sq_nn (R1 v.2.2.1)
  rcases h.1.R.2.2.2.1 with e1 | e1
  · rcases h.2.1.R.2.2.2.1 with e2 | e2
    · rcases h.2.2.R.2.2.2.1 with e3 | e3
      · left
        obtain ⟨v1, v2, v3, ⟨⟩⟩ := v
        simp only at e1 e2 e3
        rw [e1, e2, e3]
      · right; grind
    · right; grind
  · right; grind

/-- The length of a vector of quarters that is not zero. -/
theorem long_Q {v : dVec} (h : QV v) (h0 : 1 / 16 ≤ R1 v.1 * R1 v.1 + R1 v.2.1 * R1 v.2.1 + R1 v.2.2.1 * R1 v.2.2.1) : ∃ n, g_i_LongOf v = some n ∧ fin .f32 n ∧ n < 2 ^ 32 ∧ 1 / 5 ≤ R1 n ∧ R1 n ≤ 7 ∧
    Near (R1 n * R1 n) (R1 v.1 * R1 v.1 + R1 v.2.1 * R1 v.2.1 + R1 v.2.2.1 * R1 v.2.2.1) ((R1 v.1 * R1 v.1 + R1 v.2.1 * R1 v.2.1 + R1 v.2.2.1 * R1 v.2.2.1) * (41 / 100000000)) ∧ NB (R1 v.1) (R1 v.2.1) (R1 v.2.2.1) (R1 n * (101 / 100)) := by
  obtain ⟨vf, v1, v2, v3⟩ := h.R
  obtain ⟨n, a1, a2, a3, a4, a5, a6, a7⟩ := long_R vf v1 v2 v3 (by decide)
  have hN := a6 _ (NB.of v1 v2 v3)
  have h7 := a7.1
  have hlo : 1 / 5 ≤ R1 n := le_of_sq a4 (by unfold tin at h7; grind)
  refine ⟨n, a1, a2, a3, hlo, by unfold tin at hN; grind, a7.mono (by unfold tin; grind), a5.mono (by unfold tin; grind)⟩

/-- A vector across a. -/
theorem across {a : dVec} (ha : QV a) (h0 : 1 / 16 ≤ R1 a.1 * R1 a.1 + R1 a.2.1 * R1 a.2.1 + R1 a.2.2.1 * R1 a.2.2.1) {m : Nat} (hm : fin .f32 m) (hm1 : 1 / 5 ≤ R1 m) (hm2 : R1 m ≤ 7) :
    ∃ r c, g_i_LongOf (t_i_CrossOf a (1065353216, (0, (0, ())))) = some r ∧
      (bif (fle .f32 r (fdiv .f32 m 1149239296)) then g_i_MendTurn (t_i_turnOf 0 (t_i_CrossOf a (0, (1065353216, (0, ()))))) else g_i_MendTurn (t_i_turnOf 0 (t_i_CrossOf a (1065353216, (0, (0, ())))))) = g_i_MendTurn (t_i_turnOf 0 c) ∧
      finV c ∧ (In (R1 c.1) 4 ∧ In (R1 c.2.1) 4 ∧ In (R1 c.2.2.1) 4) ∧ R1 c.1 * R1 a.1 + R1 c.2.1 * R1 a.2.1 + R1 c.2.2.1 * R1 a.2.2.1 = 0 ∧ 1 / 16 ≤ 0 * 0 + R1 c.1 * R1 c.1 + R1 c.2.1 * R1 c.2.1 + R1 c.2.2.1 * R1 c.2.2.1 := by
  have q0 := quart_lit0
  have q1 := quart_lit1
  obtain ⟨f1, x1, x2, x3⟩ := cross_E ha (b := (1065353216, (0, (0, ())))) ⟨q1, q0, q0⟩
  obtain ⟨f2, y1, y2, y3⟩ := cross_E ha (b := (0, (1065353216, (0, ())))) ⟨q0, q1, q0⟩
  dsimp only at x1 x2 x3 y1 y2 y3
  simp only [R1_one, R1_zero] at x1 x2 x3 y1 y2 y3
  obtain ⟨_, v1, v2, v3⟩ := ha.R
  have k0 : fin .f32 1149239296 ∧ R1 1149239296 = 1024 := ⟨(fin_dec _ _).2 (by decide +kernel), by decide +kernel⟩
  obtain ⟨w1, w2⟩ := quot_R hm k0.1 (by rw [k0.2]; decide +kernel) (M := 1) (by
    have e := div_mul (a := R1 m) (b := R1 1149239296) (by rw [k0.2]; decide +kernel)
    rw [k0.2] at e ⊢
    exact ⟨by grind, by grind⟩) (by decide +kernel)
  have hq : Near (R1 (fdiv .f32 m 1149239296)) (R1 m / 1024) (1 / 1000000) := by
    rw [k0.2] at w2
    exact w2.mono (by unfold u32 e32; decide +kernel)
  have em := div_mul (a := R1 m) (b := 1024) (by decide)
  have p1 := sq_nn (R1 a.1); have p2 := sq_nn (R1 a.2.1); have p3 := sq_nn (R1 a.2.2.1)
  have b1 : In (R1 (t_i_CrossOf a (1065353216, (0, (0, ())))).1) 4 := by rw [x1]; exact ⟨by grind, by grind⟩
  have b2 : In (R1 (t_i_CrossOf a (1065353216, (0, (0, ())))).2.1) 4 := by rw [x2]; have := v3.1; have := v3.2; exact ⟨by grind, by grind⟩
  have b3 : In (R1 (t_i_CrossOf a (1065353216, (0, (0, ())))).2.2.1) 4 := by rw [x3]; have := v2.1; have := v2.2; exact ⟨by grind, by grind⟩
  obtain ⟨r, r1, r2, r3, r4, r5, r6, r7⟩ := long_R f1 b1 b2 b3 (by decide)
  have hqq := hq.1
  have hqq2 := hq.2
  refine ⟨r, ?_⟩
  by_cases hz : a.2.1 = 0 ∧ a.2.2.1 = 0
  · -- along X
    obtain ⟨z2, z3⟩ := hz
    simp only [z2, z3, R1_zero] at x1 x2 x3 y1 y2 y3 h0
    have hr := r6 0 ⟨by rw [x1, x2, x3]; grind, by decide⟩
    have hle : fle .f32 r (fdiv .f32 m 1149239296) = true := by
      rw [fle_R r2 w1]
      unfold R1 tin at *
      exact decide_eq_true (by grind)
    refine ⟨t_i_CrossOf a (0, (1065353216, (0, ()))), r1, by rw [hle]; rfl, f2, ⟨by rw [y1]; exact ⟨by grind, by grind⟩, by rw [y2]; exact ⟨by grind, by grind⟩, by rw [y3]; have := v1.1; have := v1.2; exact ⟨by grind, by grind⟩⟩, ?_, ?_⟩
    · simp only [y1, y2, y3, z2, z3, R1_zero]; grind
    · rw [y1, y2, y3]; grind
  · have h16 : 1 / 16 ≤ R1 a.2.1 * R1 a.2.1 + R1 a.2.2.1 * R1 a.2.2.1 := by
      rcases ha.2.1.R.2.2.2.1 with e2 | e2
      · rcases ha.2.2.R.2.2.2.1 with e3 | e3
        · exact absurd ⟨e2, e3⟩ hz
        · grind
      · grind
    have h7 := r7.1
    rw [x1, x2, x3] at h7
    have hlo : 1 / 5 ≤ R1 r := le_of_sq r4 (by unfold tin at h7; grind)
    have hle : fle .f32 r (fdiv .f32 m 1149239296) = false := by
      rw [fle_R r2 w1]
      unfold R1 at *
      exact decide_eq_false (by grind)
    refine ⟨t_i_CrossOf a (1065353216, (0, (0, ()))), r1, by rw [hle]; rfl, f1, ⟨b1, b2, b3⟩, ?_, ?_⟩
    · rw [x1, x2, x3]; grind
    · rw [x1, x2, x3]; grind

/-- Turns that are near turn nearly alike. -/
theorem p_near {t0 t1 t2 t3 q0 q1 q2 q3 a b c : Rat} (h0 : Near t0 q0 (1 / 8000000)) (h1 : Near t1 q1 (1 / 8000000)) (h2 : Near t2 q2 (1 / 8000000)) (h3 : Near t3 q3 (1 / 8000000))
    (i0 : In t0 (1000001 / 1000000)) (i1 : In t1 (1000001 / 1000000)) (i2 : In t2 (1000001 / 1000000)) (i3 : In t3 (1000001 / 1000000)) (ia : In a 4) (ib : In b 4) (ic : In c 4) :
    In (px t0 t1 t2 t3 a b c - px q0 q1 q2 q3 a b c) (13 / 1000000) ∧ In (py t0 t1 t2 t3 a b c - py q0 q1 q2 q3 a b c) (13 / 1000000) ∧ In (pz t0 t1 t2 t3 a b c - pz q0 q1 q2 q3 a b c) (13 / 1000000) := by
  have sw : ∀ {x y : Rat}, Near x y (1 / 8000000) → In x (1000001 / 1000000) → In y (1000002 / 1000000) := fun h hi => ⟨by have := h.2; have := hi.1; grind, by have := h.1; have := hi.2; grind⟩
  have k0 := sw h0 i0; have k1 := sw h1 i1; have k2 := sw h2 i2; have k3 := sw h3 i3
  have pr : ∀ {x y z w : Rat}, Near x y (1 / 8000000) → Near z w (1 / 8000000) → In y (1000002 / 1000000) → In w (1000002 / 1000000) → In (x * z - y * w) (26 / 100000000) := fun h h' hy hw => by
    have := near_mul h h' hy hw
    exact ⟨by have := this.1; grind, by have := this.2; grind⟩
  have m00 := pr h0 h0 k0 k0; have m11 := pr h1 h1 k1 k1; have m22 := pr h2 h2 k2 k2; have m33 := pr h3 h3 k3 k3
  have m01 := pr h0 h1 k0 k1; have m02 := pr h0 h2 k0 k2; have m03 := pr h0 h3 k0 k3
  have m12 := pr h1 h2 k1 k2; have m13 := pr h1 h3 k1 k3; have m23 := pr h2 h3 k2 k3
  have four : ∀ {x y z w : Rat}, In x (26 / 100000000) → In y (26 / 100000000) → In z (26 / 100000000) → In w (26 / 100000000) → In (x + y - z - w) (104 / 100000000) := fun h1 h2 h3 h4 => (((h1.add h2).sub h3).sub h4).mono (by decide +kernel)
  have two : ∀ {x y : Rat}, In x (26 / 100000000) → In y (26 / 100000000) → In (2 * (x + y)) (104 / 100000000) ∧ In (2 * (x - y)) (104 / 100000000) := fun h1 h2 => by
    have a1 := h1.add h2
    have a2 := h1.sub h2
    exact ⟨⟨by have := a1.1; grind, by have := a1.2; grind⟩, ⟨by have := a2.1; grind, by have := a2.2; grind⟩⟩
  refine ⟨?_, ?_, ?_⟩
  · have e : px t0 t1 t2 t3 a b c - px q0 q1 q2 q3 a b c = ((t0 * t0 - q0 * q0) + (t1 * t1 - q1 * q1) - (t2 * t2 - q2 * q2) - (t3 * t3 - q3 * q3)) * a + 2 * ((t1 * t2 - q1 * q2) - (t0 * t3 - q0 * q3)) * b + 2 * ((t1 * t3 - q1 * q3) + (t0 * t2 - q0 * q2)) * c := by unfold px; grind
    rw [e]
    exact ((((four m00 m11 m22 m33).mul ia).add ((two m12 m03).2.mul ib)).add ((two m13 m02).1.mul ic)).mono (by decide +kernel)
  · have e : py t0 t1 t2 t3 a b c - py q0 q1 q2 q3 a b c = 2 * ((t1 * t2 - q1 * q2) + (t0 * t3 - q0 * q3)) * a + ((t0 * t0 - q0 * q0) + (t2 * t2 - q2 * q2) - (t1 * t1 - q1 * q1) - (t3 * t3 - q3 * q3)) * b + 2 * ((t2 * t3 - q2 * q3) - (t0 * t1 - q0 * q1)) * c := by unfold py; grind
    rw [e]
    exact ((((two m12 m03).1.mul ia).add ((four m00 m22 m11 m33).mul ib)).add ((two m23 m01).2.mul ic)).mono (by decide +kernel)
  · have e : pz t0 t1 t2 t3 a b c - pz q0 q1 q2 q3 a b c = 2 * ((t1 * t3 - q1 * q3) - (t0 * t2 - q0 * q2)) * a + 2 * ((t2 * t3 - q2 * q3) + (t0 * t1 - q0 * q1)) * b + ((t0 * t0 - q0 * q0) + (t3 * t3 - q3 * q3) - (t1 * t1 - q1 * q1) - (t2 * t2 - q2 * q2)) * c := by unfold pz; grind
    rw [e]
    exact ((((two m13 m02).2.mul ia).add ((two m23 m01).1.mul ib)).add ((four m00 m33 m11 m22).mul ic)).mono (by decide +kernel)

theorem big64 : (1000 : Rat) ≤ w2 (top .f64) := by
  have h : w2 10 ≤ w2 (top .f64) := w2_le (by decide)
  have e : w2 10 = 1024 := by decide +kernel
  grind

theorem tenth : fin .f64 4591870180066957722 ∧ Near (R .f64 4591870180066957722) (1 / 10) (1 / 1000000000) := ⟨fin64_dec (by decide +kernel), by constructor <;> decide +kernel⟩

/-- What a turn that is nearly the right one does. -/
theorem tb_end {a b : dVec} {t : dTurn} {m n : Nat} (ha : QV a) (hb : QV b) (ht : NT t) (hm : fin .f32 m) (hn : fin .f32 n) (lm : m < 2 ^ 32) (ln : n < 2 ^ 32) (hm1 : 1 / 5 ≤ R1 m) (hn1 : 1 / 5 ≤ R1 n) (hm2 : R1 m ≤ 7) (hn2 : R1 n ≤ 7)
    (hmn : 1 / 20 ≤ R1 m * R1 n) {q0 q1 q2 q3 : Rat} (h0 : Near (R1 t.1) q0 (1 / 8000000)) (h1 : Near (R1 t.2.1) q1 (1 / 8000000)) (h2 : Near (R1 t.2.2.1) q2 (1 / 8000000)) (h3 : Near (R1 t.2.2.2.1) q3 (1 / 8000000))
    (hq : NB (R1 n * px q0 q1 q2 q3 (R1 a.1) (R1 a.2.1) (R1 a.2.2.1) - R1 m * R1 b.1) (R1 n * py q0 q1 q2 q3 (R1 a.1) (R1 a.2.1) (R1 a.2.2.1) - R1 m * R1 b.2.1) (R1 n * pz q0 q1 q2 q3 (R1 a.1) (R1 a.2.1) (R1 a.2.2.1) - R1 m * R1 b.2.2.1) (R1 m * R1 n * (48 / 1000))) :
    ∃ r, g_i_LongOf (t_i_LessVectors (t_i_ScaleVector (t_i_RotateBy t a) n) (t_i_ScaleVector b m)) = some r ∧ flt .f64 (fwide r) (fmul .f64 (fmul .f64 4591870180066957722 (fwide m)) (fwide n)) = true := by
  obtain ⟨af, a1, a2, a3⟩ := ha.R
  obtain ⟨bf, b1, b2, b3⟩ := hb.R
  obtain ⟨i1, i2, i3, i4⟩ := ht.comp
  obtain ⟨_, tf, hS1⟩ := ht
  have hA : NB (R1 a.1) (R1 a.2.1) (R1 a.2.2.1) (69284 / 10000) := (NB.of a1 a2 a3).mono (by decide +kernel)
  obtain ⟨uf, g1, g2, g3, e1, e2, e3, hg, _⟩ := rot_parts tf af i1 i2 i3 i4 rfl hS1 a1 a2 a3 (by decide +kernel) (by decide +kernel) hA
  have hg' := hg.mono (B := 304 / 10000000) (by unfold u32; decide +kernel)
  obtain ⟨d1, d2, d3⟩ := p_near h0 h1 h2 h3 i1 i2 i3 i4 a1 a2 a3
  generalize hS : R1 t.1 * R1 t.1 + R1 t.2.1 * R1 t.2.1 + R1 t.2.2.1 * R1 t.2.2.1 + R1 t.2.2.2.1 * R1 t.2.2.2.1 = S at *
  have hS0 : 0 ≤ S := by have := hS1.1; grind
  have hP := p_NB hS hS0 hA
  have hSA := Rat.mul_le_mul_of_nonneg_right hS1.2 hA.2
  have hu := (hP.add hg').mono (B := 7) (by grind)
  rw [← e1, ← e2, ← e3] at hu
  obtain ⟨u1, u2, u3⟩ := hu.comp
  have nin : In (R1 n) 7 := ⟨by grind, hn2⟩
  have min' : In (R1 m) 7 := ⟨by grind, hm2⟩
  -- one part of the difference
  have part : ∀ {x y : Nat}, fin .f32 x → fin .f32 y → In (R1 x) 7 → In (R1 y) 4 → Ap (fsub .f32 (fmul .f32 x n) (fmul .f32 y m)) (R1 x * R1 n - R1 y * R1 m) (2 / 100000) := fun hx hy ix iy => by
    have p1 := ((Ap.self hx).mul (Ap.self hn) ix nin (ix.mul nin) (by decide +kernel)).mono (f := 3 / 1000000) (by decide +kernel)
    have p2 := ((Ap.self hy).mul (Ap.self hm) iy min' (iy.mul min') (by decide +kernel)).mono (f := 3 / 1000000) (by decide +kernel)
    exact (p1.sub p2 ((ix.mul nin).sub (iy.mul min')) (by decide +kernel)).mono (by decide +kernel)
  have w1 := part uf.1 bf.1 u1 b1
  have w2 := part uf.2.1 bf.2.1 u2 b2
  have w3 := part uf.2.2 bf.2.2 u3 b3
  obtain ⟨f1, y1, z1⟩ := near_err' w1.2
  obtain ⟨f2, y2, z2⟩ := near_err' w2.2
  obtain ⟨f3, y3, z3⟩ := near_err' w3.2
  have hd := ((((NB.of d1 d2 d3).smul nin).add (hg'.smul nin)).add hq).add (NB.of z1 z2 z3)
  have form : ∀ x p q g b f : Rat, x = p + g → R1 n * (p - q) + R1 n * g + (R1 n * q - R1 m * b) + f = x * R1 n - b * R1 m + f := fun x p q g b f h => by rw [h]; grind
  rw [form _ _ _ _ _ _ e1, form _ _ _ _ _ _ e2, form _ _ _ _ _ _ e3] at hd
  have hl := hd.mono (B := R1 m * R1 n * (60 / 1000)) (by
    have c : 7 * (17321 / 10000 * (13 / 1000000)) + 7 * (304 / 10000000) + 17321 / 10000 * (2 / 100000) ≤ (59 / 100000 : Rat) := by decide +kernel
    grind)
  have y1' : R1 (fsub .f32 (fmul .f32 (t_i_RotateBy t a).1 n) (fmul .f32 b.1 m)) = _ := y1
  have y2' : R1 (fsub .f32 (fmul .f32 (t_i_RotateBy t a).2.1 n) (fmul .f32 b.2.1 m)) = _ := y2
  have y3' : R1 (fsub .f32 (fmul .f32 (t_i_RotateBy t a).2.2.1 n) (fmul .f32 b.2.2.1 m)) = _ := y3
  rw [← y1', ← y2', ← y3'] at hl
  have hmn2 : R1 m * R1 n ≤ 49 := by have := (min'.mul nin).2; grind
  obtain ⟨o1, o2, o3⟩ := hl.comp
  obtain ⟨r, k1, k2, k3, k4, _, k6, _⟩ := long_R (t := t_i_LessVectors (t_i_ScaleVector (t_i_RotateBy t a) n) (t_i_ScaleVector b m)) ⟨w1.1, w2.1, w3.1⟩ o1 o2 o3 (by grind)
  refine ⟨r, k1, ?_⟩
  have hr := k6 _ hl
  obtain ⟨wm1, wm2⟩ := wide_R lm hm
  obtain ⟨wn1, wn2⟩ := wide_R ln hn
  obtain ⟨wr1, wr2⟩ := wide_R k3 k2
  have et64 : et .f64 ≤ 1 / 713623846352979940529142984724747568191373312 := et_le _
  have t1 : In (R .f64 4591870180066957722 * R .f64 (fwide m)) 1 := by
    rw [wm2]
    have h1 : In (R .f64 4591870180066957722) (101 / 1000) := ⟨by have := tenth.2.1; grind, by have := tenth.2.2; grind⟩
    exact (h1.mul min').mono (by decide +kernel)
  obtain ⟨s1, s2⟩ := mul_R tenth.1 wm1 t1 (Rat.le_trans (show (1 : Rat) ≤ 1000 by decide +kernel) big64)
  have s3 : Near (R .f64 (fmul .f64 4591870180066957722 (fwide m))) (R1 m / 10) (1 / 10000000) := by
    rw [wm2, un64] at s2
    have h1 := near_mul tenth.2 (Near.refl (x := R1 m) (e := 0) (by decide)) (A := 1 / 10) (B := 7) ⟨by decide +kernel, by decide +kernel⟩ min'
    have h2 := s2.1; have h3 := s2.2; have h4 := h1.1; have h5 := h1.2
    unfold R1 at *
    exact ⟨by grind, by grind⟩
  have t2 : In (R .f64 (fmul .f64 4591870180066957722 (fwide m)) * R .f64 (fwide n)) 10 := by
    rw [wn2]
    have h1 : In (R .f64 (fmul .f64 4591870180066957722 (fwide m))) 1 := ⟨by have := s3.1; grind, by have := s3.2; grind⟩
    exact (h1.mul nin).mono (by decide +kernel)
  obtain ⟨s4, s5⟩ := mul_R s1 wn1 t2 (Rat.le_trans (show (10 : Rat) ≤ 1000 by decide +kernel) big64)
  rw [flt_R wr1 s4, wr2]
  have s6 : R1 m * R1 n * (99 / 1000) ≤ R .f64 (fmul .f64 (fmul .f64 4591870180066957722 (fwide m)) (fwide n)) := by
    rw [wn2, un64] at s5
    have h1 := near_mul s3 (Near.refl (x := R1 n) (e := 0) (by decide)) (A := 1) (B := 7) ⟨by grind, by grind⟩ nin
    have h2 := s5.1; have h4 := h1.1
    unfold R1 at *
    grind
  unfold tin R1 at *
  exact decide_eq_true (by grind)

theorem R_zero_word {x : Nat} (hx : x < 2 ^ 32) (hf : fin .f32 x) (h : R1 x = 0) : x = 0 ∨ x = 2147483648 := by
  have hz : Z .f32 x = 0 := Z_R.2 (by
    have e0 : ((0 : Int) : Rat) = 0 := rfl
    rw [e0, Rat.zero_mul]; exact h)
  have hV : V .f32 x = 0 := by rw [← Z_abs, hz]; rfl
  have hm : x % FloatKind.f32.format.signWeight = 0 := by
    unfold V at hV
    have hB : 0 < FloatKind.f32.format.binade := Nat.two_pow_pos _
    rcases Nat.eq_zero_or_pos (x % FloatKind.f32.format.signWeight) with h1 | h1
    · exact h1
    · have := (mag_lt_iff hB).2 h1
      omega
  have : FloatKind.f32.format.signWeight = 2147483648 := rfl
  rw [this] at hm
  omega

theorem inv_inv {t : dTurn} (h : okT t) (hf : finT t) : ((feq .f32 (t_i_InverseOf (t_i_InverseOf t)).1 t.1) && ((feq .f32 (t_i_InverseOf (t_i_InverseOf t)).2.1 t.2.1) && ((feq .f32 (t_i_InverseOf (t_i_InverseOf t)).2.2.1 t.2.2.1) && ((feq .f32 (t_i_InverseOf (t_i_InverseOf t)).2.2.2.1 t.2.2.2.1) && true)))) = true := by
  have n : ∀ {x : Nat}, okF .f32 x → fin .f32 x → feq .f32 (fneg .f32 (fneg .f32 x)) x = true := fun hx hfx => by
    obtain ⟨a1, b1⟩ := fneg_R hx hfx
    obtain ⟨a2, b2⟩ := fneg_R (fneg_okF _ hx) a1
    rw [feq_R a2 hfx, b2, b1]
    exact decide_eq_true (by grind)
  have e : feq .f32 t.1 t.1 = true := by rw [feq_R hf.1 hf.1]; exact decide_eq_true rfl
  unfold t_i_InverseOf
  dsimp only
  rw [e, n h.2.1 hf.2.1, n h.2.2.1 hf.2.2.1, n h.2.2.2 hf.2.2.2]; rfl

/-- A number times one that is zero. -/
theorem mul_zero_R {x y : Nat} (hx : fin .f32 x) (hy : fin .f32 y) (h : R1 x * R1 y = 0) : fin .f32 (fmul .f32 x y) ∧ R1 (fmul .f32 x y) = 0 := by
  obtain ⟨a, b⟩ := mul_E hx hy (zero_fin .f32) (by rw [R_zero]; exact h)
  exact ⟨a, b.trans h⟩

/-- The middle is not greater, if a length is zero. -/
theorem mid_zero {p i : Nat} (hp : p < 2 ^ 32) (fp : fin .f32 p) (h : R1 p = 0) (fi : fin .f32 i) (hi : R1 i = 0) : fgt .f32 (fadd .f32 p i) (fdiv .f32 p 1149239296) = false := by
  obtain ⟨a, b⟩ := add_E fp fi (zero_fin .f32) (by rw [R_zero]; unfold R1 at *; rw [h, hi]; decide +kernel)
  have hd : fin .f32 (fdiv .f32 p 1149239296) ∧ R1 (fdiv .f32 p 1149239296) = 0 := by
    rcases R_zero_word hp fp h with rfl | rfl
    · exact ⟨(fin_dec _ _).2 (by decide +kernel), by decide +kernel⟩
    · exact ⟨(fin_dec _ _).2 (by decide +kernel), by decide +kernel⟩
  rw [fgt_R a hd.1, b]
  unfold R1 at *
  rw [hd.2, h, hi]
  exact decide_eq_false (by decide +kernel)

theorem mend_turn0 {c : dVec} (cf : finV c) (c1 : In (R1 c.1) 4) (c2 : In (R1 c.2.1) 4) (c3 : In (R1 c.2.2.1) 4) (h : 1 / 16 ≤ 0 * 0 + R1 c.1 * R1 c.1 + R1 c.2.1 * R1 c.2.1 + R1 c.2.2.1 * R1 c.2.2.1) :
    ∃ N t, g_i_MendTurn (t_i_turnOf 0 c) = some t ∧ NT t ∧ 0 < R1 N ∧ Near (R1 N * R1 N) (0 * 0 + R1 c.1 * R1 c.1 + R1 c.2.1 * R1 c.2.1 + R1 c.2.2.1 * R1 c.2.2.1) ((0 * 0 + R1 c.1 * R1 c.1 + R1 c.2.1 * R1 c.2.1 + R1 c.2.2.1 * R1 c.2.2.1) * (1 / 2500000)) ∧
      Near (R1 t.1) (0 / R1 N) (1 / 8000000) ∧ Near (R1 t.2.1) (R1 c.1 / R1 N) (1 / 8000000) ∧ Near (R1 t.2.2.1) (R1 c.2.1 / R1 N) (1 / 8000000) ∧ Near (R1 t.2.2.2.1) (R1 c.2.2.1 / R1 N) (1 / 8000000) := by
  obtain ⟨N, t, _, m2, m3, m4, m5, m6, m7, m8, m9, m10, m11⟩ := mend_R (t := t_i_turnOf 0 c) (B := 4) ⟨zero_fin .f32, cf.1, cf.2.1, cf.2.2⟩ (by show In (R1 0) 4; rw [R1_zero]; exact ⟨by decide, by decide⟩) c1 c2 c3 (by decide) rfl (by
    show _ ≤ R1 0 * R1 0 + R1 c.1 * R1 c.1 + R1 c.2.1 * R1 c.2.1 + R1 c.2.2.1 * R1 c.2.2.1
    rw [R1_zero]; grind)
  have e : R1 (t_i_turnOf 0 c).1 = 0 := R1_zero
  rw [e] at m6 m7
  exact ⟨N, t, m2, ⟨m3, m4, m11⟩, m5, m6, m7, m8, m9, m10⟩

theorem v_FnTurnsBetween (code more : List Int) (hok : okPs [.ro false (.slice (.int .u8)), .ro false (.slice (.int .u8))] (code, more, ())) : g_w_FnTurnsBetween code more = some true := by
  have hc : ∀ x ∈ code, 0 ≤ x ∧ x ≤ 255 := fun x hx => hok.1.2 x hx
  have hm : ∀ x ∈ more, 0 ≤ x ∧ x ≤ 255 := fun x hx => hok.2.1.2 x hx
  unfold g_w_FnTurnsBetween
  cases hL : t_w_r8Long code more
  rotate_left
  · rfl
  obtain ⟨hcl, hml⟩ := r8Long_F' hL
  obtain ⟨a, e1, ha⟩ := rq_R8Small hc hcl
  obtain ⟨b, e2, hb⟩ := rq_R8Small hm hml
  rw [cond_f, e1, opt_bind_some, e2, opt_bind_some]
  -- what is to be shown of each case
  have fin1 : ∀ {m n : Nat} {t : dTurn}, g_i_LongOf a = some m → g_i_LongOf b = some n → g_i_TurnBetween a b = some t → NT t → (feq .f32 m 0 = true ∨ feq .f32 n 0 = true ∨ ∃ r, g_i_LongOf (t_i_LessVectors (t_i_ScaleVector (t_i_RotateBy t a) n) (t_i_ScaleVector b m)) = some r ∧ flt .f64 (fwide r) (fmul .f64 (fmul .f64 4591870180066957722 (fwide m)) (fwide n)) = true) →
      (Option.bind (g_i_LongOf a) fun y3 => Option.bind (g_i_LongOf b) fun y4 => Option.bind (g_i_TurnBetween a b) fun y5 =>
        let e6 := ((feq .f32 (t_i_InverseOf (t_i_InverseOf y5)).1 y5.1) && ((feq .f32 (t_i_InverseOf (t_i_InverseOf y5)).2.1 y5.2.1) && ((feq .f32 (t_i_InverseOf (t_i_InverseOf y5)).2.2.1 y5.2.2.1) && ((feq .f32 (t_i_InverseOf (t_i_InverseOf y5)).2.2.2.1 y5.2.2.2.1) && true))))
        Option.bind (g_i_LengthOfTurn y5) fun y7 =>
        bif (fgt .f64 (t_w_r8Gap (fwide y7) 4607182418800017408) 4547007122018943789) then some false
        else bif (feq .f32 y3 0) then some e6 else bif (feq .f32 y4 0) then some e6 else
          Option.bind (g_i_LongOf (t_i_LessVectors (t_i_ScaleVector (t_i_RotateBy y5 a) y4) (t_i_ScaleVector b y3))) fun y8 =>
          some (flt .f64 (fwide y8) (fmul .f64 (fmul .f64 4591870180066957722 (fwide y3)) (fwide y4)))) = some true := by
    intro m n t hm' hn' ht hNT hcase
    obtain ⟨l, l1, l2⟩ := len_one hNT.2.1 hNT.2.2
    rw [hm', opt_bind_some, hn', opt_bind_some, ht, opt_bind_some]
    dsimp only
    rw [l1, opt_bind_some, l2, cond_f, inv_inv hNT.1 hNT.2.1]
    rcases hcase with h | h | ⟨r, r1, r2⟩
    · rw [h]; rfl
    · rw [h]; cases feq .f32 m 0 <;> rfl
    · rw [r1, opt_bind_some, r2]
      cases feq .f32 m 0 <;> cases feq .f32 n 0 <;> rfl
  rcases ha.zero_or with rfl | ha0
  · -- no first vector
    obtain ⟨bf, b1, b2, b3⟩ := hb.R
    obtain ⟨n, n1, n2, n3, n4, _⟩ := long_R bf b1 b2 b3 (by decide)
    have hl : g_i_LongOf (0, (0, (0, ()))) = some 0 := by decide +kernel
    refine fin1 (m := 0) (n := n) (t := t_i_NoTurn) hl n1 ?_ no_NT (.inl (by decide +kernel))
    obtain ⟨p1, p2⟩ := mul_zero_R (zero_fin .f32) n2 (by rw [R1_zero]; grind)
    obtain ⟨i1, i2⟩ := inner_E (a := (0, (0, (0, ())))) ⟨quart_lit0, quart_lit0, quart_lit0⟩ hb
    have hmid := mid_zero (fmul_okF _ _ _).lt32 p1 p2 i1 (by rw [i2]; dsimp only; rw [R1_zero]; grind)
    unfold g_i_TurnBetween
    dsimp only
    rw [hl, opt_bind_some, n1, opt_bind_some, hmid, cond_f]
    decide +kernel
  · obtain ⟨m, m1, m2, m3, m4, m5, m6, m7⟩ := long_Q ha ha0
    obtain ⟨r, c, r1, r2, cf, ⟨c1, c2, c3⟩, co, c0⟩ := across ha ha0 m2 m4 m5
    obtain ⟨N, t, t1, t2, t3, t4, t5, t6, t7, t8⟩ := mend_turn0 cf c1 c2 c3 c0
    have hNn : R1 N ≠ 0 := by grind
    have other : ∀ {n : Nat}, g_i_LongOf b = some n → fgt .f32 (fadd .f32 (fmul .f32 m n) (t_i_InnerOf a b)) (fdiv .f32 (fmul .f32 m n) 1149239296) = false → g_i_TurnBetween a b = some t := by
      intro n hn' hmid
      unfold g_i_TurnBetween
      dsimp only
      rw [m1, opt_bind_some, hn', opt_bind_some, hmid, cond_f, r1, opt_bind_some, opt_bind_some]
      rw [t1] at r2
      have hp : ∀ o : Option dTurn, (Option.bind o fun y => some y) = o := fun o => by cases o <;> rfl
      rw [hp, hp]
      exact r2
    rcases hb.zero_or with rfl | hb0
    · -- no second vector
      have hl : g_i_LongOf (0, (0, (0, ()))) = some 0 := by decide +kernel
      obtain ⟨p1, p2⟩ := mul_zero_R m2 (zero_fin .f32) (by rw [R1_zero]; grind)
      obtain ⟨i1, i2⟩ := inner_E ha (b := (0, (0, (0, ())))) ⟨quart_lit0, quart_lit0, quart_lit0⟩
      have hmid := mid_zero (fmul_okF _ _ _).lt32 p1 p2 i1 (by rw [i2]; dsimp only; rw [R1_zero]; grind)
      exact fin1 m1 hl (other hl hmid) t2 (.inr (.inl (by decide +kernel)))
    · obtain ⟨n, n1, n2, n3, n4, n5, n6, n7⟩ := long_Q hb hb0
      have m249 : 249 / 1000 ≤ R1 m := le_of_sq (by grind) (by have := m6.1; grind)
      have n249 : 249 / 1000 ≤ R1 n := le_of_sq (by grind) (by have := n6.1; grind)
      have hX : 1 / 20 ≤ R1 m * R1 n := by
        have h1 := Rat.mul_le_mul_of_nonneg_left n249 (show (0 : Rat) ≤ R1 m by grind)
        grind
      have hX2 : R1 m * R1 n ≤ 49 := by
        have h1 : In (R1 m) 7 := ⟨by grind, m5⟩
        have h2 : In (R1 n) 7 := ⟨by grind, n5⟩
        have := (h1.mul h2).2
        grind
      have htop : (100000 : Rat) ≤ w2 (top .f32) := Rat.le_trans (by decide +kernel) big_top
      obtain ⟨p1, p2⟩ := mul_R m2 n2 (M := R1 m * R1 n) ⟨by unfold R1 at *; grind, by unfold R1; grind⟩ (by grind)
      obtain ⟨i1, i2⟩ := inner_E ha hb
      have hD := m7.inner n7
      rw [← i2] at hD
      have et32 := et_le .f32
      have p3 : Near (R1 (fmul .f32 m n)) (R1 m * R1 n) (R1 m * R1 n * (1 / 16000000)) := by
        rw [un32] at p2
        exact p2.mono (by unfold R1 at *; grind)
      obtain ⟨w1, w2⟩ := add_R p1 i1 (M := R1 m * R1 n * (203 / 100)) ⟨by have := p3.1; have := hD.1; unfold R1 at *; grind, by have := p3.2; have := hD.2; unfold R1 at *; grind⟩ (by grind)
      have w3 : Near (R1 (fadd .f32 (fmul .f32 m n) (t_i_InnerOf a b))) (R1 m * R1 n + R1 (t_i_InnerOf a b)) (R1 m * R1 n * (2 / 10000000)) := by
        rw [un32] at w2
        have := w2.1; have := w2.2; have := p3.1; have := p3.2
        unfold R1 at *
        exact ⟨by grind, by grind⟩
      have k0 : fin .f32 1149239296 ∧ R1 1149239296 = 1024 := ⟨(fin_dec _ _).2 (by decide +kernel), by decide +kernel⟩
      have ep := div_mul (a := R1 (fmul .f32 m n)) (b := 1024) (by decide)
      obtain ⟨q1, q2⟩ := quot_R p1 k0.1 (by rw [k0.2]; decide +kernel) (M := R1 m * R1 n * (1 / 1000)) (by
        rw [k0.2]
        exact ⟨by have := p3.1; grind, by have := p3.2; grind⟩) (by grind)
      rw [k0.2] at q2
      have q3 : Near (R1 (fdiv .f32 (fmul .f32 m n) 1149239296)) (R1 m * R1 n / 1024) (R1 m * R1 n * (1 / 1000000000)) := by
        have ex := div_mul (a := R1 m * R1 n) (b := 1024) (by decide)
        have := q2.1; have := q2.2; have := p3.1; have := p3.2
        unfold u32 e32 at *
        exact ⟨by grind, by grind⟩
      have ex := div_mul (a := R1 m * R1 n) (b := 1024) (by decide)
      cases hmid : fgt .f32 (fadd .f32 (fmul .f32 m n) (t_i_InnerOf a b)) (fdiv .f32 (fmul .f32 m n) 1149239296)
      · -- half a turn
        rw [fgt_R w1 q1] at hmid
        have hle := Rat.not_lt.1 (of_decide_eq_false hmid)
        have hsec := tb_second (q0 := 0 / R1 N) (q1 := R1 c.1 / R1 N) (q2 := R1 c.2.1 / R1 N) (q3 := R1 c.2.2.1 / R1 N) m4 n4 m6 n6 (by
          rw [← i2]
          have := w3.1; have := q3.2
          unfold R1 at *
          grind) co c0 t4 (div_mul hNn) (div_mul hNn) (div_mul hNn) (div_mul hNn) m7
        obtain ⟨k, k1, k2⟩ := tb_end ha hb t2 m2 n2 m3 n3 m4 n4 m5 n5 hX t5 t6 t7 t8 hsec
        refine fin1 m1 n1 (other n1 ?_) t2 (.inr (.inr ⟨k, k1, k2⟩))
        rw [fgt_R w1 q1]; exact hmid
      · -- over the middle
        have hmid' := hmid
        rw [fgt_R w1 q1] at hmid
        have hlt := of_decide_eq_true hmid
        have hw2 : R1 m * R1 n * (1 / 1025) ≤ R1 (fadd .f32 (fmul .f32 m n) (t_i_InnerOf a b)) := by
          have := q3.1
          unfold R1 at *
          grind
        obtain ⟨vf, x1, x2, x3⟩ := cross_E ha hb
        obtain ⟨_, a1, a2, a3⟩ := ha.R
        obtain ⟨_, b1, b2, b3⟩ := hb.R
        have wB : In (R1 (fadd .f32 (fmul .f32 m n) (t_i_InnerOf a b))) 1000 := ⟨by grind, by have := w3.2; have := hD.2; grind⟩
        have cB : ∀ {x y z w : Rat}, In x 4 → In y 4 → In z 4 → In w 4 → In (x * y - z * w) 1000 := fun h1 h2 h3 h4 => ((h1.mul h2).sub (h3.mul h4)).mono (by decide +kernel)
        have wsq := sq_le (a := R1 m * R1 n * (1 / 1025)) (by grind) hw2
        have wsq2 := sq_le (a := 1 / 20 * (1 / 1025)) (by decide +kernel) (show 1 / 20 * (1 / 1025) ≤ R1 m * R1 n * (1 / 1025) by grind)
        generalize hwd : fadd .f32 (fmul .f32 m n) (t_i_InnerOf a b) = w at *
        obtain ⟨N', t', g0, g1, g2, g3, g4, g5, g6, g7, g8, g9, g10⟩ := mend_R (t := t_i_turnOf w (t_i_CrossOf a b)) (B := 1000) ⟨w1, vf⟩ wB (by show In (R1 (t_i_CrossOf a b).1) 1000; rw [x1]; exact cB a2 b3 a3 b2) (by show In (R1 (t_i_CrossOf a b).2.1) 1000; rw [x2]; exact cB a3 b1 a1 b3) (by show In (R1 (t_i_CrossOf a b).2.2.1) 1000; rw [x3]; exact cB a1 b2 a2 b1) (by decide +kernel) rfl (by
          have h1 := sq_nn (R1 (t_i_turnOf w (t_i_CrossOf a b)).2.1); have h2 := sq_nn (R1 (t_i_turnOf w (t_i_CrossOf a b)).2.2.1); have h3 := sq_nn (R1 (t_i_turnOf w (t_i_CrossOf a b)).2.2.2.1)
          have hww : R1 (t_i_turnOf w (t_i_CrossOf a b)).1 = R1 w := rfl
          rw [hww]
          have hnum : (1 : Rat) / 1099511627776 ≤ 1 / 20 * (1 / 1025) * (1 / 20 * (1 / 1025)) := by decide +kernel
          grind)
        have hN' : R1 N' ≠ 0 := by grind
        have y0 : R1 (t_i_turnOf w (t_i_CrossOf a b)).1 = R1 w := rfl
        have y1 : R1 (t_i_turnOf w (t_i_CrossOf a b)).2.1 = R1 a.2.1 * R1 b.2.2.1 - R1 a.2.2.1 * R1 b.2.1 := x1
        have y2 : R1 (t_i_turnOf w (t_i_CrossOf a b)).2.2.1 = R1 a.2.2.1 * R1 b.1 - R1 a.1 * R1 b.2.2.1 := x2
        have y3 : R1 (t_i_turnOf w (t_i_CrossOf a b)).2.2.2.1 = R1 a.1 * R1 b.2.1 - R1 a.2.1 * R1 b.1 := x3
        rw [y0, y1, y2, y3] at g5
        rw [y0] at g6
        rw [y1] at g7
        rw [y2] at g8
        rw [y3] at g9
        rw [i2] at w3
        have hfst := tb_first m4 n4 m6 n6 w3 hw2 g5 (div_mul hN') (div_mul hN') (div_mul hN') (div_mul hN') m7 n7
        obtain ⟨k, k1, k2⟩ := tb_end ha hb ⟨g2, g3, g10⟩ m2 n2 m3 n3 m4 n4 m5 n5 hX g6 g7 g8 g9 hfst
        refine fin1 m1 n1 ?_ ⟨g2, g3, g10⟩ (.inr (.inr ⟨k, k1, k2⟩))
        unfold g_i_TurnBetween
        dsimp only
        rw [m1, opt_bind_some, n1, opt_bind_some, hwd, hmid', cond_t, g1, opt_bind_some]
end Go.Fw
