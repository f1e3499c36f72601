/- The sine's polynomial does not rise faster than its angle; the sine of a word. No condition. -/
import Derived.Test.YtalhiopcegnobaaSEq4
set_option linter.unusedVariables false
set_option linter.unusedSimpArgs false
namespace Go.Fw
open Ieee

theorem Sz_poly (z : Rat) : Sz z = z - z * z * z / 6 + z * z * (z * z * z) / 120 - z * z * (z * z * (z * z * z)) / 5040 + z * z * (z * z * (z * z * (z * z * z))) / 362880 - z * z * (z * z * (z * z * (z * z * (z * z * z)))) / 39916800
    + z * z * (z * z * (z * z * (z * z * (z * z * (z * z * z))))) / 6227020800 - z * z * (z * z * (z * z * (z * z * (z * z * (z * z * (z * z * z)))))) / 1307674368000 + z * z * (z * z * (z * z * (z * z * (z * z * (z * z * (z * z * (z * z * z))))))) / 355687428096000 := by
  unfold Sz pol pol pol pol pol pol pol pol pol
  have e1 : (((0 + 1 : Nat)) : Rat) = 1 := rfl
  have e2 : (((1 + 1 : Nat)) : Rat) = 2 := rfl
  have e3 : (((2 + 1 : Nat)) : Rat) = 3 := rfl
  have e4 : (((3 + 1 : Nat)) : Rat) = 4 := rfl
  have e5 : (((4 + 1 : Nat)) : Rat) = 5 := rfl
  have e6 : (((5 + 1 : Nat)) : Rat) = 6 := rfl
  have e7 : (((6 + 1 : Nat)) : Rat) = 7 := rfl
  have e8 : (((7 + 1 : Nat)) : Rat) = 8 := rfl
  rw [e1, e2, e3, e4, e5, e6, e7, e8]
  grind

/-- The slope. -/
theorem Sz_lip {z y : Rat} (hz : In z (1571 / 1000)) (hy : In y (1571 / 1000)) : ∃ D, Sz z - Sz y = (z - y) * D ∧ In D (1026 / 1000) := by
  -- powers
  have z2 := hz.mul hz
  have y2 := hy.mul hy
  have z20 := sq_nn z
  have y20 := sq_nn y
  have zy := hz.mul hy
  have y3 := (y2.mul hy).mono (N := 38774 / 10000) (by decide +kernel)
  have y5 := (y2.mul y3).mono (N := 957 / 100) (by decide +kernel)
  have y7 := (y2.mul y5).mono (N := 2362 / 100) (by decide +kernel)
  have y9 := (y2.mul y7).mono (N := 5831 / 100) (by decide +kernel)
  have y11 := (y2.mul y9).mono (N := 1440 / 10) (by decide +kernel)
  have y13 := (y2.mul y11).mono (N := 3555 / 10) (by decide +kernel)
  have y15 := (y2.mul y13).mono (N := 8775 / 10) (by decide +kernel)
  have hs := (hz.add hy).mono (N := 3142 / 1000) (by decide +kernel)
  have Z2 : In (z * z) (24681 / 10000) := z2.mono (by decide +kernel)
  -- the quotients of the differences of powers
  have h2 : ∃ h2, z * z * z - y * y * y = (z - y) * h2 ∧ h2 = z * z + z * y + y * y := ⟨_, by grind, rfl⟩
  obtain ⟨h2, a2, d2⟩ := h2
  have b2 : 0 ≤ h2 ∧ h2 ≤ 7405 / 1000 := by
    have q1 := sq_nn (z + y)
    have q2 := sq_nn (z - y)
    have := Z2.2
    have := (y2.mono (N := 24681 / 10000) (by decide +kernel)).2
    exact ⟨by grind, by grind⟩
  have up : ∀ {hk zk yk : Rat}, zk - yk = (z - y) * hk → z * z * zk - y * y * yk = (z - y) * (z * z * hk + yk * (z + y)) := by
    intro hk zk yk h
    have e : z * z * zk - y * y * yk = z * z * (zk - yk) + yk * ((z - y) * (z + y)) := by grind
    rw [e, h]; grind
  have a4 := up a2
  have a6 := up a4
  have a8 := up a6
  have a10 := up a8
  have a12 := up a10
  have a14 := up a12
  have a16 := up a14
  have b4 : 0 ≤ z * z * h2 + y * y * y * (z + y) ∧ z * z * h2 + y * y * y * (z + y) ≤ 49362 / 10000 * h2 := by
    have e1 : z * z * h2 + y * y * y * (z + y) = (z * z + y * y) * h2 - z * z * (y * y) := by rw [d2]; grind
    have q1 := Rat.mul_nonneg z20 y20
    have q2 := sq_nn (z * z + z * y / 2)
    have q3 := sq_nn (y * y + z * y / 2)
    have e2 : z * z * h2 + y * y * y * (z + y) = (z * z + z * y / 2) * (z * z + z * y / 2) + (y * y + z * y / 2) * (y * y + z * y / 2) + z * z * (y * y) / 2 := by rw [d2]; grind
    have hl : z * z + y * y ≤ 49362 / 10000 := by
      have := Z2.2
      have := (y2.mono (N := 24681 / 10000) (by decide +kernel)).2
      grind
    have q4 := Rat.mul_le_mul_of_nonneg_right hl b2.1
    exact ⟨by rw [e2]; grind, by rw [e1]; grind⟩
  generalize hh4 : z * z * h2 + y * y * y * (z + y) = h4 at *
  have c4 : In h4 (366 / 10) := ⟨by grind, by grind⟩
  have c6 := ((Z2.mul c4).add (y5.mul hs)).mono (N := 1205 / 10) (by decide +kernel)
  generalize z * z * h4 + y * y * (y * y * y) * (z + y) = h6 at *
  have c8 := ((Z2.mul c6).add (y7.mul hs)).mono (N := 372) (by decide +kernel)
  generalize z * z * h6 + y * y * (y * y * (y * y * y)) * (z + y) = h8 at *
  have c10 := ((Z2.mul c8).add (y9.mul hs)).mono (N := 1102) (by decide +kernel)
  generalize z * z * h8 + y * y * (y * y * (y * y * (y * y * y))) * (z + y) = h10 at *
  have c12 := ((Z2.mul c10).add (y11.mul hs)).mono (N := 3173) (by decide +kernel)
  generalize z * z * h10 + y * y * (y * y * (y * y * (y * y * (y * y * y)))) * (z + y) = h12 at *
  have c14 := ((Z2.mul c12).add (y13.mul hs)).mono (N := 8950) (by decide +kernel)
  generalize z * z * h12 + y * y * (y * y * (y * y * (y * y * (y * y * (y * y * y))))) * (z + y) = h14 at *
  have c16 := ((Z2.mul c14).add (y15.mul hs)).mono (N := 24850) (by decide +kernel)
  generalize z * z * h14 + y * y * (y * y * (y * y * (y * y * (y * y * (y * y * (y * y * y)))))) * (z + y) = h16 at *
  refine ⟨1 - h2 / 6 + h4 / 120 - h6 / 5040 + h8 / 362880 - h10 / 39916800 + h12 / 6227020800 - h14 / 1307674368000 + h16 / 355687428096000, ?_, ?_⟩
  · rw [Sz_poly, Sz_poly]
    generalize z * z * z = zp3 at *
    generalize y * y * y = yp3 at *
    generalize z * z * zp3 = zp5 at *
    generalize y * y * yp3 = yp5 at *
    generalize z * z * zp5 = zp7 at *
    generalize y * y * yp5 = yp7 at *
    generalize z * z * zp7 = zp9 at *
    generalize y * y * yp7 = yp9 at *
    generalize z * z * zp9 = zp11 at *
    generalize y * y * yp9 = yp11 at *
    generalize z * z * zp11 = zp13 at *
    generalize y * y * yp11 = yp13 at *
    generalize z * z * zp13 = zp15 at *
    generalize y * y * yp13 = yp15 at *
    generalize z * z * zp15 = zp17 at *
    generalize y * y * yp15 = yp17 at *
    clear c4 c6 c8 c10 c12 c14 c16 b4 b2 d2 hh4 y3 y5 y7 y9 y11 y13 y15 Z2 z2 y2 z20 y20 zy hs hz hy up
    grind
  · have := c6.1; have := c6.2; have := c8.1; have := c8.2; have := c10.1; have := c10.2; have := c12.1; have := c12.2; have := c14.1; have := c14.2; have := c16.1; have := c16.2
    have := b4.1; have := b4.2; have := b2.1; have := b2.2
    clear a2 a4 a6 a8 a10 a12 a14 a16
    exact ⟨by grind, by grind⟩

/-- The polynomial is not greater than 1, nearly. -/
theorem Sz_le {z : Rat} (hz : In z (1571 / 1000)) : In (Sz z) (10052 / 10000) := by
  have key : ∀ z : Rat, 0 ≤ z → z ≤ 1571 / 1000 → 0 ≤ Sz z ∧ Sz z ≤ 10052 / 10000 := fun z z0 z1 => by
    have hU0 := sq_nn z
    have hU : z * z ≤ 247 / 100 := by have := sq_le z0 z1; grind
    obtain ⟨q, q0, q1, hq⟩ : ∃ q, 0 ≤ q ∧ q ≤ 1 ∧ pol (z * z) 8 1 = 1 - z * z * (1 - z * z * q / 20) / 6 := by
      have s8 := pol_step (a := 1) hU0 hU (by decide) (by decide) (show (6 : Rat) ≤ 272 by decide +kernel)
      have s7 := pol_step hU0 hU s8.1 s8.2 (show (6 : Rat) ≤ 210 by decide +kernel)
      have s6 := pol_step hU0 hU s7.1 s7.2 (show (6 : Rat) ≤ 156 by decide +kernel)
      have s5 := pol_step hU0 hU s6.1 s6.2 (show (6 : Rat) ≤ 110 by decide +kernel)
      have s4 := pol_step hU0 hU s5.1 s5.2 (show (6 : Rat) ≤ 72 by decide +kernel)
      have s3 := pol_step hU0 hU s4.1 s4.2 (show (6 : Rat) ≤ 42 by decide +kernel)
      refine ⟨_, s3.1, s3.2, ?_⟩
      unfold pol pol pol pol pol pol pol pol pol
      have e1 : (((0 + 1 : Nat)) : Rat) = 1 := rfl
      have e2 : (((1 + 1 : Nat)) : Rat) = 2 := rfl
      have e3 : (((2 + 1 : Nat)) : Rat) = 3 := rfl
      have e4 : (((3 + 1 : Nat)) : Rat) = 4 := rfl
      have e5 : (((4 + 1 : Nat)) : Rat) = 5 := rfl
      have e6 : (((5 + 1 : Nat)) : Rat) = 6 := rfl
      have e7 : (((6 + 1 : Nat)) : Rat) = 7 := rfl
      have e8 : (((7 + 1 : Nat)) : Rat) = 8 := rfl
      rw [e1, e2, e3, e4, e5, e6, e7, e8]
      grind
    unfold Sz
    rw [hq]
    have u0 := hU0
    have uq := Rat.mul_nonneg hU0 q0
    have uq1 : z * z * q ≤ z * z := by
      have := Rat.mul_le_mul_of_nonneg_left q1 hU0
      grind
    have p1 : 0 ≤ 1 - z * z * q / 20 := by grind
    have p2 : 1 - z * z * q / 20 ≤ 1 := by grind
    have up0 := Rat.mul_nonneg hU0 p1
    have up1 : z * z * (1 - z * z * q / 20) ≤ z * z := by
      have := Rat.mul_le_mul_of_nonneg_left p2 hU0
      grind
    have uu := Rat.mul_le_mul_of_nonneg_left uq1 hU0
    have low : z * z * (1 - z * z / 20) ≤ z * z * (1 - z * z * q / 20) := Rat.mul_le_mul_of_nonneg_left (by grind) hU0
    have f1 := Rat.mul_nonneg z0 (show 0 ≤ 1 - z * z * (1 - z * z * q / 20) / 6 by grind)
    refine ⟨f1, ?_⟩
    have f2 := Rat.mul_le_mul_of_nonneg_left (show 1 - z * z * (1 - z * z * q / 20) / 6 ≤ 1 - z * z * (1 - z * z / 20) / 6 by grind) z0
    refine Rat.le_trans f2 ?_
    -- a polynomial of one number
    obtain ⟨w, hw⟩ : ∃ w, z = 1571 / 1000 - w := ⟨1571 / 1000 - z, by grind⟩
    have w0 : 0 ≤ w := by grind
    have w1 : w ≤ 1571 / 1000 := by grind
    have ww := sq_nn w
    have ww1 : w * w ≤ 24681 / 10000 := by have := sq_le w0 w1; grind
    have w3 := Rat.mul_nonneg w0 ww
    have w4 := Rat.mul_nonneg ww (show 0 ≤ 24681 / 10000 - w * w by grind)
    have w5 := Rat.mul_nonneg w3 ww
    rw [hw]
    grind
  rcases Rat.le_total (a := 0) (b := z) with h | h
  · obtain ⟨a, b⟩ := key z h hz.2
    exact ⟨by grind, b⟩
  · obtain ⟨a, b⟩ := key (-z) (by grind) (by have := hz.1; grind)
    rw [Sz_odd] at a b
    exact ⟨by grind, by grind⟩
end Go.Fw
