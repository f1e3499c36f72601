/- Springs far from their rest: they come near. No condition. -/
import Derived.Test.YtalhiopcegnobaaSRest1
set_option linter.unusedVariables false
set_option linter.unusedSimpArgs false
namespace Go.Fw

theorem nearR.mono {a b e f : Rat} (h : nearR a b e) (hf : e ≤ f) : nearR a b f := by
  obtain ⟨h1, h2⟩ := h
  unfold nearR
  exact ⟨by grind, by grind⟩

/-- How much of the first place and speed, and of the errors, is in a sum a x + b v, n steps later. -/
def bA (d k : Rat) : Nat → Rat → Rat → Rat
  | 0, a, b => rabs a + rabs b
  | n + 1, a, b => bA d k n (a * (1 - d * k) - b * (d * k)) ((a + b) * d)
def bB (d k : Rat) : Nat → Rat → Rat → Rat
  | 0, a, b => 0
  | n + 1, a, b => rabs (a + b) + rabs a + bB d k n (a * (1 - d * k) - b * (d * k)) ((a + b) * d)

theorem bnd {d k D S : Rat} {X V : Nat → Rat} {m : Nat} (hX : nearR (X m) 0 S) (hV : nearR (V m) 0 S) : ∀ (n : Nat) (a b : Rat),
    (∀ i, i < n → nearR (V (m + i + 1)) (d * (V (m + i) - k * X (m + i))) D ∧ nearR (X (m + i + 1)) (X (m + i) + V (m + i + 1)) D) →
    nearR (a * X (m + n) + b * V (m + n)) 0 (bA d k n a b * S + bB d k n a b * D)
  | 0, a, b, _ => by
    have h1 := rabs_mul (a := a) hX
    have h2 := rabs_mul (a := b) hV
    unfold nearR at *
    simp only [bA, bB, Nat.add_zero]
    exact ⟨by grind, by grind⟩
  | n + 1, a, b, h => by
    have ih := bnd (d := d) (k := k) (D := D) hX hV n (a * (1 - d * k) - b * (d * k)) ((a + b) * d) (fun i hi => h i (by omega))
    obtain ⟨h1, h2⟩ := h n (by omega)
    have e1 := rabs_mul (a := a + b) h1
    have e2 := rabs_mul (a := a) h2
    simp only [bA, bB]
    rw [show m + (n + 1) = m + n + 1 by omega]
    unfold nearR at *
    exact ⟨by grind, by grind⟩

/-- Steps that are near to what they should be, for any place. -/
def Far (d k : Rat) (X V : Nat → Rat) : Prop := ∀ n S, nearR (X n) 0 S → nearR (V n) 0 S → S ≤ 2 ^ 140 →
  nearR (V (n + 1)) (d * (V n - k * X n)) (101 / 100 + S / 1048576) ∧ nearR (X (n + 1)) (X n + V (n + 1)) (101 / 100 + S / 1048576)

def phB (d k c : Rat) : Nat → Bool
  | 0 => true
  | j + 1 => (decide (bA d k j 1 0 + bB d k j 1 0 * c ≤ 16) && decide (bA d k j 0 1 + bB d k j 0 1 * c ≤ 16)) && phB d k c j
theorem phB_at {d k c : Rat} : ∀ (n : Nat), phB d k c n = true → ∀ j, j < n → bA d k j 1 0 + bB d k j 1 0 * c ≤ 16 ∧ bA d k j 0 1 + bB d k j 0 1 * c ≤ 16
  | 0, _, j, hj => by omega
  | n + 1, h, j, hj => by
    simp only [phB] at h
    rw [Bool.and_eq_true, Bool.and_eq_true, decide_eq_true_eq, decide_eq_true_eq] at h
    by_cases hj' : j = n
    · subst hj'; exact h.1
    · exact phB_at n h.2 j (by omega)

/-- Many steps. -/
theorem phase {d k c S : Rat} {X V : Nat → Rat} {m N : Nat} (hF : Far d k X V) (hX : nearR (X m) 0 S) (hV : nearR (V m) 0 S) (hS : 16 * S ≤ 2 ^ 140) (hc : 101 / 100 + 16 * S / 1048576 ≤ c * S) (hp : phB d k c N = true) :
    ∀ n, n ≤ N → nearR (X (m + n)) 0 ((bA d k n 1 0 + bB d k n 1 0 * c) * S) ∧ nearR (V (m + n)) 0 ((bA d k n 0 1 + bB d k n 0 1 * c) * S) := by
  have S0 : 0 ≤ S := by
    unfold nearR at hX; grind
  have key : ∀ n, n ≤ N → ∀ i, i < n → nearR (V (m + i + 1)) (d * (V (m + i) - k * X (m + i))) (c * S) ∧ nearR (X (m + i + 1)) (X (m + i) + V (m + i + 1)) (c * S) := by
    intro n
    induction n with
    | zero => intro _ i hi; omega
    | succ n ih =>
      intro hn i hi
      by_cases h : i < n
      · exact ih (by omega) i h
      · have : i = n := by omega
        subst this
        have hh := ih (by omega)
        have b1 := bnd (d := d) (k := k) hX hV i 1 0 hh
        have b2 := bnd (d := d) (k := k) hX hV i 0 1 hh
        obtain ⟨p1, p2⟩ := phB_at N hp i (by omega)
        have q1 := Rat.mul_le_mul_of_nonneg_right p1 S0
        have q2 := Rat.mul_le_mul_of_nonneg_right p2 S0
        rw [show (1 : Rat) * X (m + i) + 0 * V (m + i) = X (m + i) by grind] at b1
        rw [show (0 : Rat) * X (m + i) + 1 * V (m + i) = V (m + i) by grind] at b2
        obtain ⟨f1, f2⟩ := hF (m + i) (16 * S) (b1.mono (by grind)) (b2.mono (by grind)) hS
        exact ⟨f1.mono hc, f2.mono hc⟩
  intro n hn
  have b1 := bnd (d := d) (k := k) hX hV n 1 0 (key n hn)
  have b2 := bnd (d := d) (k := k) hX hV n 0 1 (key n hn)
  rw [show (1 : Rat) * X (m + n) + 0 * V (m + n) = X (m + n) by grind] at b1
  rw [show (0 : Rat) * X (m + n) + 1 * V (m + n) = V (m + n) by grind] at b2
  exact ⟨b1.mono (by grind), b2.mono (by grind)⟩

/-- 48 steps. -/
def stB (d k c rx rv : Rat) : Bool := phB d k c 48 && (decide (bA d k 48 1 0 + bB d k 48 1 0 * c ≤ rx) && decide (bA d k 48 0 1 + bB d k 48 0 1 * c ≤ rv))
theorem stage {d k c S rx rv : Rat} {X V : Nat → Rat} {m : Nat} (hF : Far d k X V) (hX : nearR (X m) 0 S) (hV : nearR (V m) 0 S) (hS : 16 * S ≤ 2 ^ 140) (hc : 101 / 100 + 16 * S / 1048576 ≤ c * S) (h : stB d k c rx rv = true) :
    nearR (X (m + 48)) 0 (rx * S) ∧ nearR (V (m + 48)) 0 (rv * S) := by
  have S0 : 0 ≤ S := by
    unfold nearR at hX; grind
  unfold stB at h
  rw [Bool.and_eq_true, Bool.and_eq_true, decide_eq_true_eq, decide_eq_true_eq] at h
  obtain ⟨p1, p2⟩ := phase hF hX hV hS hc h.1 48 (by omega)
  have q1 := Rat.mul_le_mul_of_nonneg_right h.2.1 S0
  have q2 := Rat.mul_le_mul_of_nonneg_right h.2.2 S0
  exact ⟨p1.mono q1, p2.mono q2⟩

theorem pow_le {a b : Nat} (h : a ≤ b) : (2 : Rat) ^ a ≤ 2 ^ b := by
  obtain ⟨c, rfl⟩ := Nat.le.dest h
  induction c with
  | zero => exact Rat.le_refl
  | succ c ih =>
    rw [show a + (c + 1) = (a + c) + 1 by omega, Rat.pow_succ]
    have : (0 : Rat) ≤ 2 ^ (a + c) := Rat.pow_nonneg (by decide)
    have := ih (by omega)
    grind

theorem down {d k : Rat} {X V : Nat → Rat} (hF : Far d k X V) (h : stB d k (101 / 102400 + 16 / 1048576) (1 / 16) (1 / 16) = true) : ∀ (j m : Nat), nearR (X m) 0 (2 ^ (8 + 4 * j)) → nearR (V m) 0 (2 ^ (8 + 4 * j)) → 8 + 4 * j ≤ 130 →
    nearR (X (m + 48 * j)) 0 256 ∧ nearR (V (m + 48 * j)) 0 256
  | 0, m, hX, hV, _ => by
    have e : (2 : Rat) ^ (8 + 4 * 0) = 256 := by decide +kernel
    rw [e] at hX hV
    exact ⟨hX, hV⟩
  | j + 1, m, hX, hV, hj => by
    have h1 : (2 : Rat) ^ 12 ≤ 2 ^ (8 + 4 * (j + 1)) := pow_le (by omega)
    have h2 : (2 : Rat) ^ (8 + 4 * (j + 1)) ≤ 2 ^ 130 := pow_le hj
    have e1 : (2 : Rat) ^ 12 = 4096 := by decide +kernel
    have e2 : 16 * (2 : Rat) ^ 130 ≤ 2 ^ 140 := by decide +kernel
    have e3 : (2 : Rat) ^ (8 + 4 * (j + 1)) = 16 * 2 ^ (8 + 4 * j) := by
      rw [show 8 + 4 * (j + 1) = (8 + 4 * j) + 1 + 1 + 1 + 1 by omega, Rat.pow_succ, Rat.pow_succ, Rat.pow_succ, Rat.pow_succ]
      grind
    obtain ⟨s1, s2⟩ := stage hF hX hV (by grind) (by grind) h
    rw [e3] at s1 s2
    obtain ⟨t1, t2⟩ := down hF h j (m + 48) (s1.mono (by grind)) (s2.mono (by grind)) (by omega)
    rw [show m + 48 * (j + 1) = m + 48 + 48 * j by omega]
    exact ⟨t1, t2⟩

/-- All that a pair of numbers needs. -/
def prB (d k bx bv : Rat) : Bool := stB d k (101 / 102400 + 16 / 1048576) (1 / 16) (1 / 16) && (stB d k (101 / 25600 + 16 / 1048576) (40 / 256) (40 / 256) && (stB d k (101 / 4000 + 16 / 1048576) (bx / 40) (bv / 40)))

theorem near_rest {d k bx bv : Rat} (hd : 0 ≤ d) (hk : 0 ≤ k) {X V : Nat → Rat} (hF : Far d k X V) (hP : Path d k (1 / 100000) X V) (h : prB d k bx bv = true) (hc : cover d k (1 / 100000) 40 3 ⟨0, bx, 0, bv⟩ = true) (hX : nearR (X 0) 0 (2 ^ 128)) (hV : nearR (V 0) 0 (2 ^ 128)) :
    ∃ m, m < 1576 ∧ V m = 0 ∧ V (m + 1) = 0 ∧ nearR (X m) 0 32 := by
  unfold prB at h
  rw [Bool.and_eq_true, Bool.and_eq_true] at h
  obtain ⟨h1, h2, h3⟩ := h
  obtain ⟨a1, a2⟩ := down hF h1 30 0 hX hV (by decide)
  have e4 : (40000 : Rat) ≤ 2 ^ 140 := by decide +kernel
  obtain ⟨b1, b2⟩ := stage hF a1 a2 (by grind) (by grind) h2
  have e5 : (40 : Rat) / 256 * 256 = 40 := by decide +kernel
  rw [e5] at b1 b2
  obtain ⟨c1, c2⟩ := stage hF b1 b2 (by grind) (by grind) h3
  have hm : Bx.mem ⟨0, bx, 0, bv⟩ (X (0 + 48 * 30 + 48 + 48)) (V (0 + 48 * 30 + 48 + 48)) := ⟨c1.mono (by dsimp only; grind), c2.mono (by dsimp only; grind)⟩
  obtain ⟨m, m1, m2, m3, m4⟩ := cover_ok hd hk hP _ 3 _ hc hm
  exact ⟨0 + 48 * 30 + 48 + 48 + m, by omega, m2, m3, m4⟩
end Go.Fw
