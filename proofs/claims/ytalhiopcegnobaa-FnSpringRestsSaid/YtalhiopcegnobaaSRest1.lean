/- Springs near their rest: places and speeds in units of the least number that is not subnormal. No condition. -/
import Derived.Test.YtalhiopcegnobaaFwE
set_option linter.unusedVariables false
set_option linter.unusedSimpArgs false
namespace Go.Fw

/-- Flushed: what is less than 1 is 0. -/
def Fl (y v : Rat) : Prop := (v = 0 ∧ -1 < y ∧ y < 1) ∨ (v = y ∧ (1 ≤ y ∨ y ≤ -1))
def nearR (a b e : Rat) : Prop := a - b ≤ e ∧ b - a ≤ e

/-- One step near the rest. -/
def Low (d k t : Rat) (x v x' v' : Rat) : Prop :=
  ∃ y w, nearR y (d * (v - k * x)) t ∧ Fl y v' ∧ nearR w (x + v') t ∧ Fl w x' ∧ (v' = 0 → x' = x)

def rabs (a : Rat) : Rat := if a < 0 then -a else a
theorem rabs_mul {a p c h : Rat} (h1 : nearR p c h) : nearR (a * p) (a * c) (rabs a * h) := by
  obtain ⟨h2, h3⟩ := h1
  unfold rabs nearR
  split
  · rename_i hl
    have := Rat.mul_le_mul_of_nonneg_left h2 (show 0 ≤ -a by grind)
    have := Rat.mul_le_mul_of_nonneg_left h3 (show 0 ≤ -a by grind)
    exact ⟨by grind, by grind⟩
  · rename_i hl
    have := Rat.mul_le_mul_of_nonneg_left h2 (show 0 ≤ a by grind)
    have := Rat.mul_le_mul_of_nonneg_left h3 (show 0 ≤ a by grind)
    exact ⟨by grind, by grind⟩

/-- A form a p + b q, known but for e. -/
structure Fm where
  a : Rat
  b : Rat
  e : Rat
def Fm.mem (f : Fm) (p q x : Rat) : Prop := nearR x (f.a * p + f.b * q) f.e
/-- A box: middle and half of the width, twice. -/
structure Bx where
  p : Rat
  h : Rat
  q : Rat
  g : Rat
def Bx.mem (c : Bx) (p q : Rat) : Prop := nearR p c.p c.h ∧ nearR q c.q c.g
def Fm.mid (f : Fm) (c : Bx) : Rat := f.a * c.p + f.b * c.q
def Fm.rad (f : Fm) (c : Bx) : Rat := rabs f.a * c.h + rabs f.b * c.g + f.e
theorem Fm.range {f : Fm} {c : Bx} {p q x : Rat} (h : f.mem p q x) (hc : c.mem p q) : f.mid c - f.rad c ≤ x ∧ x ≤ f.mid c + f.rad c := by
  have h1 := rabs_mul (a := f.a) hc.1
  have h2 := rabs_mul (a := f.b) hc.2
  obtain ⟨h3, h4⟩ := h
  unfold Fm.mid Fm.rad
  unfold nearR at h1 h2
  exact ⟨by grind, by grind⟩

def Fm.zero : Fm := ⟨0, 0, 0⟩
def Fm.nil (f : Fm) : Bool := decide (f.a = 0) && (decide (f.b = 0) && decide (f.e = 0))
theorem Fm.nil_mem {f : Fm} (hn : f.nil = true) {p q x : Rat} (h : f.mem p q x) : x = 0 := by
  unfold Fm.nil at hn
  rw [Bool.and_eq_true, Bool.and_eq_true, decide_eq_true_eq, decide_eq_true_eq, decide_eq_true_eq] at hn
  obtain ⟨h1, h2, h3⟩ := hn
  obtain ⟨h4, h5⟩ := h
  rw [h1, h2, h3] at h4 h5
  grind

def spd (d k t : Rat) (x v : Fm) : Fm := ⟨d * (v.a - k * x.a), d * (v.b - k * x.b), d * v.e + d * k * x.e + t⟩
def plc (t : Rat) (x v : Fm) : Fm := ⟨x.a + v.a, x.b + v.b, x.e + v.e + t⟩

/-- May be flushed; may be kept. -/
def may0 (m r : Rat) : Bool := decide (-1 < m + r) && decide (m - r < 1)
def may1 (m r : Rat) : Bool := decide (1 ≤ m + r) || decide (m - r ≤ -1)

/-- Does the spring come to rest from all of the box? -/
def sim (d k t : Rat) (c : Bx) : Nat → Fm → Fm → Bool
  | 0, _, _ => false
  | n + 1, x, v =>
    (decide (rabs (x.mid c) + x.rad c ≤ 32) && decide (rabs (v.mid c) + v.rad c ≤ 32)) &&
    (let y := spd d k t x v
     let m := y.mid c
     let r := y.rad c
     ((!(may0 m r)) || (v.nil || sim d k t c n x Fm.zero)) &&
     ((!(may1 m r)) ||
      (let w := plc t x y
       let m' := w.mid c
       let r' := w.rad c
       ((!(may0 m' r')) || sim d k t c n Fm.zero y) && ((!(may1 m' r')) || sim d k t c n w y))))

/-- Steps that are near to what they should be, while the spring is not far. -/
def Path (d k t : Rat) (X V : Nat → Rat) : Prop := ∀ n, nearR (X n) 0 32 → nearR (V n) 0 32 → Low d k t (X n) (V n) (X (n + 1)) (V (n + 1))

theorem rabs_near {m r x : Rat} {N : Rat} (h : rabs m + r ≤ N) (h1 : m - r ≤ x ∧ x ≤ m + r) : nearR x 0 N := by
  unfold rabs at h
  unfold nearR
  split at h <;> exact ⟨by grind, by grind⟩

theorem sim_ok {d k t : Rat} (hd : 0 ≤ d) (hk : 0 ≤ k) {c : Bx} {p q : Rat} (hc : c.mem p q) {X V : Nat → Rat} (hP : Path d k t X V) : ∀ (f n : Nat) (x v : Fm), sim d k t c f x v = true → x.mem p q (X n) → v.mem p q (V n) →
    ∃ m, m < f ∧ V (n + m) = 0 ∧ V (n + m + 1) = 0 ∧ nearR (X (n + m)) 0 32
  | 0, n, x, v, h, _, _ => by cases h
  | f + 1, n, x, v, h, hx, hv => by
    simp only [sim] at h
    rw [Bool.and_eq_true, Bool.and_eq_true, decide_eq_true_eq, decide_eq_true_eq, Bool.and_eq_true] at h
    obtain ⟨⟨b1, b2⟩, h0, h1⟩ := h
    have bx := rabs_near b1 (Fm.range hx hc)
    have bv := rabs_near b2 (Fm.range hv hc)
    obtain ⟨y, w, e1, e2, e3, e4, e5⟩ := hP n bx bv
    have my : (spd d k t x v).mem p q y := by
      obtain ⟨a1, a2⟩ := hx
      obtain ⟨c1, c2⟩ := hv
      obtain ⟨g1, g2⟩ := e1
      have m1 := Rat.mul_le_mul_of_nonneg_left a1 (Rat.mul_nonneg hd hk)
      have m2 := Rat.mul_le_mul_of_nonneg_left a2 (Rat.mul_nonneg hd hk)
      have m3 := Rat.mul_le_mul_of_nonneg_left c1 hd
      have m4 := Rat.mul_le_mul_of_nonneg_left c2 hd
      unfold Fm.mem spd nearR
      dsimp only
      exact ⟨by grind, by grind⟩
    have ry := Fm.range my hc
    rcases e2 with ⟨z0, z1, z2⟩ | ⟨z0, z1⟩
    · -- flushed
      have hm : may0 ((spd d k t x v).mid c) ((spd d k t x v).rad c) = true := by
        unfold may0
        rw [Bool.and_eq_true, decide_eq_true_eq, decide_eq_true_eq]
        exact ⟨by grind, by grind⟩
      rw [hm] at h0
      rw [show (!true) = false from rfl, Bool.false_or, Bool.or_eq_true] at h0
      rcases h0 with h0 | h0
      · exact ⟨0, by omega, Fm.nil_mem h0 hv, z0, bx⟩
      · have hx' := e5 z0
        obtain ⟨m, m1, m2, m3, m4⟩ := sim_ok hd hk hc hP f (n + 1) x Fm.zero h0 (by rw [hx']; exact hx) (by rw [z0]; unfold Fm.mem Fm.zero nearR; exact ⟨by grind, by grind⟩)
        exact ⟨m + 1, by omega, by rw [show n + (m + 1) = n + 1 + m by omega]; exact m2, by rw [show n + (m + 1) + 1 = n + 1 + m + 1 by omega]; exact m3, by rw [show n + (m + 1) = n + 1 + m by omega]; exact m4⟩
    · have hm : may1 ((spd d k t x v).mid c) ((spd d k t x v).rad c) = true := by
        unfold may1
        rw [Bool.or_eq_true, decide_eq_true_eq, decide_eq_true_eq]
        rcases z1 with z1 | z1
        · left; grind
        · right; grind
      rw [hm] at h1
      rw [show (!true) = false from rfl, Bool.false_or, Bool.and_eq_true] at h1
      obtain ⟨h2, h3⟩ := h1
      have my' : (spd d k t x v).mem p q (V (n + 1)) := by rw [z0]; exact my
      have mw : (plc t x (spd d k t x v)).mem p q w := by
        obtain ⟨a1, a2⟩ := hx
        obtain ⟨c1, c2⟩ := my'
        obtain ⟨g1, g2⟩ := e3
        unfold Fm.mem plc nearR
        dsimp only
        exact ⟨by grind, by grind⟩
      have rw' := Fm.range mw hc
      have fin : ∀ (x' : Fm), sim d k t c f x' (spd d k t x v) = true → x'.mem p q (X (n + 1)) → ∃ m, m < f + 1 ∧ V (n + m) = 0 ∧ V (n + m + 1) = 0 ∧ nearR (X (n + m)) 0 32 := by
        intro x' hs hx'
        obtain ⟨m, m1, m2, m3, m4⟩ := sim_ok hd hk hc hP f (n + 1) x' _ hs hx' my'
        exact ⟨m + 1, by omega, by rw [show n + (m + 1) = n + 1 + m by omega]; exact m2, by rw [show n + (m + 1) + 1 = n + 1 + m + 1 by omega]; exact m3, by rw [show n + (m + 1) = n + 1 + m by omega]; exact m4⟩
      rcases e4 with ⟨u0, u1, u2⟩ | ⟨u0, u1⟩
      · have hm' : may0 ((plc t x (spd d k t x v)).mid c) ((plc t x (spd d k t x v)).rad c) = true := by
          unfold may0
          rw [Bool.and_eq_true, decide_eq_true_eq, decide_eq_true_eq]
          exact ⟨by grind, by grind⟩
        rw [hm', show (!true) = false from rfl, Bool.false_or] at h2
        exact fin _ h2 (by rw [u0]; unfold Fm.mem Fm.zero nearR; exact ⟨by grind, by grind⟩)
      · have hm' : may1 ((plc t x (spd d k t x v)).mid c) ((plc t x (spd d k t x v)).rad c) = true := by
          unfold may1
          rw [Bool.or_eq_true, decide_eq_true_eq, decide_eq_true_eq]
          rcases u1 with z1 | z1
          · left; grind
          · right; grind
        rw [hm', show (!true) = false from rfl, Bool.false_or] at h3
        exact fin _ h3 (by rw [u0]; exact mw)

/-- Boxes that are split. -/
def Bx.sub (c : Bx) : Nat → Bx
  | 0 => ⟨c.p - c.h / 2, c.h / 2, c.q - c.g / 2, c.g / 2⟩
  | 1 => ⟨c.p - c.h / 2, c.h / 2, c.q + c.g / 2, c.g / 2⟩
  | 2 => ⟨c.p + c.h / 2, c.h / 2, c.q - c.g / 2, c.g / 2⟩
  | _ => ⟨c.p + c.h / 2, c.h / 2, c.q + c.g / 2, c.g / 2⟩
def cover (d k t : Rat) (f : Nat) : Nat → Bx → Bool
  | 0, c => sim d k t c f ⟨1, 0, 0⟩ ⟨0, 1, 0⟩
  | s + 1, c => cover d k t f s (c.sub 0) && (cover d k t f s (c.sub 1) && (cover d k t f s (c.sub 2) && cover d k t f s (c.sub 3)))
theorem cover_of {d k t : Rat} {f s : Nat} {c : Bx} (h0 : cover d k t f s (c.sub 0) = true) (h1 : cover d k t f s (c.sub 1) = true) (h2 : cover d k t f s (c.sub 2) = true) (h3 : cover d k t f s (c.sub 3) = true) : cover d k t f (s + 1) c = true := by
  simp only [cover]
  rw [h0, h1, h2, h3]; rfl

theorem cover_ok {d k t : Rat} (hd : 0 ≤ d) (hk : 0 ≤ k) {X V : Nat → Rat} (hP : Path d k t X V) {f : Nat} (n : Nat) : ∀ (s : Nat) (c : Bx), cover d k t f s c = true → c.mem (X n) (V n) →
    ∃ m, m < f ∧ V (n + m) = 0 ∧ V (n + m + 1) = 0 ∧ nearR (X (n + m)) 0 32
  | 0, c, h, hc => sim_ok hd hk hc hP f n _ _ h (by unfold Fm.mem nearR; dsimp only; exact ⟨by grind, by grind⟩) (by unfold Fm.mem nearR; dsimp only; exact ⟨by grind, by grind⟩)
  | s + 1, c, h, hc => by
    simp only [cover] at h
    rw [Bool.and_eq_true, Bool.and_eq_true, Bool.and_eq_true] at h
    obtain ⟨h1, h2, h3, h4⟩ := h
    obtain ⟨⟨p1, p2⟩, q1, q2⟩ := hc
    by_cases hp : X n ≤ c.p <;> by_cases hq : V n ≤ c.q
    · exact cover_ok hd hk hP n s _ h1 ⟨⟨by dsimp only [Bx.sub]; grind, by dsimp only [Bx.sub]; grind⟩, by dsimp only [Bx.sub]; grind, by dsimp only [Bx.sub]; grind⟩
    · exact cover_ok hd hk hP n s _ h2 ⟨⟨by dsimp only [Bx.sub]; grind, by dsimp only [Bx.sub]; grind⟩, by dsimp only [Bx.sub]; grind, by dsimp only [Bx.sub]; grind⟩
    · exact cover_ok hd hk hP n s _ h3 ⟨⟨by dsimp only [Bx.sub]; grind, by dsimp only [Bx.sub]; grind⟩, by dsimp only [Bx.sub]; grind, by dsimp only [Bx.sub]; grind⟩
    · exact cover_ok hd hk hP n s _ h4 ⟨⟨by dsimp only [Bx.sub]; grind, by dsimp only [Bx.sub]; grind⟩, by dsimp only [Bx.sub]; grind, by dsimp only [Bx.sub]; grind⟩
end Go.Fw
