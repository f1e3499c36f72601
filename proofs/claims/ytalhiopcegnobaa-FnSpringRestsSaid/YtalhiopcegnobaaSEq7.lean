/- Words that are opposite stay opposite. No condition. -/
import Derived.Test.YtalhiopcegnobaaSEq6
set_option linter.unusedVariables false
set_option linter.unusedSimpArgs false
namespace Go.Fw
open Ieee

/-- Opposite numbers; a zero's sign does not matter. -/
def Op (x y : Nat) : Prop := fin .f32 x ∧ fin .f32 y ∧ x % FloatKind.f32.format.signWeight = y % FloatKind.f32.format.signWeight ∧ (x % FloatKind.f32.format.signWeight = 0 ∨ sg .f32 y = !sg .f32 x)

theorem Op.R {x y : Nat} (h : Op x y) : R1 y = -R1 x := by
  obtain ⟨_, _, h1, h2⟩ := h
  have hV : V .f32 y = V .f32 x := by unfold V; rw [h1]
  unfold R1
  rw [R_V, R_V, hV]
  rcases h2 with h2 | h2
  · have : V .f32 x = 0 := by
      unfold V
      rw [h2]
      unfold mag; exact if_pos (Nat.two_pow_pos _)
    rw [this]
    have e0 : ((0 : Nat) : Rat) = 0 := rfl
    rw [e0, Rat.zero_mul]
    cases sg .f32 y <;> cases sg .f32 x <;> simp [sgR]
  · rw [h2]
    cases sg .f32 x
    · rfl
    · simp [sgR]

theorem Op.read {x y : Nat} (h : Op x y) : ∃ (m : Nat) (e : Int), FloatKind.f32.format.read x = .number (sg .f32 x) m e ∧ FloatKind.f32.format.read y = .number (sg .f32 y) m e ∧ (m = 0 ∨ sg .f32 y = !sg .f32 x) := by
  obtain ⟨f1, f2, h1, h2⟩ := h
  have f1' : x % FloatKind.f32.format.signWeight < FloatKind.f32.format.infRung := f1
  have hB : 0 < FloatKind.f32.format.binade := Nat.two_pow_pos _
  unfold Format.read
  dsimp only
  rw [← h1]
  by_cases c : x % FloatKind.f32.format.signWeight < FloatKind.f32.format.binade
  · rw [if_pos c, if_pos c]
    exact ⟨_, _, rfl, rfl, h2⟩
  · rw [if_neg c, if_neg c, if_pos f1', if_pos f1']
    refine ⟨_, _, rfl, rfl, ?_⟩
    rcases h2 with h2 | h2
    · omega
    · exact .inr h2

theorem op_nearest {s s' : Bool} {M : Nat} {E : Int} (h : M = 0 ∨ s' = !s) (hf : fin .f32 (FloatKind.f32.format.nearest s M E)) : Op (FloatKind.f32.format.nearest s M E) (FloatKind.f32.format.nearest s' M E) := by
  obtain ⟨g, g1, g2⟩ := near_sign FloatKind.f32.format M E
  have hsw := FloatKind.f32.format.infRung_lt
  have hg : g < FloatKind.f32.format.infRung := by
    rw [g2 s] at hf
    unfold fin at hf
    rw [word_mod' FloatKind.f32.format _ (by omega)] at hf
    exact hf
  have hg0 : M = 0 → g = 0 := fun hm => by
    subst hm
    have e : FloatKind.f32.format.nearest s 0 E = FloatKind.f32.format.word s 0 := by unfold Format.nearest; rw [if_pos rfl]
    rw [g2 s] at e
    have := congrArg (fun z => z % FloatKind.f32.format.signWeight) e
    rw [word_mod' FloatKind.f32.format _ (by omega), word_mod' FloatKind.f32.format _ (by omega)] at this
    exact this
  rw [g2 s, g2 s']
  obtain ⟨w1, _, w3⟩ := word_fin (k := .f32) (s := s) hg
  obtain ⟨v1, _, v3⟩ := word_fin (k := .f32) (s := s') hg
  refine ⟨w1, v1, by rw [word_mod' FloatKind.f32.format _ (by omega), word_mod' FloatKind.f32.format _ (by omega)], ?_⟩
  rcases h with h | h
  · left
    rw [word_mod' FloatKind.f32.format _ (by omega)]
    exact hg0 h
  · right; rw [w3, v3]; exact h

theorem Op.mul_r {p x y : Nat} (hp : fin .f32 p) (h : Op x y) (hf : fin .f32 (fmul .f32 p x)) : Op (fmul .f32 p x) (fmul .f32 p y) := by
  obtain ⟨m, e, r1, r2, h3⟩ := h.read
  obtain ⟨n, b, r, _⟩ := fin_read hp
  have e1 : fmul .f32 p x = FloatKind.f32.format.nearest (sg .f32 p ^^ sg .f32 x) (n * m) (FloatKind.f32.format.leastPlace + b + e) := by
    unfold fmul fop floatBits Format.mul
    rw [r, r1]; rfl
  have e2 : fmul .f32 p y = FloatKind.f32.format.nearest (sg .f32 p ^^ sg .f32 y) (n * m) (FloatKind.f32.format.leastPlace + b + e) := by
    unfold fmul fop floatBits Format.mul
    rw [r, r2]; rfl
  rw [e1] at hf ⊢
  rw [e2]
  refine op_nearest ?_ hf
  rcases h3 with h3 | h3
  · left; rw [h3, Nat.mul_zero]
  · right; rw [h3]; cases sg .f32 p <;> cases sg .f32 x <;> rfl

theorem Op.mul_l {p x y : Nat} (hp : fin .f32 p) (h : Op x y) (hf : fin .f32 (fmul .f32 x p)) : Op (fmul .f32 x p) (fmul .f32 y p) := by
  obtain ⟨m, e, r1, r2, h3⟩ := h.read
  obtain ⟨n, b, r, _⟩ := fin_read hp
  have e1 : fmul .f32 x p = FloatKind.f32.format.nearest (sg .f32 x ^^ sg .f32 p) (m * n) (e + (FloatKind.f32.format.leastPlace + b)) := by
    unfold fmul fop floatBits Format.mul
    rw [r, r1]; rfl
  have e2 : fmul .f32 y p = FloatKind.f32.format.nearest (sg .f32 y ^^ sg .f32 p) (m * n) (e + (FloatKind.f32.format.leastPlace + b)) := by
    unfold fmul fop floatBits Format.mul
    rw [r, r2]; rfl
  rw [e1] at hf ⊢
  rw [e2]
  refine op_nearest ?_ hf
  rcases h3 with h3 | h3
  · left; rw [h3, Nat.zero_mul]
  · right; rw [h3]; cases sg .f32 p <;> cases sg .f32 x <;> rfl

theorem signed_opp {s t : Bool} {m k : Nat} (h : m = 0 ∨ t = !s) : signed t m k = -signed s m k := by
  rw [signed_eq, signed_eq]
  rcases h with h | h
  · subst h; cases s <;> cases t <;> simp
  · subst h; cases s <;> simp

theorem op_sum {s s' t t' : Bool} {m n : Nat} {i j : Int} (h1 : m = 0 ∨ s' = !s) (h2 : n = 0 ∨ t' = !t) : ∃ (b b' : Bool) (M : Nat) (E : Int), (Datum.number s m i).sum (.number t n j) = some (.number b M E) ∧ (Datum.number s' m i).sum (.number t' n j) = some (.number b' M E) ∧ (M = 0 ∨ b' = !b) := by
  simp only [Datum.sum]
  have e : signed s' m (i - min i j).toNat + signed t' n (j - min i j).toNat = -(signed s m (i - min i j).toNat + signed t n (j - min i j).toNat) := by
    rw [signed_opp h1, signed_opp h2]; omega
  rw [e]
  generalize signed s m (i - min i j).toNat + signed t n (j - min i j).toNat = w
  refine ⟨_, _, w.natAbs, _, rfl, by rw [Int.natAbs_neg], ?_⟩
  by_cases h0 : w = 0
  · left; rw [h0]; rfl
  · right
    rw [if_neg h0, if_neg (by omega)]
    by_cases hl : w < 0
    · rw [decide_eq_true hl, decide_eq_false (by omega)]; rfl
    · rw [decide_eq_false hl, decide_eq_true (by omega)]; rfl

theorem Op.add {x y u v : Nat} (h : Op x y) (h' : Op u v) (hf : fin .f32 (fadd .f32 x u)) : Op (fadd .f32 x u) (fadd .f32 y v) := by
  obtain ⟨m, e, r1, r2, h3⟩ := h.read
  obtain ⟨n, d, q1, q2, h4⟩ := h'.read
  obtain ⟨b, b', M, E, s1, s2, s3⟩ := op_sum (i := e) (j := d) h3 h4
  have e1 : fadd .f32 x u = FloatKind.f32.format.nearest b M E := by
    unfold fadd fop floatBits Format.add
    rw [r1, q1, s1]; rfl
  have e2 : fadd .f32 y v = FloatKind.f32.format.nearest b' M E := by
    unfold fadd fop floatBits Format.add
    rw [r2, q2, s2]; rfl
  rw [e1] at hf ⊢
  rw [e2]
  exact op_nearest s3 hf

theorem Op.sub {x y u v : Nat} (h : Op x y) (h' : Op u v) (hf : fin .f32 (fsub .f32 x u)) : Op (fsub .f32 x u) (fsub .f32 y v) := by
  obtain ⟨m, e, r1, r2, h3⟩ := h.read
  obtain ⟨n, d, q1, q2, h4⟩ := h'.read
  obtain ⟨b, b', M, E, s1, s2, s3⟩ := op_sum (i := e) (j := d) (s := sg .f32 x) (s' := sg .f32 y) (t := !sg .f32 u) (t' := !sg .f32 v) h3 (by
    rcases h4 with h4 | h4
    · exact .inl h4
    · exact .inr (by rw [h4]))
  have e1 : fsub .f32 x u = FloatKind.f32.format.nearest b M E := by
    unfold fsub fop floatBits Format.sub
    rw [r1, q1]
    simp only [Datum.opposite]
    rw [s1]; rfl
  have e2 : fsub .f32 y v = FloatKind.f32.format.nearest b' M E := by
    unfold fsub fop floatBits Format.sub
    rw [r2, q2]
    simp only [Datum.opposite]
    rw [s2]; rfl
  rw [e1] at hf ⊢
  rw [e2]
  exact op_nearest s3 hf

/-! ### flushing -/
theorem zero_part {x : Nat} (hx : x < 2 ^ 32) : fin .f32 (x / 2 ^ 31 * 2 ^ 31) ∧ okF .f32 (x / 2 ^ 31 * 2 ^ 31) ∧ R1 (x / 2 ^ 31 * 2 ^ 31) = 0 ∧ x / 2 ^ 31 * 2 ^ 31 % FloatKind.f32.format.signWeight = 0 := by
  have : x / 2 ^ 31 = 0 ∨ x / 2 ^ 31 = 1 := by omega
  rcases this with h | h
  · rw [h]
    exact ⟨(fin_dec _ _).2 (by decide +kernel), by constructor <;> decide +kernel, by decide +kernel, by decide +kernel⟩
  · rw [h]
    exact ⟨(fin_dec _ _).2 (by decide +kernel), by constructor <;> decide +kernel, by decide +kernel, by decide +kernel⟩

theorem flush_R {x : Nat} (hx : okF .f32 x) (hf : fin .f32 x) : fin .f32 (flush x) ∧ okF .f32 (flush x) ∧ Near (R1 (flush x)) (R1 x) (1 / 1000000000000000000000000000000000000) := by
  unfold flush
  cases hs : sub32 x
  · exact ⟨hf, hx, Near.refl (by decide +kernel)⟩
  · rw [cond_t]
    obtain ⟨z1, z2, z3, _⟩ := zero_part hx.lt32
    refine ⟨z1, z2, ?_⟩
    rw [z3]
    unfold sub32 at hs
    rw [Bool.and_eq_true, decide_eq_true_eq, decide_eq_true_eq] at hs
    have hV : V .f32 x = x % 2 ^ 31 := by
      unfold V mag
      have e1 : FloatKind.f32.format.signWeight = 2 ^ 31 := rfl
      have e2 : FloatKind.f32.format.binade = 2 ^ 23 := rfl
      rw [e1, e2, if_pos hs.2]
    have hv : (V .f32 x : Rat) * w2 FloatKind.f32.format.leastPlace ≤ 1 / 1000000000000000000000000000000000000 := by
      rw [hV]
      have h1 : ((x % 2 ^ 31 : Nat) : Rat) ≤ ((2 ^ 23 : Nat) : Rat) := Rat.natCast_le_natCast.2 (by omega)
      have h2 := Rat.mul_le_mul_of_nonneg_right h1 (Rat.le_of_lt (w2_pos FloatKind.f32.format.leastPlace))
      rw [← w2_nat, ← w2_add] at h2
      refine Rat.le_trans h2 ?_
      decide +kernel
    have h0 : 0 ≤ (V .f32 x : Rat) * w2 FloatKind.f32.format.leastPlace := Rat.mul_nonneg Rat.natCast_nonneg (Rat.le_of_lt (w2_pos _))
    unfold R1
    rw [R_V]
    cases sg .f32 x
    · exact ⟨by show _ * _ - _ ≤ 0; grind, by show 0 ≤ _ * _ + _; grind⟩
    · exact ⟨by show -(_ * _) - _ ≤ 0; grind, by show 0 ≤ -(_ * _) + _; grind⟩

theorem Op.flush {x y : Nat} (h : Op x y) (hx : x < 2 ^ 32) (hy : y < 2 ^ 32) : Op (Fw.flush x) (Fw.flush y) := by
  have e1 : FloatKind.f32.format.signWeight = 2 ^ 31 := rfl
  have hs : sub32 y = sub32 x := by
    unfold sub32
    have := h.2.2.1
    rw [e1] at this
    rw [this]
  unfold Fw.flush
  rw [hs]
  cases sub32 x
  · exact h
  · obtain ⟨z1, _, _, z4⟩ := zero_part hx
    obtain ⟨y1, _, _, y4⟩ := zero_part hy
    exact ⟨z1, y1, z4.trans y4.symm, .inl z4⟩
end Go.Fw
