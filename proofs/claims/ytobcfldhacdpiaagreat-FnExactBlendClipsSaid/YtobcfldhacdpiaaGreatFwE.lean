/- The abstract interpreter, its soundness, and plain facts: part 5. No condition. -/
import Derived.Test.YtobcfldhacdpiaaGreatFwD
/- Floating point numbers: the order turned round; how great a result can be; what can be narrowed. No condition. -/
namespace Go.Fw
open Ieee

theorem cmp_swap (a b : Int) : compare a b = (compare b a).swap := by
  simp only [compare, compareOfLessAndEq]
  rcases Int.lt_trichotomy a b with h | h | h
  · rw [if_pos h, if_neg (by omega), if_neg (by omega)]; rfl
  · subst h; simp
  · rw [if_neg (by omega), if_neg (by omega), if_pos h]; rfl

theorem dorder_swap (d e : Datum) : d.order e = (e.order d).map Ordering.swap := by
  cases d with
  | nan s t => cases e <;> rfl
  | infinity s =>
    cases e with
    | nan _ _ => rfl
    | infinity t => cases s <;> cases t <;> rfl
    | number t n j => cases s <;> rfl
  | number s m i =>
    cases e with
    | nan _ _ => rfl
    | infinity t => cases t <;> rfl
    | number t n j =>
      simp only [Datum.order, Option.map_some, Option.some.injEq]
      rw [show min j i = min i j from by omega]
      exact cmp_swap _ _

theorem order_swap (k : FloatKind) (x y : Nat) : k.format.order x y = (k.format.order y x).map Ordering.swap := dorder_swap _ _

theorem fge_fle (k : FloatKind) (a b : Nat) : fge k a b = fle k b a := by
  unfold fge fle
  rw [order_swap k a b]
  cases k.format.order b a with
  | none => rfl
  | some o => cases o <;> rfl
/-! ### how great a number can be -/
/-- A number of at most P binary places before the point, or a not-a-number. -/
def dB (P : Int) : Datum → Prop
  | .number _ m e => m = 0 ∨ e + m.log2 ≤ P
  | .infinity _ => False
  | .nan _ _ => True

theorem dB_mono {P Q : Int} (h : P ≤ Q) {d : Datum} (hd : dB P d) : dB Q d := by
  cases d with
  | number s m e => exact hd.elim (fun h1 => .inl h1) fun h1 => .inr (by omega)
  | infinity s => exact hd
  | nan s t => trivial

theorem cut_le {fb m drop : Nat} (s : Bool) (hd : m.log2 ≤ fb + drop) : Toward.even.cut s m drop ≤ 2 * 2 ^ fb := by
  unfold Toward.cut
  have hm : m < 2 ^ (m.log2 + 1) := Nat.lt_log2_self
  have h1 : m / 1 <<< min drop (m.log2 + 2) ≤ 2 * 2 ^ fb - 1 := by
    rw [Nat.one_shiftLeft]
    have hpos := Nat.two_pow_pos fb
    have : m / 2 ^ min drop (m.log2 + 2) < 2 * 2 ^ fb := by
      refine Nat.div_lt_of_lt_mul ?_
      rw [show 2 * 2 ^ fb = 2 ^ (fb + 1) by rw [Nat.pow_succ]; omega, ← Nat.pow_add]
      exact Nat.lt_of_lt_of_le hm (Nat.pow_le_pow_right (by omega) (by omega))
    omega
  have h2 : ∀ b : Bool, b.toNat ≤ 1 := fun b => by cases b <;> simp
  have h3 := Nat.two_pow_pos fb
  dsimp only
  have := h2 (decide (1 <<< min drop (m.log2 + 2) < 2 * (m % 1 <<< min drop (m.log2 + 2))) || (1 <<< min drop (m.log2 + 2) == 2 * (m % 1 <<< min drop (m.log2 + 2)) && m / 1 <<< min drop (m.log2 + 2) % 2 == 1))
  omega

theorem near_rung (f : Format) (s : Bool) {m : Nat} {e P : Int} {q : Nat} (hm : m ≠ 0) (hP : e + m.log2 ≤ P) (hq : max (P - f.fractionBits) f.leastPlace - f.leastPlace ≤ q) :
    ∃ r, f.nearest s m e = f.word s (min r f.infRung) ∧ r ≤ q * f.binade + 2 * f.binade := by
  unfold Format.nearest
  rw [if_neg hm]
  refine ⟨_, rfl, ?_⟩
  generalize hl : max (e + (m.log2 : Int) - f.fractionBits) f.leastPlace = last
  have h1 : (last - f.leastPlace).toNat ≤ q := by omega
  refine Nat.add_le_add (Nat.mul_le_mul_right _ h1) ?_
  show _ ≤ 2 * 2 ^ f.fractionBits
  by_cases hd : last ≤ e
  · rw [show (last - e).toNat = 0 by omega, cut_zero, Nat.shiftLeft_eq]
    have h7 : m < 2 ^ (m.log2 + 1) := Nat.lt_log2_self
    have h8 : m * 2 ^ (e - last).toNat < 2 ^ (m.log2 + 1) * 2 ^ (e - last).toNat := Nat.mul_lt_mul_of_pos_right h7 (Nat.two_pow_pos _)
    rw [← Nat.pow_add] at h8
    have h9 : 2 ^ (m.log2 + 1 + (e - last).toNat) ≤ 2 ^ (f.fractionBits + 1) := Nat.pow_le_pow_right (by omega) (by omega)
    rw [Nat.pow_succ 2 f.fractionBits] at h9
    omega
  · rw [show (e - last).toNat = 0 by omega]
    exact cut_le s (by simp only [Nat.shiftLeft_zero]; omega)

theorem read_rung (f : Format) (b : Nat) {q : Nat} (h : b % f.signWeight ≤ q * f.binade + 2 * f.binade) (hi : b % f.signWeight < f.infRung) : dB (max (f.leastPlace + f.fractionBits) (f.leastPlace + q + 1 + f.fractionBits)) (f.read b) := by
  have hB : 0 < f.binade := Nat.two_pow_pos _
  have hBe : f.binade = 2 ^ f.fractionBits := rfl
  rcases read_cases f b with ⟨h1, h2⟩ | ⟨h1, h3, h2⟩ | ⟨h1, h2⟩ | ⟨h1, t, h2⟩
  · rw [h2]
    by_cases hm : b % f.signWeight = 0
    · exact .inl hm
    · refine .inr ?_
      have : (b % f.signWeight).log2 < f.fractionBits := (Nat.log2_lt hm).2 (by rw [← hBe]; exact h1)
      omega
  · rw [h2]
    refine .inr ?_
    have hm := Nat.mod_lt (b % f.signWeight) hB
    have h4 : (f.binade + b % f.signWeight % f.binade).log2 < f.fractionBits + 1 := (Nat.log2_lt (by omega)).2 (by rw [Nat.pow_succ, ← hBe]; omega)
    have h5 : b % f.signWeight / f.binade ≤ q + 2 := by
      refine Nat.le_of_lt_succ (Nat.div_lt_of_lt_mul ?_)
      rw [show f.binade * (q + 2).succ = q * f.binade + 3 * f.binade by rw [Nat.mul_comm, Nat.succ_mul, Nat.add_mul]; omega]
      omega
    omega
  · omega
  · omega

/-- What is written of a number that is not too great is as great, but for one place. -/
theorem write_dB {P : Int} (h1 : -1000 ≤ P) (h2 : P ≤ 1022) {d : Datum} (hd : dB P d) (hn : d.isNaN = false) : dB (P + 1) (FloatKind.f64.format.read (FloatKind.f64.format.write d)) := by
  have hI : FloatKind.f64.format.infRung = 2047 * FloatKind.f64.format.binade := rfl
  have hB : 0 < FloatKind.f64.format.binade := Nat.two_pow_pos _
  have e1 : FloatKind.f64.format.fractionBits = 52 := rfl
  have e2 : FloatKind.f64.format.leastPlace = -1074 := rfl
  have hs := FloatKind.f64.format.infRung_lt
  generalize FloatKind.f64.format = fm at *
  cases d with
  | infinity s => exact hd.elim
  | nan s t => cases hn
  | number s m e =>
    show dB (P + 1) (fm.read (fm.nearest s m e))
    by_cases hm : m = 0
    · subst hm
      unfold Format.nearest
      rw [if_pos rfl]
      have := read_rung fm (fm.word s 0) (q := 0) (by rw [word_mod fm s (by omega)]; omega) (by rw [word_mod fm s (by omega)]; omega)
      rw [e1, e2] at this
      exact dB_mono (by omega) this
    · have hP : e + m.log2 ≤ P := hd.elim (fun h => absurd h hm) fun h => h
      obtain ⟨r, hr, hle⟩ := near_rung fm s hm hP (q := (P + 1022).toNat) (by rw [e1, e2]; omega)
      have hq : (P + 1022).toNat ≤ 2044 := by omega
      have hq2 : (P + 1022).toNat * fm.binade ≤ 2044 * fm.binade := Nat.mul_le_mul_right _ hq
      have hlt : r < fm.infRung := by omega
      have hmin : min r fm.infRung = r := by omega
      rw [hr, hmin]
      have := read_rung fm (fm.word s r) (q := (P + 1022).toNat) (by rw [word_mod fm s (by omega)]; exact hle) (by rw [word_mod fm s (by omega)]; exact hlt)
      rw [e1, e2] at this
      exact dB_mono (by omega) this

theorem read_winf (k : FloatKind) (s : Bool) : ∃ t, k.format.read (k.format.word s k.format.infRung) = .infinity t := ⟨_, read_inf (word_mod _ s k.format.infRung_lt)⟩

/-- What can be narrowed. -/
theorem narrow_ok {x : Nat} (h : dB 126 (FloatKind.f64.format.read x)) : ∃ r, fconv .f64 .f32 x = some r := by
  unfold fconv
  cases hx : isNan .f64 x
  · unfold floatToFloatBits
    rw [cond_f, if_neg (by decide)]
    change dB 126 (FloatKind.f64.decode x) at h
    cases hr : FloatKind.f64.decode x with
    | infinity s => exact ⟨_, rfl⟩
    | nan s t =>
      have : isNan .f64 x = true := by unfold isNan; rw [hr]; rfl
      rw [hx] at this; cases this
    | number s m e =>
      rw [hr] at h
      have hI : FloatKind.f32.format.infRung = 255 * FloatKind.f32.format.binade := rfl
      have hB : 0 < FloatKind.f32.format.binade := Nat.two_pow_pos _
      have e1 : FloatKind.f32.format.fractionBits = 23 := rfl
      have e2 : FloatKind.f32.format.leastPlace = -149 := rfl
      have hs := FloatKind.f32.format.infRung_lt
      have key : (FloatKind.f32.format.read (FloatKind.f32.format.nearest s m e)).isInfinity = false := by
        generalize FloatKind.f32.format = fm at *
        have fin : ∀ g, g < fm.infRung → (fm.read (fm.word s g)).isInfinity = false := fun g hg => by
          obtain ⟨m', e', hr', _⟩ := read_fin fm (fm.word s g) (by rw [word_mod fm s (by omega)]; exact hg)
          rw [hr']; rfl
        by_cases hm : m = 0
        · unfold Format.nearest
          rw [if_pos hm]
          exact fin 0 (by omega)
        · have hP : e + m.log2 ≤ 126 := h.elim (fun h => absurd h hm) fun h => h
          obtain ⟨r, hr, hle⟩ := near_rung fm s hm hP (q := 252) (by rw [e1, e2]; omega)
          have hlt : r < fm.infRung := by omega
          rw [hr, show min r fm.infRung = r by omega]
          exact fin r hlt
      have key' : (FloatKind.f32.decode (FloatKind.f32.encode (.number s m e))).isInfinity = false := key
      refine ⟨FloatKind.f32.encode (.number s m e), ?_⟩
      simp only [key', Bool.false_eq_true, if_false]
  · exact ⟨_, rfl⟩

theorem narrow_inf {x : Nat} {s : Bool} (h : FloatKind.f64.format.read x = .infinity s) : ∃ r, fconv .f64 .f32 x = some r := by
  unfold fconv
  cases hx : isNan .f64 x
  · unfold floatToFloatBits
    rw [cond_f, if_neg (by decide), show FloatKind.f64.decode x = .infinity s from h]
    exact ⟨_, rfl⟩
  · exact ⟨_, rfl⟩

/-- A number of single precision that was widened. -/
theorem wide_dB {x : Nat} (hx : x < 2 ^ 32) : dB 129 (FloatKind.f64.format.read (fwide x)) ∨ ∃ s, FloatKind.f64.format.read (fwide x) = .infinity s := by
  have hw := fconv_wide hx
  generalize fwide x = y at *
  unfold fconv at hw
  cases hn : isNan .f32 x
  · rw [hn, cond_f] at hw
    unfold floatToFloatBits at hw
    rw [if_neg (by decide)] at hw
    have hdx : FloatKind.f32.decode x = FloatKind.f32.format.read x := rfl
    have hB : FloatKind.f32.format.binade = 8388608 := rfl
    have hL : FloatKind.f32.format.leastPlace = -149 := rfl
    have hI : FloatKind.f32.format.infRung = 2139095040 := rfl
    have hsw : FloatKind.f32.format.signWeight = 2 ^ 31 := rfl
    have num : ∀ s m e, FloatKind.f32.format.read x = .number s m e → m < 2 ^ 24 → e ≤ 104 → dB 129 (FloatKind.f64.format.read y) := fun s m e hr hm he => by
      rw [hdx, hr] at hw
      dsimp only at hw
      split at hw
      · cases hw
      · cases hw
        have hb : dB 128 (.number s m e) := by
          by_cases h0 : m = 0
          · exact .inl h0
          · have : m.log2 < 24 := (Nat.log2_lt h0).2 hm
            exact .inr (by omega)
        exact write_dB (by omega) (by omega) hb rfl
    rcases read_cases FloatKind.f32.format x with ⟨h1, h2⟩ | ⟨h1, h3, h2⟩ | ⟨h1, h2⟩ | ⟨h1, t, h2⟩
    · rw [hsw, hB] at h1
      rw [hsw, hL] at h2
      exact .inl (num _ _ _ h2 (by omega) (by omega))
    · rw [hsw, hB] at h1
      rw [hsw, hI] at h3
      rw [hsw, hL, hB] at h2
      have hm := Nat.mod_lt (x % 2 ^ 31) (show 0 < 8388608 by omega)
      have hd : x % 2 ^ 31 / 8388608 < 255 := Nat.div_lt_of_lt_mul (by omega)
      exact .inl (num _ _ _ h2 (by omega) (by omega))
    · rw [hdx, h2] at hw
      dsimp only at hw
      cases hw
      exact .inr (read_winf .f64 _)
    · exfalso
      have : isNan .f32 x = true := by
        show (FloatKind.f32.format.read x).isNaN = true
        rw [h2]; rfl
      rw [hn] at this; cases this
  · rw [hn, cond_t] at hw
    cases hw
    refine .inl ?_
    have : FloatKind.f64.format.read (qnan .f64) = .nan false 2251799813685249 := by decide +kernel
    rw [this]; trivial

theorem rootFrom_sq (n : Nat) : ∀ (todo root : Nat), root * root ≤ n → Datum.rootFrom n todo root * Datum.rootFrom n todo root ≤ n
  | 0, root, h => h
  | todo + 1, root, h => by
    unfold Datum.rootFrom
    dsimp only
    split
    · rename_i h1; exact rootFrom_sq n todo _ h1
    · exact rootFrom_sq n todo _ h

theorem log2_add_one_le {n : Nat} : (2 * n + 1).log2 ≤ n.log2 + 1 := by
  by_cases h : n = 0
  · subst h; decide
  · have h1 : n < 2 ^ (n.log2 + 1) := Nat.lt_log2_self
    have : (2 * n + 1).log2 < n.log2 + 2 := (Nat.log2_lt (by omega)).2 (by rw [Nat.pow_succ]; omega)
    omega

theorem root_dB {P : Int} {d r : Datum} (hd : dB P d) (h : d.root 54 = some r) (_ : -500 ≤ P) : dB (P / 2 + 2) r ∧ r.isNaN = false ∨ r.isInfinity = true := by
  cases d with
  | nan s t => cases h
  | infinity s => exact hd.elim
  | number s m i =>
    simp only [Datum.root] at h
    split at h
    · cases h; rename_i h0; exact .inl ⟨.inl h0, rfl⟩
    · split at h
      · cases h
      · rename_i h0 _
        rcases hd with hd | hd
        · exact absurd hd h0
        cases h
        refine .inl ⟨.inr ?_, rfl⟩
        generalize hmore : 2 * 54 - m.log2 + ((i - (2 * 54 - m.log2 : Nat)) % 2).toNat = more
        have hpar : (i - more) % 2 = 0 := by omega
        have hbig : 2 * 54 ≤ m.log2 + more := by omega
        generalize hn : m <<< more = n
        have hw := rootFrom_sq n (n.log2 / 2 + 1) 0 (by simp)
        generalize Datum.rootFrom n (n.log2 / 2 + 1) 0 = w at *
        have hn2 : n < 2 ^ (m.log2 + more + 1) := by
          rw [← hn, Nat.shiftLeft_eq]
          have h7 : m < 2 ^ (m.log2 + 1) := Nat.lt_log2_self
          have h8 : m * 2 ^ more < 2 ^ (m.log2 + 1) * 2 ^ more := Nat.mul_lt_mul_of_pos_right h7 (Nat.two_pow_pos _)
          rw [← Nat.pow_add] at h8
          rwa [show m.log2 + more + 1 = m.log2 + 1 + more by omega]
        have hlog : 2 * w.log2 ≤ m.log2 + more := by
          by_cases hw0 : w = 0
          · subst hw0; simp
          · have h9 : 2 ^ w.log2 ≤ w := Nat.log2_self_le hw0
            have h10 : 2 ^ w.log2 * 2 ^ w.log2 ≤ w * w := Nat.mul_le_mul h9 h9
            rw [← Nat.pow_add] at h10
            have h11 : 2 ^ (w.log2 + w.log2) < 2 ^ (m.log2 + more + 1) := by omega
            have := (Nat.pow_lt_pow_iff_right (a := 2) (by omega)).1 h11
            omega
        have hl2 : (2 * w + (w * w != n).toNat).log2 ≤ w.log2 + 1 := by
          refine Nat.le_trans ?_ log2_add_one_le
          cases hb : (w * w != n)
          · simp only [Bool.toNat_false, Nat.add_zero]
            by_cases hw0 : w = 0
            · subst hw0; decide
            · rw [Nat.le_log2 (by omega)]
              exact Nat.le_trans (Nat.log2_self_le (by omega)) (by omega)
          · simp only [Bool.toNat_true]; exact Nat.le_refl _
        omega

/-- The root of a number of single precision can be narrowed. -/
theorem root_ok {x : Nat} (hx : x < 2 ^ 32) : ∃ r, fconv .f64 .f32 (t_mathsqrt (fwide x)) = some r := by
  unfold t_mathsqrt Format.sqrt
  have hf : FloatKind.f64.format.fractionBits + 2 = 54 := rfl
  rw [hf]
  rcases wide_dB hx with h | ⟨s, h⟩
  · cases hr : (FloatKind.f64.format.read (fwide x)).root 54 with
    | none => exact ⟨_, rfl⟩
    | some d =>
      rw [Option.map_some]
      dsimp only
      rcases root_dB h hr (by omega) with ⟨h1, h2⟩ | h1
      · exact narrow_ok (dB_mono (by omega) (write_dB (by omega) (by omega) h1 h2))
      · cases d with
        | infinity s => obtain ⟨t, ht⟩ := read_winf .f64 s; exact narrow_inf ht
        | nan _ _ => cases h1
        | number _ _ _ => cases h1
  · rw [h]
    unfold Datum.root
    cases s
    · obtain ⟨t, ht⟩ := read_winf .f64 false; exact narrow_inf ht
    · exact ⟨_, rfl⟩

/-- Canonical words. -/
def okF (k : FloatKind) (x : Nat) : Prop := x < 2 ^ k.format.width ∧ canon k x = x
theorem okF.lt {k : FloatKind} {x : Nat} (h : okF k x) : x < 2 ^ k.format.width := h.1
theorem okF.lt32 {x : Nat} (h : okF .f32 x) : x < 2 ^ 32 := h.1
theorem okF.canon {k : FloatKind} {x : Nat} (h : okF k x) : Fw.canon k x = x := h.2
theorem okF.nan {k : FloatKind} {x : Nat} (h : okF k x) (hn : isNan k x = true) : x = qnan k := by rw [← h.canon, canon_nan hn]
theorem okF.of_num {k : FloatKind} {x : Nat} (h : x < 2 ^ k.format.width) (hn : isNan k x = false) : okF k x := ⟨h, canon_num hn⟩
theorem okF_qnan (k : FloatKind) : okF k (qnan k) := ⟨qnan_lt k, by rw [canon_nan (isNan_qnan k)]⟩

theorem map_write_lt (k : FloatKind) {o : Option Datum} {r : Nat} (h : o.map k.format.write = some r) : r < 2 ^ k.format.width := by
  cases o with
  | none => cases h
  | some d => cases h; exact k.format.write_lt d
theorem floatBits_lt {op : BinOp} {k : FloatKind} {x y r : Nat} (h : floatBits op k x y = some r) : r < 2 ^ k.format.width := by
  unfold floatBits at h
  split at h
  · exact map_write_lt k h
  · exact map_write_lt k h
  · exact map_write_lt k h
  · exact map_write_lt k h
  · cases h
theorem fop_okF (op : BinOp) (k : FloatKind) (x y : Nat) : okF k (fop op k x y) := by
  unfold fop
  cases h : floatBits op k x y with
  | none => exact okF_qnan k
  | some r => exact .of_num (floatBits_lt h) (floatBits_not_nan h)
theorem fadd_okF (k : FloatKind) (x y : Nat) : okF k (fadd k x y) := fop_okF _ _ _ _
theorem fconv_okF {s d : FloatKind} {x r : Nat} (hx : x < 2 ^ s.format.width) (h : fconv s d x = some r) : okF d r := by
  unfold fconv at h
  cases hn : isNan s x
  · rw [hn, cond_f] at h
    exact ⟨(floatToFloatBits_rel hx hn h).1, (floatToFloatBits_rel hx hn h).2⟩
  · rw [hn, cond_t] at h
    cases h; exact okF_qnan d
theorem mathsqrt_okF (x : Nat) : okF .f64 (t_mathsqrt x) := by
  unfold t_mathsqrt Format.sqrt
  split
  · rename_i r h
    exact .of_num (map_write_lt .f64 h) (map_write_not_nan .f64 (fun d hd => root_not_nan hd) h)
  · exact okF_qnan .f64
/-- The root, narrowed: it is there. -/
theorem root_okF {x : Nat} (hx : x < 2 ^ 32) : ∃ r, fconv .f64 .f32 (t_mathsqrt (fwide x)) = some r ∧ okF .f32 r := by
  obtain ⟨r, hr⟩ := root_ok hx
  exact ⟨r, hr, fconv_okF (mathsqrt_okF _).1 hr⟩

theorem order_num {k : FloatKind} {x y : Nat} (hx : isNan k x = false) (hy : isNan k y = false) : ∃ o, k.format.order x y = some o := by
  unfold isNan at hx hy
  change (k.format.read x).isNaN = false at hx
  change (k.format.read y).isNaN = false at hy
  unfold Format.order
  cases h1 : k.format.read x with
  | nan s t => rw [h1] at hx; cases hx
  | infinity s =>
    cases h2 : k.format.read y with
    | nan s t => rw [h2] at hy; cases hy
    | infinity t => exact ⟨_, rfl⟩
    | number t n j => exact ⟨_, rfl⟩
  | number s m i =>
    cases h2 : k.format.read y with
    | nan s t => rw [h2] at hy; cases hy
    | infinity t => exact ⟨_, rfl⟩
    | number t n j => exact ⟨_, rfl⟩
theorem fle_total {k : FloatKind} {x y : Nat} (hx : isNan k x = false) (hy : isNan k y = false) : fle k x y = true ∨ fle k y x = true := by
  rw [← fge_fle k x y]
  obtain ⟨o, ho⟩ := order_num hx hy
  unfold fle fge
  rw [ho]
  cases o <;> simp
theorem fop_nan {op : BinOp} {k : FloatKind} {x y : Nat} (h : isNan k x = true) : fop op k x y = qnan k := by
  unfold fop; rw [floatBits_nan_left h]; rfl
theorem feq_nan {k : FloatKind} {x y : Nat} (h : isNan k x = true) : feq k x y = false := by
  unfold feq; rw [order_nan_left h]; rfl
/-- x - x is 0: so x is a number. -/
theorem not_nan_of_finite {k : FloatKind} {x z : Nat} (h : feq k (fsub k x x) z = true) : isNan k x = false := by
  cases hn : isNan k x
  · rfl
  · rw [show fsub k x x = qnan k from fop_nan hn, feq_nan (isNan_qnan k)] at h; cases h
theorem not_nan_of_feq {k : FloatKind} {x : Nat} (h : feq k x x = true) : isNan k x = false := by
  rw [feq_self] at h; cases hn : isNan k x
  · rfl
  · rw [hn] at h; cases h
end Go.Fw
/- Floating point numbers: what is widened and narrowed again is the same. No condition. -/
namespace Go.Fw
open Ieee

end Go.Fw
/- Plain facts for printed texts: what an optional value comes to; loops with invariants; conditions as propositions. No condition. -/
namespace Go.Fw

/-- It comes to a value with the property. -/
def Ret {α : Type} (x : Option α) (Q : α → Prop) : Prop := ∃ y, x = some y ∧ Q y

theorem Ret.pure {α : Type} {y : α} {Q : α → Prop} (h : Q y) : Ret (some y) Q := ⟨y, rfl, h⟩
theorem Ret.bind {α β : Type} {x : Option α} {f : α → Option β} {Q : β → Prop} (h : Ret x fun y => Ret (f y) Q) : Ret (Option.bind x f) Q := by
  obtain ⟨y, rfl, z, hz, hq⟩ := h
  exact ⟨z, hz, hq⟩
theorem Ret.bind' {α β : Type} {x : Option α} {f : α → Option β} {P : α → Prop} {Q : β → Prop} (h : Ret x P) (h' : ∀ y, x = some y → P y → Ret (f y) Q) : Ret (Option.bind x f) Q := by
  obtain ⟨y, rfl, hp⟩ := h
  exact h' y rfl hp
theorem Ret.cond {α : Type} {c : Bool} {a b : Option α} {Q : α → Prop} (h : c = true → Ret a Q) (h' : c = false → Ret b Q) : Ret (bif c then a else b) Q := by
  cases c
  · exact h' rfl
  · exact h rfl
theorem Ret.ix {α : Type} {i : Int} {n : Nat} {f : Nat → Option α} {Q : α → Prop} (h0 : 0 ≤ i) (h1 : i < n) (h : Ret (f i.toNat) Q) : Ret (Option.bind (ix i n) f) Q := by
  rw [ix_ok h0 h1]; exact h
theorem Ret.mono {α : Type} {x : Option α} {P Q : α → Prop} (h : Ret x P) (hpq : ∀ y, P y → Q y) : Ret x Q := by
  obtain ⟨y, hy, hp⟩ := h
  exact ⟨y, hy, hpq y hp⟩
theorem Ret.iter {D O : Type} {step : (D → Option O) → D → Option O} (P : Nat → D → Prop) (Q : O → Prop)
    (h : ∀ r n d, P n d → (∀ m d', m < n → P m d' → Ret (r d') Q) → Ret (step r d) Q) : ∀ N n d, P n d → n < N → Ret (iter step N d) Q := by
  intro N
  induction N with
  | zero => intro n d _ h0; omega
  | succ N ih =>
    intro n d hp hn
    rw [iter_succ]
    exact h _ n d hp fun m d' hm hp' => ih m d' hp' (by omega)

/-- Both come to values that belong together. -/
def Ret2 {α β : Type} (x : Option α) (x' : Option β) (Q : α → β → Prop) : Prop := ∃ y y', x = some y ∧ x' = some y' ∧ Q y y'

theorem Ret2.pure {α β : Type} {y : α} {y' : β} {Q : α → β → Prop} (h : Q y y') : Ret2 (some y) (some y') Q := ⟨y, y', rfl, rfl, h⟩
theorem Ret2.bind' {α β α' β' : Type} {x : Option α} {f : α → Option β} {x' : Option α'} {f' : α' → Option β'} {P : α → α' → Prop} {Q : β → β' → Prop} (h : Ret2 x x' P) (h' : ∀ y y', P y y' → Ret2 (f y) (f' y') Q) : Ret2 (Option.bind x f) (Option.bind x' f') Q := by
  obtain ⟨y, y', rfl, rfl, hp⟩ := h
  exact h' y y' hp
theorem Ret2.cond {α β : Type} {c c' : Bool} {a b : Option α} {a' b' : Option β} {Q : α → β → Prop} (hc : c = c') (h : c = true → Ret2 a a' Q) (h' : c = false → Ret2 b b' Q) : Ret2 (bif c then a else b) (bif c' then a' else b') Q := by
  subst hc
  cases c
  · exact h' rfl
  · exact h rfl
theorem Ret2.mono {α β : Type} {x : Option α} {x' : Option β} {P Q : α → β → Prop} (h : Ret2 x x' P) (hpq : ∀ y y', P y y' → Q y y') : Ret2 x x' Q := by
  obtain ⟨y, y', hy, hy', hp⟩ := h
  exact ⟨y, y', hy, hy', hpq y y' hp⟩
theorem Ret2.iter {D O D' O' : Type} {step : (D → Option O) → D → Option O} {step' : (D' → Option O') → D' → Option O'} (P : Nat → D → D' → Prop) (Q : O → O' → Prop)
    (h : ∀ r r' n d e, P n d e → (∀ m d' e', m < n → P m d' e' → Ret2 (r d') (r' e') Q) → Ret2 (step r d) (step' r' e) Q) : ∀ N n d e, P n d e → n < N → Ret2 (iter step N d) (iter step' N e) Q := by
  intro N
  induction N with
  | zero => intro n d e _ h0; omega
  | succ N ih =>
    intro n d e hp hn
    rw [iter_succ, iter_succ]
    exact h _ _ n d e hp fun m d' e' hm hp' => ih m d' e' hp' (by omega)

/-- Both come to the same value, which has the property. -/
def Same {α : Type} (x x' : Option α) (Q : α → Prop) : Prop := ∃ y, x = some y ∧ x' = some y ∧ Q y
theorem Same.of {α : Type} {x x' : Option α} {Q : α → Prop} (h : x = x') (hr : Ret x Q) : Same x x' Q := by
  obtain ⟨y, hy, hq⟩ := hr
  exact ⟨y, hy, h ▸ hy, hq⟩
theorem Same.ret {α : Type} {x x' : Option α} {Q : α → Prop} (h : Same x x' Q) : Ret x Q := by
  obtain ⟨y, hy, _, hq⟩ := h
  exact ⟨y, hy, hq⟩
theorem Same.eq {α : Type} {x x' : Option α} {Q : α → Prop} (h : Same x x' Q) : x = x' := by
  obtain ⟨y, hy, hy', hq⟩ := h
  rw [hy, hy']
theorem Same.two {α : Type} {x x' : Option α} {Q : α → Prop} (h : Same x x' Q) : Ret2 x x' fun y y' => y = y' ∧ Q y := by
  obtain ⟨y, hy, hy', hq⟩ := h
  exact ⟨y, y, hy, hy', rfl, hq⟩
theorem Ret2.same {α : Type} {x x' : Option α} {Q : α → Prop} (h : Ret2 x x' fun y y' => y = y' ∧ Q y) : Same x x' Q := by
  obtain ⟨y, _, hy, hy', rfl, hq⟩ := h
  exact ⟨y, hy, hy', hq⟩
theorem Same.pure {α : Type} {y : α} {Q : α → Prop} (h : Q y) : Same (some y) (some y) Q := ⟨y, rfl, rfl, h⟩

theorem opt_bind_assoc {α β γ : Type} (x : Option α) (f : α → Option β) (g : β → Option γ) : Option.bind (Option.bind x f) g = Option.bind x fun y => Option.bind (f y) g := by cases x <;> rfl
theorem opt_bind_cond {α β : Type} (c : Bool) (a b : Option α) (g : α → Option β) : Option.bind (bif c then a else b) g = bif c then Option.bind a g else Option.bind b g := by cases c <;> rfl
/-! ### conditions as propositions -/
theorem ilt_T (a b : Int) : (ilt a b = true) = (a < b) := by simp [ilt]
theorem ilt_F (a b : Int) : (ilt a b = false) = (b ≤ a) := by simp [ilt]
theorem ile_T (a b : Int) : (ile a b = true) = (a ≤ b) := by simp [ile]
theorem ile_F (a b : Int) : (ile a b = false) = (b < a) := by simp [ile]
theorem ieq_T (a b : Int) : (ieq a b = true) = (a = b) := by simp [ieq]
theorem ieq_F (a b : Int) : (ieq a b = false) = (a ≠ b) := by simp [ieq]
theorem bnot_T (b : Bool) : ((!b) = true) = (b = false) := by cases b <;> simp
theorem bnot_F (b : Bool) : ((!b) = false) = (b = true) := by cases b <;> simp
theorem ble_T (a b : Nat) : (Nat.ble a b = true) = (a ≤ b) := by simp
theorem ble_F (a b : Nat) : (Nat.ble a b = false) = (b < a) := by
  rw [eq_iff_iff]
  constructor
  · intro h
    rcases Nat.lt_or_ge b a with h' | h'
    · exact h'
    · rw [Nat.ble_eq_true_of_le h'] at h; cases h
  · intro h
    cases hb : Nat.ble a b
    · rfl
    · exact absurd (Nat.le_of_ble_eq_true hb) (by omega)
theorem nz_T (a : Int) : (nz a = true) = (a ≠ 0) := by simp [nz]
theorem nz_F (a : Int) : (nz a = false) = (a = 0) := by simp [nz]
theorem nonneg_T (a : Int) : (nonneg a = true) = (0 ≤ a) := by simp [nonneg]
theorem nonneg_F (a : Int) : (nonneg a = false) = (a < 0) := by simp [nonneg]

/-! ### loops that look at one element after another -/
def allFrom (g : Nat → Bool) : Nat → Nat → Bool
  | _, 0 => true
  | i, k + 1 => bif g i then allFrom g (i + 1) k else false
theorem allFrom_T {g : Nat → Bool} : ∀ {k i : Nat}, allFrom g i k = true → ∀ j, i ≤ j → j < i + k → g j = true
  | 0, i, _, j, h1, h2 => by omega
  | k + 1, i, h, j, h1, h2 => by
    unfold allFrom at h
    cases hg : g i
    · rw [hg] at h; cases h
    · rw [hg] at h
      by_cases e : j = i
      · rw [e]; exact hg
      · exact allFrom_T (k := k) (i := i + 1) h j (by omega) (by omega)
theorem allFrom_of {g : Nat → Bool} : ∀ {k i : Nat}, (∀ j, i ≤ j → j < i + k → g j = true) → allFrom g i k = true
  | 0, i, _ => rfl
  | k + 1, i, h => by
    unfold allFrom
    rw [h i (Nat.le_refl _) (by omega), cond_t]
    exact allFrom_of fun j h1 h2 => h j (by omega) (by omega)
theorem all_loop' {D O : Type} {step : (D → Option O) → D → Option O} (d : Nat → D) (good : O) (bad : Nat → O) (g : Nat → Bool) (n : Nat)
    (h1 : ∀ i, i < n → ∀ r, step r (d i) = bif g i then r (d (i + 1)) else some (bad i)) (h2 : ∀ r, step r (d n) = some good) :
    ∀ (k i N : Nat), i + k = n → k < N → ∃ o, iter step N (d i) = some o ∧ (allFrom g i k = true → o = good) ∧ (allFrom g i k = false → ∃ j, i ≤ j ∧ j < n ∧ g j = false ∧ o = bad j)
  | 0, i, N + 1, hi, hN => ⟨good, by rw [iter_succ, show i = n by omega]; exact h2 _, fun _ => rfl, nofun⟩
  | k + 1, i, N + 1, hi, hN => by
    rw [iter_succ, h1 i (by omega)]
    unfold allFrom
    cases hg : g i
    · exact ⟨bad i, rfl, nofun, fun _ => ⟨i, Nat.le_refl _, by omega, hg, rfl⟩⟩
    · obtain ⟨o, ho, h3, h4⟩ := all_loop' d good bad g n h1 h2 k (i + 1) N (by omega) (by omega)
      refine ⟨o, ho, h3, fun h => ?_⟩
      obtain ⟨j, h5, h6, h7, h8⟩ := h4 h
      exact ⟨j, by omega, h6, h7, h8⟩
theorem all_loop {D O : Type} {step : (D → Option O) → D → Option O} (d : Nat → D) (good bad : O) (g : Nat → Bool) (n : Nat)
    (h1 : ∀ i, i < n → ∀ r, step r (d i) = bif g i then r (d (i + 1)) else some bad) (h2 : ∀ r, step r (d n) = some good) (hn : n < 4611686018427387904) : iter step fuel (d 0) = some (bif allFrom g 0 n then good else bad) := by
  obtain ⟨o, ho, h3, h4⟩ := all_loop' d good (fun _ => bad) g n h1 h2 n 0 fuel (by omega) (by unfold fuel; omega)
  rw [ho]
  cases hg : allFrom g 0 n
  · obtain ⟨j, _, _, _, e⟩ := h4 hg; rw [e]; rfl
  · rw [h3 hg]; rfl
theorem bif_not {α : Type} (b : Bool) (x y : α) : (bif !b then x else y) = bif b then y else x := by cases b <;> rfl
theorem nat_int_toNat (i : Nat) : ((i : Int)).toNat = i := Int.toNat_natCast i
theorem ix_nat {i n : Nat} (h : i < n) : ix (i : Int) n = some i := by rw [ix_ok (by omega) (by omega), nat_int_toNat]
theorem ilt_nat {i n : Nat} (h : i < n) : ilt (i : Int) (n : Int) = true := ilt_t (by omega)
theorem ilt_self (n : Int) : ilt n n = false := ilt_f (Int.le_refl _)
theorem iadd_nat {i : Nat} (h : i < 4611686018427387904) : iadd .i64 (i : Int) 1 = ((i + 1 : Nat) : Int) := by rw [iadd_ok (by omega) (by omega)]; omega
theorem allFrom_eq {g g' : Nat → Bool} {i k : Nat} (h : (∀ j, i ≤ j → j < i + k → g j = true) ↔ ∀ j, i ≤ j → j < i + k → g' j = true) : allFrom g i k = allFrom g' i k := by
  rw [Bool.eq_iff_iff]
  exact ⟨fun h1 => allFrom_of (h.1 (allFrom_T h1)), fun h1 => allFrom_of (h.2 (allFrom_T h1))⟩
theorem bif_T (c a b : Bool) : ((bif c then a else b) = true) = ((c = true ∧ a = true) ∨ (c = false ∧ b = true)) := by cases c <;> simp
theorem bif_F (c a b : Bool) : ((bif c then a else b) = false) = ((c = true ∧ a = false) ∨ (c = false ∧ b = false)) := by cases c <;> simp
theorem map_getD {α β : Type} (f : α → β) (l : List α) (j : Nat) (z : α) (y : β) (h : j < l.length) : (l.map f).getD j y = f (l.getD j z) := by
  simp [List.getD_eq_getElem?_getD, h]
/-- A loop that makes a list, element by element. -/
theorem map_loop {α β D O : Type} {step : (D → Option O) → D → Option O} (d : Nat → List β → D) (out : List β → O) (f : α → β) (l : List α)
    (h1 : ∀ pre x suf r acc, l = pre ++ x :: suf → acc.length = pre.length → step r (d pre.length acc) = r (d (pre.length + 1) (acc ++ [f x])))
    (h2 : ∀ r acc, step r (d l.length acc) = some (out acc)) (hl : l.length < 4611686018427387904) : iter step fuel (d 0 []) = some (out (l.map f)) := by
  have key : ∀ (suf pre : List α) (N : Nat), l = pre ++ suf → suf.length < N → iter step N (d pre.length (pre.map f)) = some (out (l.map f)) := by
    intro suf
    induction suf with
    | nil =>
      intro pre N he hN
      obtain _ | N := N
      · omega
      rw [List.append_nil] at he
      rw [iter_succ, ← he, h2]
    | cons x suf ih =>
      intro pre N he hN
      obtain _ | N := N
      · omega
      rw [iter_succ, h1 pre x suf _ _ he (List.length_map ..)]
      have := ih (pre ++ [x]) N (by rw [he]; simp) (by simp at hN; omega)
      rwa [List.length_append, List.map_append] at this
  exact key l [] fuel rfl (by unfold fuel; omega)

/-- Whether one of them has it. -/
theorem contains_of {D : Type} {step : (D → Option (Bool × ((Int × Unit) × Unit))) → D → Option (Bool × ((Int × Unit) × Unit))} (d : Nat → D) (t : Int) (g : Nat → Bool) (n : Nat)
    (h1 : ∀ i, i < n → ∀ r, step r (d i) = bif g i then r (d (i + 1)) else some (true, (((i : Int), ()), ()))) (h2 : ∀ r, step r (d n) = some (false, ((t, ()), ()))) (hn : n < 4611686018427387904) :
    (Option.bind (iter step fuel (d 0)) fun y => bif y.1 then some (ile 0 y.2.1.1) else some (ile 0 (-1))) = some (!(allFrom g 0 n)) := by
  obtain ⟨o, ho, h3, h4⟩ := all_loop' d _ (fun i : Nat => (true, (((i : Int), ()), ()))) g n h1 h2 n 0 fuel (by omega) (by unfold fuel; omega)
  rw [ho, opt_bind_some]
  cases hg : allFrom g 0 n
  · obtain ⟨j, _, _, _, e⟩ := h4 hg
    rw [e]
    show some (ile 0 (j : Int)) = _
    rw [ile_t (by omega)]; rfl
  · rw [h3 hg]; rfl

end Go.Fw
