/- Floating point numbers up to the bits of not-a-numbers: canonical bits, the operations on them, and that the model's operations respect them. No condition. -/
import Derived.Laws.FloatArith
import Derived.WalkKit
namespace Go.Fw

def isNan (k : FloatKind) (b : Nat) : Bool := (k.decode b).isNaN

def qnan : FloatKind → Nat
  | .f32 => 2143289344
  | .f64 => 9221120237041090561

/-- One word for all not-a-numbers. -/
def canon (k : FloatKind) (b : Nat) : Nat := bif isNan k b then qnan k else b

/-- The word b stands for the canonical word x. -/
def FRel (k : FloatKind) (x b : Nat) : Prop := b < 2 ^ k.format.width ∧ canon k b = x

theorem word_mod (f : Ieee.Format) (neg : Bool) {r : Nat} (h : r < f.signWeight) : f.word neg r % f.signWeight = r := by
  unfold Ieee.Format.word
  split
  · rw [Nat.add_mod_left, Nat.mod_eq_of_lt h]
  · exact Nat.mod_eq_of_lt h

theorem lt_of_wf {k : FloatKind} {r : Nat} (h : (Lit.float k r).wf = true) : r < 2 ^ k.format.width := by
  cases k <;> simp [Lit.wf] at h <;> exact h

theorem read_not_nan (f : Ieee.Format) (b : Nat) (h : b % f.signWeight ≤ f.infRung) : (f.read b).isNaN = false := by
  unfold Ieee.Format.read
  dsimp only
  split
  · rfl
  · split
    · rfl
    · split
      · rfl
      · omega

theorem nearest_mod (f : Ieee.Format) (s : Bool) (m : Nat) (e : Int) : f.nearest s m e % f.signWeight ≤ f.infRung := by
  have hlt := f.infRung_lt
  unfold Ieee.Format.nearest
  split
  · rw [word_mod f s (Nat.two_pow_pos _)]; omega
  · dsimp only
    rw [word_mod f s (Nat.lt_of_le_of_lt (Nat.min_le_right ..) hlt)]
    exact Nat.min_le_right ..

theorem write_num_not_nan (k : FloatKind) (s : Bool) (m : Nat) (e : Int) : isNan k (k.encode (.number s m e)) = false :=
  read_not_nan _ _ (nearest_mod _ s m e)

theorem write_inf_not_nan (k : FloatKind) (s : Bool) : isNan k (k.encode (.infinity s)) = false :=
  read_not_nan _ _ (by show (k.format.word s k.format.infRung) % _ ≤ _; rw [word_mod _ s k.format.infRung_lt]; omega)

theorem write_not_nan (k : FloatKind) (d : Ieee.Datum) (h : d.isNaN = false) : isNan k (k.encode d) = false := by
  cases d with
  | number s m e => exact write_num_not_nan k s m e
  | infinity s => exact write_inf_not_nan k s
  | nan s t => cases h

theorem sum_not_nan {x y d : Ieee.Datum} (h : x.sum y = some d) : d.isNaN = false := by
  cases x <;> cases y <;> simp [Ieee.Datum.sum] at h
  case number.number => subst h; rfl
  case number.infinity => subst h; rfl
  case infinity.number => subst h; rfl
  case infinity.infinity => obtain ⟨_, rfl⟩ := h; rfl

theorem product_not_nan {x y d : Ieee.Datum} (h : x.product y = some d) : d.isNaN = false := by
  cases x <;> cases y <;> simp [Ieee.Datum.product] at h
  case number.number => subst h; rfl
  case number.infinity => obtain ⟨_, rfl⟩ := h; rfl
  case infinity.number => obtain ⟨_, rfl⟩ := h; rfl
  case infinity.infinity => subst h; rfl

theorem quotient_not_nan {n : Nat} {x y d : Ieee.Datum} (h : x.quotient n y = some d) : d.isNaN = false := by
  cases x <;> cases y <;> simp [Ieee.Datum.quotient] at h
  case number.number =>
    split at h
    · split at h <;> cases h; rfl
    · cases h; rfl
  case number.infinity => subst h; rfl
  case infinity.number => subst h; rfl

theorem root_not_nan {n : Nat} {x d : Ieee.Datum} (h : x.root n = some d) : d.isNaN = false := by
  cases x <;> simp only [Ieee.Datum.root] at h
  case number s m e =>
    split at h
    · cases h; rfl
    · split at h
      · cases h
      · cases h; rfl
  case infinity s => split at h <;> cases h; rfl
  case nan => cases h

theorem map_write_not_nan (k : FloatKind) {o : Option Ieee.Datum} (ho : ∀ d, o = some d → d.isNaN = false) {r : Nat} (h : o.map k.format.write = some r) : isNan k r = false := by
  cases o with
  | none => cases h
  | some d => cases h; exact write_not_nan k d (ho d rfl)

theorem floatBits_not_nan {op : BinOp} {k : FloatKind} {x y r : Nat} (h : floatBits op k x y = some r) : isNan k r = false := by
  unfold floatBits at h
  split at h
  · exact map_write_not_nan k (fun d hd => sum_not_nan hd) h
  · exact map_write_not_nan k (fun d hd => sum_not_nan hd) h
  · exact map_write_not_nan k (fun d hd => product_not_nan hd) h
  · exact map_write_not_nan k (fun d hd => quotient_not_nan hd) h
  · cases h

theorem read_nan {k : FloatKind} {b : Nat} (h : isNan k b = true) : ∃ s t, k.format.read b = .nan s t := by
  unfold isNan FloatKind.decode at h
  cases hd : k.format.read b <;> rw [hd] at h <;> first | exact ⟨_, _, rfl⟩ | cases h

theorem floatBits_nan_left {op : BinOp} {k : FloatKind} {x y : Nat} (h : isNan k x = true) : floatBits op k x y = none := by
  obtain ⟨s, t, e⟩ := read_nan h
  unfold floatBits
  split <;> simp [Ieee.Format.add, Ieee.Format.sub, Ieee.Format.mul, Ieee.Format.div, e, Ieee.Datum.sum, Ieee.Datum.product, Ieee.Datum.quotient]

theorem floatBits_nan_right {op : BinOp} {k : FloatKind} {x y : Nat} (h : isNan k y = true) : floatBits op k x y = none := by
  obtain ⟨s, t, e⟩ := read_nan h
  unfold floatBits
  split <;> cases hx : k.format.read x <;>
    simp [Ieee.Format.add, Ieee.Format.sub, Ieee.Format.mul, Ieee.Format.div, e, hx, Ieee.Datum.sum, Ieee.Datum.product, Ieee.Datum.quotient, Ieee.Datum.opposite]

theorem isNan_qnan (k : FloatKind) : isNan k (qnan k) = true := by cases k <;> decide

theorem qnan_lt (k : FloatKind) : qnan k < 2 ^ k.format.width := by cases k <;> decide

theorem canon_nan {k : FloatKind} {b : Nat} (h : isNan k b = true) : canon k b = qnan k := by simp [canon, h]
theorem canon_num {k : FloatKind} {b : Nat} (h : isNan k b = false) : canon k b = b := by simp [canon, h]

theorem isNan_canon (k : FloatKind) (b : Nat) : isNan k (canon k b) = isNan k b := by
  cases h : isNan k b
  · rw [canon_num h, h]
  · rw [canon_nan h, isNan_qnan]

theorem canon_canon (k : FloatKind) (b : Nat) : canon k (canon k b) = canon k b := by
  cases h : isNan k b
  · rw [canon_num h, canon_num h]
  · rw [canon_nan h, canon_nan (isNan_qnan k)]

theorem floatBits_canon (op : BinOp) (k : FloatKind) (x y : Nat) : floatBits op k (canon k x) (canon k y) = floatBits op k x y := by
  cases hx : isNan k x
  · rw [canon_num hx]
    cases hy : isNan k y
    · rw [canon_num hy]
    · rw [floatBits_nan_right hy, floatBits_nan_right (isNan_canon k y ▸ hy)]
  · rw [floatBits_nan_left hx, floatBits_nan_left (isNan_canon k x ▸ hx)]

theorem FRel.isNan {k : FloatKind} {x b : Nat} (h : FRel k x b) : isNan k x = isNan k b := by rw [← h.2, isNan_canon]
theorem FRel.canon {k : FloatKind} {x b : Nat} (h : FRel k x b) : canon k x = x := by rw [← h.2, canon_canon]
theorem FRel.eq {k : FloatKind} {x b : Nat} (h : FRel k x b) (hn : Fw.isNan k x = false) : b = x := by
  rw [h.isNan] at hn
  rw [← h.2, canon_num hn]
theorem FRel.of_num {k : FloatKind} {b : Nat} (h : b < 2 ^ k.format.width) (hn : Fw.isNan k b = false) : FRel k b b := ⟨h, canon_num hn⟩
theorem FRel.of_nan {k : FloatKind} {b : Nat} (h : b < 2 ^ k.format.width) (hn : Fw.isNan k b = true) : FRel k (qnan k) b := ⟨h, canon_nan hn⟩
theorem FRel.mk' {k : FloatKind} {b : Nat} (h : b < 2 ^ k.format.width) : FRel k (Fw.canon k b) b := ⟨h, rfl⟩

/-! The operations on canonical words. -/
def fop (op : BinOp) (k : FloatKind) (x y : Nat) : Nat := (floatBits op k x y).getD (qnan k)
def fadd (k : FloatKind) (x y : Nat) : Nat := fop .add k x y
def fsub (k : FloatKind) (x y : Nat) : Nat := fop .sub k x y
def fmul (k : FloatKind) (x y : Nat) : Nat := fop .mul k x y
def fdiv (k : FloatKind) (x y : Nat) : Nat := fop .quo k x y
def feq (k : FloatKind) (x y : Nat) : Bool := k.format.order x y == some .eq
def flt (k : FloatKind) (x y : Nat) : Bool := k.format.order x y == some .lt
def fle (k : FloatKind) (x y : Nat) : Bool := k.format.order x y == some .lt || k.format.order x y == some .eq
def fgt (k : FloatKind) (x y : Nat) : Bool := k.format.order x y == some .gt
def fge (k : FloatKind) (x y : Nat) : Bool := k.format.order x y == some .gt || k.format.order x y == some .eq
def fneg (k : FloatKind) (x : Nat) : Nat := canon k (Op.negFloat k x)
def fofInt (k : FloatKind) (n : Int) : Nat := k.nearest n
/-- float to float; none: the result is too great for the narrower kind. -/
def fconv (s d : FloatKind) (x : Nat) : Option Nat := bif isNan s x then some (qnan d) else floatToFloatBits s x d
/-- Single precision in double precision. -/
def fwide (x : Nat) : Nat := (fconv .f32 .f64 x).getD 0
def fmax (k : FloatKind) (x y : Nat) : Nat :=
  match k.format.order x y with
  | none => qnan k
  | some .lt => y
  | some .gt => x
  | some .eq => bif (k.decode x).neg then y else x
def fmin (k : FloatKind) (x y : Nat) : Nat :=
  match k.format.order x y with
  | none => qnan k
  | some .lt => x
  | some .gt => y
  | some .eq => bif (k.decode x).neg then x else y
def fsqrt (x : Nat) : Nat := (FloatKind.f64.format.sqrt x).getD (qnan .f64)
def fround (way : Ieee.Toward) (x : Nat) : Nat := bif isNan .f64 x then qnan .f64 else FloatKind.f64.encode ((FloatKind.f64.decode x).integral way)

theorem order_nan_left {k : FloatKind} {x y : Nat} (h : isNan k x = true) : k.format.order x y = none := by
  obtain ⟨s, t, e⟩ := read_nan h
  simp [Ieee.Format.order, e, Ieee.Datum.order]
theorem order_nan_right {k : FloatKind} {x y : Nat} (h : isNan k y = true) : k.format.order x y = none := by
  obtain ⟨s, t, e⟩ := read_nan h
  cases hx : k.format.read x <;> simp [Ieee.Format.order, e, hx, Ieee.Datum.order]
theorem order_canon (k : FloatKind) (x y : Nat) : k.format.order (canon k x) (canon k y) = k.format.order x y := by
  cases hx : isNan k x
  · rw [canon_num hx]
    cases hy : isNan k y
    · rw [canon_num hy]
    · rw [order_nan_right hy, order_nan_right (isNan_canon k y ▸ hy)]
  · rw [order_nan_left hx, order_nan_left (isNan_canon k x ▸ hx)]

section rel
variable {k : FloatKind} {x y b c : Nat}

theorem order_rel (hx : FRel k x b) (hy : FRel k y c) : k.format.order b c = k.format.order x y := by
  rw [← hx.2, ← hy.2, order_canon]

theorem fop_some {op : BinOp} {r : Nat} (hx : FRel k x b) (hy : FRel k y c) (h : floatBits op k b c = some r) : FRel k (fop op k x y) r := by
  have hl : (Lit.float k r).wf = true := floatBits_wf h
  have hlt : r < 2 ^ k.format.width := lt_of_wf hl
  rw [← floatBits_canon, hx.2, hy.2] at h
  refine ⟨hlt, ?_⟩
  rw [fop, h, canon_num (floatBits_not_nan h)]
  rfl

theorem fop_none {op : BinOp} {r : Nat} (hx : FRel k x b) (hy : FRel k y c) (h : floatBits op k b c = none) (hr : r < 2 ^ k.format.width) (hn : isNan k r = true) : FRel k (fop op k x y) r := by
  rw [← floatBits_canon, hx.2, hy.2] at h
  refine ⟨hr, ?_⟩
  rw [fop, h, canon_nan hn]
  rfl
end rel

set_option maxRecDepth 100000 in
theorem cut_nan (k : FloatKind) (q : Question) (t a b : Nat) (hq : q = .nanBits k a b ∨ q = .nanConv k a ∨ (∃ m, q = .nanMinMax k m a b)) :
    q.cut t < 2 ^ k.format.width ∧ isNan k (q.cut t) = true := by
  have h32 : ∀ t : Nat, (t % 2) * 2 ^ 31 + 0x7f800000 + 1 + (t / 2) % (2 ^ 23 - 1) < 2 ^ 32 ∧ isNan .f32 ((t % 2) * 2 ^ 31 + 0x7f800000 + 1 + (t / 2) % (2 ^ 23 - 1)) = true := by
    intro t
    have h1 : t / 2 % (2 ^ 23 - 1) < 2 ^ 23 - 1 := Nat.mod_lt _ (by decide)
    have h2 : t % 2 < 2 := Nat.mod_lt _ (by decide)
    generalize t / 2 % (2 ^ 23 - 1) = u at *
    generalize t % 2 = v at *
    refine ⟨by omega, ?_⟩
    have e1 : (v * 2 ^ 31 + 0x7f800000 + 1 + u) % Ieee.single.signWeight = 0x7f800000 + 1 + u := by
      show (v * 2 ^ 31 + 0x7f800000 + 1 + u) % 2147483648 = _
      omega
    unfold isNan FloatKind.decode FloatKind.format Ieee.Format.read
    dsimp only
    rw [e1]
    have a1 : Ieee.single.binade = 8388608 := by decide
    have a2 : Ieee.single.infRung = 2139095040 := by decide
    rw [a1, a2, if_neg (by omega), if_neg (by omega), if_neg (by omega)]
    rfl
  have h64 : ∀ t : Nat, (t % 2) * 2 ^ 63 + 0x7ff0000000000000 + 1 + (t / 2) % (2 ^ 52 - 1) < 2 ^ 64 ∧ isNan .f64 ((t % 2) * 2 ^ 63 + 0x7ff0000000000000 + 1 + (t / 2) % (2 ^ 52 - 1)) = true := by
    intro t
    have h1 : t / 2 % (2 ^ 52 - 1) < 2 ^ 52 - 1 := Nat.mod_lt _ (by decide)
    have h2 : t % 2 < 2 := Nat.mod_lt _ (by decide)
    generalize t / 2 % (2 ^ 52 - 1) = u at *
    generalize t % 2 = v at *
    refine ⟨by omega, ?_⟩
    have e1 : (v * 2 ^ 63 + 0x7ff0000000000000 + 1 + u) % Ieee.double.signWeight = 0x7ff0000000000000 + 1 + u := by
      show (v * 2 ^ 63 + 0x7ff0000000000000 + 1 + u) % 9223372036854775808 = _
      omega
    unfold isNan FloatKind.decode FloatKind.format Ieee.Format.read
    dsimp only
    rw [e1]
    have a1 : Ieee.double.binade = 4503599627370496 := by decide
    have a2 : Ieee.double.infRung = 9218868437227405312 := by decide
    rw [a1, a2, if_neg (by omega), if_neg (by omega), if_neg (by omega)]
    rfl
  cases k
  · rcases hq with rfl | rfl | ⟨m, rfl⟩ <;> exact h32 t
  · rcases hq with rfl | rfl | ⟨m, rfl⟩ <;> exact h64 t

theorem neg_mod (f : Ieee.Format) (b : Nat) : (b ^^^ f.signWeight) % f.signWeight = b % f.signWeight := by
  unfold Ieee.Format.signWeight
  rw [Nat.xor_mod_two_pow, Nat.mod_self, Nat.xor_zero]

theorem isNan_mod (k : FloatKind) (b c : Nat) (h : b % k.format.signWeight = c % k.format.signWeight) : isNan k b = isNan k c := by
  unfold isNan FloatKind.decode Ieee.Format.read
  dsimp only
  rw [h]
  split
  · rfl
  · split
    · rfl
    · split <;> rfl

theorem isNan_neg (k : FloatKind) (b : Nat) : isNan k (Op.negFloat k b) = isNan k b := isNan_mod k _ _ (neg_mod _ b)

theorem neg_lt (k : FloatKind) {b : Nat} (h : b < 2 ^ k.format.width) : Op.negFloat k b < 2 ^ k.format.width := by
  unfold Op.negFloat
  refine Nat.xor_lt_two_pow h ?_
  cases k
  · show 2 ^ 31 < 2 ^ 32; decide
  · show 2 ^ 63 < 2 ^ 64; decide

theorem fneg_rel {k : FloatKind} {x b : Nat} (h : FRel k x b) : FRel k (fneg k x) (Op.negFloat k b) := by
  refine ⟨neg_lt k h.1, ?_⟩
  unfold fneg
  cases hn : isNan k b
  · rw [h.eq (h.isNan.trans hn)]
  · rw [canon_nan (by rw [isNan_neg]; exact hn), canon_nan (by rw [isNan_neg, h.isNan]; exact hn)]

theorem encode_lt (k : FloatKind) (d : Ieee.Datum) : k.encode d < 2 ^ k.format.width := k.format.write_lt d

theorem fofInt_rel (k : FloatKind) (n : Int) : FRel k (fofInt k n) (k.nearest n) := FRel.of_num (encode_lt k (.number (n < 0) n.natAbs 0)) (write_num_not_nan k _ _ _)

theorem floatToFloatBits_rel {s d : FloatKind} {x r : Nat} (hx : x < 2 ^ s.format.width) (hn : isNan s x = false) (h : floatToFloatBits s x d = some r) : FRel d r r := by
  have hl : (Lit.float d r).wf = true := floatToFloatBits_wf (wf_of_lt s x hx) h
  refine FRel.of_num (lt_of_wf hl) ?_
  unfold floatToFloatBits at h
  split at h
  · cases h; subst_vars; exact hn
  · split at h
    · cases h
    · cases h; exact write_inf_not_nan _ _
    · split at h
      · cases h
      · cases h; exact write_num_not_nan _ _ _ _

end Go.Fw
