/- Bits of words: what is read, and what is written again. No condition. -/
import Derived.Test.YtmfmdoppjcaedaaFwE
import Derived.Test.YtmfmdoppjcaedaaUThy
set_option linter.unusedVariables false
set_option linter.unusedSimpArgs false
namespace Go.Fw

/-! ### single operations -/
theorem bv_one (k : IntKind) (a : Int) : (BitVec.ofInt k.bits a &&& BitVec.ofInt k.bits 1).toNat = 0 ∨ (BitVec.ofInt k.bits a &&& BitVec.ofInt k.bits 1).toNat = 1 := by
  have h1 : (BitVec.ofInt k.bits 1).toNat = 1 := by cases k <;> decide +kernel
  rw [BitVec.toNat_and, h1, Nat.and_one_is_mod]
  omega
theorem iand_one (k : IntKind) (a : Int) : iand k a 1 = 0 ∨ iand k a 1 = 1 := by
  unfold iand
  rcases bv_one k a with h | h
  · left; rw [h]; cases k <;> decide +kernel
  · right; rw [h]; cases k <;> decide +kernel
theorem bv_nat64 {a : Int} (h0 : 0 ≤ a) (h1 : a < 18446744073709551616) : (BitVec.ofInt 64 a).toNat = a.toNat := by
  rw [BitVec.toNat_ofInt]
  have : a % ((2 ^ 64 : Nat) : Int) = a := Int.emod_eq_of_lt h0 (by simpa using h1)
  rw [this]
theorem ior_bit {w b : Int} (h0 : 0 ≤ w) (h1 : w < 4611686018427387904) (hb : b = 0 ∨ b = 1) : ior .i64 (2 * w) b = 2 * w + b := by
  unfold ior
  rw [show IntKind.i64.bits = 64 from rfl, BitVec.toNat_or, bv_nat64 (by omega) (by omega), bv_nat64 (by omega) (by omega)]
  obtain ⟨n, rfl⟩ := Int.eq_ofNat_of_zero_le h0
  have key : (2 * (n : Int)).toNat ||| b.toNat = 2 * n + b.toNat := by
    have e : (2 * (n : Int)).toNat = n <<< 1 := by rw [Nat.shiftLeft_eq]; omega
    rw [e, ← Nat.shiftLeft_add_eq_or_of_lt (i := 1) (by omega), Nat.shiftLeft_eq]
    omega
  rw [key, wrap_i64 (by omega) (by omega)]
  omega
theorem ishl_one {w : Int} (h0 : 0 ≤ w) (h1 : w < 4611686018427387904) : ishl .i64 w 1 = 2 * w := by
  unfold ishl
  rw [show (2 : Int) ^ min (1 : Int).toNat IntKind.i64.bits = 2 by decide, wrap_i64 (by omega) (by omega)]
  omega
theorem ishl_pow : ∀ n : Nat, n ≤ 62 → ishl .i64 1 (n : Int) = ((2 ^ n : Nat) : Int) := by decide +kernel
theorem iconv_u64 {a : Int} (h0 : 0 ≤ a) (h1 : a < 4611686018427387904) : iconv .u64 a = a := by
  unfold iconv
  rw [IntKind.wrap_u64]; omega
theorem byte_bit : ∀ c : Nat, c < 8 → ishl .u8 (iconv .u8 1) (7 - (c : Int)) = ishr .u8 128 (c : Int) := by decide +kernel
theorem byte_none : ∀ c : Nat, c < 8 → ishl .u8 (iconv .u8 0) (7 - (c : Int)) = 0 := by decide +kernel
theorem byte_or : ∀ n : Nat, n < 256 → ior .u8 (n : Int) 0 = (n : Int) := by decide +kernel
theorem ior_byte (a b : Int) : 0 ≤ ior .u8 a b ∧ ior .u8 a b ≤ 255 := by
  have := wrap_inR .u8 ((BitVec.ofInt IntKind.u8.bits a ||| BitVec.ofInt IntKind.u8.bits b).toNat : Int)
  exact this

/-! ### reading -/
/-- A bit of a string. -/
def bitV (s : ByteArray) (a : Nat) : Int := iconv .i64 (iand .u8 (ishr .u8 (((List.getD s.data.toList (a / 8) 0).toNat : Nat) : Int) (7 - ((a % 8 : Nat) : Int))) 1)
theorem bitV_01 (s : ByteArray) (a : Nat) : bitV s a = 0 ∨ bitV s a = 1 := by
  unfold bitV
  rcases iand_one .u8 (ishr .u8 (((List.getD s.data.toList (a / 8) 0).toNat : Nat) : Int) (7 - ((a % 8 : Nat) : Int))) with h | h
  · left; rw [h]; decide +kernel
  · right; rw [h]; decide +kernel

def readW (s : ByteArray) : Nat → Nat → Int → Int
  | 0, _, w => w
  | k + 1, a, w => readW s k (a + 1) (2 * w + bitV s a)
theorem readW_lt (s : ByteArray) : ∀ (k j a : Nat) (w : Int), 0 ≤ w → w < ((2 ^ j : Nat) : Int) → 0 ≤ readW s k a w ∧ readW s k a w < ((2 ^ (j + k) : Nat) : Int)
  | 0, j, a, w, h0, h1 => ⟨h0, h1⟩
  | k + 1, j, a, w, h0, h1 => by
    have hb := bitV_01 s a
    have := readW_lt s k (j + 1) (a + 1) (2 * w + bitV s a) (by omega) (by rw [Nat.pow_succ]; omega)
    rw [show j + (k + 1) = j + 1 + k by omega]
    exact this

theorem pow_le_62 {j : Nat} (h : j ≤ 61) : ((2 ^ j : Nat) : Int) ≤ 2305843009213693952 := by
  have : 2 ^ j ≤ 2 ^ 61 := Nat.pow_le_pow_right (by omega) h
  have e : (2 ^ 61 : Nat) = 2305843009213693952 := by decide
  omega

theorem at8 (a : Nat) (h : a < 4611686018427387904) : iquo .i64 (a : Int) 8 = ((a / 8 : Nat) : Int) ∧ irem .i64 (a : Int) 8 = ((a % 8 : Nat) : Int) ∧ isub .i64 7 (irem .i64 (a : Int) 8) = 7 - ((a % 8 : Nat) : Int) := by
  have h1 : irem .i64 (a : Int) 8 = ((a % 8 : Nat) : Int) := by rw [irem_nn (by omega)]; omega
  refine ⟨by rw [iquo_nn (by omega) (by omega) (by omega)]; omega, h1, ?_⟩
  rw [h1, isub_ok (by omega) (by omega)]

theorem s_read (s : ByteArray) (sizes r0 : List Int) (i n : Nat) (hi : i < sizes.length) (hn : sizes.getD i 0 = (n : Int)) (hn62 : n ≤ 62) (hs : s.size ≤ 1048576) : ∀ (rem k a : Nat) (w : Int) (N : Nat), k + rem = n → 0 ≤ w → w < ((2 ^ k : Nat) : Int) → a + rem ≤ 8 * s.size → rem < N →
    iter L_s_l06Words_3 N ((s, (sizes, ((a : Int), ((i : Int), (w, ((k : Int), ())))))), (r0, ())) = some ((s, (sizes, (((a + rem : Nat) : Int), ((i : Int), (readW s rem a w, ()))))), (r0, ()))
  | 0, k, a, w, N, hk, h0, h1, ha, hN => by
    obtain _ | N := N
    · omega
    rw [iter_succ]
    simp only [L_s_l06Words_3]
    rw [ix_nat hi, opt_bind_some, hn, show k = n by omega, ilt_self, cond_f]
    rfl
  | rem + 1, k, a, w, N, hk, h0, h1, ha, hN => by
    obtain _ | N := N
    · omega
    obtain ⟨e1, e2, e3⟩ := at8 a (by omega)
    have hb := bitV_01 s a
    have hp := pow_le_62 (j := k) (by omega)
    have ih := s_read s sizes r0 i n hi hn hn62 hs rem (k + 1) (a + 1) (2 * w + bitV s a) N (by omega) (by omega) (by rw [Nat.pow_succ]; omega) (by omega) (by omega)
    rw [iter_succ]
    simp only [L_s_l06Words_3]
    rw [ix_nat hi, opt_bind_some, hn, ilt_nat (show k < n by omega), cond_t, e1, ix_nat (by omega), opt_bind_some, e3, iconv_u64 (by omega) (by omega), show nonneg (7 - ((a % 8 : Nat) : Int)) = true by rw [nonneg_T]; omega, cond_t,
      iadd_nat (by omega), iadd_nat (by omega), ishl_one h0 (by omega)]
    have eb : iconv .i64 (iand .u8 (ishr .u8 (((List.getD s.data.toList (a / 8) 0).toNat : Nat) : Int) (7 - ((a % 8 : Nat) : Int))) 1) = bitV s a := rfl
    rw [eb, ior_bit h0 (by omega) hb, ih]
    rw [show a + 1 + rem = a + (rem + 1) by omega]
    rfl

theorem i_read (s : ByteArray) (sizes t37 base : List Int) (t38 t39 : Int) (i n : Nat) (hi : i < base.length) (hn62 : n ≤ 62) (hs : s.size ≤ 1048576) : ∀ (rem k a : Nat) (w : Int) (N : Nat), k + rem = n → 0 ≤ w → w < ((2 ^ k : Nat) : Int) → a + rem ≤ 8 * s.size → rem < N →
    iter L_i_WordsOfBytes_3 N ((s, (sizes, ((a : Int), ((i : Int), (t37, (t38, (t39, ((n : Int), ((k : Int), ()))))))))), (base.set i w, ())) = some ((s, (sizes, (((a + rem : Nat) : Int), (t37, (t38, (t39, ())))))), (base.set i (readW s rem a w), ()))
  | 0, k, a, w, N, hk, h0, h1, ha, hN => by
    obtain _ | N := N
    · omega
    rw [iter_succ]
    simp only [L_i_WordsOfBytes_3]
    rw [show k = n by omega, ilt_self, cond_f]
    rfl
  | rem + 1, k, a, w, N, hk, h0, h1, ha, hN => by
    obtain _ | N := N
    · omega
    obtain ⟨e1, e2, e3⟩ := at8 a (by omega)
    have hb := bitV_01 s a
    have hp := pow_le_62 (j := k) (by omega)
    have ih := i_read s sizes t37 base t38 t39 i n hi hn62 hs rem (k + 1) (a + 1) (2 * w + bitV s a) N (by omega) (by omega) (by rw [Nat.pow_succ]; omega) (by omega) (by omega)
    have hlen : (base.set i w).length = base.length := List.length_set
    have hget : (base.set i w).getD i 0 = w := by simp [List.getD_eq_getElem?_getD, hi]
    have hset : ∀ v, (base.set i w).set i v = base.set i v := fun v => List.set_set ..
    rw [iter_succ]
    simp only [L_i_WordsOfBytes_3]
    rw [ilt_nat (show k < n by omega), cond_t, ix_nat (show i < (base.set i w).length by omega), opt_bind_some, e1, ix_nat (by omega), opt_bind_some, e3, show nonneg (7 - ((a % 8 : Nat) : Int)) = true by rw [nonneg_T]; omega, cond_t, opt_bind_some,
      iadd_nat (by omega), iadd_nat (by omega), hget, ishl_one h0 (by omega), hset]
    have eb : iconv .i64 (iand .u8 (ishr .u8 (((List.getD s.data.toList (a / 8) 0).toNat : Nat) : Int) (7 - ((a % 8 : Nat) : Int))) 1) = bitV s a := rfl
    rw [eb, ior_bit h0 (by omega) hb, ih]
    rw [show a + 1 + rem = a + (rem + 1) by omega]
    rfl

def sumN : List Int → Nat
  | [] => 0
  | n :: r => n.toNat + sumN r
def readAll (s : ByteArray) : Nat → List Int → List Int
  | _, [] => []
  | a, n :: r => readW s n.toNat a 0 :: readAll s (a + n.toNat) r
def okSz (l : List Int) : Prop := ∀ n, n ∈ l → 1 ≤ n ∧ n ≤ 62
theorem sumN_le : ∀ l : List Int, okSz l → sumN l ≤ 62 * l.length
  | [], _ => Nat.le_refl _
  | n :: r, h => by
    have := sumN_le r fun x hx => h x (.tail _ hx)
    have := h n (.head _)
    simp only [sumN, List.length_cons]
    omega
theorem readAll_length (s : ByteArray) : ∀ (l : List Int) (a : Nat), (readAll s a l).length = l.length
  | [], _ => rfl
  | n :: r, a => by simp [readAll, readAll_length s r]

theorem s_sum (s : ByteArray) (sizes : List Int) (hl : sizes.length ≤ 512) (ok : okSz sizes) : ∀ (suf pre : List Int) (N : Nat), sizes = pre ++ suf → suf.length < N →
    iter L_s_l06Words_1 N ((s, (sizes, ((sumN pre : Int), ((pre.length : Int), ())))), ()) = some ((s, (sizes, (((sumN sizes : Nat) : Int), ()))), ())
  | [], pre, N, he, hN => by
    obtain _ | N := N
    · omega
    rw [List.append_nil] at he
    subst he
    rw [iter_succ]
    simp only [L_s_l06Words_1, ilt_self, cond_f]
  | n :: suf, pre, N, he, hN => by
    obtain _ | N := N
    · omega
    have hpl : pre.length < sizes.length := by rw [he]; simp
    have hx : sizes.getD pre.length 0 = n := by rw [he]; exact getD_mid ..
    have hn := ok n (by rw [he]; simp)
    have hsum := sumN_le pre fun x hx => ok x (by rw [he]; simp [hx])
    have e : sumN (pre ++ [n]) = sumN pre + n.toNat := by
      have : ∀ l : List Int, sumN (l ++ [n]) = sumN l + n.toNat := by
        intro l
        induction l with
        | nil => simp [sumN]
        | cons x l ih => simp [sumN, ih]; omega
      exact this pre
    have ih := s_sum s sizes hl ok suf (pre ++ [n]) N (by rw [he]; simp) (by simp at hN; omega)
    rw [List.length_append, e] at ih
    rw [iter_succ]
    simp only [L_s_l06Words_1]
    rw [ilt_nat hpl, cond_t, ix_nat hpl, opt_bind_some, hx, iadd_nat (by omega), iadd_ok (by omega) (by omega)]
    rw [show ((sumN pre : Nat) : Int) + n = ((sumN pre + n.toNat : Nat) : Int) by omega]
    exact ih

theorem i_sum (s : ByteArray) (sizes : List Int) (hl : sizes.length ≤ 512) (ok : okSz sizes) : ∀ (suf pre : List Int) (N : Nat), sizes = pre ++ suf → suf.length < N →
    iter L_i_WordsOfBytes_1 N ((s, (sizes, ((sumN pre : Int), (sizes, ((sizes.length : Int), ((pre.length : Int), ())))))), ()) = some ((s, (sizes, (((sumN sizes : Nat) : Int), ()))), ())
  | [], pre, N, he, hN => by
    obtain _ | N := N
    · omega
    rw [List.append_nil] at he
    subst he
    rw [iter_succ]
    simp only [L_i_WordsOfBytes_1, ilt_self, cond_f]
  | n :: suf, pre, N, he, hN => by
    obtain _ | N := N
    · omega
    have hpl : pre.length < sizes.length := by rw [he]; simp
    have hx : sizes.getD pre.length 0 = n := by rw [he]; exact getD_mid ..
    have hn := ok n (by rw [he]; simp)
    have hsum := sumN_le pre fun x hx => ok x (by rw [he]; simp [hx])
    have e : sumN (pre ++ [n]) = sumN pre + n.toNat := by
      have : ∀ l : List Int, sumN (l ++ [n]) = sumN l + n.toNat := by
        intro l
        induction l with
        | nil => simp [sumN]
        | cons x l ih => simp [sumN, ih]; omega
      exact this pre
    have ih := i_sum s sizes hl ok suf (pre ++ [n]) N (by rw [he]; simp) (by simp at hN; omega)
    rw [List.length_append, e] at ih
    rw [iter_succ]
    simp only [L_i_WordsOfBytes_1]
    rw [ilt_nat hpl, cond_t, ix_nat hpl, opt_bind_some, hx, iadd_nat (by omega), iadd_ok (by omega) (by omega)]
    rw [show ((sumN pre : Nat) : Int) + n = ((sumN pre + n.toNat : Nat) : Int) by omega]
    exact ih

theorem s_words (s : ByteArray) (sizes : List Int) (hl : sizes.length ≤ 512) (ok : okSz sizes) (hs : s.size ≤ 1048576) : ∀ (suf pre acc : List Int) (a N : Nat), sizes = pre ++ suf → acc.length = pre.length → a + sumN suf ≤ 8 * s.size → suf.length < N →
    iter L_s_l06Words_2 N ((s, (sizes, ((a : Int), ((pre.length : Int), ())))), (acc, ())) = some ((s, (sizes, ())), (acc ++ readAll s a suf, ()))
  | [], pre, acc, a, N, he, hacc, ha, hN => by
    obtain _ | N := N
    · omega
    rw [List.append_nil] at he
    subst he
    rw [iter_succ]
    simp only [L_s_l06Words_2, ilt_self, cond_f, readAll, List.append_nil]
  | n :: suf, pre, acc, a, N, he, hacc, ha, hN => by
    obtain _ | N := N
    · omega
    have hpl : pre.length < sizes.length := by rw [he]; simp
    have hx : sizes.getD pre.length 0 = n := by rw [he]; exact getD_mid ..
    have hn := ok n (by rw [he]; simp)
    simp only [sumN] at ha
    have hin := s_read s sizes acc pre.length n.toNat hpl (by rw [hx]; omega) (by omega) hs n.toNat 0 a 0 fuel (by omega) (by omega) (by decide) (by omega) (by unfold fuel; omega)
    rw [show ((0 : Nat) : Int) = 0 from rfl] at hin
    have ih := s_words s sizes hl ok hs suf (pre ++ [n]) (acc ++ [readW s n.toNat a 0]) (a + n.toNat) N (by rw [he]; simp) (by simp [hacc]) (by omega) (by simp at hN; omega)
    rw [List.length_append, List.append_assoc] at ih
    rw [iter_succ]
    simp only [L_s_l06Words_2]
    rw [ilt_nat hpl, cond_t, hin, opt_bind_some]
    simp only []
    rw [ble_t (by omega), cond_t, iadd_nat (by omega)]
    exact ih

theorem i_words (s : ByteArray) (sizes : List Int) (hl : sizes.length ≤ 512) (ok : okSz sizes) (hs : s.size ≤ 1048576) : ∀ (suf pre acc : List Int) (a N : Nat), sizes = pre ++ suf → acc.length = pre.length → a + sumN suf ≤ 8 * s.size → suf.length < N →
    iter L_i_WordsOfBytes_2 N ((s, (sizes, ((a : Int), (sizes, ((sizes.length : Int), ((pre.length : Int), ())))))), (acc ++ List.replicate suf.length 0, ())) = some ((s, (sizes, ())), (acc ++ readAll s a suf, ()))
  | [], pre, acc, a, N, he, hacc, ha, hN => by
    obtain _ | N := N
    · omega
    rw [List.append_nil] at he
    subst he
    rw [iter_succ]
    simp only [L_i_WordsOfBytes_2, ilt_self, cond_f, readAll, List.length_nil, List.replicate_zero]
  | n :: suf, pre, acc, a, N, he, hacc, ha, hN => by
    obtain _ | N := N
    · omega
    have hpl : pre.length < sizes.length := by rw [he]; simp
    have hx : sizes.getD pre.length 0 = n := by rw [he]; exact getD_mid ..
    have hn := ok n (by rw [he]; simp)
    simp only [sumN] at ha
    have hself : (acc ++ List.replicate (n :: suf).length 0).set pre.length 0 = acc ++ List.replicate (n :: suf).length (0 : Int) := by
      rw [List.length_cons, List.replicate_succ, ← hacc, set_mid]
    have hnew : ∀ v : Int, (acc ++ List.replicate (n :: suf).length 0).set pre.length v = (acc ++ [v]) ++ List.replicate suf.length 0 := by
      intro v
      rw [List.length_cons, List.replicate_succ, ← hacc, set_mid]
      simp
    have hin := i_read s sizes sizes (acc ++ List.replicate (n :: suf).length 0) (sizes.length : Int) (pre.length : Int) pre.length n.toNat (by simp [hacc]) (by omega) hs n.toNat 0 a 0 fuel (by omega) (by omega) (by decide) (by omega) (by unfold fuel; omega)
    rw [show ((0 : Nat) : Int) = 0 from rfl, hself, hnew, show ((n.toNat : Nat) : Int) = n by omega] at hin
    have ih := i_words s sizes hl ok hs suf (pre ++ [n]) (acc ++ [readW s n.toNat a 0]) (a + n.toNat) N (by rw [he]; simp) (by simp [hacc]) (by omega) (by simp at hN; omega)
    rw [List.length_append] at ih
    rw [iter_succ]
    simp only [L_i_WordsOfBytes_2]
    rw [ilt_nat hpl, cond_t, ix_nat hpl, opt_bind_some, hx, hin, opt_bind_some]
    simp only []
    rw [iadd_nat (by omega)]
    refine ih.trans ?_
    simp [readAll]

/-! ### writing -/
structure Inv (r : List Int) (count : Nat) : Prop where
  len : r.length = (count + 7) / 8
  byte : ∀ x, x ∈ r → 0 ≤ x ∧ x ≤ 255

/-- The row with the byte that is open. -/
def openB (r : List Int) (count : Nat) : List Int := if count % 8 = 0 then r ++ [0] else r
theorem openB_len {r : List Int} {count : Nat} (h : Inv r count) : (openB r count).length = count / 8 + 1 := by
  have := h.len
  unfold openB
  split
  · rw [List.length_append, this]; simp; omega
  · rw [this]; omega
theorem openB_byte {r : List Int} {count : Nat} (h : Inv r count) : ∀ x, x ∈ openB r count → 0 ≤ x ∧ x ≤ 255 := by
  intro x hx
  unfold openB at hx
  split at hx
  · rcases List.mem_append.1 hx with hx | hx
    · exact h.byte x hx
    · simp at hx; omega
  · exact h.byte x hx
theorem set_self (r : List Int) (j : Nat) (h : j < r.length) : r.set j (r.getD j 0) = r := by
  rw [List.getD_eq_getElem?_getD, List.getElem?_eq_getElem h]
  simp
theorem Inv.put {r : List Int} {count : Nat} (h : Inv r count) (v : Int) (hv : 0 ≤ v ∧ v ≤ 255) : Inv ((openB r count).set (count / 8) v) (count + 1) := by
  refine ⟨by rw [List.length_set, openB_len h]; omega, fun x hx => ?_⟩
  rcases List.mem_or_eq_of_mem_set hx with hx | rfl
  · exact openB_byte h x hx
  · exact hv
theorem Inv.stay {r : List Int} {count : Nat} (h : Inv r count) : Inv (openB r count) (count + 1) :=
  ⟨by rw [openB_len h]; omega, openB_byte h⟩

theorem enc_inner (words sizes : List Int) (i : Nat) (hi : i < words.length) (w : Int) (hw : words.getD i 0 = w) (t4 : ByteArray) (t5 : Bool) (T : List Int × Int × Int × Int × List Int × Int × Int × Int × Int × Bool × Unit) :
    ∀ (k count N : Nat) (r : List Int), Inv r count → k ≤ 62 → count + k ≤ 1048576 → k < N →
      ∃ r', Inv r' (count + k) ∧
        iter L_s_l06Bytes_2 N ((words, (sizes, ((count : Int), ((i : Int), (((k : Int) - 1), ()))))), (r, ())) = some ((words, (sizes, (((count + k : Nat) : Int), ((i : Int), ())))), (r', ())) ∧
        iter L_i_BytesOfWords_2 N ((sizes, (t4, (t5, ((count : Int), (w, (((k : Int) - 1), (T.1, (T.2.1, (T.2.2.1, (T.2.2.2.1, (T.2.2.2.2.1, (T.2.2.2.2.2.1, (T.2.2.2.2.2.2.1, (T.2.2.2.2.2.2.2.1, (T.2.2.2.2.2.2.2.2.1, (T.2.2.2.2.2.2.2.2.2.1, ())))))))))))))))), (r, ())) =
          some ((sizes, (t4, (t5, (((count + k : Nat) : Int), (T.1, (T.2.1, (T.2.2.1, (T.2.2.2.1, (T.2.2.2.2.1, (T.2.2.2.2.2.1, (T.2.2.2.2.2.2.1, (T.2.2.2.2.2.2.2.1, (T.2.2.2.2.2.2.2.2.1, (T.2.2.2.2.2.2.2.2.2.1, ())))))))))))))), (r', ()))
  | 0, count, N, r, hI, hk, hc, hN => by
    obtain _ | N := N
    · omega
    refine ⟨r, hI, ?_, ?_⟩
    · rw [iter_succ]
      simp only [L_s_l06Bytes_2]
      rw [ile_f (by omega), cond_f]
      rfl
    · rw [iter_succ]
      simp only [L_i_BytesOfWords_2]
      rw [ile_f (by omega), cond_f]
      rfl
  | k + 1, count, N, r, hI, hk, hc, hN => by
    obtain _ | N := N
    · omega
    have hb : (((k + 1 : Nat) : Int) - 1) = (k : Int) := by omega
    obtain ⟨e1, e2, e3⟩ := at8 count (by omega)
    have hlen := openB_len hI
    have hrl := hI.len
    have hc8 : count % 8 < 8 := Nat.mod_lt _ (by omega)
    have hdiv : count / 8 < (openB r count).length := by omega
    have n1 : nonneg (k : Int) = true := by rw [nonneg_T]; omega
    have n2 : nonneg (7 - ((count % 8 : Nat) : Int)) = true := by rw [nonneg_T]; omega
    have n3 : nonneg ((count % 8 : Nat) : Int) = true := by rw [nonneg_T]; omega
    have c1 : iconv .u64 (k : Int) = (k : Int) := iconv_u64 (by omega) (by omega)
    have c2 : iconv .u64 ((count % 8 : Nat) : Int) = ((count % 8 : Nat) : Int) := iconv_u64 (by omega) (by omega)
    have s1 : isub .i64 (k : Int) 1 = (k : Int) - 1 := isub_ok (by omega) (by omega)
    have s2 : isub .i64 (((openB r count).length : Nat) : Int) 1 = ((count / 8 : Nat) : Int) := by rw [isub_ok (by omega) (by omega)]; omega
    have a1 : iadd .i64 (count : Int) 1 = ((count + 1 : Nat) : Int) := iadd_nat (by omega)
    -- what stands behind the bit
    have key : ∃ r1, Inv r1 (count + 1) ∧ (bif ieq (iand .i64 (ishr .i64 w (k : Int)) 1) 1 then some ((openB r count).set (count / 8) (ior .u8 ((openB r count).getD (count / 8) 0) (ishr .u8 128 ((count % 8 : Nat) : Int)))) else some (openB r count)) = some r1 ∧
        (openB r count).set (count / 8) (ior .u8 ((openB r count).getD (count / 8) 0) (ishl .u8 (iconv .u8 (iand .i64 (ishr .i64 w (k : Int)) 1)) (7 - ((count % 8 : Nat) : Int)))) = r1 := by
      rcases iand_one .i64 (ishr .i64 w (k : Int)) with h | h
      · rw [h, byte_none _ hc8]
        refine ⟨openB r count, hI.stay, rfl, ?_⟩
        have hx := openB_byte hI ((openB r count).getD (count / 8) 0) (by rw [List.getD_eq_getElem?_getD, List.getElem?_eq_getElem hdiv]; exact List.getElem_mem hdiv)
        obtain ⟨m, hm⟩ := Int.eq_ofNat_of_zero_le hx.1
        rw [hm, byte_or m (by omega), ← hm]
        exact set_self _ _ hdiv
      · rw [h, byte_bit _ hc8]
        exact ⟨_, hI.put _ (ior_byte _ _), rfl, rfl⟩
    obtain ⟨r1, hI1, k1, k2⟩ := key
    obtain ⟨r', hI', h1, h2⟩ := enc_inner words sizes i hi w hw t4 t5 T k (count + 1) N r1 hI1 (by omega) (by omega) (by omega)
    rw [show count + 1 + k = count + (k + 1) by omega] at hI' h1 h2
    refine ⟨r', hI', ?_, ?_⟩
    · rw [iter_succ]
      simp only [L_s_l06Bytes_2]
      rw [hb, ile_t (by omega), cond_t, e2]
      by_cases h0 : count % 8 = 0
      · have ho : r ++ [0] = openB r count := by unfold openB; rw [if_pos h0]
        rw [ieq_t (by omega), cond_t, ble_t (by omega), cond_t, ix_nat hi, opt_bind_some, c1, n1, cond_t, hw, ho, s2, ix_nat hdiv]
        simp only [opt_bind_some, c2, n3, cond_t, s1, a1]
        cases hq : ieq (iand .i64 (ishr .i64 w (k : Int)) 1) 1
        · rw [hq, cond_f] at k1
          cases k1
          rw [cond_f]
          exact h1
        · rw [hq, cond_t] at k1
          cases k1
          rw [cond_t]
          exact h1
      · have ho : r = openB r count := by unfold openB; rw [if_neg h0]
        rw [ieq_f (by omega), cond_f, ix_nat hi, opt_bind_some, c1, n1, cond_t, hw]
        generalize hro : openB r count = ro at *
        subst ho
        rw [s2, ix_nat hdiv]
        simp only [opt_bind_some, c2, n3, cond_t, s1, a1]
        cases hq : ieq (iand .i64 (ishr .i64 w (k : Int)) 1) 1
        · rw [hq, cond_f] at k1
          cases k1
          rw [cond_f]
          exact h1
        · rw [hq, cond_t] at k1
          cases k1
          rw [cond_t]
          exact h1
    · rw [iter_succ]
      simp only [L_i_BytesOfWords_2]
      rw [hb, ile_t (by omega), cond_t, e3, e1, e2]
      by_cases h0 : count % 8 = 0
      · have ho : r ++ [0] = openB r count := by unfold openB; rw [if_pos h0]
        rw [ieq_t (by omega), cond_t, ble_t (by omega), cond_t, ho, ix_nat hdiv]
        simp only [opt_bind_some, n1, n2, cond_t, s1, a1]
        rw [k2]
        exact h2
      · have ho : r = openB r count := by unfold openB; rw [if_neg h0]
        rw [ieq_f (by omega), cond_f]
        generalize hro : openB r count = ro at *
        subst ho
        rw [ix_nat hdiv]
        simp only [opt_bind_some, n1, n2, cond_t, s1, a1]
        rw [k2]
        exact h2

theorem enc_outer (words sizes : List Int) (hl : sizes.length ≤ 512) (hlen : words.length = sizes.length) (ok : okSz sizes) (hw : ∀ i, i < sizes.length → 0 ≤ words.getD i 0 ∧ words.getD i 0 < ((2 ^ (sizes.getD i 0).toNat : Nat) : Int)) (t4 : ByteArray) (t5 : Bool) :
    ∀ (m i count N : Nat) (r : List Int), i + m = sizes.length → Inv r count → count ≤ 62 * i → m < N →
      ∃ r', iter L_s_l06Bytes_1 N ((words, (sizes, ((count : Int), ((i : Int), ())))), (r, ())) = some ((), (r', ())) ∧
        iter L_i_BytesOfWords_1 N ((sizes, (t4, (t5, ((count : Int), (words, ((words.length : Int), ((i : Int), ()))))))), (r, ())) = some (false, ((t4, (t5, ())), (r', ())))
  | 0, i, count, N, r, hi, hI, hc, hN => by
    obtain _ | N := N
    · omega
    refine ⟨r, ?_, ?_⟩
    · rw [iter_succ]
      simp only [L_s_l06Bytes_1]
      rw [show i = words.length by omega, ilt_self, cond_f]
    · rw [iter_succ]
      simp only [L_i_BytesOfWords_1]
      rw [show i = words.length by omega, ilt_self, cond_f]
  | m + 1, i, count, N, r, hi, hI, hc, hN => by
    obtain _ | N := N
    · omega
    have his : i < sizes.length := by omega
    have hiw : i < words.length := by omega
    have hn := ok (sizes.getD i 0) (by rw [List.getD_eq_getElem?_getD, List.getElem?_eq_getElem his]; exact List.getElem_mem his)
    obtain ⟨w0, w1⟩ := hw i his
    generalize hsz : sizes.getD i 0 = n at *
    obtain ⟨k, rfl⟩ := Int.eq_ofNat_of_zero_le (show 0 ≤ n by omega)
    rw [show ((k : Nat) : Int).toNat = k from rfl] at w1
    have e4 : ile (ishl .i64 1 (k : Int)) (words.getD i 0) = false := by rw [ishl_pow k (by omega)]; exact ile_f (by omega)
    obtain ⟨r1, hI1, h1, h2⟩ := enc_inner words sizes i hiw _ rfl t4 t5 (words, (words.length : Int), (i : Int), words.getD i 0, sizes, (i : Int), (k : Int), (k : Int), ishl .i64 1 (k : Int), false, ()) k count fuel r hI (by omega) (by omega) (by unfold fuel; omega)
    obtain ⟨r', h3, h4⟩ := enc_outer words sizes hl hlen ok hw t4 t5 m (i + 1) (count + k) N r1 (by omega) hI1 (by omega) (by omega)
    refine ⟨r', ?_, ?_⟩
    · rw [iter_succ]
      simp only [L_s_l06Bytes_1]
      rw [ilt_nat hiw, cond_t, ix_nat his, opt_bind_some, hsz, isub_ok (by omega) (by omega), h1, opt_bind_some]
      simp only []
      rw [iadd_nat (by omega)]
      exact h3
    · rw [iter_succ]
      simp only [L_i_BytesOfWords_1]
      rw [ilt_nat hiw, cond_t, ix_nat hiw, opt_bind_some, ilt_f w0, cond_f, ix_nat his, opt_bind_some, hsz, show nonneg ((k : Nat) : Int) = true by rw [nonneg_T]; omega, cond_t, e4, cond_f, opt_bind_some, hsz, isub_ok (by omega) (by omega)]
      have h2' := h2
      simp only [] at h2'
      rw [h2', opt_bind_some]
      simp only []
      rw [iadd_nat (by omega)]
      exact h4

theorem sizes_ok (sizes : List Int) (hl : sizes.length ≤ 512) (ok : okSz sizes) : g_i_areSizes sizes = some true := by
  have key : ∀ (suf pre : List Int) (N : Nat), sizes = pre ++ suf → suf.length < N →
      iter L_i_areSizes_1 N ((sizes, (false, (sizes, ((sizes.length : Int), ((pre.length : Int), ()))))), ()) = some (false, ((sizes, (false, ())), ())) := by
    intro suf
    induction suf with
    | nil =>
      intro pre N he hN
      obtain _ | N := N
      · omega
      rw [List.append_nil] at he
      subst he
      rw [iter_succ]
      simp only [L_i_areSizes_1, ilt_self, cond_f]
    | cons n suf ih =>
      intro pre N he hN
      obtain _ | N := N
      · omega
      have hpl : pre.length < sizes.length := by rw [he]; simp
      have hx : sizes.getD pre.length 0 = n := by rw [he]; exact getD_mid ..
      have hn := ok n (by rw [he]; simp)
      have ih := ih (pre ++ [n]) N (by rw [he]; simp) (by simp at hN; omega)
      rw [List.length_append] at ih
      rw [iter_succ]
      simp only [L_i_areSizes_1]
      rw [ilt_nat hpl, cond_t, ix_nat hpl, opt_bind_some, hx, ilt_f (by omega), cond_f, ilt_f (by omega), cond_f, iadd_nat (by omega)]
      exact ih
  unfold g_i_areSizes
  have := key sizes [] fuel rfl (by unfold fuel; omega)
  rw [show (([] : List Int).length : Int) = 0 from rfl] at this
  rw [this, opt_bind_some, cond_f]
  simp only []
  rw [ile_t (by omega)]

theorem readAll_range (s : ByteArray) : ∀ (l : List Int) (a i : Nat), okSz l → i < l.length → 0 ≤ (readAll s a l).getD i 0 ∧ (readAll s a l).getD i 0 < ((2 ^ (l.getD i 0).toNat : Nat) : Int)
  | [], _, _, _, h => by simp at h
  | n :: r, a, 0, _, _ => by
    have := readW_lt s n.toNat 0 a 0 (by omega) (by decide)
    rw [Nat.zero_add] at this
    exact this
  | n :: r, a, i + 1, ok, h => by
    have := readAll_range s r (a + n.toNat) i (fun x hx => ok x (.tail _ hx)) (by simpa using h)
    simpa [readAll] using this

/-- Words of bytes. -/
theorem e_words (s : ByteArray) (sizes : List Int) (hl : sizes.length ≤ 512) (ok : okSz sizes) (hs : s.size ≤ 1048576) :
    ∃ (b : Bool) (ws : List Int), g_s_l06Words s sizes = some (ws, (b, ())) ∧ g_i_WordsOfBytes s sizes = some (bif b then ws else [], (b, ())) ∧ (b = true → ws = readAll s 0 sizes) := by
  have h1 := s_sum s sizes hl ok sizes [] fuel rfl (by unfold fuel; omega)
  have h2 := i_sum s sizes hl ok sizes [] fuel rfl (by unfold fuel; omega)
  have hsum := sumN_le sizes ok
  rw [show (([] : List Int).length : Int) = 0 from rfl, show ((sumN [] : Nat) : Int) = 0 from rfl] at h1 h2
  have e7 : iquo .i64 (iadd .i64 ((sumN sizes : Nat) : Int) 7) 8 = (((sumN sizes + 7) / 8 : Nat) : Int) := by
    rw [iadd_ok (by omega) (by omega), iquo_nn (by omega) (by omega) (by omega)]; omega
  unfold g_s_l06Words g_i_WordsOfBytes
  rw [h1, h2, sizes_ok sizes hl ok]
  simp only [opt_bind_some, bnot_t, cond_f]
  rw [e7]
  by_cases hm : ((s.size : Nat) : Int) = (((sumN sizes + 7) / 8 : Nat) : Int)
  · have hfit : 0 + sumN sizes ≤ 8 * s.size := by omega
    have h3 := s_words s sizes hl ok hs sizes [] [] 0 fuel rfl rfl hfit (by unfold fuel; omega)
    have h4 := i_words s sizes hl ok hs sizes [] [] 0 fuel rfl rfl hfit (by unfold fuel; omega)
    rw [show (([] : List Int).length : Int) = 0 from rfl, show ((0 : Nat) : Int) = 0 from rfl, List.nil_append] at h3
    rw [show (([] : List Int).length : Int) = 0 from rfl, show ((0 : Nat) : Int) = 0 from rfl, List.nil_append, List.nil_append] at h4
    have hlen := readAll_length s sizes 0
    obtain ⟨r', h5, h6⟩ := enc_outer (readAll s 0 sizes) sizes hl hlen ok (fun i hi => readAll_range s sizes 0 i ok hi) (ByteArray.mk #[]) false sizes.length 0 0 fuel [] (by omega) ⟨rfl, by simp⟩ (by omega) (by unfold fuel; omega)
    rw [show ((0 : Nat) : Int) = 0 from rfl] at h5 h6
    refine ⟨seq (strOf r') s, readAll s 0 sizes, ?_, ?_, fun _ => rfl⟩
    · rw [ieq_t hm, bnot_t, cond_f, h3, opt_bind_some]
      simp only [g_s_l06Bytes]
      rw [h5, opt_bind_some, opt_bind_some]
    · rw [ieq_t hm, bnot_t, cond_f, mkOk_t (by omega) (by omega) (by omega), cond_t, h4, opt_bind_some]
      simp only [g_i_BytesOfWords]
      rw [sizes_ok sizes hl ok, ieq_t (by omega), bnot_t, cond_f, opt_bind_some, bnot_t, cond_f, h6, opt_bind_some]
      simp only [cond_f, opt_bind_some, bnot_t]
      cases seq (strOf r') s <;> rfl
  · refine ⟨false, [], ?_, ?_, nofun⟩
    · rw [ieq_f hm]; rfl
    · rw [ieq_f hm]; rfl
end Go.Fw
