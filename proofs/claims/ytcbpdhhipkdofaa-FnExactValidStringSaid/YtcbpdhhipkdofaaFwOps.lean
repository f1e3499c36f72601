/- The operations that compute numbers: what the interpreter says of them is what the machine does. No condition. -/
import Derived.Test.YtcbpdhhipkdofaaFwPure
import Derived.Test.YtcbpdhhipkdofaaFwFlt
namespace Go.Fw

section
variable {P : Program} {o : Oper} {st : St} {R : Type} {r : R}

theorem ok_move {x : Operand} (ho : o.op = .move x) : PureOK P o st (st.ev x) [] :=
  .val0 fun w0 S m H F a w hr => ⟨a.eval x, by unfold execOp; simp [ho], ev_rel hr x⟩

theorem ok_assign {x : Operand} (ho : o.op = .assign x) : PureOK P o st (st.ev x) [] :=
  .val0 fun w0 S m H F a w hr => ⟨a.eval x, by unfold execOp; simp [ho], ev_rel hr x⟩

theorem ok_pick {c x y : Operand} {t : Bool} (ho : o.op = .pick c x y) (hc : st.ev c = .v (.one (.bool t))) : PureOK P o st (bif t then st.ev x else st.ev y) [] :=
  .val0 fun w0 S m H F a w hr => by
    have h : a.eval c = .bool t := by
      have := ev_rel hr c
      rw [hc] at this
      exact this
    refine ⟨bif t then a.eval x else a.eval y, ?_, ?_⟩
    · unfold execOp; cases t <;> simp [ho, h, asBool]
    · cases t
      · exact ev_rel hr y
      · exact ev_rel hr x

theorem wrap_inR (k : IntKind) (n : Int) : inR k (k.wrap n) := by
  unfold inR IntKind.wrap IntKind.min IntKind.max
  have h : ∀ b : Nat, (0 : Int) < 2 ^ b := fun b => Int.pow_pos (by decide)
  cases k <;> simp only [IntKind.signed, IntKind.bits] <;> simp <;> omega

theorem one_of_int {Γ : Ctx} {k : IntKind} {n : Int} {v : Value} (h : fvRel Γ (.v (.one (.int k n))) v) : v = .int k n ∧ inR k n := h
theorem one_of_flt {Γ : Ctx} {k : FloatKind} {x : Nat} {v : Value} (h : fvRel Γ (.v (.one (.flt k x))) v) : ∃ b, v = .float k b ∧ FRel k x b := h
theorem one_of_bool {Γ : Ctx} {b : Bool} {v : Value} (h : fvRel Γ (.v (.one (.bool b))) v) : v = .bool b := h
theorem one_of_str {Γ : Ctx} {s : ByteArray} {v : Value} (h : fvRel Γ (.v (.one (.str s))) v) : v = .string s ∧ s.size ≤ maxLen := h

theorem tmod_inR (k : IntKind) {a b : Int} (ha : inR k a) : inR k (a.tmod b) := by
  unfold inR at *
  have h0 : k.min ≤ 0 := by cases k <;> decide
  have h1 : 0 ≤ k.max := by cases k <;> decide
  have hs : ∀ n : Int, k.min ≤ -n ∨ True := fun _ => .inr trivial
  rcases Int.le_total 0 a with h | h
  · have := Int.tmod_nonneg b h
    have h2 : a.tmod b ≤ a := by
      have := Int.natAbs_tmod a b
      have hb : (a.tmod b).natAbs ≤ a.natAbs := by rw [this]; exact Nat.mod_le _ _
      omega
    omega
  · have h2 : a ≤ a.tmod b ∧ a.tmod b ≤ 0 := by
      have hn := Int.natAbs_tmod a b
      have hb : (a.tmod b).natAbs ≤ a.natAbs := by rw [hn]; exact Nat.mod_le _ _
      have h3 : (-a).tmod b = -(a.tmod b) := Int.neg_tmod a b
      have h4 := Int.tmod_nonneg b (show 0 ≤ -a by omega)
      omega
    omega

theorem fdiv_inR (k : IntKind) {a : Int} {n : Nat} (ha : inR k a) : inR k (a.fdiv (2 ^ n)) := by
  unfold inR at *
  have h0 : k.min ≤ 0 := by cases k <;> decide
  have h1 : 0 ≤ k.max := by cases k <;> decide
  have hp : (0 : Int) < 2 ^ n := Int.pow_pos (by decide)
  rw [Int.fdiv_eq_ediv_of_nonneg a (Int.le_of_lt hp)]
  generalize (2 : Int) ^ n = d at *
  rcases Int.le_total 0 a with h | h
  · have h2 : 0 ≤ a / d := Int.ediv_nonneg h (Int.le_of_lt hp)
    have h3 : a / d ≤ a := Int.ediv_le_self d h
    omega
  · have h3 : a ≤ a / d := by
      rw [Int.le_ediv_iff_mul_le hp]
      have h5 : -a * 1 ≤ -a * d := Int.mul_le_mul_of_nonneg_left (by omega) (by omega)
      rw [Int.neg_mul, Int.neg_mul] at h5
      omega
    have h4 : a / d ≤ 0 := Int.ediv_nonpos_of_nonpos_of_neg h hp
    omega

theorem binInt_sound {op : BinOp} {t : TypeId} {x y : Operand} {yt : TypeId} {k : IntKind} {a b : Int} {f : C → Option R} (ho : o.op = .binOp op t x y yt) (hns : op ≠ .shl ∧ op ≠ .shr)
    (hx : st.ev x = .v (.one (.int k a))) (hy : st.ev y = .v (.one (.int k b))) (h : binInt op k a b f = some r) : ∃ c, f c = some r ∧ PureOK P o st (.v (.one c)) [] := by
  have key : ∀ c v, (∀ w : World, (binOp op t (.int k a) (.int k b)).run P w = .ok v w) → (∀ Γ, inR k a → cRel Γ c v) → PureOK P o st (.v (.one c)) [] := fun c v hrun hv =>
    .val0 fun w0 S m H F act w hr => by
      obtain ⟨ex, hra⟩ := one_of_int (hx ▸ ev_rel hr x)
      obtain ⟨ey, _⟩ := one_of_int (hy ▸ ev_rel hr y)
      refine ⟨v, ?_, hv _ hra⟩
      unfold execOp
      simp only [ho, ex, ey, eqGuard_at_int, Sem.run_bind, Sem.run_pure, Result.andThen_ok, hrun]
  cases op <;> simp only [binInt] at h <;> first
    | (exact absurd rfl hns.1)
    | (exact absurd rfl hns.2)
    | (cases h; done)
    | skip
  case add => exact ⟨_, h, key _ (.int k (iadd k a b)) (fun w => by simp [binOp, Op.intArith, iadd]) fun _ _ => ⟨rfl, wrap_inR k _⟩⟩
  case sub => exact ⟨_, h, key _ (.int k (isub k a b)) (fun w => by simp [binOp, Op.intArith, isub]) fun _ _ => ⟨rfl, wrap_inR k _⟩⟩
  case mul => exact ⟨_, h, key _ (.int k (imul k a b)) (fun w => by simp [binOp, Op.intArith, imul]) fun _ _ => ⟨rfl, wrap_inR k _⟩⟩
  case quo =>
    cases hz : nz b <;> rw [hz] at h <;> simp at h
    have hb : b ≠ 0 := by simpa [nz] using hz
    exact ⟨_, h, key _ (.int k (iquo k a b)) (fun w => by simp [binOp, Op.intDiv, hb, iquo]) fun _ _ => ⟨rfl, wrap_inR k _⟩⟩
  case rem =>
    cases hz : nz b <;> rw [hz] at h <;> simp at h
    have hb : b ≠ 0 := by simpa [nz] using hz
    exact ⟨_, h, key _ (.int k (irem k a b)) (fun w => by simp [binOp, Op.intDiv, hb, irem]) fun _ ha => ⟨rfl, tmod_inR k ha⟩⟩
  case and => exact ⟨_, h, key _ (.int k (iand k a b)) (fun w => by simp [binOp, Op.intBits, iand]) fun _ _ => ⟨rfl, wrap_inR k _⟩⟩
  case or => exact ⟨_, h, key _ (.int k (ior k a b)) (fun w => by simp [binOp, Op.intBits, ior]) fun _ _ => ⟨rfl, wrap_inR k _⟩⟩
  case xor => exact ⟨_, h, key _ (.int k (ixor k a b)) (fun w => by simp [binOp, Op.intBits, ixor]) fun _ _ => ⟨rfl, wrap_inR k _⟩⟩
  case andNot => exact ⟨_, h, key _ (.int k (iandNot k a b)) (fun w => by simp [binOp, Op.intBits, iandNot]) fun _ _ => ⟨rfl, wrap_inR k _⟩⟩
  case eql => exact ⟨_, h, key _ (.bool (ieq a b)) (fun w => by simp [binOp, Op.intCmp, ieq]) fun _ _ => rfl⟩
  case neq => exact ⟨_, h, key _ (.bool (!ieq a b)) (fun w => by simp [binOp, Op.intCmp, ieq]; rfl) fun _ _ => rfl⟩
  case lss => exact ⟨_, h, key _ (.bool (ilt a b)) (fun w => by simp [binOp, Op.intCmp, ilt]) fun _ _ => rfl⟩
  case leq => exact ⟨_, h, key _ (.bool (ile a b)) (fun w => by simp [binOp, Op.intCmp, ile]) fun _ _ => rfl⟩
  case gtr => exact ⟨_, h, key _ (.bool (ilt b a)) (fun w => by simp [binOp, Op.intCmp, ilt]) fun _ _ => rfl⟩
  case geq => exact ⟨_, h, key _ (.bool (ile b a)) (fun w => by simp [binOp, Op.intCmp, ile]) fun _ _ => rfl⟩

theorem shift_sound {t : TypeId} {x y : Operand} {yt : TypeId} {k k' : IntKind} {a b : Int} {op : BinOp} (ho : o.op = .binOp op t x y yt) (hop : op = .shl ∨ op = .shr)
    (hx : st.ev x = .v (.one (.int k a))) (hy : st.ev y = .v (.one (.int k' b))) (hb : nonneg b = true) :
    PureOK P o st (.v (.one (.int k (match op with | .shl => ishl k a b | _ => ishr k a b)))) [] := by
  have hb' : ¬ b < 0 := by simp [nonneg] at hb; omega
  refine .val0 fun w0 S m H F act w hr => ?_
  obtain ⟨ex, hra⟩ := one_of_int (hx ▸ ev_rel hr x)
  obtain ⟨ey, _⟩ := one_of_int (hy ▸ ev_rel hr y)
  rcases hop with rfl | rfl
  · refine ⟨.int k (ishl k a b), ?_, rfl, wrap_inR k _⟩
    unfold execOp
    simp [ho, ex, ey, eqGuard_at_int, binOp, Op.shift, hb', ishl]
  · refine ⟨.int k (ishr k a b), ?_, rfl, fdiv_inR k hra⟩
    unfold execOp
    simp [ho, ex, ey, eqGuard_at_int, binOp, Op.shift, hb', ishr]

/-- What an operation on floats draws. -/
theorem floatArith_run {op : BinOp} {k : FloatKind} {b c x y : Nat} (hx : FRel k x b) (hy : FRel k y c) (hop : op = .add ∨ op = .sub ∨ op = .mul ∨ op = .quo) (w : World) :
    ∃ r n, (Op.floatArith op k b c).run P w = .ok (.float k r) { w with drawn := n } ∧ FRel k (fop op k x y) r := by
  cases h : floatBits op k b c with
  | some r =>
    refine ⟨r, w.drawn, ?_, fop_some hx hy h⟩
    unfold floatBits at h
    rcases hop with rfl | rfl | rfl | rfl <;> simp only at h <;> simp [Op.floatArith, h]
  | none =>
    obtain ⟨h1, h2⟩ := cut_nan k (.nanBits k b c) (w.tape w.drawn (.nanBits k b c)) b c (.inl rfl)
    refine ⟨(Question.nanBits k b c).cut (w.tape w.drawn (.nanBits k b c)), w.drawn + 1, ?_, fop_none hx hy h h1 h2⟩
    unfold floatBits at h
    rcases hop with rfl | rfl | rfl | rfl <;> simp only at h <;> simp [Op.floatArith, h, Question.forced]

theorem binFlt_sound {op : BinOp} {t : TypeId} {x y : Operand} {yt : TypeId} {k : FloatKind} {a b : Nat} {f : C → Option R} (ho : o.op = .binOp op t x y yt)
    (hx : st.ev x = .v (.one (.flt k a))) (hy : st.ev y = .v (.one (.flt k b))) (h : binFlt op k a b f = some r) : ∃ c, f c = some r ∧ PureOK P o st (.v (.one c)) [] := by
  have arith : ∀ c, (op = .add ∨ op = .sub ∨ op = .mul ∨ op = .quo) → c = .flt k (fop op k a b) → PureOK P o st (.v (.one c)) [] := fun c hop hc =>
    .val fun w0 S m H F act w hr => by
      obtain ⟨b1, ex, hra⟩ := one_of_flt (hx ▸ ev_rel hr x)
      obtain ⟨b2, ey, hrb⟩ := one_of_flt (hy ▸ ev_rel hr y)
      obtain ⟨r', n, hrun, hrel⟩ := floatArith_run (P := P) hra hrb hop w
      refine ⟨.float k r', n, ?_, by rw [hc]; exact ⟨r', rfl, hrel⟩⟩
      unfold execOp
      rcases hop with rfl | rfl | rfl | rfl <;>
        simp only [ho, ex, ey, eqGuard_at_float, Sem.run_bind, Sem.run_pure, Result.andThen_ok, binOp, ne_eq, not_true_eq_false, if_false, hrun]
  have cmp : ∀ (bb : Bool) (g : Nat → Nat → Bool), bb = g a b → (∀ b1 b2, FRel k a b1 → FRel k b b2 → ∀ w : World, (binOp op t (.float k b1) (.float k b2)).run P w = .ok (.bool (g a b)) w) →
      PureOK P o st (.v (.one (.bool bb))) [] := fun bb g hg hrun =>
    .val0 fun w0 S m H F act w hr => by
      obtain ⟨b1, ex, hra⟩ := one_of_flt (hx ▸ ev_rel hr x)
      obtain ⟨b2, ey, hrb⟩ := one_of_flt (hy ▸ ev_rel hr y)
      refine ⟨.bool bb, ?_, rfl⟩
      unfold execOp
      simp only [ho, ex, ey, eqGuard_at_float, Sem.run_bind, Sem.run_pure, Result.andThen_ok, hrun b1 b2 hra hrb, hg]
  cases op <;> simp only [binFlt] at h <;> first | (cases h; done) | skip
  case add => exact ⟨_, h, arith _ (.inl rfl) rfl⟩
  case sub => exact ⟨_, h, arith _ (.inr (.inl rfl)) rfl⟩
  case mul => exact ⟨_, h, arith _ (.inr (.inr (.inl rfl))) rfl⟩
  case quo => exact ⟨_, h, arith _ (.inr (.inr (.inr rfl))) rfl⟩
  case eql => exact ⟨_, h, cmp _ (feq k) rfl fun b1 b2 h1 h2 w => by simp [binOp, Op.floatCmp, order_rel h1 h2, feq]⟩
  case neq => exact ⟨_, h, cmp _ (fun a b => !feq k a b) rfl fun b1 b2 h1 h2 w => by simp [binOp, Op.floatCmp, order_rel h1 h2, feq]; rfl⟩
  case lss => exact ⟨_, h, cmp _ (flt k) rfl fun b1 b2 h1 h2 w => by simp [binOp, Op.floatCmp, order_rel h1 h2, flt]⟩
  case leq => exact ⟨_, h, cmp _ (fle k) rfl fun b1 b2 h1 h2 w => by simp [binOp, Op.floatCmp, order_rel h1 h2, fle]⟩
  case gtr => exact ⟨_, h, cmp _ (fgt k) rfl fun b1 b2 h1 h2 w => by simp [binOp, Op.floatCmp, order_rel h1 h2, fgt]⟩
  case geq => exact ⟨_, h, cmp _ (fge k) rfl fun b1 b2 h1 h2 w => by simp [binOp, Op.floatCmp, order_rel h1 h2, fge]⟩

theorem bytes_eq (a b : ByteArray) : (a.toList == b.toList) = seq a b := rfl

theorem binK_sound {op : BinOp} {t : TypeId} {ti : TI} {x y : Operand} {yt : TypeId} {c d : C} {f : C → Option R} (ok : TIOK P t ti) (ho : o.op = .binOp op t x y yt)
    (hx : st.ev x = .v (.one c)) (hy : st.ev y = .v (.one d)) (h : binK ti.und op c d f = some r) : ∃ e, f e = some r ∧ PureOK P o st (.v (.one e)) [] := by
  unfold binK at h
  split at h
  · rename_i k a k' b
    split at h
    · cases hb : nonneg b <;> rw [hb] at h <;> simp at h
      exact ⟨_, h, shift_sound ho (.inl rfl) hx hy hb⟩
    · cases hb : nonneg b <;> rw [hb] at h <;> simp at h
      exact ⟨_, h, shift_sound ho (.inr rfl) hx hy hb⟩
    · rename_i h1 h2
      split at h
      · subst_vars
        exact binInt_sound ho ⟨fun e => h1 e, fun e => h2 e⟩ hx hy h
      · cases h
  · rename_i k a k' b
    split at h
    · subst_vars
      exact binFlt_sound ho hx hy h
    · cases h
  · rename_i a b
    split at h
    · rename_i hu
      refine ⟨_, h, .val0 fun w0 S m H F act w hr => ⟨.bool (a == b), ?_, rfl⟩⟩
      have ex := one_of_bool (hx ▸ ev_rel hr x)
      have ey := one_of_bool (hy ▸ ev_rel hr y)
      obtain ⟨dd, hd, hud⟩ := ok.und
      rw [hu] at hud
      cases hud
      unfold execOp
      simp only [ho, ex, ey, eqGuard_at_bool, Sem.run_bind, Sem.run_pure, Result.andThen_ok, run_eql_bool w t a b hd]
    · rename_i hu
      refine ⟨_, h, .val0 fun w0 S m H F act w hr => ⟨.bool (!(a == b)), ?_, rfl⟩⟩
      have ex := one_of_bool (hx ▸ ev_rel hr x)
      have ey := one_of_bool (hy ▸ ev_rel hr y)
      obtain ⟨dd, hd, hud⟩ := ok.und
      rw [hu] at hud
      cases hud
      unfold execOp
      simp only [ho, ex, ey, eqGuard_at_bool, Sem.run_bind, Sem.run_pure, Result.andThen_ok, run_neq_bool w t a b hd]
    · cases h
  · rename_i a b
    split at h
    · refine ⟨_, h, .val0 fun w0 S m H F act w hr => ⟨.bool (seq a b), ?_, rfl⟩⟩
      obtain ⟨ex, _⟩ := one_of_str (hx ▸ ev_rel hr x)
      obtain ⟨ey, _⟩ := one_of_str (hy ▸ ev_rel hr y)
      unfold execOp
      simp [ho, ex, ey, eqGuard_at_string, binOp, Op.stringOp, seq]
    · refine ⟨_, h, .val0 fun w0 S m H F act w hr => ⟨.bool (!seq a b), ?_, rfl⟩⟩
      obtain ⟨ex, _⟩ := one_of_str (hx ▸ ev_rel hr x)
      obtain ⟨ey, _⟩ := one_of_str (hy ▸ ev_rel hr y)
      unfold execOp
      simp [ho, ex, ey, eqGuard_at_string, binOp, Op.stringOp, seq]
    · cases hb : Nat.ble (a.size + b.size) 4294967296 <;> rw [hb] at h <;> simp at h
      have hb' := Nat.le_of_ble_eq_true hb
      refine ⟨_, h, .val0 fun w0 S m H F act w hr => ⟨.string (a ++ b), ?_, rfl, ?_⟩⟩
      · obtain ⟨ex, _⟩ := one_of_str (hx ▸ ev_rel hr x)
        obtain ⟨ey, _⟩ := one_of_str (hy ▸ ev_rel hr y)
        have : ¬ (((a.size + b.size : Nat) : Int) > IntKind.i64.max) := by
          have : IntKind.i64.max = 9223372036854775807 := by decide
          omega
        unfold execOp
        simp only [ho, ex, ey, eqGuard_at_string, binOp, Op.stringOp, Sem.run_bind, Sem.run_pure, Result.andThen_ok, if_neg this]
      · simp only [ByteArray.size_append, maxLen]; omega
    · cases h
  · cases h

theorem unK_sound {op : UnOp} {t : TypeId} {x : Operand} {c : C} {f : C → Option R} (ho : o.op = .unOp op t x) (hx : st.ev x = .v (.one c)) (h : unK op c f = some r) :
    ∃ e, f e = some r ∧ PureOK P o st (.v (.one e)) [] := by
  unfold unK at h
  split at h
  · rename_i k n
    refine ⟨_, h, .val0 fun w0 S m H F act w hr => ⟨.int k (isub k 0 n), ?_, rfl, wrap_inR k _⟩⟩
    obtain ⟨ex, _⟩ := one_of_int (hx ▸ ev_rel hr x)
    unfold execOp
    simp [ho, ex, Op.unary, Op.intArith, isub]
  · rename_i k b
    refine ⟨_, h, .val0 fun w0 S m H F act w hr => ?_⟩
    obtain ⟨b1, ex, hb⟩ := one_of_flt (hx ▸ ev_rel hr x)
    refine ⟨.float k (Op.negFloat k b1), ?_, _, rfl, fneg_rel hb⟩
    unfold execOp
    simp [ho, ex, Op.unary]
  · rename_i b
    refine ⟨_, h, .val0 fun w0 S m H F act w hr => ⟨.bool (!b), ?_, rfl⟩⟩
    have ex := one_of_bool (hx ▸ ev_rel hr x)
    unfold execOp
    simp [ho, ex, Op.unary]
  · cases h

theorem floatToInt_rel {s : FloatKind} {k : IntKind} {x b : Nat} {n : Int} (hb : FRel s x b) (h : floatToIntVal s x k = some n) : floatToIntVal s b k = some n := by
  cases hn : isNan s x
  · rwa [hb.eq hn]
  · obtain ⟨sg, t, e⟩ := read_nan hn
    unfold floatToIntVal FloatKind.decode at h
    simp [e, Ieee.Datum.toInt, Ieee.Datum.integral] at h

theorem convK_sound {s d : TypeId} {ts td : TI} {x : Operand} {c : C} {f : C → Option R} (oks : TIOK P s ts) (okd : TIOK P d td) (ho : o.op = .convert s d x) (hx : st.ev x = .v (.one c))
    (h : convK ts.und td.und c f = some r) : ∃ e, f e = some r ∧ PureOK P o st (.v (.one e)) [] := by
  obtain ⟨ds, hds, hus⟩ := oks.und
  obtain ⟨dd, hdd, hud⟩ := okd.und
  have hsome : (P.underlying s).isSome = true := by rw [hds]; rfl
  unfold convK at h
  split at h
  · rename_i k k0 n hu
    rw [hu] at hud
    cases hud
    refine ⟨_, h, .val0 fun w0 S m H F act w hr => ⟨.int k (iconv k n), ?_, rfl, wrap_inR k _⟩⟩
    obtain ⟨ex, _⟩ := one_of_int (hx ▸ ev_rel hr x)
    unfold execOp
    simp [ho, ex, convert, run_underlying hds, run_underlying hdd, Conv.intToInt, iconv]
  · rename_i k k0 n hu
    rw [hu] at hud
    cases hud
    refine ⟨_, h, .val0 fun w0 S m H F act w hr => ⟨.float k (k.nearest n), ?_, _, rfl, fofInt_rel k n⟩⟩
    obtain ⟨ex, _⟩ := one_of_int (hx ▸ ev_rel hr x)
    unfold execOp
    cases ds <;> simp [ho, ex, convert, run_underlying hds, run_underlying hdd, Conv.intToFloat]
  · rename_i k sk b hu
    rw [hu] at hud
    cases hud
    cases hn : floatToIntVal sk b k with
    | none => rw [hn] at h; cases h
    | some n =>
      rw [hn] at h
      refine ⟨_, h, .val0 fun w0 S m H F act w hr => ?_⟩
      obtain ⟨b1, ex, hb⟩ := one_of_flt (hx ▸ ev_rel hr x)
      refine ⟨.int k n, ?_, rfl, ?_⟩
      · unfold execOp
        simp [ho, ex, run_convert_float_int w s d sk k b1 n hsome hdd (floatToInt_rel hb hn)]
      · have := floatToIntVal_wf hn
        simpa [Lit.wf, inR] using this
  · rename_i k sk b hu
    rw [hu] at hud
    cases hud
    split at h
    · subst_vars
      refine ⟨_, h, .val0 fun w0 S m H F act w hr => ?_⟩
      obtain ⟨b1, ex, hb⟩ := one_of_flt (hx ▸ ev_rel hr x)
      refine ⟨.float sk b1, ?_, _, rfl, hb⟩
      unfold execOp
      simp [ho, ex, run_convert_float_float w s d sk sk b1 b1 hsome hdd (by simp [floatToFloatBits])]
    · rename_i hne
      have main : ∀ n, (b < 2 ^ sk.format.width → fconv sk k b = some n) → PureOK P o st (.v (.one (.flt k n))) [] := by
        intro n hc
        refine .val fun w0 S m H F act w hr => ?_
        obtain ⟨b1, ex, hb⟩ := one_of_flt (hx ▸ ev_rel hr x)
        replace hc := hc hb.ok.1
        unfold fconv at hc
        cases hn : isNan sk b
        · rw [hn] at hc
          simp only [cond_false] at hc
          have e1 := hb.eq hn
          subst e1
          refine ⟨.float k n, w.drawn, ?_, _, rfl, floatToFloatBits_rel hb.1 hn hc⟩
          unfold execOp
          simp [ho, ex, run_convert_float_float w s d sk k b1 n hsome hdd hc]
        · rw [hn] at hc
          simp only [cond_true, Option.some.injEq] at hc
          subst hc
          have hn1 := hb.isNan.symm.trans hn
          obtain ⟨sg, t, e⟩ := read_nan hn1
          obtain ⟨h1, h2⟩ := cut_nan k (.nanConv k b1) (w.tape w.drawn (.nanConv k b1)) b1 0 (.inr (.inl rfl))
          refine ⟨.float k ((Question.nanConv k b1).cut (w.tape w.drawn (.nanConv k b1))), w.drawn + 1, ?_, _, rfl, FRel.of_nan h1 h2⟩
          have e' : sk.decode b1 = .nan sg t := e
          unfold execOp
          cases ds <;> simp [ho, ex, convert, run_underlying hds, run_underlying hdd, Conv.floatToFloat, hne, e', Question.forced]
      split at h
      · exact ⟨_, h, main _ fun hb => fconv_wide hb⟩
      · cases hc : fconv sk k b with
        | none => rw [hc] at h; cases h
        | some n =>
          rw [hc] at h
          exact ⟨_, h, main n fun _ => hc⟩
  · rename_i a hu
    rw [hu] at hud
    cases hud
    split at h
    · rename_i hus'
      rw [hus'] at hus
      cases hus
      refine ⟨_, h, .val0 fun w0 S m H F act w hr => ?_⟩
      obtain ⟨ex, hl⟩ := one_of_str (hx ▸ ev_rel hr x)
      refine ⟨.string a, ?_, rfl, hl⟩
      unfold execOp
      simp [ho, ex, convert, run_underlying hds, run_underlying hdd]
    · cases h
  · cases h

end
end Go.Fw
