/- Functions without a body: their plain words and their models. No condition. -/
import Derived.Test.YtcbpdhhipkdofaaFwEnv
namespace Go.Fw

def g_float32bits (x : Nat) : Option Int := bif isNan .f32 x then none else some (x : Int)
def g_float64bits (x : Nat) : Option Int := bif isNan .f64 x then none else some (x : Int)
def t_float32frombits (n : Int) : Nat := canon .f32 n.toNat
def t_float64frombits (n : Int) : Nat := canon .f64 n.toNat
/-- The square root. -/
def t_mathsqrt (x : Nat) : Nat := match FloatKind.f64.format.sqrt x with
  | some r => r
  | none => qnan .f64

abbrev m_float32bits : FM := mBits .f32 .u32
abbrev m_float64bits : FM := mBits .f64 .u64
abbrev m_float32frombits : FM := mFrom .f32 .u32
abbrev m_float64frombits : FM := mFrom .f64 .u64
def m_mathsqrt : FM := { ps := [.ro false (.flt .f64)], res := .one false (.flt .f64), run := fun x => some (t_mathsqrt x.1) }

theorem Lands.of_extern' {P : Program} {f : FuncId} {fn : Func} {args : Array Value} {w w' : World} {R : Value → World → Prop} {e : Array Value → Sem Value} {v : Value} (hf : P.funcs[f]? = some fn) (hname : (fn.name == "runtime.NumGoroutine") = false) (hb : fn.body.isNone = true)
    (hn : Extern.findNext fn = none) (he : Extern.find fn = some e) (hrun : (e args).run P w = .ok v w') (hR : R v w') : Lands P f args w R := by
  intro o a next Q hnext
  have hr : (callFunc f args).run P w = .ok (.value v) w' := by rw [run_callFunc_extern hf hname hb hn he, hrun]; rfl
  rw [hr, Oper.upon_value]
  exact hnext v w' hR

theorem FmOK.sqrt {P : Program} {f : FuncId} {fn : Func} (hf : P.funcs[f]? = some fn) (hname : (fn.name == "runtime.NumGoroutine") = false) (hb : fn.body.isNone = true)
    (hn : Extern.findNext fn = none) (he : Extern.find fn = some Extern.MathSqrt.sqrt) : FmOK P f m_mathsqrt := by
  intro w args ds out ha hr
  obtain ⟨v, rfl, b, e', hrel⟩ := arg1 ha
  have e' : v = .float .f64 b := by simpa using e'
  subst e'
  have hr : t_mathsqrt ds.1 = out := Option.some.inj hr
  have same : FloatKind.f64.format.sqrt ds.1 = FloatKind.f64.format.sqrt b := by
    cases hx : isNan .f64 ds.1
    · rw [hrel.eq hx]
    · have h1 : ∀ y, isNan .f64 y = true → FloatKind.f64.format.sqrt y = none := fun y hy => by
        obtain ⟨s, t, e⟩ := read_nan hy
        unfold Ieee.Format.sqrt
        rw [e]; rfl
      rw [h1 _ hx, h1 _ (hrel.isNan ▸ hx)]
  have done : ∀ (r : Nat) (n : Nat), (Extern.MathSqrt.sqrt #[.float .f64 b]).run P w = .ok (.float .f64 r) { w with drawn := n } → FRel .f64 out r →
      Lands P f #[.float .f64 b] w fun v w' => Ext w w' ∧ ∃ F, ResRel w'.heap (fun _ => False) m_mathsqrt.res out v F ∧ ∀ c, F c → w.heap.size ≤ c ∧ c < w'.heap.size := fun r n hrun hr =>
    Lands.of_extern' hf hname hb hn he hrun ⟨Ext.draw w n, fun _ => False, ⟨[.float .f64 r], nofun, fun _ => rfl, r, rfl, hr⟩, fun c hc => hc.elim⟩
  have eS : Extern.MathSqrt.sqrt #[.float .f64 b] = (match FloatKind.f64.format.sqrt b with
      | some r => pure (.float .f64 r)
      | none => do pure (.float .f64 (← choose (.nanBits .f64 b b)))) := rfl
  cases hs : FloatKind.f64.format.sqrt b with
  | some r =>
    refine done r w.drawn (by rw [eS, hs]; simp) ?_
    have : out = r := by rw [← hr]; unfold t_mathsqrt; rw [same, hs]
    rw [this]
    exact FRel.of_num (Ieee.Format.sqrt_lt _ hs) (map_write_not_nan .f64 (fun d hd => root_not_nan hd) hs)
  | none =>
    obtain ⟨h1, h2⟩ := cut_nan .f64 (.nanBits .f64 b b) (w.tape w.drawn (.nanBits .f64 b b)) b b (.inl rfl)
    refine done ((Question.nanBits .f64 b b).cut (w.tape w.drawn (.nanBits .f64 b b))) (w.drawn + 1) (by rw [eS, hs]; simp [Question.forced]) ?_
    have : out = qnan .f64 := by rw [← hr]; unfold t_mathsqrt; rw [same, hs]
    rw [this]
    exact FRel.of_nan h1 h2
end Go.Fw
