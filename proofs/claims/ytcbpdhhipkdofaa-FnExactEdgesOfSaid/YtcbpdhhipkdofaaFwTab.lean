/- The table of types, checked by program; functions without a body. No condition. -/
import Derived.Test.YtcbpdhhipkdofaaFwTop
import Derived.Test.YtcbpdhhipkdofaaFwFunX
import Derived.Laws.Externs
namespace Go.Fw

def zeroB : C → Value → Bool
  | .undef, v => v.oneCell'
  | .int k n, .int k' n' => decide (k = k') && decide (n = n') && decide (k.min ≤ n) && decide (n ≤ k.max)
  | .bool b, .bool b' => b == b'
  | .flt k x, .float k' b => decide (k = k') && Nat.beq (canon k b) x && Nat.blt b (2 ^ k.format.width)
  | .str s, .string s' => s.data.toList == s'.data.toList && Nat.ble s'.size 4294967296
  | .pnil, .pointer none => true
  | .sl .nil, .slice _ 0 0 => true
  | _, _ => false

theorem zeroB_spec {c : C} {v : Value} (h : zeroB c v = true) : constRel c v := by
  intro Γ
  unfold zeroB at h
  split at h
  · exact h
  · simp only [Bool.and_eq_true, decide_eq_true_eq] at h
    obtain ⟨⟨⟨rfl, rfl⟩, h1⟩, h2⟩ := h
    exact ⟨rfl, h1, h2⟩
  · rename_i b b'
    have : b = b' := by simpa using h
    subst this; rfl
  · simp only [Bool.and_eq_true, decide_eq_true_eq, Nat.blt_eq] at h
    obtain ⟨⟨rfl, h1⟩, h2⟩ := h
    have h1 := Nat.eq_of_beq_eq_true h1
    subst h1
    exact ⟨_, rfl, FRel.mk' h2⟩
  · simp only [Bool.and_eq_true] at h
    obtain ⟨h1, h2⟩ := h
    rename_i s s'
    have h1 : s.data.toList = s'.data.toList := by simpa using h1
    have : s = s' := by
      cases s; cases s'
      simp only at h1
      congr 1
      exact Array.toList_inj.1 h1
    subst this
    refine ⟨rfl, ?_⟩
    have := Nat.le_of_ble_eq_true h2
    simp only [maxLen]; omega
  · rfl
  · exact ⟨_, rfl⟩
  · cases h

def zerosB : List C → List Value → Bool
  | [], [] => true
  | c :: cs, v :: vs => zeroB c v && zerosB cs vs
  | _, _ => false

theorem zerosB_spec : ∀ {cs : List C} {vs : List Value}, zerosB cs vs = true → All2 constRel cs vs
  | [], [], _ => .nil
  | [], _ :: _, h => by cases h
  | _ :: _, [], h => by cases h
  | c :: cs, v :: vs, h => by
    simp only [zerosB, Bool.and_eq_true] at h
    exact .cons (zeroB_spec h.1) (zerosB_spec h.2)

def undB : Und → TypeDesc → Bool
  | .int k, .int k' => decide (k = k')
  | .flt k, .float k' => decide (k = k')
  | .bool, .bool => true
  | .str, .string => true
  | .slice e, .slice e' => Nat.beq e e'
  | .array n e, .array n' e' => Nat.beq n n' && Nat.beq e e'
  | .struct fs, .struct l => l.toList.map (fun f => (f.offset, f.type)) == fs
  | .other, d => !aggD d
  | _, _ => false

theorem undB_spec {u : Und} {d : TypeDesc} (h : undB u d = true) : undRel u d := by
  unfold undB at h
  split at h
  · have := of_decide_eq_true h; subst this; rfl
  · have := of_decide_eq_true h; subst this; rfl
  · rfl
  · rfl
  · have := Nat.eq_of_beq_eq_true h; subst this; rfl
  · rw [Bool.and_eq_true] at h
    have h1 := Nat.eq_of_beq_eq_true h.1
    have h2 := Nat.eq_of_beq_eq_true h.2
    subst h1 h2; rfl
  · exact ⟨_, rfl, by simpa using h⟩
  · have : aggD d = false := by simpa using h
    exact this
  · cases h

def tiB (P : Program) (t : TypeId) (ti : TI) : Bool :=
  (match P.info? t with
    | some i => Nat.beq i.size ti.size && Nat.beq i.bytes ti.bytes && (match i.zero with
      | some z => zerosB ti.zero z.cells.toList
      | none => false)
    | none => false) &&
  (match P.underlying t with
    | some d => undB ti.und d
    | none => false)

theorem tiB_spec {P : Program} {t : TypeId} {ti : TI} (h : tiB P t ti = true) : TIOK P t ti := by
  unfold tiB at h
  rw [Bool.and_eq_true] at h
  obtain ⟨h1, h2⟩ := h
  constructor
  · split at h1
    · rename_i i hi
      simp only [Bool.and_eq_true] at h1
      obtain ⟨⟨h3, h4⟩, h5⟩ := h1
      split at h5
      · rename_i z hz
        exact ⟨i, hi, Nat.eq_of_beq_eq_true h3, Nat.eq_of_beq_eq_true h4, z, hz, zerosB_spec h5⟩
      · cases h5
    · cases h1
  · split at h2
    · rename_i d hd
      exact ⟨d, hd, undB_spec h2⟩
    · cases h2

def lookT : List (Nat × TI) → Nat → Option TI
  | [], _ => none
  | (t, i) :: r, u => bif Nat.beq t u then some i else lookT r u

def tabB (P : Program) : List (Nat × TI) → Bool
  | [] => true
  | (t, ti) :: r => tiB P t ti && tabB P r

theorem tabB_spec {P : Program} : ∀ {l : List (Nat × TI)}, tabB P l = true → TabOK P (lookT l)
  | [], _ => fun t ti h => by cases h
  | (t, ti) :: r, h => fun u ui hu => by
    simp only [tabB, Bool.and_eq_true] at h
    simp only [lookT] at hu
    cases hb : Nat.beq t u
    · rw [hb] at hu; exact tabB_spec h.2 u ui hu
    · rw [hb] at hu
      cases hu
      rw [← Nat.eq_of_beq_eq_true hb]
      exact tiB_spec h.1

/-! ### functions without loops -/
def noLoops : Code → Bool
  | .seq a b => noLoops a && noLoops b
  | .cond _ a b => noLoops a && noLoops b
  | .block _ c => noLoops c
  | .loop _ => false
  | _ => true

theorem noLoops_spec {E : Tabs} {L : Nat → Option LP} {n : Nat} : ∀ c : Code, noLoops c = true → LoopsOK E L n c := by
  intro c
  induction c with
  | seq a b iha ihb => intro h; simp only [noLoops, Bool.and_eq_true] at h; exact ⟨iha h.1, ihb h.2⟩
  | cond o a b iha ihb => intro h; simp only [noLoops, Bool.and_eq_true] at h; exact ⟨iha h.1, ihb h.2⟩
  | block i c ih => intro h; exact ih h
  | loop c _ => intro h; cases h
  | _ => intro _; trivial

def bodyB (fn : Func) : Bool := match fn.body with
  | some c => noLoops c
  | none => false

def shapeB (fn : Func) (ps : List PTy) (res : RTy) : Bool := !(fn.name == "runtime.NumGoroutine") && roOnly ps && noRR res && Nat.ble ps.length fn.ntmps

def Loops (E : Tabs) (L : Nat → Option LP) (fn : Func) : Prop := ∃ c, fn.body = some c ∧ LoopsOK E L fn.ntmps c

theorem Loops.none {E : Tabs} {L : Nat → Option LP} {fn : Func} (h : bodyB fn = true) : Loops E L fn := by
  unfold bodyB at h
  split at h
  · rename_i c hc; exact ⟨c, hc, noLoops_spec c h⟩
  · cases h

theorem FmOK.made {P : Program} {E : Tabs} (ok : EnvOK P E) {f : FuncId} {fn : Func} {L : Nat → Option LP} {fm : FM} (hf : P.funcs[f]? = some fn) (hs : shapeB fn fm.ps fm.res = true) (hL : Loops E L fn)
    (heval : ∀ ds out, okPs fm.ps ds → fm.run ds = some out → evalF E L fn fm.ps fm.res ds = some out) : FmOK P f fm := by
  simp only [shapeB, Bool.and_eq_true, Bool.not_eq_true'] at hs
  obtain ⟨⟨⟨h1, h2⟩, h3⟩, h4⟩ := hs
  obtain ⟨c, hc, hL⟩ := hL
  intro w args ds out hargs hrun
  exact Lands.of_calls hf (by rw [hc]; rfl) h1 (calls_of_eval ok hf hc h2 h3 (Nat.le_of_ble_eq_true h4) hL hargs (heval ds out (args_ok _ _ _ _ hargs) hrun))

def shapeX (fn : Func) (ps : List PTy) (res : RTy) : Bool := !(fn.name == "runtime.NumGoroutine") && xOnly ps && noRR res && Nat.ble ps.length fn.ntmps

theorem FxOK.made {P : Program} {E : Tabs} (ok : EnvOK P E) {f : FuncId} {fn : Func} {L : Nat → Option LP} {fx : FX} (hf : P.funcs[f]? = some fn) (hs : shapeX fn fx.ps fx.res = true) (hL : Loops E L fn)
    (heval : ∀ ds out, okPs fx.ps ds → fx.run ds = some out → evalX E L fn fx.ps fx.res ds = some out) : FxOK P f fx := by
  simp only [shapeX, Bool.and_eq_true, Bool.not_eq_true'] at hs
  obtain ⟨⟨⟨h1, h2⟩, h3⟩, h4⟩ := hs
  obtain ⟨c, hc, hL⟩ := hL
  intro w args ds out F hF hargs hrun
  exact Lands.of_calls hf (by rw [hc]; rfl) h1 (calls_of_evalX ok hf hc h2 h3 (Nat.le_of_ble_eq_true h4) hL hF hargs (heval ds out (args_ok _ _ _ _ hargs) hrun))

/-- What a law's function must show. -/
def lawB (P : Program) (T : Tab) (fn : Func) (ps : List PTy) : Bool :=
  parB T 20 fn.params.toList ps && Nat.ble ps.length fn.ntmps && (fn.params.toList.all fun t => P.readableRec t && decide (t < P.types.size)) && laidOutB P &&
  (match fn.resultTypes.toList with
    | [tb] => (match P.underlying tb with | some .bool => true | _ => false)
    | _ => false)

theorem law_of {P : Program} {E : Tabs} (ok : EnvOK P E) {k : FuncId} {fn : Func} {L : Nat → Option LP} {ps : List PTy} {spec : ChangeSpec} {H : Type} {enc : TypeId × Value → H}
    (hf : P.funcs[k]? = some fn) (hb : lawB P E.T fn ps = true) (hL : Loops E L fn) (hvars : spec.vars = [])
    (hspec : ∀ ds : List (DataW H), ds.length = ps.length → spec.fn H ds = { results := [.lit (.bool true)], args := ds }) (heval : ∀ ds : PD ps, okPs ps ds → evalF E L fn ps (.one false .bool) ds = some true)
    {W : World} {base : Nat} {args : Array Value} {ds gs : List (DataW H)} {before : List MemPlace} (hval : ∀ (j : Nat) t v, fn.params[j]? = some t → args[j]? = some v → Value.okWide P W .any base t v)
    (hW : DataW.Whole enc P fn.params.toList spec.vars false W args.toList ds gs before) : Calls P k args W fun e W' => ∃ v, e = .returned v ∧ spec.post enc P fn false true false false W args v W' := by
  simp only [lawB, Bool.and_eq_true] at hb
  obtain ⟨⟨⟨⟨h1, h2⟩, h3⟩, h4⟩, h5⟩ := hb
  obtain ⟨c, hc, hL⟩ := hL
  split at h5
  · rename_i tb hr
    split at h5
    · rename_i ht
      have hr' : fn.resultTypes = #[tb] := by
        have := congrArg List.toArray hr
        simpa using this
      exact law_calls ok h4 hf hc h1 (Nat.le_of_ble_eq_true h2) hL hvars hspec hr' ht (by simpa using h3) heval hval hW
    · cases h5
  · cases h5

/-! ### functions without a body -/
theorem Lands.of_extern {P : Program} {f : FuncId} {fn : Func} {args : Array Value} {w : World} {R : Value → World → Prop} {e : Array Value → Sem Value} {v : Value} (hf : P.funcs[f]? = some fn) (hname : (fn.name == "runtime.NumGoroutine") = false) (hb : fn.body.isNone = true)
    (hn : Extern.findNext fn = none) (he : Extern.find fn = some e) (hrun : (e args).run P w = .ok v w) (hR : R v w) : Lands P f args w R := by
  intro o a next Q hnext
  have hr : (callFunc f args).run P w = .ok (.value v) w := by rw [run_callFunc_extern hf hname hb hn he, hrun]; rfl
  rw [hr, Oper.upon_value]
  exact hnext v w hR

/-- A number as a model's only data. -/
theorem Ext.same (w : World) : Ext w w := Ext.refl w

def mBits (k : FloatKind) (i : IntKind) : FM := { ps := [.ro false (.flt k)], res := .one false (.int i), run := fun x => bif isNan k x.1 then none else some (x.1 : Int) }
def mFrom (k : FloatKind) (i : IntKind) : FM := { ps := [.ro false (.int i)], res := .one false (.flt k), run := fun x => some (canon k x.1.toNat) }

theorem arg1 {h : Heap} {T : Nat → Prop} {τ : Ty} {x : PD [.ro false τ]} {vs : List Value} (ha : ArgsRel h T [.ro false τ] x vs (fun _ => False)) : ∃ v, vs = [v] ∧ Rep h T τ x.1 [v] := by
  obtain ⟨v, vr, _, _, rfl, h1, h2, _⟩ := ha
  cases h2
  exact ⟨v, rfl, h1.1⟩

theorem FmOK.bits {P : Program} {f : FuncId} {fn : Func} {e : Array Value → Sem Value} {k : FloatKind} {i : IntKind} (hf : P.funcs[f]? = some fn) (hname : (fn.name == "runtime.NumGoroutine") = false) (hb : fn.body.isNone = true)
    (hn : Extern.findNext fn = none) (he : Extern.find fn = some e) (hrun : ∀ b w, (e #[.float k b]).run P w = .ok (.int i b) w) (hmin : i.min ≤ 0) (hk : (2 : Int) ^ k.format.width ≤ i.max + 1) : FmOK P f (mBits k i) := by
  intro w args ds out ha hr
  obtain ⟨v, rfl, b, e', hrel⟩ := arg1 ha
  have e' : v = .float k b := by simpa using e'
  subst e'
  simp only [mBits] at hr
  cases hnan : isNan k ds.1
  · rw [hnan] at hr
    have hr : (ds.1 : Int) = out := Option.some.inj hr
    have hbx := hrel.eq hnan
    refine Lands.of_extern hf hname hb hn he (hrun b w) ⟨Ext.refl w, fun _ => False, ⟨[.int i b], nofun, fun _ => rfl, ?_⟩, fun c hc => hc.elim⟩
    refine ⟨?_, ?_⟩
    · rw [← hr, hbx]
    · have h1 := hrel.1
      rw [hbx] at h1
      have h2 : ((ds.1 : Nat) : Int) < 2 ^ k.format.width := by exact_mod_cast h1
      rw [← hr]
      exact ⟨by omega, by omega⟩
  · rw [hnan] at hr; cases hr

theorem FmOK.from {P : Program} {f : FuncId} {fn : Func} {e : Array Value → Sem Value} {k : FloatKind} {i : IntKind} (hf : P.funcs[f]? = some fn) (hname : (fn.name == "runtime.NumGoroutine") = false) (hb : fn.body.isNone = true)
    (hn : Extern.findNext fn = none) (he : Extern.find fn = some e) (hrun : ∀ n w, (e #[.int i n]).run P w = .ok (.float k n.toNat) w) (hmin : 0 ≤ i.min) (hk : i.max < 2 ^ k.format.width) : FmOK P f (mFrom k i) := by
  intro w args ds out ha hr
  obtain ⟨v, rfl, e', hin⟩ := arg1 ha
  have e' : v = .int i ds.1 := by simpa using e'
  subst e'
  have hr : canon k ds.1.toNat = out := Option.some.inj hr
  refine Lands.of_extern hf hname hb hn he (hrun ds.1 w) ⟨Ext.refl w, fun _ => False, ⟨[.float k ds.1.toNat], nofun, fun _ => rfl, ?_⟩, fun c hc => hc.elim⟩
  refine ⟨ds.1.toNat, rfl, ?_⟩
  rw [← hr]
  refine FRel.mk' ?_
  obtain ⟨h1, h2⟩ := hin
  have h3 : ((ds.1.toNat : Nat) : Int) = ds.1 := Int.toNat_of_nonneg (by omega)
  have h4 : ((ds.1.toNat : Nat) : Int) < ((2 ^ k.format.width : Nat) : Int) := by rw [h3]; push_cast; omega
  exact_mod_cast h4

end Go.Fw
