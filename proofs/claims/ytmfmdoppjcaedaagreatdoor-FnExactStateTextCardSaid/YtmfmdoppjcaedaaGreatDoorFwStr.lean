/- The library's decimal text of a number, and words joined, by the kit's contracts. No condition. -/
import Derived.Test.YtmfmdoppjcaedaaGreatDoorFwD
import Derived.Test.YtmfmdoppjcaedaaGreatDoorFwStr0
import Derived.Shelf.Strconv.Itoa4
import Derived.Shelf.Strings.OnBuilder
namespace Go.Fw
open Go.Proofs Go.Shelf Go.Lib

def m_formatInt : FM := { ps := [.ro false (.int .i64), .ro false (.int .i64)], res := .one false .str, run := fun x => g_formatInt x.1 x.2.1 }
def m_joinStr : FM := { ps := [.ro false (.slice .str), .ro false .str], res := .one false .str, run := fun x => g_joinStr x.1 x.2.1 }

theorem itoa_short (n : Int) (h0 : -9223372036854775808 ≤ n) (h1 : n ≤ 9223372036854775807) : (Lib.itoa n).length ≤ 4294967296 := by
  have key : ∀ k u : Nat, u < 10 ^ (k + 1) → (Lib.decDigits u).length ≤ k + 1 := by
    intro k
    induction k with
    | zero => intro u hu; rw [Lib.decDigits, dif_pos (by simpa using hu)]; simp
    | succ k ih =>
      intro u hu
      rw [Lib.decDigits]
      split
      · simp
      · rw [List.length_append]
        have := ih (u / 10) (by rw [Nat.div_lt_iff_lt_mul (by omega)]; rw [Nat.pow_succ] at hu; exact hu)
        simp; omega
  unfold Lib.itoa
  have e : (10 : Nat) ^ (18 + 1) = 10000000000000000000 := by decide
  split
  · have := key 18 n.natAbs (by omega)
    simp; omega
  · have := key 18 n.toNat (by omega)
    omega

theorem FmOK.formatInt {P : Program} {ρ : Ren} (L : LaysM.n173 P ρ) {f : FuncId} (hρ : ρ.f 173 = f) {fn : Func} (hf : P.funcs[f]? = some fn) (hb : fn.body.isNone = false) (hn : (fn.name == "runtime.NumGoroutine") = false)
    {g : Nat} (hg : P.globalNamed "internal/strconv.uint64pow10" = some g) (ht : (g, (Lib.pow10Tab.map fun z => Value.int .u64 z).toArray) ∈ goodTab) : FmOK P f m_formatInt := by
  subst hρ
  intro w args ds out ha hr hgood
  obtain ⟨v, vr, _, _, rfl, ⟨h1, _⟩, ha2, _⟩ := ha
  obtain ⟨v2, vr2, _, _, rfl, ⟨h2, _⟩, h3, _⟩ := ha2
  replace h3 : vr2 = [] := h3
  subst h3
  obtain ⟨n, b, ⟨⟩⟩ := ds
  obtain ⟨e1, r1⟩ := h1
  obtain ⟨e2, r2⟩ := h2
  have e1 : v = .int .i64 n := by simpa using e1
  have e2 : v2 = .int .i64 b := by simpa using e2
  subst e1 e2
  obtain ⟨hb10, hr⟩ := bif_some hr
  have hb10 : b = 10 := by simpa [ieq] using hb10
  subst hb10
  cases hr
  have r1 : -9223372036854775808 ≤ n ∧ n ≤ 9223372036854775807 := r1
  have htab : Lib.TabIs P w "internal/strconv.uint64pow10" .u64 Lib.pow10Tab := by
    obtain ⟨te, fz, e⟩ := hgood _ ht
    unfold Lib.TabIs World.var?
    rw [hg]
    simp only [Option.bind_some]
    rw [e]
  refine Lands.of_calls hf hb hn ((Any.strconv_FormatInt_10 L n r1.1 r1.2 w htab).mono ?_)
  rintro e w' ⟨rfl, k, os, rfl⟩
  refine ⟨_, rfl, ⟨?_, fun c hc => ?_, rfl, rfl, rfl⟩, fun _ => False, ⟨[.string (itoaB n)], nofun, fun _ => rfl, rfl, ?_⟩, fun c hc => hc.elim⟩
  · simp [«Sort».grow]
  · exact «Sort».heap_grow_old _ _ hc
  · have h : (itoaB n).size = (Lib.itoa n).length := rfl
    have := itoa_short n r1.1 r1.2
    show (itoaB n).size ≤ maxLen
    rw [h]
    simp only [maxLen]; omega

theorem FmOK.join {P : Program} {ρ : Ren} (L : Lays.n156 P ρ) (X : Builder.Extra P ρ) {f : FuncId} (hρ : ρ.f 156 = f) {fn : Func} (hf : P.funcs[f]? = some fn) (hb : fn.body.isNone = false) (hn : (fn.name == "runtime.NumGoroutine") = false) : FmOK P f m_joinStr := by
  subst hρ
  intro w args ds out ha hr _
  obtain ⟨v, vr, _, _, rfl, ⟨h1, _⟩, ha2, _⟩ := ha
  obtain ⟨v2, vr2, _, _, rfl, ⟨h2, _⟩, h3, _⟩ := ha2
  replace h3 : vr2 = [] := h3
  subst h3
  obtain ⟨xs, sep, ⟨⟩⟩ := ds
  obtain ⟨hl1, hr⟩ := bif_some hr
  obtain ⟨hl2, hr⟩ := bif_some hr
  rw [Bool.and_eq_true] at hl1
  have hl0 : List.length xs ≤ 4294967296 := Nat.le_of_ble_eq_true hl1.2
  have hl1 := Nat.le_of_ble_eq_true hl1.1
  have hl2 := Nat.le_of_ble_eq_true hl2
  cases hr
  obtain ⟨e2, _⟩ := h2
  have e2 : v2 = .string sep := by simpa using e2
  subst e2
  obtain ⟨hm, base, cap, ev, hlc, hcm, hbk⟩ := h1
  have ev : v = .slice base (List.length xs) cap := by simpa using ev
  subst ev
  rcases hbk with h0 | ⟨c, off, arr, te, fz, rfl, hT, hg, hle, hw⟩
  · subst h0; exact absurd hl1 (by simp)
  have hcells : ∀ (j : Nat) x, xs[j]? = some x → w.cell? ⟨c, off + j, none⟩ = some (.string x) := by
    intro j x hj
    have h4 : win arr (off + j * 1) 1 = [.string x] := (hw j x hj).1
    have h5 := congrArg (fun l : List Value => l[0]?) h4
    simp only [win, List.getElem?_take, List.getElem?_drop, List.getElem?_cons_zero, Nat.mul_one, Nat.add_zero] at h5
    rw [if_pos (by omega)] at h5
    unfold World.cell?
    simp only [hg]
    simpa using h5
  refine Lands.of_calls hf hb hn ((Any.strings_Join L X c off cap xs sep w hcells hT (Nat.le_trans hl0 (by decide)) hlc (by
    have : (joinL xs sep).length ≤ 4294967296 := hl2
    show (joinL xs sep).length ≤ _
    omega)).mono ?_)
  rintro e w' ⟨rfl, hbel⟩
  refine ⟨_, rfl, ⟨hbel.size, hbel.block, hbel.os, hbel.tape, hbel.output⟩, fun _ => False, ⟨[.string (joinB xs sep)], nofun, fun _ => rfl, rfl, ?_⟩, fun c hc => hc.elim⟩
  have h : (joinB xs sep).size = (joinL xs sep).length := rfl
  have h2 : (joinL xs sep).length ≤ 4294967296 := hl2
  show (joinB xs sep).size ≤ maxLen
  rw [h]
  simp only [maxLen]; omega
end Go.Fw
