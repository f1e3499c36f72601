/- The law FnExactStateText answers true for all arguments. No condition. -/
import Derived.Test.YtmfmdoppjcaedaaGreatDoorVEq2
import Derived.Test.YtmfmdoppjcaedaaGreatDoorVSeat
import Derived.Test.YtmfmdoppjcaedaaGreatDoorRows
import Derived.Test.YtmfmdoppjcaedaaGreatDoorCards
import Derived.Test.YtmfmdoppjcaedaaGreatDoorTie
import Derived.Handed
import Derived.JoinedOf
import Derived.LaidHandle
import Derived.Lib.LaidTab
import Derived.Lib.LaidIn
import Derived.SevenTiedAt
set_option linter.unusedVariables false
set_option linter.unusedSimpArgs false
namespace Go.Fw
theorem v_FnExactStateText (aM : dMachine) (aR : dRun) (hok : okPs [.ro true tMachine, .ro true tRun] (aM, aR, ())) : g_w_FnExactStateText aM aR = some true := by
  unfold g_w_FnExactStateText
  have z0 := c_w_szMachine aM (1048576) hok.1 (by omega) (by omega)
  by_cases c0 : ((z_Machine aM : Nat) : Int) ≤ 1048576
  case neg => rw [if_neg c0] at z0; simp only [z0, opt_bind_some, show ilt (-1) 0 = true from rfl, cond_t]
  rw [if_pos c0] at z0
  rw [z0]
  simp (disch := omega) only [opt_bind_some, ilt_f, cond_f]
  have d0 : ((z_Machine aM : Nat) : Int) ≤ 1048576 := by omega
  obtain ⟨y, hs, hi, hq⟩ := e_StateText aM aR d0 hok
  have s0 := bv_Machine aM
  have t0 := c_w_toMachine aM (by omega)
  have e0 := c_w_eqMachine aM (by omega)
  simp only [hs, hi, c_w_toRun, t0, e0, opt_bind_some, cond_f, cond_t, bnot_t, ieq_self, beqB_self, seq_refl]
end Go.Fw
namespace Go.Proofs.YtmfmdoppjcaedaaGreatDoor
open Go.ChangeShapes Go.WideShapes Go.ChangeAt Go.RowKit Go.Fw Go.Fw.V

theorem fnExactStateText_own : ownKnob Tryz.prog.godebug = none := by kernel_rfl

def lits {H : Type} : DataW H → List Value
  | .agg l => l.map fun
    | .lit (.int k n) => .int k n
    | _ => .int .u8 0
  | _ => []
/-- A world in which the listed variables are laid. -/
noncomputable def laidWorld (os : Os) : World :=
  let w0 := World.holding Tryz.prog os ⟨#[], #[], []⟩
  { w0 with heap := ((w0.heap.modify 0 fun
      | .cells _ t frozen => .cells (Lib.pow10Tab.map fun z => Value.int .u64 z).toArray t frozen
      | o => o).modify 2 fun
      | .cells _ t frozen => .cells (lits (Rows.laid_math_bits_deBruijn32tab (H := Unit))).toArray t frozen
      | o => o).modify 3 fun
      | .cells _ t frozen => .cells (lits (Rows.laid_math_bits_deBruijn64tab (H := Unit))).toArray t frozen
      | o => o }

def stLaid : List (String × DataW Unit) := [("math/bits.deBruijn32tab", Rows.laid_math_bits_deBruijn32tab), ("math/bits.deBruijn64tab", Rows.laid_math_bits_deBruijn64tab), ("internal/strconv.uint64pow10", Rows.laid_internal_strconv_uint64pow10)]

theorem stLaid_met (os : Os) (args : Array Value) : laidMetH Tryz.prog stLaid ((laidWorld os).forCall (fun _ _ => 0) ⟨#[], args, []⟩).memory :=
  laidMetH_of_parts (LaidIn.of_run [2, 3, 0] 8 (by kernel_rfl) (by kernel_rfl) (by kernel_rfl) (by kernel_rfl)).met (by kernel_rfl)

theorem stPow : (Rows.laid_internal_strconv_uint64pow10 : DataW Unit) = Lib.tabData .u64 Lib.pow10Tab := by kernel_rfl

theorem good_of_laid {W : World} (h : laidMetH Tryz.prog stLaid W) : GoodH W.heap := by
  have h' : laidMet Tryz.prog stLaid W := h
  obtain ⟨ps, hl, _⟩ := h'
  obtain ⟨_, _, _, _, _, _, _, _, _, _, hl, _⟩ := hl
  obtain ⟨_, _, _, _, _, _, _, _, _, _, hl, _⟩ := hl
  obtain ⟨g', t', cs, fuel, p, q, hg', ht', hvar, hd, _, _⟩ := hl
  rw [stPow] at hd
  have hg : Tryz.prog.globalNamed "internal/strconv.uint64pow10" = some 0 := by kernel_rfl
  obtain rfl := Option.some.inj (hg.symm.trans hg')
  have hty : (Tryz.prog.globals[0]?).map (·.type) = some 175 := by kernel_rfl
  obtain rfl := Option.some.inj (hty.symm.trans ht')
  have e := Lib.cells_of_tab (k := .u64) (zs := Lib.pow10Tab) (n := 20) Tryz.underlying175 Tryz.underlying162 (by kernel_rfl) (by kernel_rfl) hd
  refine GoodH.tab hg ?_
  rw [hvar]
  congr 1
  exact Array.toList_inj.1 e

set_option maxRecDepth 100000 in
theorem fnExactStateText_lifted (os : Os) (started : os.Started) (H : Type) (enc : TypeId × Value → H) :
    ReturnsInHanded {} Tryz.checked os 3 .any (fun w args => (Rows.fnExactStateTextSpec.pre enc Tryz.prog Tryz.f3 Rows.fnExactStateTextRow.domain false w args ∧ laidMetH Tryz.prog stLaid w) ∧ sizedMet enc Tryz.prog Tryz.f3 (OpenSpec.ofChange Rows.fnExactStateTextSpec) false w args) (Rows.fnExactStateTextSpec.post enc Tryz.prog Tryz.f3 false true false false) := by
  refine returnsInHanded_of_change_and (C := Tryz.checked) (X := fun w _ => laidMetH Tryz.prog stLaid w) (fun _ _ _ hh h => h.of_heap hh) fnExactStateText_own started (by kernel_rfl) Tryz.func3
    (ChangeSpec.witness_at (enc := enc) (C := Tryz.checked) (os := os) (X := fun w _ => laidMetH Tryz.prog stLaid w) false (laidWorld os) #[.agg #[.slice none 0 0, .slice none 0 0, .slice none 0 0], .agg #[.int .i64 0, .int .i64 0, .int .i64 0, .int .i64 0, .int .i64 0, .int .i64 0]] 8 rfl (by kernel_rfl) (by kernel_rfl) (by kernel_rfl) (by kernel_rfl) (by kernel_rfl) (stLaid_met os _)) ?_
  intro W base args ds gs before hval hW _ _ hL _
  exact law_of (E := E_w_FnExactStateText) (ps := [.ro true tMachine, .ro true tRun]) ek_w_FnExactStateText Tryz.func3 (by kernel_rfl) (.none (by kernel_rfl)) rfl
    (fun ds hl => by
      match ds, hl with
      | [d1, d2], _ => rfl)
    (fun ⟨aM, aR, ⟨⟩⟩ hok => (ev_w_FnExactStateText aM aR).trans (v_FnExactStateText aM aR hok)) hval hW (good_of_laid hL)

theorem fnExactStateText_holds : Rows.FnExactStateTextSaid :=
  OpenClaim.holds_of_wide 3 Tryz.f3 rfl rfl rfl rfl rfl rfl rfl ⟨rfl, rfl, rfl, rfl, rfl⟩ rfl rfl rfl rfl rfl (by kernel_rfl) Tryz.func3 (by kernel_rfl)
    (of_decide_eq_true (by kernel_rfl)) (by unfold Func.isWrapper; first | (rw [if_pos (by decide +kernel)]; kernel_rfl) | (rw [if_neg (by decide +kernel)]; exact ⟨rfl, rfl⟩))
    (fun os started H enc _ => fnExactStateText_lifted os started H enc)

theorem fnExactStateTextCard_holds : Rows.FnExactStateTextCardSaid :=
  Claim7.holds_tied_plain_at .later [] [.data, .data, .data] true (true, "3dc8e547f0c3da8a41326a109c4ffb8bef165141addfae185fca831dc954cf15") false
    fnExactStateText_holds (fun _ h => by cases h) (by kernel_rfl) (fun _ h => by cases h) fnExactStateText_row_tie rfl ⟨rfl, rfl⟩ (by kernel_rfl) rfl
    (fun f fn hf hfn => by
      obtain rfl : f = 3 := Option.some.inj ((show Tryz.prog.funcNamed "loop.example/g01180/laws.FnExactStateText" = some 3 by kernel_rfl).symm.trans hf) |>.symm
      obtain rfl : fn = Tryz.f3 := (Option.some.inj (Tryz.func3.symm.trans hfn)).symm
      exact ⟨by kernel_rfl, fun j t ht => by
        have hall : (Tryz.f3.params.toList.all fun t => !(Tryz.prog.wantsStandIn t)) = true := by kernel_rfl
        have hm : t ∈ Tryz.f3.params.toList := by
          have := Array.mem_of_getElem? ht
          exact Array.mem_toList_iff.2 this
        have := List.all_eq_true.1 hall t hm
        exact (show Tryz.prog.wantsStandIn t = false by simpa using this)⟩)
    (by kernel_rfl)

#print axioms fnExactStateTextCard_holds
end Go.Proofs.YtmfmdoppjcaedaaGreatDoor
