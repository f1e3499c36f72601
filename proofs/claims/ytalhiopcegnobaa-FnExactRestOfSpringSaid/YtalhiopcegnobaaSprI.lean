/- Springs: when a spring rests. No condition. -/
import Derived.Test.YtalhiopcegnobaaSprF
import Derived.Test.YtalhiopcegnobaaFwLoops
namespace Go.Fw.Spr
open Go.Fw Go.Proofs

def inK (x a b : Int) : Bool := bif ile a x then ile x b else false
theorem e53 (x a b : Int) : evalF (env envF) noL Try.f53 [.ro false (.int .i64), .ro false (.int .i64), .ro false (.int .i64)] (.one false .bool) (x, a, b, ()) = bif ile a x then some (ile x b) else some false := by kernel_rfl
def m53 : FM := { ps := [.ro false (.int .i64), .ro false (.int .i64), .ro false (.int .i64)], res := .one false .bool, run := fun x => some (inK x.1 x.2.1 x.2.2.1) }
theorem ok53 : FmOK Try.prog 53 m53 := FmOK.made allF.env Try.func53 (by kernel_rfl) (.none (by kernel_rfl)) fun ds out _ hr => by
  obtain ⟨x, a, b, ⟨⟩⟩ := ds
  refine ((e53 x a b).trans ?_).trans hr
  show _ = some (inK x a b)
  unfold inK
  cases ile a x <;> rfl
def envI : List (Nat × FM) := (53, m53) :: envF
theorem allI : AllOK envI := .cons ok53 allF

def headI : Sig := { slots := [(1, .dat false F32), (2, .dat false (.int .i64)), (8, .dat false (.int .i64)), (6, .dat false (.int .i64)), (7, .dat false .bool), (3, .cst (.ptr (.box 0 0)))], blks := [.box [.dat spr]] }
def outI : Sig := { slots := [(6, .dat false (.int .i64)), (7, .dat false .bool)], blks := [] }
def stepI (rec' : headI.D → Option (Ex × outI.D)) (x : headI.D) : Option (Ex × outI.D) :=
  match x with
  | ((g, n, k, r, b, _), ((s, _), _)) => bif ile k n then (bif sameSpr (step s g) s then some (.ret, (k, true, ()), ()) else rec' ((g, n, iadd .i64 k 1, r, b, ()), ((step s g, ()), ()))) else some (.exit 0, (r, b, ()), ())
def lmI : LM := { mat := [], head := headI, out := outI, run := iter stepI 10002 }
theorem r22 (rec' : headI.D → Option (Ex × outI.D)) (g : Nat) (n k r : Int) (b : Bool) (s : spr.D) : round (env envI) (oneL 4 lmI) lmI 29 (loopAt Try.f22 0) rec' ((g, n, k, r, b, ()), ((s, ()), ())) = stepI rec' ((g, n, k, r, b, ()), ((s, ()), ())) := by kernel_rfl
theorem r24 (rec' : headI.D → Option (Ex × outI.D)) (g : Nat) (n k r : Int) (b : Bool) (s : spr.D) : round (env envI) (oneL 4 lmI) lmI 26 (loopAt Try.f24 0) rec' ((g, n, k, r, b, ()), ((s, ()), ())) = stepI rec' ((g, n, k, r, b, ()), ((s, ()), ())) := by kernel_rfl
abbrev psI : List PTy := [.ro true spr, .ro false F32, .ro false (.int .i64)]
abbrev resI : RTy := .tup [(false, .int .i64), (false, .bool)]
def endI (y : Ex × outI.D) : Option resI.D := match y.1 with
  | .normal => some (0, false, ())
  | .ret => some (y.2.1.1, y.2.1.2.1, ())
  | .exit i => bif Nat.beq i 0 then some (0, false, ()) else none
def loopI (s : spr.D) (g : Nat) (n : Int) : Option resI.D := (lmI.run ((g, n, 0, 0, false, ()), ((s, ()), ()))).bind endI
theorem e22 (s : spr.D) (g : Nat) (n : Int) : evalF (env envI) (oneL 4 lmI) Try.f22 psI resI (s, g, n, ()) = bif ilt n 0 then some (0, false, ()) else bif ilt 10000 n then some (0, false, ()) else loopI s g n := by kernel_rfl
theorem e24 (s : spr.D) (g : Nat) (n : Int) : evalF (env envI) (oneL 4 lmI) Try.f24 psI resI (s, g, n, ()) = bif !inK n 0 10000 then some (0, false, ()) else loopI s g n := by kernel_rfl
def restI (s : spr.D) (g : Nat) (n : Int) : Option resI.D := bif ilt n 0 then some (0, false, ()) else bif ilt 10000 n then some (0, false, ()) else loopI s g n
theorem inK_eq (n : Int) : inK n 0 10000 = (!ilt n 0 && !ilt 10000 n) := by
  unfold inK ile ilt
  by_cases h1 : 0 ≤ n <;> by_cases h2 : n ≤ 10000 <;> simp [h1, h2] <;> omega
theorem loops22 : Loops (env envI) (oneL 4 lmI) Try.f22 := Loops.one (by kernel_rfl) (by kernel_rfl) (LoopOK.iter (step := stepI) (N := fun _ => 10002) (fun rec' x => by
  obtain ⟨⟨g, n, k, r, b, ⟨⟩⟩, ⟨⟨s, ⟨⟩⟩, ⟨⟩⟩⟩ := x
  exact r22 rec' g n k r b s) fun _ => rfl)
theorem loops24 : Loops (env envI) (oneL 4 lmI) Try.f24 := Loops.one (by kernel_rfl) (by kernel_rfl) (LoopOK.iter (step := stepI) (N := fun _ => 10002) (fun rec' x => by
  obtain ⟨⟨g, n, k, r, b, ⟨⟩⟩, ⟨⟨s, ⟨⟩⟩, ⟨⟩⟩⟩ := x
  exact r24 rec' g n k r b s) fun _ => rfl)
def mRest : FM := { ps := psI, res := resI, run := fun x => restI x.1 x.2.1 x.2.2.1 }
theorem ok22 : FmOK Try.prog 22 mRest := FmOK.made allI.env Try.func22 (by kernel_rfl) loops22 fun ds out _ hr => by
  obtain ⟨s, g, n, ⟨⟩⟩ := ds
  exact (e22 s g n).trans hr
theorem ok24 : FmOK Try.prog 24 mRest := FmOK.made allI.env Try.func24 (by kernel_rfl) loops24 fun ds out _ hr => by
  obtain ⟨s, g, n, ⟨⟩⟩ := ds
  refine ((e24 s g n).trans ?_).trans hr
  show _ = restI s g n
  rw [inK_eq]
  unfold restI
  cases ilt n 0 <;> cases ilt 10000 n <;> rfl
def envJ : List (Nat × FM) := (22, mRest) :: (24, mRest) :: envI
theorem allJ : AllOK envJ := .cons ok22 (.cons ok24 allI)
theorem e6 (s : spr.D) (g : Nat) (n : Int) : evalF (env envJ) noL Try.f6 psI (.one false .bool) (s, g, n, ()) =
    (restI s g n).bind fun p => (restI s g n).bind fun q => bif !ieq q.1 p.1 then some false else bif !(q.2.1 == p.2.1) then some false else some true := by kernel_rfl

theorem ends (g : Nat) (n : Int) (hn : n ≤ 10000) : ∀ (N : Nat) (k r : Int) (b : Bool) (s : spr.D), 0 ≤ k → k ≤ n + 1 → n + 2 - k ≤ N → ∃ v, (iter stepI N ((g, n, k, r, b, ()), ((s, ()), ()))).bind endI = some v
  | 0, k, r, b, s, h0, h1, h2 => by omega
  | N + 1, k, r, b, s, h0, h1, h2 => by
    show ∃ v, (bif ile k n then (bif sameSpr (step s g) s then some (.ret, (k, true, ()), ()) else iter stepI N ((g, n, iadd .i64 k 1, r, b, ()), ((step s g, ()), ()))) else some (.exit 0, (r, b, ()), ())).bind endI = some v
    cases hk : ile k n
    · exact ⟨_, rfl⟩
    · have hk' : k ≤ n := by simpa [ile] using hk
      cases sameSpr (step s g) s
      · have e : iadd .i64 k 1 = k + 1 := by unfold iadd; rw [IntKind.wrap_i64]; omega
        rw [e]
        exact ends g n hn N (k + 1) r b (step s g) (by omega) (by omega) (by omega)
      · exact ⟨_, rfl⟩

theorem rest_some (s : spr.D) (g : Nat) (n : Int) : ∃ v, restI s g n = some v := by
  unfold restI
  cases h1 : ilt n 0
  · cases h2 : ilt 10000 n
    · have h1' : 0 ≤ n := by simpa [ilt] using h1
      have h2' : n ≤ 10000 := by simpa [ilt] using h2
      exact ends g n h2' 10002 0 0 false s (by omega) (by omega) (by omega)
    · exact ⟨_, rfl⟩
  · exact ⟨_, rfl⟩

theorem eval6 (s : spr.D) (g : Nat) (n : Int) : evalF (env envJ) noL Try.f6 psI (.one false .bool) (s, g, n, ()) = some true := by
  rw [e6]
  obtain ⟨v, hv⟩ := rest_some s g n
  rw [hv]
  simp [ieq]
end Go.Fw.Spr
