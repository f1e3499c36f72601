/- The reference's functions and the program's compute the same: the bones that a skin uses. No condition. -/
import Derived.Test.YtmfmdoppjcaedaaFwE
import Derived.Test.YtmfmdoppjcaedaaFwD
import Derived.Test.YtmfmdoppjcaedaaDThy
set_option linter.unusedVariables false
set_option linter.unusedSimpArgs false
namespace Go.Fw
theorem l00In_T (a b c : Int) : (t_s_l00In a b c = true) = (b ≤ a ∧ a ≤ c) := by
  unfold t_s_l00In ile
  by_cases h : b ≤ a <;> simp [h]
theorem l00In_F (a b c : Int) : (t_s_l00In a b c = false) = ¬ (b ≤ a ∧ a ≤ c) := by
  unfold t_s_l00In ile
  by_cases h : b ≤ a <;> simp [h]
theorem getD_ok {α : Type} {P : α → Prop} {l : List α} {z : α} {j : Nat} (h : ∀ x ∈ l, P x) (hj : j < l.length) : P (l.getD j z) := by
  rw [List.getD_eq_getElem?_getD, List.getElem?_eq_getElem hj]
  exact h _ (List.getElem_mem _)

/-! skeletons -/
def boneOK (k : dSkel) (i : Nat) : Bool := t_s_l00In (k.1.getD i zRootKey).1 0 ((i : Int) - 1)
def isSkel (k : dSkel) : Bool := bif t_s_l00In (k.1.length : Int) 1 12 then bif ieq (k.1.getD 0 zRootKey).1 (-1) then allFrom (boneOK k) 1 (k.1.length - 1) else false else false

theorem c_s_l03Is (k : dSkel) (h : k.1.length < 4611686018427387904) : g_s_l03Is k = some (isSkel k) := by
  unfold g_s_l03Is isSkel
  cases h1 : t_s_l00In (k.1.length : Int) 1 12
  · rfl
  rw [l00In_T] at h1
  rw [bnot_t, cond_f, cond_t, ix_ok (by omega) (by omega), opt_bind_some, show (0 : Int).toNat = 0 from rfl]
  cases h2 : ieq (k.1.getD 0 zRootKey).1 (-1)
  · rfl
  rw [bnot_t, cond_f, cond_t]
  have := all_loop1 (step := L_s_l03Is_1) (fun i => ((k, (false, ((k.1.length : Int), ((i : Int), ())))), ())) (false, ((false, ()), ())) (true, ((false, ()), ())) (boneOK k) 1 (k.1.length - 1)
    (fun j h3 h4 r => by
      simp only [L_s_l03Is_1]
      rw [ilt_nat (show j < k.1.length by omega), ix_nat (show j < k.1.length by omega), iadd_nat (by omega), isub_ok (by omega) (by omega), opt_bind_some, cond_t, bif_not]
      rfl)
    (fun r => by simp only [L_s_l03Is_1]; rw [ilt_f (by omega), cond_f]) (by omega)
  rw [show ((1 : Nat) : Int) = 1 from rfl] at this
  rw [this]
  cases allFrom (boneOK k) 1 (k.1.length - 1) <;> rfl

theorem drop_getD {α : Type} (l : List α) (i j : Nat) (z : α) : (l.drop i).getD j z = l.getD (i + j) z := by
  simp [List.getD_eq_getElem?_getD]

theorem c_i_ValidSkeleton (k : dSkel) (h : k.1.length < 4611686018427387904) : g_i_ValidSkeleton k = some (isSkel k) := by
  unfold g_i_ValidSkeleton isSkel
  cases h1 : t_s_l00In (k.1.length : Int) 1 12
  · rw [l00In_F] at h1
    by_cases h2 : (k.1.length : Int) < 1
    · rw [ilt_t h2]; rfl
    · rw [ilt_f (by omega), cond_f, ilt_t (by omega)]; rfl
  rw [l00In_T] at h1
  rw [ilt_f h1.1, cond_f, ilt_f h1.2, cond_f, cond_t, ix_ok (by omega) (by omega), opt_bind_some, show (0 : Int).toNat = 0 from rfl]
  cases h2 : ieq (k.1.getD 0 zRootKey).1 (-1)
  · rfl
  rw [bnot_t, cond_f, cond_t, decide_eq_true h1.1, cond_t, List.take_length]
  have hd : (k.1.drop 1).length = k.1.length - 1 := by simp
  have := all_loop (step := L_i_ValidSkeleton_1) (fun i => ((false, (k.1.drop 1, (((k.1.drop 1).length : Int), ((i : Int), ())))), ())) (false, ((false, ()), ())) (true, ((false, ()), ())) (fun j => boneOK k (j + 1)) (k.1.drop 1).length
    (fun j h3 r => by
      simp only [L_i_ValidSkeleton_1]
      rw [ilt_nat h3, ix_nat h3, iadd_nat (by omega), opt_bind_some, cond_t, drop_getD, show 1 + j = j + 1 by omega]
      unfold boneOK
      cases hb : t_s_l00In (k.1.getD (j + 1) zRootKey).1 0 (((j + 1 : Nat) : Int) - 1)
      · rw [l00In_F] at hb
        by_cases h5 : (k.1.getD (j + 1) zRootKey).1 < 0
        · rw [ilt_t h5]; rfl
        · rw [ilt_f (by omega), cond_f, ilt_t (by omega)]; rfl
      · rw [l00In_T] at hb
        rw [ilt_f hb.1, cond_f, ilt_f (by omega)]; rfl)
    (fun r => by simp only [L_i_ValidSkeleton_1, ilt_self, cond_f]) (by omega)
  rw [show ((0 : Nat) : Int) = 0 from rfl] at this
  rw [this, allFrom_shift, hd]
  cases allFrom (boneOK k) (0 + 1) (k.1.length - 1) <;> rfl

/-! skins -/
def risesAt (l : List Int) (low high : Int) (i : Nat) : Bool := bif t_s_l00In (l.getD i 0) low high then bif ilt 0 (i : Int) then !(ile (l.getD i 0) (l.getD (i - 1) 0)) else true else false
def rises (l : List Int) (low high : Int) : Bool := allFrom (risesAt l low high) 0 l.length

theorem c_s_l00Rises (l : List Int) (low high : Int) (h : l.length < 4611686018427387904) : g_s_l00Rises l low high = some (rises l low high) := by
  unfold g_s_l00Rises rises
  have := all_loop (step := L_s_l00Rises_1) (fun i => ((l, (low, (high, (false, ((i : Int), ()))))), ())) (false, ((false, ()), ())) (true, ((false, ()), ())) (risesAt l low high) l.length
    (fun j h3 r => by
      simp only [L_s_l00Rises_1]
      rw [ilt_nat h3, ix_nat h3, iadd_nat (by omega), opt_bind_some, cond_t]
      unfold risesAt
      cases t_s_l00In (l.getD j 0) low high
      · rfl
      by_cases h0 : 0 < j
      · rw [ilt_t (by omega), isub_ok (by omega) (by omega), ix_ok (by omega) (by omega), show ((j : Int) - 1).toNat = j - 1 by omega]
        simp only [opt_bind_some, bnot_t, cond_f, cond_t, bif_not]
      · rw [ilt_f (by omega)]; rfl)
    (fun r => by simp only [L_s_l00Rises_1, ilt_self, cond_f]) h
  rw [show ((0 : Nat) : Int) = 0 from rfl] at this
  rw [this]
  cases allFrom (risesAt l low high) 0 l.length <;> rfl

def lastOf (l : List Int) : Nat → Int
  | 0 => -1
  | i + 1 => l.getD i 0
theorem lastOf_zero (l : List Int) : lastOf l 0 = -1 := rfl
theorem lastOf_succ (l : List Int) (i : Nat) : lastOf l (i + 1) = l.getD i 0 := rfl
def risesI (l : List Int) (n : Int) (i : Nat) : Bool := bif ile (l.getD i 0) (lastOf l i) then false else !(ile n (l.getD i 0))

theorem risesI_eq (l : List Int) (n : Int) (h : n < 4611686018427387904) : allFrom (risesI l n) 0 l.length = rises l 0 (n - 1) := by
  unfold rises
  refine allFrom_eq ⟨fun h1 => ?_, fun h1 => ?_⟩
  · intro j
    induction j with
    | zero =>
      intro h2 h3
      have := h1 0 h2 h3
      unfold risesI at this
      rw [lastOf_zero] at this
      unfold risesAt
      cases h5 : ile (l.getD 0 0) (-1)
      · rw [h5, cond_f] at this
        (simp only [ilt_T, ilt_F, ile_T, ile_F, ieq_T, ieq_F, bnot_T, bnot_F, ble_T, ble_F, nz_T, nz_F, nonneg_T, nonneg_F] at h5)
        (simp only [ilt_T, ilt_F, ile_T, ile_F, ieq_T, ieq_F, bnot_T, bnot_F, ble_T, ble_F, nz_T, nz_F, nonneg_T, nonneg_F] at this)
        rw [(l00In_T _ _ _).mpr (by omega), ilt_f (by omega)]; rfl
      · rw [h5] at this; cases this
    | succ j ih =>
      intro h2 h3
      have h4 := ih (by omega) (by omega)
      have := h1 (j + 1) h2 h3
      unfold risesI at this
      rw [lastOf_succ] at this
      unfold risesAt at h4 ⊢
      cases h5 : ile (l.getD (j + 1) 0) (l.getD j 0)
      · rw [h5, cond_f] at this
        (simp only [ilt_T, ilt_F, ile_T, ile_F, ieq_T, ieq_F, bnot_T, bnot_F, ble_T, ble_F, nz_T, nz_F, nonneg_T, nonneg_F] at this)
        have h6 : t_s_l00In (l.getD j 0) 0 (n - 1) = true := by
          cases hx : t_s_l00In (l.getD j 0) 0 (n - 1)
          · rw [hx] at h4; cases h4
          · rfl
        rw [l00In_T] at h6
        have h7 := h5
        (simp only [ilt_T, ilt_F, ile_T, ile_F, ieq_T, ieq_F, bnot_T, bnot_F, ble_T, ble_F, nz_T, nz_F, nonneg_T, nonneg_F] at h7)
        rw [(l00In_T _ _ _).mpr (by omega), ilt_t (by omega), cond_t, cond_t, Nat.add_sub_cancel, h5]; rfl
      · rw [h5] at this; cases this
  · intro j h2 h3
    have h4 := h1 j h2 h3
    unfold risesAt at h4
    cases hx : t_s_l00In (l.getD j 0) 0 (n - 1)
    · rw [hx] at h4; cases h4
    rw [hx, cond_t] at h4
    rw [l00In_T] at hx
    unfold risesI
    cases j with
    | zero =>
      rw [lastOf_zero, ile_f (by omega), cond_f, ile_f (by omega)]; rfl
    | succ j =>
      rw [ilt_t (by omega), cond_t, Nat.add_sub_cancel] at h4
      (simp only [ilt_T, ilt_F, ile_T, ile_F, ieq_T, ieq_F, bnot_T, bnot_F, ble_T, ble_F, nz_T, nz_F, nonneg_T, nonneg_F] at h4)
      rw [lastOf_succ, ile_f (by omega), cond_f, ile_f (by omega)]; rfl

theorem c_IsSkin_inner (k : dSkel) (t18 : List dSkinPoint) (t19 t20 : Int) (l : List Int) (h : l.length < 4611686018427387904) (hk : k.1.length < 4611686018427387904) :
    iter L_i_IsSkin_2 fuel ((false, (-1, (t18, (t19, (t20, (l, ((l.length : Int), (0, ())))))))), ((k, ()), ())) = some (bif rises l 0 ((k.1.length : Int) - 1) then (false, ((false, (t18, (t19, (t20, ())))), ((k, ()), ()))) else (true, ((false, (t18, (t19, (t20, ())))), ((k, ()), ())))) := by
  have := all_loop (step := L_i_IsSkin_2) (fun i => ((false, (lastOf l i, (t18, (t19, (t20, (l, ((l.length : Int), ((i : Int), ())))))))), ((k, ()), ()))) (false, ((false, (t18, (t19, (t20, ())))), ((k, ()), ()))) (true, ((false, (t18, (t19, (t20, ())))), ((k, ()), ()))) (risesI l (k.1.length : Int)) l.length
    (fun j h3 r => by
      simp only [L_i_IsSkin_2]
      rw [ilt_nat h3, ix_nat h3, iadd_nat (by omega), opt_bind_some, cond_t]
      unfold risesI
      cases ile (l.getD j 0) (lastOf l j)
      · cases ile (k.1.length : Int) (l.getD j 0) <;> rfl
      · rfl)
    (fun r => by simp only [L_i_IsSkin_2, ilt_self, cond_f]) h
  rw [risesI_eq l _ (by omega)] at this
  exact this

def skinPt (k : dSkel) (p : dSkinPoint) : Bool := bif t_s_l09Point p then rises p.2.1 0 ((k.1.length : Int) - 1) else false
def isSkin (k : dSkel) (ps : List dSkinPoint) : Bool := bif ile (ps.length : Int) 24 then allFrom (fun j => skinPt k (ps.getD j zSkinPoint)) 0 ps.length else false

theorem skinPt_len {ps : List dSkinPoint} (h : szL z_SkinPoint ps < 4611686018427387904) {j : Nat} (hj : j < ps.length) : (ps.getD j zSkinPoint).2.1.length < 4611686018427387904 := by
  have h1 : szL z_I64 (ps.getD j zSkinPoint).2.1 + szL z_F32 (ps.getD j zSkinPoint).2.2.1 ≤ szL z_SkinPoint ps := getD_ok (P := fun x => z_SkinPoint x ≤ szL z_SkinPoint ps) (fun x hx => szL_mem hx) hj
  have h2 := szL_len (s := z_I64) (ps.getD j zSkinPoint).2.1
  omega

theorem c_s_l09Skin (k : dSkel) (ps : List dSkinPoint) (h : szL z_SkinPoint ps < 4611686018427387904) (hk : k.1.length < 4611686018427387904) : g_s_l09Skin k ps = some (isSkin k ps) := by
  have hl := szL_len (s := z_SkinPoint) ps
  unfold g_s_l09Skin isSkin
  have := all_loop (step := L_s_l09Skin_1) (fun i => ((k, (ps, (false, ((ps.length : Int), ((i : Int), ()))))), ())) (false, ((ps, (false, ())), ())) (true, ((ps, (false, ())), ())) (fun j => skinPt k (ps.getD j zSkinPoint)) ps.length
    (fun j h3 r => by
      simp only [L_s_l09Skin_1]
      rw [ilt_nat h3, ix_nat h3, iadd_nat (by omega), isub_ok (by omega) (by omega)]
      simp only [opt_bind_some, cond_t]
      rw [c_s_l00Rises _ _ _ (skinPt_len h h3), opt_bind_some]
      unfold skinPt
      cases t_s_l09Point (ps.getD j zSkinPoint)
      · rfl
      · simp only [bnot_t, cond_f, cond_t, bif_not])
    (fun r => by simp only [L_s_l09Skin_1, ilt_self, cond_f]) (by omega)
  rw [show ((0 : Nat) : Int) = 0 from rfl] at this
  rw [this]
  cases allFrom (fun j => skinPt k (ps.getD j zSkinPoint)) 0 ps.length
  · cases ile (ps.length : Int) 24 <;> rfl
  · simp only [cond_t, opt_bind_some, cond_f]
    cases ile (ps.length : Int) 24 <;> rfl

theorem c_IsSkin_outer (k : dSkel) (ps : List dSkinPoint) (h : szL z_SkinPoint ps < 4611686018427387904) (hk : k.1.length < 4611686018427387904) :
    iter L_i_IsSkin_1 fuel ((false, (ps, ((ps.length : Int), (0, ())))), ((k, ()), ())) = some (bif allFrom (fun j => skinPt k (ps.getD j zSkinPoint)) 0 ps.length then (false, ((false, ()), ())) else (true, ((false, ()), ()))) := by
  have hl := szL_len (s := z_SkinPoint) ps
  exact all_loop (step := L_i_IsSkin_1) (fun i => ((false, (ps, ((ps.length : Int), ((i : Int), ())))), ((k, ()), ()))) (false, ((false, ()), ())) (true, ((false, ()), ())) (fun j => skinPt k (ps.getD j zSkinPoint)) ps.length
    (fun j h3 r => by
      simp only [L_i_IsSkin_1]
      rw [ilt_nat h3, ix_nat h3, opt_bind_some, cond_t, show t_i_SkinPoint_isHeld (ps.getD j zSkinPoint) = t_s_l09Point (ps.getD j zSkinPoint) from rfl, c_IsSkin_inner k _ _ _ _ (skinPt_len h h3) hk, opt_bind_some]
      unfold skinPt
      cases t_s_l09Point (ps.getD j zSkinPoint)
      · rfl
      · cases rises (ps.getD j zSkinPoint).2.1 0 ((k.1.length : Int) - 1)
        · rfl
        · simp only [bnot_t, cond_f, cond_t]
          rw [iadd_nat (by omega)])
    (fun r => by simp only [L_i_IsSkin_1, ilt_self, cond_f]) (by omega)

theorem c_i_IsSkin (k : dSkel) (ps : List dSkinPoint) (h : szL z_SkinPoint ps < 4611686018427387904) (hk : k.1.length < 4611686018427387904) : g_i_IsSkin k ps = some (bif isSkel k then isSkin k ps else false) := by
  have hl := szL_len (s := z_SkinPoint) ps
  unfold g_i_IsSkin isSkin
  rw [c_i_ValidSkeleton k hk, opt_bind_some]
  cases isSkel k
  · rfl
  rw [bnot_t, cond_f, cond_t, c_IsSkin_outer k ps h hk]
  by_cases h1 : (ps.length : Int) ≤ 24
  · rw [ilt_f h1, ile_t h1, cond_f, cond_t, opt_bind_some]
    cases allFrom (fun j => skinPt k (ps.getD j zSkinPoint)) 0 ps.length <;> rfl
  · rw [ilt_t (by omega), ile_f (by omega)]; rfl


/-- n is put to its place, once. -/
def putI : List Int → Int → List Int
  | [], n => [n]
  | x :: r, n => if n ≤ x then (if n < x then n :: x :: r else x :: r) else x :: putI r n

theorem mem_putI {x n : Int} : ∀ {l : List Int}, x ∈ putI l n ↔ x = n ∨ x ∈ l
  | [] => by simp [putI]
  | y :: l => by
    unfold putI
    split
    · split
      · simp
      · have : n = y := by omega
        subst this
        simp
    · simp only [List.mem_cons, mem_putI (l := l)]
      constructor
      · rintro (h | h | h) <;> simp [h]
      · rintro (h | h | h) <;> simp [h]
theorem putI_sorted {n : Int} : ∀ {l : List Int}, l.Pairwise (· < ·) → (putI l n).Pairwise (· < ·)
  | [], _ => by simp [putI]
  | y :: l, h => by
    rw [List.pairwise_cons] at h
    unfold putI
    split
    · split
      · rename_i h1 h2
        refine List.pairwise_cons.2 ⟨fun x hx => ?_, List.pairwise_cons.2 h⟩
        cases hx with
        | head => exact h2
        | tail _ hx => have := h.1 x hx; omega
      · exact List.pairwise_cons.2 h
    · rename_i h1
      refine List.pairwise_cons.2 ⟨fun x hx => ?_, putI_sorted h.2⟩
      rcases mem_putI.1 hx with rfl | hx
      · omega
      · exact h.1 x hx

/-- Rising lists with the same members are the same. -/
theorem rising_eq : ∀ {l m : List Int}, l.Pairwise (· < ·) → m.Pairwise (· < ·) → (∀ x, x ∈ l ↔ x ∈ m) → l = m
  | [], [], _, _, _ => rfl
  | [], y :: m, _, _, h => by have := (h y).2 (by simp); cases this
  | x :: l, [], _, _, h => by have := (h x).1 (by simp); cases this
  | x :: l, y :: m, hl, hm, h => by
    rw [List.pairwise_cons] at hl hm
    have hxy : x = y := by
      have h1 := (h x).1 (by simp)
      have h2 := (h y).2 (by simp)
      cases h1 with
      | head => rfl
      | tail _ h1 => cases h2 with
        | head => rfl
        | tail _ h2 => have := hm.1 x h1; have := hl.1 y h2; omega
    subst hxy
    congr 1
    refine rising_eq hl.2 hm.2 fun z => ⟨fun hz => ?_, fun hz => ?_⟩
    · have h1 := (h z).1 (by simp [hz])
      cases h1 with
      | head => have := hl.1 x hz; omega
      | tail _ h1 => exact h1
    · have h1 := (h z).2 (by simp [hz])
      cases h1 with
      | head => have := hm.1 x hz; omega
      | tail _ h1 => exact h1

/-- All of them put to their places. -/
def putAll (l : List Int) : List Int := l.foldl putI []
theorem foldl_put : ∀ (l acc : List Int), acc.Pairwise (· < ·) → (l.foldl putI acc).Pairwise (· < ·) ∧ ∀ x, x ∈ l.foldl putI acc ↔ x ∈ acc ∨ x ∈ l
  | [], acc, h => ⟨h, fun x => by simp⟩
  | y :: l, acc, h => by
    obtain ⟨h1, h2⟩ := foldl_put l (putI acc y) (putI_sorted h)
    refine ⟨h1, fun x => ?_⟩
    show x ∈ l.foldl putI (putI acc y) ↔ _
    rw [h2 x, mem_putI, List.mem_cons]
    constructor
    · rintro ((h | h) | h) <;> simp [h]
    · rintro (h | h | h) <;> simp [h]
theorem putAll_sorted (l : List Int) : (putAll l).Pairwise (· < ·) := (foldl_put l [] List.Pairwise.nil).1
theorem mem_putAll (l : List Int) (x : Int) : x ∈ putAll l ↔ x ∈ l := by
  have := (foldl_put l [] List.Pairwise.nil).2 x
  simpa [putAll] using this

theorem sortI_mem (l : List Int) (x : Int) : x ∈ sortI l ↔ x ∈ l := List.mem_mergeSort
theorem sortI_le (l : List Int) : (sortI l).Pairwise (· ≤ ·) := by
  have := List.pairwise_mergeSort (le := fun x y : Int => decide (x ≤ y)) (fun a b c h1 h2 => by simp only [decide_eq_true_eq] at *; omega) (fun a b => by simp only [Bool.or_eq_true, decide_eq_true_eq]; omega) l
  exact this.imp fun {a b} h => by simpa using h
/-! l00Put -/
theorem put_done (l : List Int) (n : Int) (hl : l.length ≤ 1048576) : ∀ (suf pre acc : List Int) (N : Nat), l = pre ++ suf → acc.length ≤ pre.length + 1 → suf.length < N →
    iter L_s_l00Put_1 N ((l, (n, (true, ((pre.length : Int), ())))), (acc, ())) = some ((n, (true, ())), (acc ++ suf, ()))
  | [], pre, acc, N, he, ha, hN => by
    obtain _ | N := N
    · omega
    rw [List.append_nil] at he
    subst he
    rw [iter_succ]
    simp only [L_s_l00Put_1, ilt_self, cond_f, List.append_nil]
  | x :: suf, pre, acc, N, he, ha, hN => by
    obtain _ | N := N
    · omega
    have hpl : pre.length < l.length := by rw [he]; simp
    have hx : l.getD pre.length 0 = x := by rw [he]; exact getD_mid ..
    have ih := put_done l n hl suf (pre ++ [x]) (acc ++ [x]) N (by rw [he]; simp) (by simp; omega) (by simp at hN; omega)
    rw [List.length_append, List.append_assoc] at ih
    rw [iter_succ]
    simp only [L_s_l00Put_1]
    rw [ilt_nat hpl, ix_nat hpl, iadd_nat (by omega), ble_t (by omega)]
    simp only [opt_bind_some, cond_t, bnot_t, cond_f, hx]
    exact ih

theorem put_open (l : List Int) (n : Int) (hl : l.length ≤ 1048576) : ∀ (suf pre acc : List Int) (N : Nat), l = pre ++ suf → acc.length ≤ pre.length → suf.length < N →
    ∃ d acc', iter L_s_l00Put_1 N ((l, (n, (false, ((pre.length : Int), ())))), (acc, ())) = some ((n, (d, ())), (acc', ())) ∧ (bif !d then acc' ++ [n] else acc') = acc ++ putI suf n ∧ acc'.length ≤ acc.length + suf.length + 1
  | [], pre, acc, N, he, ha, hN => by
    obtain _ | N := N
    · omega
    rw [List.append_nil] at he
    subst he
    refine ⟨false, acc, ?_, rfl, by simp⟩
    rw [iter_succ]
    simp only [L_s_l00Put_1, ilt_self, cond_f]
  | x :: suf, pre, acc, N, he, ha, hN => by
    obtain _ | N := N
    · omega
    have hpl : pre.length < l.length := by rw [he]; simp
    have hx : l.getD pre.length 0 = x := by rw [he]; exact getD_mid ..
    rw [iter_succ]
    simp only [L_s_l00Put_1]
    rw [ilt_nat hpl, ix_nat hpl, iadd_nat (by omega)]
    simp only [opt_bind_some, cond_t, bnot_f, hx]
    unfold putI
    by_cases h1 : n ≤ x
    · rw [ile_t h1, if_pos h1, cond_t]
      by_cases h2 : n < x
      · rw [ilt_t h2, if_pos h2, cond_t, ble_t (by omega), cond_t, ble_t (by simp; omega), cond_t]
        have := put_done l n hl suf (pre ++ [x]) (acc ++ [n] ++ [x]) N (by rw [he]; simp) (by simp; omega) (by simp at hN; omega)
        rw [List.length_append] at this
        exact ⟨true, _, this, by simp, by simp; omega⟩
      · rw [ilt_f (by omega), if_neg h2, cond_f, ble_t (by omega), cond_t]
        have := put_done l n hl suf (pre ++ [x]) (acc ++ [x]) N (by rw [he]; simp) (by simp; omega) (by simp at hN; omega)
        rw [List.length_append] at this
        exact ⟨true, _, this, by simp, by simp⟩
    · rw [ile_f (by omega), if_neg h1, cond_f, ble_t (by omega), cond_t]
      obtain ⟨d, acc', h3, h4, h5⟩ := put_open l n hl suf (pre ++ [x]) (acc ++ [x]) N (by rw [he]; simp) (by simp; omega) (by simp at hN; omega)
      rw [List.length_append] at h3
      exact ⟨d, acc', h3, by rw [h4]; simp, by simp at h5; simp; omega⟩

theorem c_s_l00Put (l : List Int) (n : Int) (hl : l.length ≤ 1048576) : g_s_l00Put l n = some (putI l n) := by
  unfold g_s_l00Put
  obtain ⟨d, acc', h1, h2, h3⟩ := put_open l n hl l [] [] fuel rfl (Nat.le_refl _) (by unfold fuel; omega)
  rw [show (([] : List Int).length : Int) = 0 from rfl] at h1
  rw [h1, opt_bind_some]
  rw [List.nil_append] at h2
  rw [← h2]
  cases d
  · simp only [bnot_f, cond_t]
    rw [ble_t (by simp at h3; omega), cond_t]
  · rfl

theorem putI_len (l : List Int) (n : Int) : (putI l n).length ≤ l.length + 1 := by
  induction l with
  | nil => simp [putI]
  | cons x l ih =>
    unfold putI
    split
    · split <;> simp
    · simp; omega

/-! UsedBones -/
def bonesOf (ps : List dSkinPoint) : List Int := ps.flatMap fun p => p.2.1

theorem bonesOf_len : ∀ ps : List dSkinPoint, (bonesOf ps).length ≤ szL z_SkinPoint ps
  | [] => Nat.le_refl _
  | p :: ps => by
    have ih := bonesOf_len ps
    have h1 : (szL z_I64 p.2.1 + szL z_F32 p.2.2.1 : Nat) = z_SkinPoint p := rfl
    have h2 := szL_len (s := z_I64) p.2.1
    have h3 : bonesOf (p :: ps) = p.2.1 ++ bonesOf ps := rfl
    have h4 : szL z_SkinPoint (p :: ps) = 1 + z_SkinPoint p + szL z_SkinPoint ps := rfl
    rw [h3, h4, List.length_append]
    omega

/-- Runs of a sorted row become one: the row rises, and has the same numbers. -/
theorem compactI_rising : ∀ l : List Int, l.Pairwise (· ≤ ·) → (compactI l).Pairwise (· < ·) ∧ ∀ x, x ∈ compactI l ↔ x ∈ l
  | [], _ => ⟨List.Pairwise.nil, fun x => Iff.rfl⟩
  | [x], _ => ⟨by simp [compactI], fun _ => Iff.rfl⟩
  | x :: y :: r, h => by
    rw [List.pairwise_cons] at h
    obtain ⟨h1, h2⟩ := compactI_rising (y :: r) h.2
    have hxy : x ≤ y := h.1 y (.head _)
    unfold compactI
    by_cases e : x = y
    · rw [if_pos e]
      refine ⟨h1, fun z => ?_⟩
      rw [h2 z]
      subst e
      simp
    · rw [if_neg e]
      refine ⟨List.pairwise_cons.2 ⟨fun z hz => ?_, h1⟩, fun z => ?_⟩
      · have hz := (h2 z).1 hz
        have hy := h.2
        rw [List.pairwise_cons] at hy
        rcases List.mem_cons.1 hz with rfl | hz
        · omega
        · have := hy.1 z hz; omega
      · rw [List.mem_cons, h2 z, List.mem_cons (a := z) (b := x)]

theorem put_compact (l : List Int) : putAll l = compactI (sortI l) := by
  obtain ⟨h1, h2⟩ := compactI_rising (sortI l) (sortI_le l)
  exact rising_eq (putAll_sorted l) h1 fun x => by rw [mem_putAll, h2 x, sortI_mem]

theorem foldl_put_len : ∀ (l acc : List Int), (l.foldl putI acc).length ≤ acc.length + l.length
  | [], acc => by simp
  | x :: l, acc => by
    have h1 := foldl_put_len l (putI acc x)
    have h2 := putI_len acc x
    simp only [List.foldl_cons, List.length_cons]
    omega

theorem s_inner (ps : List dSkinPoint) (t18 t19 : Int) (i : Nat) (hi : i < ps.length) (l : List Int) (hl : (ps.getD i zSkinPoint).2.1 = l) : ∀ (suf pre acc : List Int) (N : Nat), l = pre ++ suf → acc.length + suf.length ≤ 1048576 → l.length ≤ 1048576 → suf.length < N →
    iter L_s_UsedBones_2 N ((ps, ((i : Int), (t18, (t19, ((l.length : Int), ((pre.length : Int), ())))))), (acc, ())) = some ((ps, (t18, (t19, ()))), (suf.foldl putI acc, ()))
  | [], pre, acc, N, he, ha, hb, hN => by
    obtain _ | N := N
    · omega
    rw [List.append_nil] at he
    subst he
    rw [iter_succ]
    simp only [L_s_UsedBones_2, ilt_self, cond_f, List.foldl_nil]
  | x :: suf, pre, acc, N, he, ha, hb, hN => by
    obtain _ | N := N
    · omega
    have hpl : pre.length < l.length := by rw [he]; simp
    have hx : l.getD pre.length 0 = x := by rw [he]; exact getD_mid ..
    have hlen := putI_len acc x
    have ih := s_inner ps t18 t19 i hi l hl suf (pre ++ [x]) (putI acc x) N (by rw [he]; simp) (by simp at ha; omega) hb (by simp at hN; omega)
    rw [List.length_append] at ih
    rw [iter_succ]
    simp only [L_s_UsedBones_2]
    rw [ilt_nat hpl, ix_nat hi, cond_t, opt_bind_some, hl, ix_nat hpl, opt_bind_some, hx, c_s_l00Put acc x (by simp at ha; omega), opt_bind_some, iadd_nat (by omega)]
    exact ih

theorem s_outer (ps : List dSkinPoint) (hz : szL z_SkinPoint ps ≤ 1048576) : ∀ (suf pre : List dSkinPoint) (acc : List Int) (N : Nat), ps = pre ++ suf → acc.length + (bonesOf suf).length ≤ 1048576 → suf.length < N →
    iter L_s_UsedBones_1 N ((ps, ((ps.length : Int), ((pre.length : Int), ()))), (acc, ())) = some ((), ((bonesOf suf).foldl putI acc, ()))
  | [], pre, acc, N, he, ha, hN => by
    obtain _ | N := N
    · omega
    rw [List.append_nil] at he
    subst he
    rw [iter_succ]
    simp only [L_s_UsedBones_1, ilt_self, cond_f]
    rfl
  | p :: suf, pre, acc, N, he, ha, hN => by
    obtain _ | N := N
    · omega
    have hpl : pre.length < ps.length := by rw [he]; simp
    have hx : ps.getD pre.length zSkinPoint = p := by rw [he]; exact getD_mid ..
    have hll := szL_len (s := z_SkinPoint) ps
    have h3 : bonesOf (p :: suf) = p.2.1 ++ bonesOf suf := rfl
    rw [h3, List.length_append] at ha
    have hlen := foldl_put_len p.2.1 acc
    have ih := s_outer ps hz suf (pre ++ [p]) (p.2.1.foldl putI acc) N (by rw [he]; simp) (by omega) (by simp at hN; omega)
    rw [List.length_append] at ih
    have hin := s_inner ps (ps.length : Int) (pre.length : Int) pre.length hpl p.2.1 (by rw [hx]) p.2.1 [] acc fuel rfl (by omega) (by omega) (by unfold fuel; omega)
    rw [show (([] : List Int).length : Int) = 0 from rfl] at hin
    rw [iter_succ]
    simp only [L_s_UsedBones_1]
    rw [ilt_nat hpl, ix_nat hpl, cond_t, opt_bind_some, hx, hin, opt_bind_some]
    simp only []
    rw [iadd_nat (by omega), h3, List.foldl_append]
    exact ih

theorem i_loop (ps : List dSkinPoint) (hz : szL z_SkinPoint ps ≤ 1048576) : ∀ (suf pre : List dSkinPoint) (acc : List Int) (N : Nat), ps = pre ++ suf → acc.length + (bonesOf suf).length ≤ 1048576 → suf.length < N →
    iter L_i_UsedBones_1 N ((ps, ((ps.length : Int), ((pre.length : Int), ()))), (acc, ())) = some ((), (acc ++ bonesOf suf, ()))
  | [], pre, acc, N, he, ha, hN => by
    obtain _ | N := N
    · omega
    rw [List.append_nil] at he
    subst he
    rw [iter_succ]
    simp only [L_i_UsedBones_1, ilt_self, cond_f]
    rw [show bonesOf [] = [] from rfl, List.append_nil]
  | p :: suf, pre, acc, N, he, ha, hN => by
    obtain _ | N := N
    · omega
    have hpl : pre.length < ps.length := by rw [he]; simp
    have hx : ps.getD pre.length zSkinPoint = p := by rw [he]; exact getD_mid ..
    have hll := szL_len (s := z_SkinPoint) ps
    have h3 : bonesOf (p :: suf) = p.2.1 ++ bonesOf suf := rfl
    rw [h3, List.length_append] at ha
    have ih := i_loop ps hz suf (pre ++ [p]) (acc ++ p.2.1) N (by rw [he]; simp) (by rw [List.length_append]; omega) (by simp at hN; omega)
    rw [List.length_append] at ih
    rw [iter_succ]
    simp only [L_i_UsedBones_1]
    rw [ilt_nat hpl, ix_nat hpl, cond_t, opt_bind_some, hx, ble_t (by omega), cond_t, iadd_nat (by omega), h3, ← List.append_assoc]
    exact ih

theorem e_UsedBones (k : dSkel) (ps : List dSkinPoint) (h : (z_Skel k : Int) ≤ 1048576) (h' : (szL z_SkinPoint ps : Int) ≤ 1048576) (hok : okPs [.ro true tSkel, .ro false (.slice tSkinPoint)] (k, ps, ())) : Same (g_s_UsedBones k ps) (g_i_UsedBones k ps) fun y => szL z_I64 y.1 ≤ 1048576 := by
  have hl : k.1.length ≤ z_Skel k := szL_len (s := z_RootKey) k.1
  have hb := bonesOf_len ps
  have hps := szL_len (s := z_SkinPoint) ps
  unfold g_s_UsedBones g_i_UsedBones
  rw [c_s_l03Is k (by omega), c_s_l09Skin k ps (by omega) (by omega), c_i_IsSkin k ps (by omega) (by omega)]
  simp only [opt_bind_some]
  cases isSkel k
  · exact Same.pure (Nat.zero_le _)
  cases isSkin k ps
  · exact Same.pure (Nat.zero_le _)
  have h1 := s_outer ps (by omega) ps [] [] fuel rfl (by simp; omega) (by unfold fuel; omega)
  have h2 := i_loop ps (by omega) ps [] [] fuel rfl (by simp; omega) (by unfold fuel; omega)
  rw [show (([] : List dSkinPoint).length : Int) = 0 from rfl] at h1 h2
  rw [List.nil_append] at h2
  have h3 := foldl_put_len (bonesOf ps) []
  have h4 : (sortI (bonesOf ps)).length = (bonesOf ps).length := List.length_mergeSort _
  have h5 : (bonesOf ps).foldl putI [] = compactI (sortI (bonesOf ps)) := put_compact _
  simp only [bnot_t, cond_f, cond_t, h1, h2, opt_bind_some, g_sortInt64, g_compactInt64]
  rw [ble_t (by omega), cond_t, opt_bind_some]
  simp only []
  rw [h4, ble_t (by omega), cond_t, opt_bind_some, ← h5]
  refine Same.pure ?_
  have e : z_I64 = fun _ => 0 := rfl
  rw [e, szL_zero]
  simp only [List.length_nil] at h3
  show ((bonesOf ps).foldl putI []).length ≤ 1048576
  omega
end Go.Fw
