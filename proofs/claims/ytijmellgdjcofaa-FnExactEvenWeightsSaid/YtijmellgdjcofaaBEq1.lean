/- The reference's functions and the program's compute the same: what is the same. No condition. -/
import Derived.Test.YtijmellgdjcofaaAEq3
import Derived.Test.YtijmellgdjcofaaBThy
set_option linter.unusedVariables false
set_option linter.unusedSimpArgs false
namespace Go.Fw

def sameV (a b : dVec) : Bool := bif same a.1 b.1 then bif same a.2.1 b.2.1 then same a.2.2.1 b.2.2.1 else false else false
def sameT (a b : dTurn) : Bool := bif same a.1 b.1 then bif same a.2.1 b.2.1 then bif same a.2.2.1 b.2.2.1 then same a.2.2.2.1 b.2.2.2.1 else false else false else false
def sameP (a b : dPose) : Bool := bif sameV a.1 b.1 then eqL sameT zTurn a.2.1 b.2.1 else false

theorem c_s_l01VSame {a b : dVec} (ha : tVec.ok a) (hb : tVec.ok b) : g_s_l01VSame a b = some (sameV a b) := by
  unfold g_s_l01VSame sameV
  rw [c_s_l01Same ha.1 hb.1, c_s_l01Same ha.2.1 hb.2.1, c_s_l01Same ha.2.2.1 hb.2.2.1]
  simp only [opt_bind_some]
  cases same a.1 b.1 <;> cases same a.2.1 b.2.1 <;> rfl
theorem c_i_SameVector {a b : dVec} (ha : tVec.ok a) (hb : tVec.ok b) : g_i_SameVector a b = some (sameV a b) := by
  unfold g_i_SameVector sameV
  rw [c_i_SameNumber ha.1 hb.1, c_i_SameNumber ha.2.1 hb.2.1, c_i_SameNumber ha.2.2.1 hb.2.2.1]
  simp only [opt_bind_some]
  cases same a.1 b.1 <;> cases same a.2.1 b.2.1 <;> rfl
theorem c_s_l02Same {a b : dTurn} (ha : tTurn.ok a) (hb : tTurn.ok b) : g_s_l02Same a b = some (sameT a b) := by
  unfold g_s_l02Same sameT
  rw [c_s_l01Same ha.1 hb.1, c_s_l01Same ha.2.1 hb.2.1, c_s_l01Same ha.2.2.1 hb.2.2.1, c_s_l01Same ha.2.2.2.1 hb.2.2.2.1]
  simp only [opt_bind_some]
  cases same a.1 b.1 <;> cases same a.2.1 b.2.1 <;> cases same a.2.2.1 b.2.2.1 <;> rfl
theorem c_i_SameTurn {a b : dTurn} (ha : tTurn.ok a) (hb : tTurn.ok b) : g_i_SameTurn a b = some (sameT a b) := by
  unfold g_i_SameTurn sameT
  rw [c_i_SameNumber ha.1 hb.1, c_i_SameNumber ha.2.1 hb.2.1, c_i_SameNumber ha.2.2.1 hb.2.2.1, c_i_SameNumber ha.2.2.2.1 hb.2.2.2.1]
  simp only [opt_bind_some]
  cases same a.1 b.1 <;> cases same a.2.1 b.2.1 <;> cases same a.2.2.1 b.2.2.1 <;> rfl

theorem c_EqualFunc_Turn {a b : List dTurn} (ha : ∀ x ∈ a, tTurn.ok x) (hb : ∀ x ∈ b, tTurn.ok x) (hl : a.length < 4611686018427387904) : g_slices_EqualFunc_i_Turn_i_Turn_i_Turn_i_Turn a b () = some (eqL sameT zTurn a b) := by
  unfold g_slices_EqualFunc_i_Turn_i_Turn_i_Turn_i_Turn eqL
  cases he : ieq (a.length : Int) (b.length : Int)
  · rfl
  (simp only [ilt_T, ilt_F, ile_T, ile_F, ieq_T, ieq_F, bnot_T, bnot_F, ble_T, ble_F, nz_T, nz_F, nonneg_T, nonneg_F] at he)
  have hab : b.length = a.length := by omega
  have := all_loop (step := L_slices_EqualFunc_i_Turn_i_Turn_i_Turn_i_Turn_1) (fun i => ((b, (false, (a, ((a.length : Int), ((i : Int), ()))))), ())) (false, ((false, ()), ())) (true, ((false, ()), ())) (fun j => sameT (a.getD j zTurn) (b.getD j zTurn)) a.length
    (fun i hi r => by simp only [L_slices_EqualFunc_i_Turn_i_Turn_i_Turn_i_Turn_1]; rw [ilt_nat hi, ix_nat hi, ix_nat (show i < b.length by omega), iadd_nat (by omega)]; simp only [opt_bind_some, cond_t]; rw [c_i_SameTurn (getD_ok ha hi) (getD_ok hb (by omega))]; simp only [opt_bind_some, bif_not])
    (fun r => by simp only [L_slices_EqualFunc_i_Turn_i_Turn_i_Turn_i_Turn_1, ilt_self, cond_f]) hl
  rw [show ((0 : Nat) : Int) = 0 from rfl] at this
  rw [this]
  cases allFrom (fun j => sameT (a.getD j zTurn) (b.getD j zTurn)) 0 a.length <;> rfl

theorem c_EqualFunc_Vector {a b : List dVec} (ha : ∀ x ∈ a, tVec.ok x) (hb : ∀ x ∈ b, tVec.ok x) (hl : a.length < 4611686018427387904) : g_slices_EqualFunc_i_Vector_i_Vector_i_Vector_i_Vector a b () = some (eqL sameV zVec a b) := by
  unfold g_slices_EqualFunc_i_Vector_i_Vector_i_Vector_i_Vector eqL
  cases he : ieq (a.length : Int) (b.length : Int)
  · rfl
  (simp only [ilt_T, ilt_F, ile_T, ile_F, ieq_T, ieq_F, bnot_T, bnot_F, ble_T, ble_F, nz_T, nz_F, nonneg_T, nonneg_F] at he)
  have := all_loop (step := L_slices_EqualFunc_i_Vector_i_Vector_i_Vector_i_Vector_1) (fun i => ((b, (false, (a, ((a.length : Int), ((i : Int), ()))))), ())) (false, ((false, ()), ())) (true, ((false, ()), ())) (fun j => sameV (a.getD j zVec) (b.getD j zVec)) a.length
    (fun i hi r => by simp only [L_slices_EqualFunc_i_Vector_i_Vector_i_Vector_i_Vector_1]; rw [ilt_nat hi, ix_nat hi, ix_nat (show i < b.length by omega), iadd_nat (by omega)]; simp only [opt_bind_some, cond_t]; rw [c_i_SameVector (getD_ok ha hi) (getD_ok hb (by omega))]; simp only [opt_bind_some, bif_not])
    (fun r => by simp only [L_slices_EqualFunc_i_Vector_i_Vector_i_Vector_i_Vector_1, ilt_self, cond_f]) hl
  rw [show ((0 : Nat) : Int) = 0 from rfl] at this
  rw [this]
  cases allFrom (fun j => sameV (a.getD j zVec) (b.getD j zVec)) 0 a.length <;> rfl

theorem c_EqualFunc_float {a b : List Nat} (ha : ∀ x ∈ a, okF .f32 x) (hb : ∀ x ∈ b, okF .f32 x) (hl : a.length < 4611686018427387904) : g_slices_EqualFunc_float32_float32_float32_float32 a b () = some (eqL same 0 a b) := by
  unfold g_slices_EqualFunc_float32_float32_float32_float32 eqL
  cases he : ieq (a.length : Int) (b.length : Int)
  · rfl
  (simp only [ilt_T, ilt_F, ile_T, ile_F, ieq_T, ieq_F, bnot_T, bnot_F, ble_T, ble_F, nz_T, nz_F, nonneg_T, nonneg_F] at he)
  have := all_loop (step := L_slices_EqualFunc_float32_float32_float32_float32_1) (fun i => ((b, (false, (a, ((a.length : Int), ((i : Int), ()))))), ())) (false, ((false, ()), ())) (true, ((false, ()), ())) (fun j => same (a.getD j 0) (b.getD j 0)) a.length
    (fun i hi r => by simp only [L_slices_EqualFunc_float32_float32_float32_float32_1]; rw [ilt_nat hi, ix_nat hi, ix_nat (show i < b.length by omega), iadd_nat (by omega)]; simp only [opt_bind_some, cond_t]; rw [c_i_SameNumber (getD_ok ha hi) (getD_ok hb (by omega))]; simp only [opt_bind_some, bif_not])
    (fun r => by simp only [L_slices_EqualFunc_float32_float32_float32_float32_1, ilt_self, cond_f]) hl
  rw [show ((0 : Nat) : Int) = 0 from rfl] at this
  rw [this]
  cases allFrom (fun j => same (a.getD j 0) (b.getD j 0)) 0 a.length <;> rfl

theorem c_Equal_bool {a b : List Bool} (hl : a.length < 4611686018427387904) : g_slices_Equal_bool_bool a b = some (eqL (fun x y => x == y) false a b) := by
  unfold g_slices_Equal_bool_bool eqL
  cases he : ieq (a.length : Int) (b.length : Int)
  · rfl
  (simp only [ilt_T, ilt_F, ile_T, ile_F, ieq_T, ieq_F, bnot_T, bnot_F, ble_T, ble_F, nz_T, nz_F, nonneg_T, nonneg_F] at he)
  have := all_loop (step := L_slices_Equal_bool_bool_1) (fun i => ((a, (b, (false, ((a.length : Int), ((i : Int), ()))))), ())) (false, ((false, ()), ())) (true, ((false, ()), ())) (fun j => a.getD j false == b.getD j false) a.length
    (fun i hi r => by simp only [L_slices_Equal_bool_bool_1]; rw [ilt_nat hi, ix_nat hi, ix_nat (show i < b.length by omega), iadd_nat (by omega)]; simp only [opt_bind_some, cond_t, bif_not])
    (fun r => by simp only [L_slices_Equal_bool_bool_1, ilt_self, cond_f]) hl
  rw [show ((0 : Nat) : Int) = 0 from rfl] at this
  rw [this]
  cases allFrom (fun j => a.getD j false == b.getD j false) 0 a.length <;> rfl

theorem c_s_l03Same {a b : dPose} (ha : tPose.ok a) (hb : tPose.ok b) (hl : a.2.1.length < 4611686018427387904) : g_s_l03Same a b = some (sameP a b) := by
  unfold g_s_l03Same sameP eqL
  rw [c_s_l01VSame ha.1 hb.1, opt_bind_some]
  cases sameV a.1 b.1
  · rfl
  cases he : ieq (a.2.1.length : Int) (b.2.1.length : Int)
  · rfl
  (simp only [ilt_T, ilt_F, ile_T, ile_F, ieq_T, ieq_F, bnot_T, bnot_F, ble_T, ble_F, nz_T, nz_F, nonneg_T, nonneg_F] at he)
  have := all_loop (step := L_s_l03Same_1) (fun i => ((a, (b, (false, ((a.2.1.length : Int), ((i : Int), ()))))), ())) (false, ((false, ()), ())) (true, ((false, ()), ())) (fun j => sameT (a.2.1.getD j zTurn) (b.2.1.getD j zTurn)) a.2.1.length
    (fun i hi r => by simp only [L_s_l03Same_1]; rw [ilt_nat hi, ix_nat hi, ix_nat (show i < b.2.1.length by omega), iadd_nat (by omega)]; simp only [opt_bind_some, cond_t]; rw [c_s_l02Same (getD_ok ha.2.1.2 hi) (getD_ok hb.2.1.2 (by omega))]; simp only [opt_bind_some, bif_not])
    (fun r => by simp only [L_s_l03Same_1, ilt_self, cond_f]) hl
  rw [show ((0 : Nat) : Int) = 0 from rfl] at this
  rw [this]
  cases allFrom (fun j => sameT (a.2.1.getD j zTurn) (b.2.1.getD j zTurn)) 0 a.2.1.length <;> rfl

theorem c_i_SamePose {a b : dPose} (ha : tPose.ok a) (hb : tPose.ok b) (hl : a.2.1.length < 4611686018427387904) : g_i_SamePose a b = some (sameP a b) := by
  unfold g_i_SamePose sameP
  rw [c_i_SameVector ha.1 hb.1, c_EqualFunc_Turn ha.2.1.2 hb.2.1.2 hl, opt_bind_some]
  cases sameV a.1 b.1 <;> rfl

theorem c_s_l08List {a b : List dVec} (ha : ∀ x ∈ a, tVec.ok x) (hb : ∀ x ∈ b, tVec.ok x) (hl : a.length < 4611686018427387904) : g_s_l08List a b = some (eqL sameV zVec a b) := by
  unfold g_s_l08List eqL
  cases he : ieq (a.length : Int) (b.length : Int)
  · rfl
  (simp only [ilt_T, ilt_F, ile_T, ile_F, ieq_T, ieq_F, bnot_T, bnot_F, ble_T, ble_F, nz_T, nz_F, nonneg_T, nonneg_F] at he)
  have := all_loop (step := L_s_l08List_1) (fun i => ((a, (b, (false, ((i : Int), ())))), ())) (false, ((false, ()), ())) (true, ((false, ()), ())) (fun j => sameV (a.getD j zVec) (b.getD j zVec)) a.length
    (fun i hi r => by simp only [L_s_l08List_1]; rw [ilt_nat hi, ix_nat hi, ix_nat (show i < b.length by omega), iadd_nat (by omega)]; simp only [opt_bind_some, cond_t]; rw [c_s_l01VSame (getD_ok ha hi) (getD_ok hb (by omega))]; simp only [opt_bind_some, bif_not])
    (fun r => by simp only [L_s_l08List_1, ilt_self, cond_f]) hl
  rw [show ((0 : Nat) : Int) = 0 from rfl] at this
  rw [this]
  cases allFrom (fun j => sameV (a.getD j zVec) (b.getD j zVec)) 0 a.length <;> rfl

theorem c_s_l01SameAll {a b : List Nat} (ha : ∀ x ∈ a, okF .f32 x) (hb : ∀ x ∈ b, okF .f32 x) (hl : a.length < 4611686018427387904) : g_s_l01SameAll a b = some (eqL same 0 a b) := by
  unfold g_s_l01SameAll eqL
  cases he : ieq (a.length : Int) (b.length : Int)
  · rfl
  (simp only [ilt_T, ilt_F, ile_T, ile_F, ieq_T, ieq_F, bnot_T, bnot_F, ble_T, ble_F, nz_T, nz_F, nonneg_T, nonneg_F] at he)
  have := all_loop (step := L_s_l01SameAll_1) (fun i => ((a, (b, (false, ((i : Int), ())))), ())) (false, ((false, ()), ())) (true, ((false, ()), ())) (fun j => same (a.getD j 0) (b.getD j 0)) a.length
    (fun i hi r => by simp only [L_s_l01SameAll_1]; rw [ilt_nat hi, ix_nat hi, ix_nat (show i < b.length by omega), iadd_nat (by omega)]; simp only [opt_bind_some, cond_t]; rw [c_s_l01Same (getD_ok ha hi) (getD_ok hb (by omega))]; simp only [opt_bind_some, bif_not])
    (fun r => by simp only [L_s_l01SameAll_1, ilt_self, cond_f]) hl
  rw [show ((0 : Nat) : Int) = 0 from rfl] at this
  rw [this]
  cases allFrom (fun j => same (a.getD j 0) (b.getD j 0)) 0 a.length <;> rfl

/-! SameRecording -/
theorem c_EqualFunc_Pose {a b : List dPose} (ha : ∀ x ∈ a, tPose.ok x) (hb : ∀ x ∈ b, tPose.ok x) (hl : szL z_Pose a < 4611686018427387904) : g_slices_EqualFunc_i_Pose_i_Pose_i_Pose_i_Pose a b () = some (eqL sameP zPose a b) := by
  have hl' := szL_len (s := z_Pose) a
  unfold g_slices_EqualFunc_i_Pose_i_Pose_i_Pose_i_Pose eqL
  cases he : ieq (a.length : Int) (b.length : Int)
  · rfl
  (simp only [ilt_T, ilt_F, ile_T, ile_F, ieq_T, ieq_F, bnot_T, bnot_F, ble_T, ble_F, nz_T, nz_F, nonneg_T, nonneg_F] at he)
  have := all_loop (step := L_slices_EqualFunc_i_Pose_i_Pose_i_Pose_i_Pose_1) (fun i => ((b, (false, (a, ((a.length : Int), ((i : Int), ()))))), ())) (false, ((false, ()), ())) (true, ((false, ()), ())) (fun j => sameP (a.getD j zPose) (b.getD j zPose)) a.length
    (fun i hi r => by
      have h9 : (a.getD i zPose).2.1.length < 4611686018427387904 := by
        have h1 : szL z_Turn (a.getD i zPose).2.1 ≤ szL z_Pose a := getD_ok (P := fun x => z_Pose x ≤ szL z_Pose a) (fun x hx => szL_mem hx) hi
        have h2 := szL_len (s := z_Turn) (a.getD i zPose).2.1
        omega
      simp only [L_slices_EqualFunc_i_Pose_i_Pose_i_Pose_i_Pose_1]; rw [ilt_nat hi, ix_nat hi, ix_nat (show i < b.length by omega), iadd_nat (by omega)]; simp only [opt_bind_some, cond_t]; rw [c_i_SamePose (getD_ok ha hi) (getD_ok hb (by omega)) h9]; simp only [opt_bind_some, bif_not])
    (fun r => by simp only [L_slices_EqualFunc_i_Pose_i_Pose_i_Pose_i_Pose_1, ilt_self, cond_f]) (by omega)
  rw [show ((0 : Nat) : Int) = 0 from rfl] at this
  rw [this]
  cases allFrom (fun j => sameP (a.getD j zPose) (b.getD j zPose)) 0 a.length <;> rfl

theorem c_SameRecording_loop {a b : dRec} (ha : tRec.ok a) (hb : tRec.ok b) (hl : szL z_Pose a.2.1 < 4611686018427387904) (he : b.2.1.length = a.2.1.length) :
    iter L_s_SameRecording_1 fuel ((false, (0, ())), ((a, ()), ((b, ()), ()))) = some (bif allFrom (fun j => sameP (a.2.1.getD j zPose) (b.2.1.getD j zPose)) 0 a.2.1.length then (false, ((false, ()), ())) else (true, ((false, ()), ()))) := by
  have hl' := szL_len (s := z_Pose) a.2.1
  have := all_loop (step := L_s_SameRecording_1) (fun i => ((false, ((i : Int), ())), ((a, ()), ((b, ()), ())))) (false, ((false, ()), ())) (true, ((false, ()), ())) (fun j => sameP (a.2.1.getD j zPose) (b.2.1.getD j zPose)) a.2.1.length
    (fun i hi r => by
      have h9 : (a.2.1.getD i zPose).2.1.length < 4611686018427387904 := by
        have h1 : szL z_Turn (a.2.1.getD i zPose).2.1 ≤ szL z_Pose a.2.1 := getD_ok (P := fun x => z_Pose x ≤ szL z_Pose a.2.1) (fun x hx => szL_mem hx) hi
        have h2 := szL_len (s := z_Turn) (a.2.1.getD i zPose).2.1
        omega
      simp only [L_s_SameRecording_1]; rw [ilt_nat hi, ix_nat hi, ix_nat (show i < b.2.1.length by omega), iadd_nat (by omega)]; simp only [opt_bind_some, cond_t]; rw [c_s_l03Same (getD_ok ha.2.1.2 hi) (getD_ok hb.2.1.2 (by omega)) h9]; simp only [opt_bind_some, bif_not])
    (fun r => by simp only [L_s_SameRecording_1, ilt_self, cond_f]) (by omega)
  exact this

theorem e_SameRecording (a b : dRec) (h : (z_Rec a : Int) ≤ 1048576) (h' : (z_Rec b : Int) ≤ 1048576) (hok : okPs [.ro true tRec, .ro true tRec] (a, b, ())) : Same (g_s_SameRecording a b) (g_i_SameRecording a b) fun _ => True := by
  have ha : tRec.ok a := hok.1
  have hb : tRec.ok b := hok.2.1
  unfold z_Rec at h h'
  have l1 := szL_len (s := z_Pose) a.2.1
  have l2 := szL_len (s := z_Pose) b.2.1
  unfold g_s_SameRecording g_i_SameRecording
  obtain ⟨y1, e1, e2, _⟩ := e_l10Is a (by omega)
  obtain ⟨y2, e3, e4, _⟩ := e_l10Is b (by omega)
  rw [e1, e2, e3, e4]
  simp only [opt_bind_some]
  cases y1
  · exact Same.pure trivial
  cases y2
  · exact Same.pure trivial
  simp only [bnot_t, cond_f, cond_t]
  cases ieq a.1 b.1
  · exact Same.pure trivial
  simp only [bnot_t, cond_f, cond_t]
  rw [c_EqualFunc_Pose ha.2.1.2 hb.2.1.2 (by omega)]
  unfold eqL
  cases he : ieq (a.2.1.length : Int) (b.2.1.length : Int)
  · exact Same.pure trivial
  (simp only [ilt_T, ilt_F, ile_T, ile_F, ieq_T, ieq_F, bnot_T, bnot_F, ble_T, ble_F, nz_T, nz_F, nonneg_T, nonneg_F] at he)
  rw [c_SameRecording_loop ha hb (by omega) (by omega)]
  cases allFrom (fun j => sameP (a.2.1.getD j zPose) (b.2.1.getD j zPose)) 0 a.2.1.length
  · exact Same.pure trivial
  · exact Same.pure trivial

/-! SameString -/
theorem c_SameString_loop {a b : dString} (hl : a.2.2.1.length < 4611686018427387904) (he : b.2.2.1.length = a.2.2.1.length) :
    iter L_s_SameString_1 fuel ((false, (0, ())), ((a, ()), ((b, ()), ()))) = some (bif allFrom (fun j => a.2.2.1.getD j false == b.2.2.1.getD j false) 0 a.2.2.1.length then (false, ((false, ()), ((a, ()), ((b, ()), ())))) else (true, ((false, ()), ((a, ()), ((b, ()), ()))))) := by
  have := all_loop (step := L_s_SameString_1) (fun i => ((false, ((i : Int), ())), ((a, ()), ((b, ()), ())))) (false, ((false, ()), ((a, ()), ((b, ()), ())))) (true, ((false, ()), ((a, ()), ((b, ()), ())))) (fun j => a.2.2.1.getD j false == b.2.2.1.getD j false) a.2.2.1.length
    (fun i hi r => by simp only [L_s_SameString_1]; rw [ilt_nat hi, ix_nat hi, ix_nat (show i < b.2.2.1.length by omega), iadd_nat (by omega)]; simp only [opt_bind_some, cond_t, bif_not])
    (fun r => by simp only [L_s_SameString_1, ilt_self, cond_f]) hl
  exact this

theorem l08Is_lens {s : dString} (h : t_s_l08Is s = true) : (2 ≤ s.1.length ∧ s.1.length ≤ 16) ∧ s.2.1.length = s.1.length ∧ s.2.2.1.length = s.1.length ∧ s.2.2.2.1.length + 1 = s.1.length ∧ 0 ≤ s.2.2.2.2.2.2.1 ∧ s.2.2.2.2.2.2.1 ≤ 16 := by
  unfold t_s_l08Is t_s_l04Points at h
  cases h1 : t_s_l00In (s.1.length : Int) 2 16
  · rw [h1] at h; cases h
  rw [h1, cond_t] at h
  rw [l00In_T] at h1
  cases h2 : ieq (s.2.1.length : Int) (s.1.length : Int)
  · rw [h2] at h; cases h
  rw [h2, cond_t] at h
  (simp only [ilt_T, ilt_F, ile_T, ile_F, ieq_T, ieq_F, bnot_T, bnot_F, ble_T, ble_F, nz_T, nz_F, nonneg_T, nonneg_F] at h2)
  cases h3 : ieq (s.2.2.1.length : Int) (s.1.length : Int)
  · rw [h3] at h; cases h
  rw [h3, cond_t] at h
  (simp only [ilt_T, ilt_F, ile_T, ile_F, ieq_T, ieq_F, bnot_T, bnot_F, ble_T, ble_F, nz_T, nz_F, nonneg_T, nonneg_F] at h3)
  rw [isub_ok (by omega) (by omega)] at h
  cases h4 : ieq (s.2.2.2.1.length : Int) ((s.1.length : Int) - 1)
  · rw [h4] at h; cases h
  rw [h4, cond_t, l00In_T] at h
  (simp only [ilt_T, ilt_F, ile_T, ile_F, ieq_T, ieq_F, bnot_T, bnot_F, ble_T, ble_F, nz_T, nz_F, nonneg_T, nonneg_F] at h4)
  exact ⟨by omega, by omega, by omega, by omega, h.1, h.2⟩

theorem e_SameString (a b : dString) (h : (z_String a : Int) ≤ 1048576) (h' : (z_String b : Int) ≤ 1048576) (hok : okPs [.ro true tString, .ro true tString] (a, b, ())) : Same (g_s_SameString a b) (g_i_SameString a b) fun _ => True := by
  have ha : tString.ok a := hok.1
  have hb : tString.ok b := hok.2.1
  clear hok
  obtain ⟨a1, a2, _, a4, a5, a6, _⟩ := ha
  obtain ⟨b1, b2, _, b4, b5, b6, _⟩ := hb
  unfold g_s_SameString g_i_SameString
  rw [show t_i_ValidString a = t_s_l08Is a from rfl, show t_i_ValidString b = t_s_l08Is b from rfl]
  cases h1 : t_s_l08Is a
  · exact Same.pure trivial
  cases h2 : t_s_l08Is b
  · exact Same.pure trivial
  simp only [bnot_t, cond_f, cond_t]
  have l1 := l08Is_lens h1
  have l2 := l08Is_lens h2
  rw [c_s_l08List a1.2 b1.2 (by omega), c_EqualFunc_Vector a1.2 b1.2 (by omega), opt_bind_some, opt_bind_some]
  cases h3 : eqL sameV zVec a.1 b.1
  · exact Same.pure trivial
  have h3' : ieq (a.1.length : Int) (b.1.length : Int) = true := by
    unfold eqL at h3
    cases hx : ieq (a.1.length : Int) (b.1.length : Int)
    · rw [hx] at h3; cases h3
    · rfl
  (simp only [ilt_T, ilt_F, ile_T, ile_F, ieq_T, ieq_F, bnot_T, bnot_F, ble_T, ble_F, nz_T, nz_F, nonneg_T, nonneg_F] at h3')
  rw [c_s_l08List a2.2 b2.2 (by omega), c_EqualFunc_Vector a2.2 b2.2 (by omega), opt_bind_some, opt_bind_some]
  simp only [bnot_t, cond_f, cond_t]
  cases eqL sameV zVec a.2.1 b.2.1
  · exact Same.pure trivial
  simp only [bnot_t, cond_f, cond_t]
  rw [c_SameString_loop (by omega) (by omega), c_Equal_bool (by omega)]
  simp only [opt_bind_some]
  unfold eqL
  rw [ieq_t (show (a.2.2.1.length : Int) = b.2.2.1.length by omega), cond_t]
  cases allFrom (fun j => a.2.2.1.getD j false == b.2.2.1.getD j false) 0 a.2.2.1.length
  · exact Same.pure trivial
  simp only [cond_f, cond_t]
  rw [c_s_l01SameAll a4.2 b4.2 (by omega), c_EqualFunc_float a4.2 b4.2 (by omega), c_s_l01VSame a5 b5, c_i_SameVector a5 b5, c_s_l01Same a6 b6, c_i_SameNumber a6 b6]
  simp only [opt_bind_some]
  cases eqL same 0 a.2.2.2.1 b.2.2.2.1 <;> cases sameV a.2.2.2.2.1 b.2.2.2.2.1 <;> cases same a.2.2.2.2.2.1 b.2.2.2.2.2.1 <;> exact Same.pure trivial
end Go.Fw
