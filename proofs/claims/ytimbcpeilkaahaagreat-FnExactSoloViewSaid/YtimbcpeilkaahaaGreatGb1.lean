/- The functions of the laws, each as a plain function of data (F), and that the program's text does what F says. Printed by a program (wip/tools/gen.py). -/
import Derived.Test.YtimbcpeilkaahaaGreatGa2
namespace Go.Proofs.YtimbcpeilkaahaaGreat
open Go Go.RowKit S Go.Proofs
set_option maxRecDepth 100000
set_option linter.unusedVariables false
/-! spec.l8Copy -/
abbrev P_spec_l8Copy : List PK := [.val Y68]
abbrev R_spec_l8Copy : List VK := [.g [.own 2 YI, .dat YI, .own 2 YI, .dat .bool, .dat .bool, .dat .bool, .dat YI, .own 2 YI, .own 2 YI]]
def F_spec_l8Copy (x : denP P_spec_l8Copy) : Option (denV R_spec_l8Copy × denQ P_spec_l8Copy) :=
  if (([] : List (den YI)).length + x.1.1.length) * 8 ≤ 140737488355328 then
    let v1 := (([] : List (den YI)) ++ x.1.1)
    if (([] : List (den YI)).length + x.1.2.2.1.length) * 8 ≤ 140737488355328 then
      let v2 := (([] : List (den YI)) ++ x.1.2.2.1)
      if (([] : List (den YI)).length + x.1.2.2.2.2.2.2.2.1.length) * 8 ≤ 140737488355328 then
        let v3 := (([] : List (den YI)) ++ x.1.2.2.2.2.2.2.2.1)
        if (([] : List (den YI)).length + x.1.2.2.2.2.2.2.2.2.1.length) * 8 ≤ 140737488355328 then
          let v4 := (([] : List (den YI)) ++ x.1.2.2.2.2.2.2.2.2.1)
          some (((v1, (x.1.2.1, (v2, (x.1.2.2.2.1, (x.1.2.2.2.2.1, (x.1.2.2.2.2.2.1, (x.1.2.2.2.2.2.2.1, (v3, (v4, ()))))))))), ()), ())
        else none
      else none
    else none
  else none
abbrev C_spec_l8Copy : Con := ⟨P_spec_l8Copy, R_spec_l8Copy, F_spec_l8Copy, false⟩
abbrev G_spec_l8Copy : Env := []
theorem g_spec_l8Copy : EnvOk Tryz.prog G_spec_l8Copy := env_nil
theorem r_spec_l8Copy (x) : runFn T G_spec_l8Copy [] Tryz.f87 P_spec_l8Copy R_spec_l8Copy x = F_spec_l8Copy x := by kernel_rfl
theorem s_spec_l8Copy : CallsOk Tryz.prog 87 C_spec_l8Copy :=
  fn_calls (L := []) hT g_spec_l8Copy Tryz.f87 (by kernel_rfl) (by kernel_rfl) (by kernel_rfl) (plain_ok (by kernel_rfl)) r_spec_l8Copy
/-! spec.l7Words -/
abbrev P_spec_l7Words : List PK := [.val Y28, .val Y28]
abbrev R_spec_l7Words : List VK := [.s (.own 2 YI)]
abbrev i_spec_l7Words_3 : Shp := { slots := [(0, .s (.dat Y28)), (1, .s (.dat Y28)), (5, .s (.own 2 YI)), (6, .s (.dat YI))], boxes := [], rows := [] }
abbrev o_spec_l7Words_3 : List (Ex × Shp) := [(.exit 0, { slots := [(5, .s (.own 2 YI))], boxes := [], rows := [] })]
def l_spec_l7Words_3 (rec : i_spec_l7Words_3.den → Option (denO o_spec_l7Words_3)) (u3 : i_spec_l7Words_3.den) : Option (denO o_spec_l7Words_3) :=
  let v3 := ((u3.1.2.1.length : Nat) : Int)
  if (ltI u3.1.2.2.2.1 v3) then
    if 0 ≤ u3.1.2.2.2.1 then
      ((u3.1.2.1)[(u3.1.2.2.2.1).toNat]?).bind fun y4 =>
      let v5 := (IntKind.i64.wrap (y4 * (8 : Int)))
      if 0 ≤ u3.1.2.2.2.1 then
        ((u3.1.2.1)[(u3.1.2.2.2.1).toNat]?).bind fun y6 =>
        let v7 := (IntKind.i64.wrap (y6 + (1 : Int)))
        let v8 := (IntKind.i64.wrap (v7 * (8 : Int)))
        if 0 ≤ v5 ∧ v5 ≤ v8 ∧ v8 ≤ ((u3.1.1.length : Nat) : Int) then
          let v9 := ((u3.1.1.drop (v5).toNat).take ((v8).toNat - (v5).toNat))
          if (u3.1.2.2.1.length + v9.length) * 8 ≤ 140737488355328 then
            let v10 := (u3.1.2.2.1 ++ v9)
            let v11 := (IntKind.i64.wrap (u3.1.2.2.2.1 + (1 : Int)))
            rec ((u3.1.1, (u3.1.2.1, (v10, (v11, ())))), ((), ()))
          else none
        else none
      else none
    else none
  else
    some (.inl ((u3.1.2.2.1, ()), ((), ())))
def L_spec_l7Words_3 (x : i_spec_l7Words_3.den) : Option (denO o_spec_l7Words_3) := iterF l_spec_l7Words_3 lots x
def F_spec_l7Words (x : denP P_spec_l7Words) : Option (denV R_spec_l7Words × denQ P_spec_l7Words) :=
  (L_spec_l7Words_3 ((x.1, (x.2.1, (([] : List (den YI)), ((0 : Int), ())))), ((), ()))).bind fun z12 =>
  match z12 with
  | .inl x13 =>
    some ((x13.1.1, ()), ())
  | .inr z12_ =>
    none
abbrev C_spec_l7Words : Con := ⟨P_spec_l7Words, R_spec_l7Words, F_spec_l7Words, false⟩
abbrev G_spec_l7Words : Env := []
theorem g_spec_l7Words : EnvOk Tryz.prog G_spec_l7Words := env_nil
abbrev c_spec_l7Words_3 : Cut := ⟨i_spec_l7Words_3, o_spec_l7Words_3, fun x => iterF l_spec_l7Words_3 lots x⟩
theorem t_spec_l7Words_3 (rec x) : run T G_spec_l7Words [] (nav Tryz.f88 [1, 1, 0, 1, 0, 0]) (mk 30 i_spec_l7Words_3 x) (loopK i_spec_l7Words_3 o_spec_l7Words_3 rec) = l_spec_l7Words_3 rec x := by kernel_rfl
theorem k_spec_l7Words_3 : CutOk Tryz.prog 30 (.loop (nav Tryz.f88 [1, 1, 0, 1, 0, 0])) c_spec_l7Words_3 :=
  loop_cut (L := []) hT g_spec_l7Words t_spec_l7Words_3 (plain_ok (by kernel_rfl)) _
theorem r_spec_l7Words (x) : runFn T G_spec_l7Words [(3, c_spec_l7Words_3)] Tryz.f88 P_spec_l7Words R_spec_l7Words x = F_spec_l7Words x := by kernel_rfl
theorem s_spec_l7Words : CallsOk Tryz.prog 88 C_spec_l7Words :=
  fn_calls (L := [(3, c_spec_l7Words_3)]) hT g_spec_l7Words Tryz.f88 (by kernel_rfl) (by kernel_rfl) (by kernel_rfl) (seq_ok (plain_ok (by kernel_rfl)) (seq_ok (plain_ok (by kernel_rfl)) (seq_ok (seq_ok (plain_ok (by kernel_rfl)) (block_ok (by kernel_rfl) (loop_ok (by kernel_rfl) k_spec_l7Words_3))) (plain_ok (by kernel_rfl))))) r_spec_l7Words
/-! spec.l13Gives -/
abbrev P_spec_l13Gives : List PK := [.ptr Y26, .val YI, .val .bool]
abbrev R_spec_l13Gives : List VK := [.s (.own 2 YI)]
abbrev i_spec_l13Gives_3 : Shp := { slots := [(0, .s (.pd Y26)), (1, .s (.dat YI)), (2, .s (.dat .bool)), (7, .s (.own 2 YI)), (8, .s (.dat YI))], boxes := [], rows := [] }
abbrev o_spec_l13Gives_3 : List (Ex × Shp) := [(.exit 0, { slots := [(7, .s (.own 2 YI))], boxes := [], rows := [] })]
def l_spec_l13Gives_3 (rec : i_spec_l13Gives_3.den → Option (denO o_spec_l13Gives_3)) (u3 : i_spec_l13Gives_3.den) : Option (denO o_spec_l13Gives_3) :=
  let v4 := ((u3.1.1.2.1.length : Nat) : Int)
  if (ltI u3.1.2.2.2.2.1 v4) then
    if 0 ≤ u3.1.2.2.2.2.1 then
      ((u3.1.1.2.1)[(u3.1.2.2.2.2.1).toNat]?).bind fun y5 =>
      if (y5.1 != u3.1.2.1) then
        let v6 := (IntKind.i64.wrap (u3.1.2.2.2.2.1 + (1 : Int)))
        rec ((u3.1.1, (u3.1.2.1, (u3.1.2.2.1, (u3.1.2.2.2.1, (v6, ()))))), ((), ()))
      else
        if u3.1.2.2.1 then
          if 0 ≤ u3.1.2.2.2.2.1 then
            ((u3.1.1.2.1)[(u3.1.2.2.2.2.1).toNat]?).bind fun y7 =>
            if (u3.1.2.2.2.1.length + [y7.2.2.1].length) * 8 ≤ 140737488355328 then
              let v8 := (u3.1.2.2.2.1 ++ [y7.2.2.1])
              let v9 := (IntKind.i64.wrap (u3.1.2.2.2.2.1 + (1 : Int)))
              rec ((u3.1.1, (u3.1.2.1, (u3.1.2.2.1, (v8, (v9, ()))))), ((), ()))
            else none
          else none
        else
          if 0 ≤ u3.1.2.2.2.2.1 then
            ((u3.1.1.2.1)[(u3.1.2.2.2.2.1).toNat]?).bind fun y10 =>
            if (u3.1.2.2.2.1.length + [y10.2.2.2.1].length) * 8 ≤ 140737488355328 then
              let v11 := (u3.1.2.2.2.1 ++ [y10.2.2.2.1])
              let v12 := (IntKind.i64.wrap (u3.1.2.2.2.2.1 + (1 : Int)))
              rec ((u3.1.1, (u3.1.2.1, (u3.1.2.2.1, (v11, (v12, ()))))), ((), ()))
            else none
          else none
    else none
  else
    some (.inl ((u3.1.2.2.2.1, ()), ((), ())))
def L_spec_l13Gives_3 (x : i_spec_l13Gives_3.den) : Option (denO o_spec_l13Gives_3) := iterF l_spec_l13Gives_3 lots x
def F_spec_l13Gives (x : denP P_spec_l13Gives) : Option (denV R_spec_l13Gives × denQ P_spec_l13Gives) :=
  (L_spec_l13Gives_3 ((x.1, (x.2.1, (x.2.2.1, (([] : List (den YI)), ((0 : Int), ()))))), ((), ()))).bind fun z13 =>
  match z13 with
  | .inl x14 =>
    some ((x14.1.1, ()), ())
  | .inr z13_ =>
    none
abbrev C_spec_l13Gives : Con := ⟨P_spec_l13Gives, R_spec_l13Gives, F_spec_l13Gives, false⟩
abbrev G_spec_l13Gives : Env := []
theorem g_spec_l13Gives : EnvOk Tryz.prog G_spec_l13Gives := env_nil
abbrev c_spec_l13Gives_3 : Cut := ⟨i_spec_l13Gives_3, o_spec_l13Gives_3, fun x => iterF l_spec_l13Gives_3 lots x⟩
theorem t_spec_l13Gives_3 (rec x) : run T G_spec_l13Gives [] (nav Tryz.f89 [1, 1, 0, 1, 0, 0]) (mk 53 i_spec_l13Gives_3 x) (loopK i_spec_l13Gives_3 o_spec_l13Gives_3 rec) = l_spec_l13Gives_3 rec x := by kernel_rfl
theorem k_spec_l13Gives_3 : CutOk Tryz.prog 53 (.loop (nav Tryz.f89 [1, 1, 0, 1, 0, 0])) c_spec_l13Gives_3 :=
  loop_cut (L := []) hT g_spec_l13Gives t_spec_l13Gives_3 (plain_ok (by kernel_rfl)) _
theorem r_spec_l13Gives (x) : runFn T G_spec_l13Gives [(3, c_spec_l13Gives_3)] Tryz.f89 P_spec_l13Gives R_spec_l13Gives x = F_spec_l13Gives x := by kernel_rfl
theorem s_spec_l13Gives : CallsOk Tryz.prog 89 C_spec_l13Gives :=
  fn_calls (L := [(3, c_spec_l13Gives_3)]) hT g_spec_l13Gives Tryz.f89 (by kernel_rfl) (by kernel_rfl) (by kernel_rfl) (seq_ok (plain_ok (by kernel_rfl)) (seq_ok (plain_ok (by kernel_rfl)) (seq_ok (seq_ok (plain_ok (by kernel_rfl)) (block_ok (by kernel_rfl) (loop_ok (by kernel_rfl) k_spec_l13Gives_3))) (plain_ok (by kernel_rfl))))) r_spec_l13Gives
/-! spec.l13View -/
abbrev P_spec_l13View : List PK := [.ptr Y30, .val YI]
abbrev R_spec_l13View : List VK := [.g [.own 2 YI, .dat YI, .own 2 YI, .dat .bool, .dat .bool, .dat .bool, .dat YI, .own 2 YI, .own 2 YI, .own 2 YI, .own 2 YI]]
def F_spec_l13View (x : denP P_spec_l13View) : Option (denV R_spec_l13View × denQ P_spec_l13View) :=
  if 0 ≤ x.2.1 then
    ((x.1.2.2.1)[(x.2.1).toNat]?).bind fun y1 =>
    (F_spec_l8Copy (y1, ())).bind fun r2 =>
    if 0 ≤ x.2.1 then
      ((x.1.1.1)[(x.2.1).toNat]?).bind fun y3 =>
      (F_spec_l7Words (x.1.2.1, y3, ())).bind fun r4 =>
      (F_spec_l13Gives (x.1.1, x.2.1, true, ())).bind fun r5 =>
      (F_spec_l7Words (x.1.2.1, r5.1.1, ())).bind fun r6 =>
      some (((r2.1.1.1, (r2.1.1.2.1, (r2.1.1.2.2.1, (r2.1.1.2.2.2.1, (r2.1.1.2.2.2.2.1, (r2.1.1.2.2.2.2.2.1, (r2.1.1.2.2.2.2.2.2.1, (r2.1.1.2.2.2.2.2.2.2.1, (r2.1.1.2.2.2.2.2.2.2.2.1, (r4.1.1, (r6.1.1, ()))))))))))), ()), ())
    else none
  else none
abbrev C_spec_l13View : Con := ⟨P_spec_l13View, R_spec_l13View, F_spec_l13View, false⟩
abbrev G_spec_l13View : Env := [(87, C_spec_l8Copy), (88, C_spec_l7Words), (89, C_spec_l13Gives)]
theorem g_spec_l13View : EnvOk Tryz.prog G_spec_l13View := (env_cons s_spec_l8Copy (env_cons s_spec_l7Words (env_cons s_spec_l13Gives env_nil)))
theorem r_spec_l13View (x) : runFn T G_spec_l13View [] Tryz.f102 P_spec_l13View R_spec_l13View x = F_spec_l13View x := by kernel_rfl
theorem s_spec_l13View : CallsOk Tryz.prog 102 C_spec_l13View :=
  fn_calls (L := []) hT g_spec_l13View Tryz.f102 (by kernel_rfl) (by kernel_rfl) (by kernel_rfl) (plain_ok (by kernel_rfl)) r_spec_l13View
/-! spec.ViewOf -/
abbrev P_spec_ViewOf : List PK := [.val Y30, .val YI]
abbrev R_spec_ViewOf : List VK := [.g [.dat YI, .own 2 YI, .dat YI, .own 2 YI, .dat .bool, .dat .bool, .dat .bool, .dat YI, .own 2 YI, .own 2 YI, .own 2 YI, .own 2 YI]]
def F_spec_ViewOf (x : denP P_spec_ViewOf) : Option (denV R_spec_ViewOf × denQ P_spec_ViewOf) :=
  (F_spec_l12Fault (x.1, ())).bind fun r1 =>
  if (r1.1.1 != (0 : Int)) then
    some (((r1.1.1, (([] : List (den YI)), ((0 : Int), (([] : List (den YI)), (false, (false, (false, ((0 : Int), (([] : List (den YI)), (([] : List (den YI)), (([] : List (den YI)), (([] : List (den YI)), ())))))))))))), ()), ())
  else
    (F_spec_l6Guest (x.1.1, x.2.1, ())).bind fun r2 =>
    if (!r2.1.1) then
      some ((((4 : Int), (([] : List (den YI)), ((0 : Int), (([] : List (den YI)), (false, (false, (false, ((0 : Int), (([] : List (den YI)), (([] : List (den YI)), (([] : List (den YI)), (([] : List (den YI)), ())))))))))))), ()), ())
    else
      (F_spec_l13View (x.1, x.2.1, ())).bind fun r3 =>
      some ((((0 : Int), (r3.1.1.1, (r3.1.1.2.1, (r3.1.1.2.2.1, (r3.1.1.2.2.2.1, (r3.1.1.2.2.2.2.1, (r3.1.1.2.2.2.2.2.1, (r3.1.1.2.2.2.2.2.2.1, (r3.1.1.2.2.2.2.2.2.2.1, (r3.1.1.2.2.2.2.2.2.2.2.1, (r3.1.1.2.2.2.2.2.2.2.2.2.1, (r3.1.1.2.2.2.2.2.2.2.2.2.2.1, ())))))))))))), ()), ())
abbrev C_spec_ViewOf : Con := ⟨P_spec_ViewOf, R_spec_ViewOf, F_spec_ViewOf, false⟩
abbrev G_spec_ViewOf : Env := [(51, C_spec_l12Fault), (101, C_spec_l6Guest), (102, C_spec_l13View)]
theorem g_spec_ViewOf : EnvOk Tryz.prog G_spec_ViewOf := (env_cons s_spec_l12Fault (env_cons s_spec_l6Guest (env_cons s_spec_l13View env_nil)))
theorem r_spec_ViewOf (x) : runFn T G_spec_ViewOf [] Tryz.f45 P_spec_ViewOf R_spec_ViewOf x = F_spec_ViewOf x := by kernel_rfl
theorem s_spec_ViewOf : CallsOk Tryz.prog 45 C_spec_ViewOf :=
  fn_calls (L := []) hT g_spec_ViewOf Tryz.f45 (by kernel_rfl) (by kernel_rfl) (by kernel_rfl) (plain_ok (by kernel_rfl)) r_spec_ViewOf
/-! slices.Clone[int64,int64] -/
abbrev P_slices_Clone_int64 : List PK := [.val Y28]
abbrev R_slices_Clone_int64 : List VK := [.s (.own 2 YI)]
def F_slices_Clone_int64 (x : denP P_slices_Clone_int64) : Option (denV R_slices_Clone_int64 × denQ P_slices_Clone_int64) :=
  if (([] : List (den YI)).length + x.1.length) * 8 ≤ 140737488355328 then some (([] ++ x.1, ()), ()) else none
abbrev C_slices_Clone_int64 : Con := ⟨P_slices_Clone_int64, R_slices_Clone_int64, F_slices_Clone_int64, false⟩
theorem s_slices_Clone_int64 : CallsOk Tryz.prog 127 C_slices_Clone_int64 :=
  nil_first hT (fn := Tryz.f127) (cn := C_slices_Clone_int64) (c0 := nav Tryz.f127 [0]) (ca := nav Tryz.f127 [1, 0, 1, 0]) (cb := nav Tryz.f127 [1, 1]) (id := 1) (d := 4) (nm := 1032000) (o1 := navOp Tryz.f127 [1, 0, 0] 0) (o2 := navOp Tryz.f127 [1, 0, 0] 1)
    (t := 28) (t' := 28) (x := .tmp 3) (r := ⟨Y28, [], 2, 24, 0⟩) (u := YI) (by kernel_rfl) (by kernel_rfl) (by kernel_rfl) ⟨by kernel_rfl, by kernel_rfl⟩ (fun y => by kernel_rfl) (by kernel_rfl) (by kernel_rfl) (by kernel_rfl) (by kernel_rfl) (by kernel_rfl) rfl
    (fun y => (st0 Tryz.f127 P_slices_Clone_int64 y).set 2 (.s .nls)) (fun y => ((st0 Tryz.f127 P_slices_Clone_int64 y).set 2 (.s .nls)).set 3 (.s (.d (.slice YI) y.1))) (fun y => y.1)
    (fun y => by kernel_rfl) (fun y => by kernel_rfl) (fun y => by kernel_rfl) (fun y => Nat.le_of_ble_eq_true (by kernel_rfl)) (fun y => by kernel_rfl) (by kernel_rfl) (by kernel_rfl) (by kernel_rfl) (fun y => by kernel_rfl)
    (fun y h => by obtain ⟨l, v⟩ := y; have h : l = [] := h; subst h; show run _ _ _ _ _ _ = F_slices_Clone_int64 ([], v); kernel_rfl) (fun y => by kernel_rfl)
/-! (impl.Hart).own -/
abbrev P_impl_Hart_own : List PK := [.val Y68]
abbrev R_impl_Hart_own : List VK := [.g [.own 2 YI, .dat YI, .own 2 YI, .dat .bool, .dat .bool, .dat .bool, .dat YI, .own 2 YI, .own 2 YI]]
def F_impl_Hart_own (x : denP P_impl_Hart_own) : Option (denV R_impl_Hart_own × denQ P_impl_Hart_own) :=
  (F_slices_Clone_int64 (x.1.1, ())).bind fun r1 =>
  (F_slices_Clone_int64 (x.1.2.2.1, ())).bind fun r2 =>
  (F_slices_Clone_int64 (x.1.2.2.2.2.2.2.2.1, ())).bind fun r3 =>
  (F_slices_Clone_int64 (x.1.2.2.2.2.2.2.2.2.1, ())).bind fun r4 =>
  some (((r1.1.1, (x.1.2.1, (r2.1.1, (x.1.2.2.2.1, (x.1.2.2.2.2.1, (x.1.2.2.2.2.2.1, (x.1.2.2.2.2.2.2.1, (r3.1.1, (r4.1.1, ()))))))))), ()), ())
abbrev C_impl_Hart_own : Con := ⟨P_impl_Hart_own, R_impl_Hart_own, F_impl_Hart_own, false⟩
abbrev G_impl_Hart_own : Env := [(127, C_slices_Clone_int64)]
theorem g_impl_Hart_own : EnvOk Tryz.prog G_impl_Hart_own := (env_cons s_slices_Clone_int64 env_nil)
theorem r_impl_Hart_own (x) : runFn T G_impl_Hart_own [] Tryz.f142 P_impl_Hart_own R_impl_Hart_own x = F_impl_Hart_own x := by kernel_rfl
theorem s_impl_Hart_own : CallsOk Tryz.prog 142 C_impl_Hart_own :=
  fn_calls (L := []) hT g_impl_Hart_own Tryz.f142 (by kernel_rfl) (by kernel_rfl) (by kernel_rfl) (plain_ok (by kernel_rfl)) r_impl_Hart_own
/-! impl.pageOf -/
abbrev P_impl_pageOf : List PK := [.val Y28, .val YI]
abbrev R_impl_pageOf : List VK := [.s (.own 2 YI)]
def F_impl_pageOf (x : denP P_impl_pageOf) : Option (denV R_impl_pageOf × denQ P_impl_pageOf) :=
  let v1 := (IntKind.i64.wrap (x.2.1 * (8 : Int)))
  let v2 := (IntKind.i64.wrap (x.2.1 + (1 : Int)))
  let v3 := (IntKind.i64.wrap (v2 * (8 : Int)))
  if 0 ≤ v1 ∧ v1 ≤ v3 ∧ v3 ≤ ((x.1.length : Nat) : Int) then
    let v4 := ((x.1.drop (v1).toNat).take ((v3).toNat - (v1).toNat))
    (F_slices_Clone_int64 (v4, ())).bind fun r5 =>
    some ((r5.1.1, ()), ())
  else none
abbrev C_impl_pageOf : Con := ⟨P_impl_pageOf, R_impl_pageOf, F_impl_pageOf, false⟩
abbrev G_impl_pageOf : Env := [(127, C_slices_Clone_int64)]
theorem g_impl_pageOf : EnvOk Tryz.prog G_impl_pageOf := (env_cons s_slices_Clone_int64 env_nil)
theorem r_impl_pageOf (x) : runFn T G_impl_pageOf [] Tryz.f143 P_impl_pageOf R_impl_pageOf x = F_impl_pageOf x := by kernel_rfl
theorem s_impl_pageOf : CallsOk Tryz.prog 143 C_impl_pageOf :=
  fn_calls (L := []) hT g_impl_pageOf Tryz.f143 (by kernel_rfl) (by kernel_rfl) (by kernel_rfl) (plain_ok (by kernel_rfl)) r_impl_pageOf
/-! impl.pagesOf -/
abbrev P_impl_pagesOf : List PK := [.val Y28, .val Y28]
abbrev R_impl_pagesOf : List VK := [.s (.own 2 YI)]
abbrev i_impl_pagesOf_3 : Shp := { slots := [(0, .s (.dat Y28)), (5, .s (.own 2 YI)), (9, .s (.dat Y28)), (10, .s (.dat YI)), (11, .s (.dat YI))], boxes := [], rows := [] }
abbrev o_impl_pagesOf_3 : List (Ex × Shp) := [(.exit 0, { slots := [(5, .s (.own 2 YI))], boxes := [], rows := [] })]
def l_impl_pagesOf_3 (rec : i_impl_pagesOf_3.den → Option (denO o_impl_pagesOf_3)) (u3 : i_impl_pagesOf_3.den) : Option (denO o_impl_pagesOf_3) :=
  if (ltI u3.1.2.2.2.2.1 u3.1.2.2.2.1) then
    if 0 ≤ u3.1.2.2.2.2.1 then
      ((u3.1.2.2.1)[(u3.1.2.2.2.2.1).toNat]?).bind fun y4 =>
      (F_impl_pageOf (u3.1.1, y4, ())).bind fun r5 =>
      if (u3.1.2.1.length + r5.1.1.length) * 8 ≤ 140737488355328 then
        let v6 := (u3.1.2.1 ++ r5.1.1)
        let v7 := (IntKind.i64.wrap (u3.1.2.2.2.2.1 + (1 : Int)))
        rec ((u3.1.1, (v6, (u3.1.2.2.1, (u3.1.2.2.2.1, (v7, ()))))), ((), ()))
      else none
    else none
  else
    some (.inl ((u3.1.2.1, ()), ((), ())))
def L_impl_pagesOf_3 (x : i_impl_pagesOf_3.den) : Option (denO o_impl_pagesOf_3) := iterF l_impl_pagesOf_3 lots x
def F_impl_pagesOf (x : denP P_impl_pagesOf) : Option (denV R_impl_pagesOf × denQ P_impl_pagesOf) :=
  let v1 := ((x.2.1.length : Nat) : Int)
  (L_impl_pagesOf_3 ((x.1, (([] : List (den YI)), (x.2.1, (v1, ((0 : Int), ()))))), ((), ()))).bind fun z8 =>
  match z8 with
  | .inl x9 =>
    some ((x9.1.1, ()), ())
  | .inr z8_ =>
    none
abbrev C_impl_pagesOf : Con := ⟨P_impl_pagesOf, R_impl_pagesOf, F_impl_pagesOf, false⟩
abbrev G_impl_pagesOf : Env := [(143, C_impl_pageOf)]
theorem g_impl_pagesOf : EnvOk Tryz.prog G_impl_pagesOf := (env_cons s_impl_pageOf env_nil)
abbrev c_impl_pagesOf_3 : Cut := ⟨i_impl_pagesOf_3, o_impl_pagesOf_3, fun x => iterF l_impl_pagesOf_3 lots x⟩
theorem t_impl_pagesOf_3 (rec x) : run T G_impl_pagesOf [] (nav Tryz.f146 [1, 1, 0, 1, 0, 0]) (mk 22 i_impl_pagesOf_3 x) (loopK i_impl_pagesOf_3 o_impl_pagesOf_3 rec) = l_impl_pagesOf_3 rec x := by kernel_rfl
theorem k_impl_pagesOf_3 : CutOk Tryz.prog 22 (.loop (nav Tryz.f146 [1, 1, 0, 1, 0, 0])) c_impl_pagesOf_3 :=
  loop_cut (L := []) hT g_impl_pagesOf t_impl_pagesOf_3 (plain_ok (by kernel_rfl)) _
theorem r_impl_pagesOf (x) : runFn T G_impl_pagesOf [(3, c_impl_pagesOf_3)] Tryz.f146 P_impl_pagesOf R_impl_pagesOf x = F_impl_pagesOf x := by kernel_rfl
theorem s_impl_pagesOf : CallsOk Tryz.prog 146 C_impl_pagesOf :=
  fn_calls (L := [(3, c_impl_pagesOf_3)]) hT g_impl_pagesOf Tryz.f146 (by kernel_rfl) (by kernel_rfl) (by kernel_rfl) (seq_ok (plain_ok (by kernel_rfl)) (seq_ok (plain_ok (by kernel_rfl)) (seq_ok (seq_ok (plain_ok (by kernel_rfl)) (block_ok (by kernel_rfl) (loop_ok (by kernel_rfl) k_impl_pagesOf_3))) (plain_ok (by kernel_rfl))))) r_impl_pagesOf
/-! (*impl.Host).viewOf -/
abbrev P_impl_Host_viewOf : List PK := [.ptr Y30, .val YI]
abbrev R_impl_Host_viewOf : List VK := [.g [.own 2 YI, .dat YI, .own 2 YI, .dat .bool, .dat .bool, .dat .bool, .dat YI, .own 2 YI, .own 2 YI, .own 2 YI, .own 2 YI]]
abbrev i_impl_Host_viewOf_3 : Shp := { slots := [(0, .s (.pd Y30)), (1, .s (.dat YI)), (4, .s (.ptr 4 0)), (5, .s (.ptr 5 0)), (34, .s (.dat Y23)), (35, .s (.dat YI)), (36, .s (.dat YI))], boxes := [(4, [.own 2 YI, .dat YI, .own 2 YI, .dat .bool, .dat .bool, .dat .bool, .dat YI, .own 2 YI, .own 2 YI, .own 2 YI, .own 2 YI]), (5, [.own 2 YI, .dat YI, .own 2 YI, .dat .bool, .dat .bool, .dat .bool, .dat YI, .own 2 YI, .own 2 YI, .own 2 YI, .own 2 YI])], rows := [] }
abbrev o_impl_Host_viewOf_3 : List (Ex × Shp) := [(.exit 0, { slots := [(4, .s (.ptr 4 0)), (5, .s (.ptr 5 0))], boxes := [(4, [.own 2 YI, .dat YI, .own 2 YI, .dat .bool, .dat .bool, .dat .bool, .dat YI, .own 2 YI, .own 2 YI, .own 2 YI, .own 2 YI]), (5, [.own 2 YI, .dat YI, .own 2 YI, .dat .bool, .dat .bool, .dat .bool, .dat YI, .own 2 YI, .own 2 YI, .own 2 YI, .own 2 YI])], rows := [] })]
def l_impl_Host_viewOf_3 (rec : i_impl_Host_viewOf_3.den → Option (denO o_impl_Host_viewOf_3)) (u3 : i_impl_Host_viewOf_3.den) : Option (denO o_impl_Host_viewOf_3) :=
  if (ltI u3.1.2.2.2.2.2.2.1 u3.1.2.2.2.2.2.1) then
    if 0 ≤ u3.1.2.2.2.2.2.2.1 then
      ((u3.1.2.2.2.2.1)[(u3.1.2.2.2.2.2.2.1).toNat]?).bind fun y8 =>
      if (y8.1 == u3.1.2.1) then
        (F_impl_pageOf (u3.1.1.2.1, y8.2.2.1, ())).bind fun r9 =>
        if (u3.2.1.2.1.2.2.2.2.2.2.2.2.2.2.1.length + r9.1.1.length) * 8 ≤ 140737488355328 then
          let v10 := (u3.2.1.2.1.2.2.2.2.2.2.2.2.2.2.1 ++ r9.1.1)
          let v11 := (IntKind.i64.wrap (u3.1.2.2.2.2.2.2.1 + (1 : Int)))
          rec ((u3.1.1, (u3.1.2.1, ((), ((), (u3.1.2.2.2.2.1, (u3.1.2.2.2.2.2.1, (v11, ()))))))), (((u3.2.1.1.1, (u3.2.1.1.2.1, (u3.2.1.1.2.2.1, (u3.2.1.1.2.2.2.1, (u3.2.1.1.2.2.2.2.1, (u3.2.1.1.2.2.2.2.2.1, (u3.2.1.1.2.2.2.2.2.2.1, (u3.2.1.1.2.2.2.2.2.2.2.1, (u3.2.1.1.2.2.2.2.2.2.2.2.1, (u3.2.1.1.2.2.2.2.2.2.2.2.2.1, (u3.2.1.1.2.2.2.2.2.2.2.2.2.2.1, ()))))))))))), ((u3.2.1.2.1.1, (u3.2.1.2.1.2.1, (u3.2.1.2.1.2.2.1, (u3.2.1.2.1.2.2.2.1, (u3.2.1.2.1.2.2.2.2.1, (u3.2.1.2.1.2.2.2.2.2.1, (u3.2.1.2.1.2.2.2.2.2.2.1, (u3.2.1.2.1.2.2.2.2.2.2.2.1, (u3.2.1.2.1.2.2.2.2.2.2.2.2.1, (u3.2.1.2.1.2.2.2.2.2.2.2.2.2.1, (v10, ()))))))))))), ())), ()))
        else none
      else
        let v12 := (IntKind.i64.wrap (u3.1.2.2.2.2.2.2.1 + (1 : Int)))
        rec ((u3.1.1, (u3.1.2.1, ((), ((), (u3.1.2.2.2.2.1, (u3.1.2.2.2.2.2.1, (v12, ()))))))), (((u3.2.1.1.1, (u3.2.1.1.2.1, (u3.2.1.1.2.2.1, (u3.2.1.1.2.2.2.1, (u3.2.1.1.2.2.2.2.1, (u3.2.1.1.2.2.2.2.2.1, (u3.2.1.1.2.2.2.2.2.2.1, (u3.2.1.1.2.2.2.2.2.2.2.1, (u3.2.1.1.2.2.2.2.2.2.2.2.1, (u3.2.1.1.2.2.2.2.2.2.2.2.2.1, (u3.2.1.1.2.2.2.2.2.2.2.2.2.2.1, ()))))))))))), ((u3.2.1.2.1.1, (u3.2.1.2.1.2.1, (u3.2.1.2.1.2.2.1, (u3.2.1.2.1.2.2.2.1, (u3.2.1.2.1.2.2.2.2.1, (u3.2.1.2.1.2.2.2.2.2.1, (u3.2.1.2.1.2.2.2.2.2.2.1, (u3.2.1.2.1.2.2.2.2.2.2.2.1, (u3.2.1.2.1.2.2.2.2.2.2.2.2.1, (u3.2.1.2.1.2.2.2.2.2.2.2.2.2.1, (u3.2.1.2.1.2.2.2.2.2.2.2.2.2.2.1, ()))))))))))), ())), ()))
    else none
  else
    some (.inl (((), ((), ())), (((u3.2.1.1.1, (u3.2.1.1.2.1, (u3.2.1.1.2.2.1, (u3.2.1.1.2.2.2.1, (u3.2.1.1.2.2.2.2.1, (u3.2.1.1.2.2.2.2.2.1, (u3.2.1.1.2.2.2.2.2.2.1, (u3.2.1.1.2.2.2.2.2.2.2.1, (u3.2.1.1.2.2.2.2.2.2.2.2.1, (u3.2.1.1.2.2.2.2.2.2.2.2.2.1, (u3.2.1.1.2.2.2.2.2.2.2.2.2.2.1, ()))))))))))), ((u3.2.1.2.1.1, (u3.2.1.2.1.2.1, (u3.2.1.2.1.2.2.1, (u3.2.1.2.1.2.2.2.1, (u3.2.1.2.1.2.2.2.2.1, (u3.2.1.2.1.2.2.2.2.2.1, (u3.2.1.2.1.2.2.2.2.2.2.1, (u3.2.1.2.1.2.2.2.2.2.2.2.1, (u3.2.1.2.1.2.2.2.2.2.2.2.2.1, (u3.2.1.2.1.2.2.2.2.2.2.2.2.2.1, (u3.2.1.2.1.2.2.2.2.2.2.2.2.2.2.1, ()))))))))))), ())), ())))
def L_impl_Host_viewOf_3 (x : i_impl_Host_viewOf_3.den) : Option (denO o_impl_Host_viewOf_3) := iterF l_impl_Host_viewOf_3 lots x
def F_impl_Host_viewOf (x : denP P_impl_Host_viewOf) : Option (denV R_impl_Host_viewOf × denQ P_impl_Host_viewOf) :=
  if 0 ≤ x.2.1 then
    ((x.1.2.2.1)[(x.2.1).toNat]?).bind fun y1 =>
    (F_impl_Hart_own (y1, ())).bind fun r2 =>
    if 0 ≤ x.2.1 then
      ((x.1.1.1)[(x.2.1).toNat]?).bind fun y3 =>
      (F_impl_pagesOf (x.1.2.1, y3, ())).bind fun r4 =>
      let v5 := ((x.1.1.2.1.length : Nat) : Int)
      (L_impl_Host_viewOf_3 ((x.1, (x.2.1, ((), ((), (x.1.1.2.1, (v5, ((0 : Int), ()))))))), (((([] : List (den YI)), ((0 : Int), (([] : List (den YI)), (false, (false, (false, ((0 : Int), (([] : List (den YI)), (([] : List (den YI)), (([] : List (den YI)), (([] : List (den YI)), ()))))))))))), ((r2.1.1.1, (r2.1.1.2.1, (r2.1.1.2.2.1, (r2.1.1.2.2.2.1, (r2.1.1.2.2.2.2.1, (r2.1.1.2.2.2.2.2.1, (r2.1.1.2.2.2.2.2.2.1, (r2.1.1.2.2.2.2.2.2.2.1, (r2.1.1.2.2.2.2.2.2.2.2.1, (r4.1.1, (([] : List (den YI)), ()))))))))))), ())), ()))).bind fun z13 =>
      match z13 with
      | .inl x14 =>
        some (((x14.2.1.2.1.1, (x14.2.1.2.1.2.1, (x14.2.1.2.1.2.2.1, (x14.2.1.2.1.2.2.2.1, (x14.2.1.2.1.2.2.2.2.1, (x14.2.1.2.1.2.2.2.2.2.1, (x14.2.1.2.1.2.2.2.2.2.2.1, (x14.2.1.2.1.2.2.2.2.2.2.2.1, (x14.2.1.2.1.2.2.2.2.2.2.2.2.1, (x14.2.1.2.1.2.2.2.2.2.2.2.2.2.1, (x14.2.1.2.1.2.2.2.2.2.2.2.2.2.2.1, ()))))))))))), ()), ())
      | .inr z13_ =>
        none
    else none
  else none
abbrev C_impl_Host_viewOf : Con := ⟨P_impl_Host_viewOf, R_impl_Host_viewOf, F_impl_Host_viewOf, false⟩
abbrev G_impl_Host_viewOf : Env := [(142, C_impl_Hart_own), (143, C_impl_pageOf), (146, C_impl_pagesOf)]
theorem g_impl_Host_viewOf : EnvOk Tryz.prog G_impl_Host_viewOf := (env_cons s_impl_Hart_own (env_cons s_impl_pageOf (env_cons s_impl_pagesOf env_nil)))
abbrev c_impl_Host_viewOf_3 : Cut := ⟨i_impl_Host_viewOf_3, o_impl_Host_viewOf_3, fun x => iterF l_impl_Host_viewOf_3 lots x⟩
theorem t_impl_Host_viewOf_3 (rec x) : run T G_impl_Host_viewOf [] (nav Tryz.f104 [1, 1, 0, 1, 0, 0]) (mk 57 i_impl_Host_viewOf_3 x) (loopK i_impl_Host_viewOf_3 o_impl_Host_viewOf_3 rec) = l_impl_Host_viewOf_3 rec x := by kernel_rfl
theorem k_impl_Host_viewOf_3 : CutOk Tryz.prog 57 (.loop (nav Tryz.f104 [1, 1, 0, 1, 0, 0])) c_impl_Host_viewOf_3 :=
  loop_cut (L := []) hT g_impl_Host_viewOf t_impl_Host_viewOf_3 (plain_ok (by kernel_rfl)) _
theorem r_impl_Host_viewOf (x) : runFn T G_impl_Host_viewOf [(3, c_impl_Host_viewOf_3)] Tryz.f104 P_impl_Host_viewOf R_impl_Host_viewOf x = F_impl_Host_viewOf x := by kernel_rfl
theorem s_impl_Host_viewOf : CallsOk Tryz.prog 104 C_impl_Host_viewOf :=
  fn_calls (L := [(3, c_impl_Host_viewOf_3)]) hT g_impl_Host_viewOf Tryz.f104 (by kernel_rfl) (by kernel_rfl) (by kernel_rfl) (seq_ok (plain_ok (by kernel_rfl)) (seq_ok (plain_ok (by kernel_rfl)) (seq_ok (seq_ok (plain_ok (by kernel_rfl)) (block_ok (by kernel_rfl) (loop_ok (by kernel_rfl) k_impl_Host_viewOf_3))) (plain_ok (by kernel_rfl))))) r_impl_Host_viewOf
/-! impl.ViewOf -/
abbrev P_impl_ViewOf : List PK := [.val Y30, .val YI]
abbrev R_impl_ViewOf : List VK := [.g [.dat YI, .own 2 YI, .dat YI, .own 2 YI, .dat .bool, .dat .bool, .dat .bool, .dat YI, .own 2 YI, .own 2 YI, .own 2 YI, .own 2 YI]]
def F_impl_ViewOf (x : denP P_impl_ViewOf) : Option (denV R_impl_ViewOf × denQ P_impl_ViewOf) :=
  (F_impl_HostFault (x.1, ())).bind fun r1 =>
  if (r1.1.1 != (0 : Int)) then
    some (((r1.1.1, (([] : List (den YI)), ((0 : Int), (([] : List (den YI)), (false, (false, (false, ((0 : Int), (([] : List (den YI)), (([] : List (den YI)), (([] : List (den YI)), (([] : List (den YI)), ())))))))))))), ()), ())
  else
    (F_impl_Policy_isGuest (x.1.1, x.2.1, ())).bind fun r2 =>
    if (!r2.1.1) then
      some ((((4 : Int), (([] : List (den YI)), ((0 : Int), (([] : List (den YI)), (false, (false, (false, ((0 : Int), (([] : List (den YI)), (([] : List (den YI)), (([] : List (den YI)), (([] : List (den YI)), ())))))))))))), ()), ())
    else
      (F_impl_Host_viewOf (x.1, x.2.1, ())).bind fun r3 =>
      some ((((0 : Int), (r3.1.1.1, (r3.1.1.2.1, (r3.1.1.2.2.1, (r3.1.1.2.2.2.1, (r3.1.1.2.2.2.2.1, (r3.1.1.2.2.2.2.2.1, (r3.1.1.2.2.2.2.2.2.1, (r3.1.1.2.2.2.2.2.2.2.1, (r3.1.1.2.2.2.2.2.2.2.2.1, (r3.1.1.2.2.2.2.2.2.2.2.2.1, (r3.1.1.2.2.2.2.2.2.2.2.2.2.1, ())))))))))))), ()), ())
abbrev C_impl_ViewOf : Con := ⟨P_impl_ViewOf, R_impl_ViewOf, F_impl_ViewOf, false⟩
abbrev G_impl_ViewOf : Env := [(56, C_impl_HostFault), (103, C_impl_Policy_isGuest), (104, C_impl_Host_viewOf)]
theorem g_impl_ViewOf : EnvOk Tryz.prog G_impl_ViewOf := (env_cons s_impl_HostFault (env_cons s_impl_Policy_isGuest (env_cons s_impl_Host_viewOf env_nil)))
theorem r_impl_ViewOf (x) : runFn T G_impl_ViewOf [] Tryz.f46 P_impl_ViewOf R_impl_ViewOf x = F_impl_ViewOf x := by kernel_rfl
theorem s_impl_ViewOf : CallsOk Tryz.prog 46 C_impl_ViewOf :=
  fn_calls (L := []) hT g_impl_ViewOf Tryz.f46 (by kernel_rfl) (by kernel_rfl) (by kernel_rfl) (plain_ok (by kernel_rfl)) r_impl_ViewOf
/-! laws.eqView -/
abbrev P_laws_eqView : List PK := [.val Y75, .val Y75]
abbrev R_laws_eqView : List VK := [.s (.dat .bool)]
def F_laws_eqView (x : denP P_laws_eqView) : Option (denV R_laws_eqView × denQ P_laws_eqView) :=
  (F_laws_eqHart (x.1.1, x.2.1.1, ())).bind fun r1 =>
  if (!r1.1.1) then
    some ((false, ()), ())
  else
    (F_laws_eqInt64S (x.1.2.1, x.2.1.2.1, ())).bind fun r2 =>
    if (!r2.1.1) then
      some ((false, ()), ())
    else
      (F_laws_eqInt64S (x.1.2.2.1, x.2.1.2.2.1, ())).bind fun r3 =>
      if (!r3.1.1) then
        some ((false, ()), ())
      else
        some ((true, ()), ())
abbrev C_laws_eqView : Con := ⟨P_laws_eqView, R_laws_eqView, F_laws_eqView, false⟩
abbrev G_laws_eqView : Env := [(34, C_laws_eqInt64S), (95, C_laws_eqHart)]
theorem g_laws_eqView : EnvOk Tryz.prog G_laws_eqView := (env_cons s_laws_eqInt64S (env_cons s_laws_eqHart env_nil))
theorem r_laws_eqView (x) : runFn T G_laws_eqView [] Tryz.f94 P_laws_eqView R_laws_eqView x = F_laws_eqView x := by kernel_rfl
theorem s_laws_eqView : CallsOk Tryz.prog 94 C_laws_eqView :=
  fn_calls (L := []) hT g_laws_eqView Tryz.f94 (by kernel_rfl) (by kernel_rfl) (by kernel_rfl) (plain_ok (by kernel_rfl)) r_laws_eqView
/-! laws.eqViewResult -/
abbrev P_laws_eqViewResult : List PK := [.val Y77, .val Y77]
abbrev R_laws_eqViewResult : List VK := [.s (.dat .bool)]
def F_laws_eqViewResult (x : denP P_laws_eqViewResult) : Option (denV R_laws_eqViewResult × denQ P_laws_eqViewResult) :=
  if (x.1.1 != x.2.1.1) then
    some ((false, ()), ())
  else
    (F_laws_eqView (x.1.2.1, x.2.1.2.1, ())).bind fun r1 =>
    if (!r1.1.1) then
      some ((false, ()), ())
    else
      some ((true, ()), ())
abbrev C_laws_eqViewResult : Con := ⟨P_laws_eqViewResult, R_laws_eqViewResult, F_laws_eqViewResult, false⟩
abbrev G_laws_eqViewResult : Env := [(94, C_laws_eqView)]
theorem g_laws_eqViewResult : EnvOk Tryz.prog G_laws_eqViewResult := (env_cons s_laws_eqView env_nil)
theorem r_laws_eqViewResult (x) : runFn T G_laws_eqViewResult [] Tryz.f40 P_laws_eqViewResult R_laws_eqViewResult x = F_laws_eqViewResult x := by kernel_rfl
theorem s_laws_eqViewResult : CallsOk Tryz.prog 40 C_laws_eqViewResult :=
  fn_calls (L := []) hT g_laws_eqViewResult Tryz.f40 (by kernel_rfl) (by kernel_rfl) (by kernel_rfl) (plain_ok (by kernel_rfl)) r_laws_eqViewResult
/-! laws.markHart -/
abbrev P_laws_markHart : List PK := [.agg [.own 2 YI, .dat YI, .own 2 YI, .dat .bool, .dat .bool, .dat .bool, .dat YI, .own 2 YI, .own 2 YI], .val YI]
abbrev R_laws_markHart : List VK := [.s (.dat YI)]
def F_laws_markHart (x : denP P_laws_markHart) : Option (denV R_laws_markHart × denQ P_laws_markHart) :=
  (F_laws_markInt64S (x.1.1, x.2.1, ())).bind fun r1 =>
  if ((x.1.1.length == r1.2.1.length && true) && true) = true then
    (F_laws_markInt64S (x.1.2.2.1, r1.1.1, ())).bind fun r2 =>
    if ((x.1.2.2.1.length == r2.2.1.length && true) && true) = true then
      (F_laws_markInt64S (x.1.2.2.2.2.2.2.2.1, r2.1.1, ())).bind fun r3 =>
      if ((x.1.2.2.2.2.2.2.2.1.length == r3.2.1.length && true) && true) = true then
        (F_laws_markInt64S (x.1.2.2.2.2.2.2.2.2.1, r3.1.1, ())).bind fun r4 =>
        if ((x.1.2.2.2.2.2.2.2.2.1.length == r4.2.1.length && true) && true) = true then
          if ((x.1.1.length == r1.2.1.length && (x.1.2.2.1.length == r2.2.1.length && (x.1.2.2.2.2.2.2.2.1.length == r3.2.1.length && (x.1.2.2.2.2.2.2.2.2.1.length == r4.2.1.length && true)))) && true) = true then
            some ((r4.1.1, ()), ((r1.2.1, (r2.2.1, (r3.2.1, (r4.2.1, ())))), ()))
          else none
        else none
      else none
    else none
  else none
abbrev C_laws_markHart : Con := ⟨P_laws_markHart, R_laws_markHart, F_laws_markHart, false⟩
abbrev G_laws_markHart : Env := [(35, C_laws_markInt64S)]
theorem g_laws_markHart : EnvOk Tryz.prog G_laws_markHart := (env_cons s_laws_markInt64S env_nil)
theorem r_laws_markHart (x) : runFn T G_laws_markHart [] Tryz.f97 P_laws_markHart R_laws_markHart x = F_laws_markHart x := by kernel_rfl
theorem s_laws_markHart : CallsOk Tryz.prog 97 C_laws_markHart :=
  fn_calls (L := []) hT g_laws_markHart Tryz.f97 (by kernel_rfl) (by kernel_rfl) (by kernel_rfl) (plain_ok (by kernel_rfl)) r_laws_markHart
/-! laws.markView -/
abbrev P_laws_markView : List PK := [.agg [.own 2 YI, .dat YI, .own 2 YI, .dat .bool, .dat .bool, .dat .bool, .dat YI, .own 2 YI, .own 2 YI, .own 2 YI, .own 2 YI], .val YI]
abbrev R_laws_markView : List VK := [.s (.dat YI)]
def F_laws_markView (x : denP P_laws_markView) : Option (denV R_laws_markView × denQ P_laws_markView) :=
  (F_laws_markHart ((x.1.1, (x.1.2.1, (x.1.2.2.1, (x.1.2.2.2.1, (x.1.2.2.2.2.1, (x.1.2.2.2.2.2.1, (x.1.2.2.2.2.2.2.1, (x.1.2.2.2.2.2.2.2.1, (x.1.2.2.2.2.2.2.2.2.1, ()))))))))), x.2.1, ())).bind fun r1 =>
  if (((x.1.1.length == r1.2.1.1.length && (x.1.2.2.1.length == r1.2.1.2.1.length && (x.1.2.2.2.2.2.2.2.1.length == r1.2.1.2.2.1.length && (x.1.2.2.2.2.2.2.2.2.1.length == r1.2.1.2.2.2.1.length && true)))) && true) && true) = true then
    (F_laws_markInt64S (x.1.2.2.2.2.2.2.2.2.2.1, r1.1.1, ())).bind fun r2 =>
    if ((x.1.2.2.2.2.2.2.2.2.2.1.length == r2.2.1.length && true) && true) = true then
      (F_laws_markInt64S (x.1.2.2.2.2.2.2.2.2.2.2.1, r2.1.1, ())).bind fun r3 =>
      if ((x.1.2.2.2.2.2.2.2.2.2.2.1.length == r3.2.1.length && true) && true) = true then
        if ((x.1.1.length == r1.2.1.1.length && (x.1.2.2.1.length == r1.2.1.2.1.length && (x.1.2.2.2.2.2.2.2.1.length == r1.2.1.2.2.1.length && (x.1.2.2.2.2.2.2.2.2.1.length == r1.2.1.2.2.2.1.length && (x.1.2.2.2.2.2.2.2.2.2.1.length == r2.2.1.length && (x.1.2.2.2.2.2.2.2.2.2.2.1.length == r3.2.1.length && true)))))) && true) = true then
          some ((r3.1.1, ()), ((r1.2.1.1, (r1.2.1.2.1, (r1.2.1.2.2.1, (r1.2.1.2.2.2.1, (r2.2.1, (r3.2.1, ())))))), ()))
        else none
      else none
    else none
  else none
abbrev C_laws_markView : Con := ⟨P_laws_markView, R_laws_markView, F_laws_markView, false⟩
abbrev G_laws_markView : Env := [(35, C_laws_markInt64S), (97, C_laws_markHart)]
theorem g_laws_markView : EnvOk Tryz.prog G_laws_markView := (env_cons s_laws_markInt64S (env_cons s_laws_markHart env_nil))
theorem r_laws_markView (x) : runFn T G_laws_markView [] Tryz.f99 P_laws_markView R_laws_markView x = F_laws_markView x := by kernel_rfl
theorem s_laws_markView : CallsOk Tryz.prog 99 C_laws_markView :=
  fn_calls (L := []) hT g_laws_markView Tryz.f99 (by kernel_rfl) (by kernel_rfl) (by kernel_rfl) (plain_ok (by kernel_rfl)) r_laws_markView
/-! laws.markViewResult -/
abbrev P_laws_markViewResult : List PK := [.agg [.dat YI, .own 2 YI, .dat YI, .own 2 YI, .dat .bool, .dat .bool, .dat .bool, .dat YI, .own 2 YI, .own 2 YI, .own 2 YI, .own 2 YI], .val YI]
abbrev R_laws_markViewResult : List VK := [.s (.dat YI)]
def F_laws_markViewResult (x : denP P_laws_markViewResult) : Option (denV R_laws_markViewResult × denQ P_laws_markViewResult) :=
  (F_laws_markView ((x.1.2.1, (x.1.2.2.1, (x.1.2.2.2.1, (x.1.2.2.2.2.1, (x.1.2.2.2.2.2.1, (x.1.2.2.2.2.2.2.1, (x.1.2.2.2.2.2.2.2.1, (x.1.2.2.2.2.2.2.2.2.1, (x.1.2.2.2.2.2.2.2.2.2.1, (x.1.2.2.2.2.2.2.2.2.2.2.1, (x.1.2.2.2.2.2.2.2.2.2.2.2.1, ()))))))))))), x.2.1, ())).bind fun r1 =>
  if (((x.1.2.1.length == r1.2.1.1.length && (x.1.2.2.2.1.length == r1.2.1.2.1.length && (x.1.2.2.2.2.2.2.2.2.1.length == r1.2.1.2.2.1.length && (x.1.2.2.2.2.2.2.2.2.2.1.length == r1.2.1.2.2.2.1.length && (x.1.2.2.2.2.2.2.2.2.2.2.1.length == r1.2.1.2.2.2.2.1.length && (x.1.2.2.2.2.2.2.2.2.2.2.2.1.length == r1.2.1.2.2.2.2.2.1.length && true)))))) && true) && true) = true then
    if ((x.1.2.1.length == r1.2.1.1.length && (x.1.2.2.2.1.length == r1.2.1.2.1.length && (x.1.2.2.2.2.2.2.2.2.1.length == r1.2.1.2.2.1.length && (x.1.2.2.2.2.2.2.2.2.2.1.length == r1.2.1.2.2.2.1.length && (x.1.2.2.2.2.2.2.2.2.2.2.1.length == r1.2.1.2.2.2.2.1.length && (x.1.2.2.2.2.2.2.2.2.2.2.2.1.length == r1.2.1.2.2.2.2.2.1.length && true)))))) && true) = true then
      some ((r1.1.1, ()), ((r1.2.1.1, (r1.2.1.2.1, (r1.2.1.2.2.1, (r1.2.1.2.2.2.1, (r1.2.1.2.2.2.2.1, (r1.2.1.2.2.2.2.2.1, ())))))), ()))
    else none
  else none
abbrev C_laws_markViewResult : Con := ⟨P_laws_markViewResult, R_laws_markViewResult, F_laws_markViewResult, false⟩
abbrev G_laws_markViewResult : Env := [(99, C_laws_markView)]
theorem g_laws_markViewResult : EnvOk Tryz.prog G_laws_markViewResult := (env_cons s_laws_markView env_nil)
theorem r_laws_markViewResult (x) : runFn T G_laws_markViewResult [] Tryz.f43 P_laws_markViewResult R_laws_markViewResult x = F_laws_markViewResult x := by kernel_rfl
theorem s_laws_markViewResult : CallsOk Tryz.prog 43 C_laws_markViewResult :=
  fn_calls (L := []) hT g_laws_markViewResult Tryz.f43 (by kernel_rfl) (by kernel_rfl) (by kernel_rfl) (plain_ok (by kernel_rfl)) r_laws_markViewResult
/-! laws.heldHart -/
abbrev P_laws_heldHart : List PK := [.val Y68, .val YI]
abbrev R_laws_heldHart : List VK := [.s (.dat YI)]
def F_laws_heldHart (x : denP P_laws_heldHart) : Option (denV R_laws_heldHart × denQ P_laws_heldHart) :=
  (F_laws_heldInt64S (x.1.1, x.2.1, ())).bind fun r1 =>
  if (ltI r1.1.1 (0 : Int)) then
    some (((-1 : Int), ()), ())
  else
    (F_laws_heldInt64S (x.1.2.2.1, r1.1.1, ())).bind fun r2 =>
    if (ltI r2.1.1 (0 : Int)) then
      some (((-1 : Int), ()), ())
    else
      (F_laws_heldInt64S (x.1.2.2.2.2.2.2.2.1, r2.1.1, ())).bind fun r3 =>
      if (ltI r3.1.1 (0 : Int)) then
        some (((-1 : Int), ()), ())
      else
        (F_laws_heldInt64S (x.1.2.2.2.2.2.2.2.2.1, r3.1.1, ())).bind fun r4 =>
        if (ltI r4.1.1 (0 : Int)) then
          some (((-1 : Int), ()), ())
        else
          some ((r4.1.1, ()), ())
abbrev C_laws_heldHart : Con := ⟨P_laws_heldHart, R_laws_heldHart, F_laws_heldHart, false⟩
abbrev G_laws_heldHart : Env := [(61, C_laws_heldInt64S)]
theorem g_laws_heldHart : EnvOk Tryz.prog G_laws_heldHart := (env_cons s_laws_heldInt64S env_nil)
theorem r_laws_heldHart (x) : runFn T G_laws_heldHart [] Tryz.f145 P_laws_heldHart R_laws_heldHart x = F_laws_heldHart x := by kernel_rfl
theorem s_laws_heldHart : CallsOk Tryz.prog 145 C_laws_heldHart :=
  fn_calls (L := []) hT g_laws_heldHart Tryz.f145 (by kernel_rfl) (by kernel_rfl) (by kernel_rfl) (plain_ok (by kernel_rfl)) r_laws_heldHart
/-! laws.heldView -/
abbrev P_laws_heldView : List PK := [.val Y75, .val YI]
abbrev R_laws_heldView : List VK := [.s (.dat YI)]
def F_laws_heldView (x : denP P_laws_heldView) : Option (denV R_laws_heldView × denQ P_laws_heldView) :=
  (F_laws_heldHart (x.1.1, x.2.1, ())).bind fun r1 =>
  if (ltI r1.1.1 (0 : Int)) then
    some (((-1 : Int), ()), ())
  else
    (F_laws_heldInt64S (x.1.2.1, r1.1.1, ())).bind fun r2 =>
    if (ltI r2.1.1 (0 : Int)) then
      some (((-1 : Int), ()), ())
    else
      (F_laws_heldInt64S (x.1.2.2.1, r2.1.1, ())).bind fun r3 =>
      if (ltI r3.1.1 (0 : Int)) then
        some (((-1 : Int), ()), ())
      else
        some ((r3.1.1, ()), ())
abbrev C_laws_heldView : Con := ⟨P_laws_heldView, R_laws_heldView, F_laws_heldView, false⟩
abbrev G_laws_heldView : Env := [(61, C_laws_heldInt64S), (145, C_laws_heldHart)]
theorem g_laws_heldView : EnvOk Tryz.prog G_laws_heldView := (env_cons s_laws_heldInt64S (env_cons s_laws_heldHart env_nil))
theorem r_laws_heldView (x) : runFn T G_laws_heldView [] Tryz.f100 P_laws_heldView R_laws_heldView x = F_laws_heldView x := by kernel_rfl
theorem s_laws_heldView : CallsOk Tryz.prog 100 C_laws_heldView :=
  fn_calls (L := []) hT g_laws_heldView Tryz.f100 (by kernel_rfl) (by kernel_rfl) (by kernel_rfl) (plain_ok (by kernel_rfl)) r_laws_heldView
/-! laws.heldViewResult -/
abbrev P_laws_heldViewResult : List PK := [.val Y77, .val YI]
abbrev R_laws_heldViewResult : List VK := [.s (.dat YI)]
def F_laws_heldViewResult (x : denP P_laws_heldViewResult) : Option (denV R_laws_heldViewResult × denQ P_laws_heldViewResult) :=
  (F_laws_heldView (x.1.2.1, x.2.1, ())).bind fun r1 =>
  if (ltI r1.1.1 (0 : Int)) then
    some (((-1 : Int), ()), ())
  else
    some ((r1.1.1, ()), ())
abbrev C_laws_heldViewResult : Con := ⟨P_laws_heldViewResult, R_laws_heldViewResult, F_laws_heldViewResult, false⟩
abbrev G_laws_heldViewResult : Env := [(100, C_laws_heldView)]
theorem g_laws_heldViewResult : EnvOk Tryz.prog G_laws_heldViewResult := (env_cons s_laws_heldView env_nil)
theorem r_laws_heldViewResult (x) : runFn T G_laws_heldViewResult [] Tryz.f44 P_laws_heldViewResult R_laws_heldViewResult x = F_laws_heldViewResult x := by kernel_rfl
theorem s_laws_heldViewResult : CallsOk Tryz.prog 44 C_laws_heldViewResult :=
  fn_calls (L := []) hT g_laws_heldViewResult Tryz.f44 (by kernel_rfl) (by kernel_rfl) (by kernel_rfl) (plain_ok (by kernel_rfl)) r_laws_heldViewResult
/-! laws.FnExactViewOf -/
abbrev P_laws_FnExactViewOf : List PK := [.val Y30, .val YI]
abbrev R_laws_FnExactViewOf : List VK := [.s (.dat .bool)]
def F_laws_FnExactViewOf (x : denP P_laws_FnExactViewOf) : Option (denV R_laws_FnExactViewOf × denQ P_laws_FnExactViewOf) :=
  (F_laws_szHost (x.1, (1048576 : Int), ())).bind fun r1 =>
  if (ltI r1.1.1 (0 : Int)) then
    some ((true, ()), ())
  else
    (F_laws_toHost (x.1, ())).bind fun r2 =>
    (F_spec_ViewOf (((r2.1.1.1, (r2.1.1.2.1, (r2.1.1.2.2.1, (r2.1.1.2.2.2.1, ())))), (r2.1.1.2.2.2.2.1, (r2.1.1.2.2.2.2.2.1, (r2.1.1.2.2.2.2.2.2.1, (r2.1.1.2.2.2.2.2.2.2.1, (r2.1.1.2.2.2.2.2.2.2.2.1, ())))))), x.2.1, ())).bind fun r3 =>
    (F_laws_toHost (x.1, ())).bind fun r4 =>
    (F_impl_ViewOf (((r4.1.1.1, (r4.1.1.2.1, (r4.1.1.2.2.1, (r4.1.1.2.2.2.1, ())))), (r4.1.1.2.2.2.2.1, (r4.1.1.2.2.2.2.2.1, (r4.1.1.2.2.2.2.2.2.1, (r4.1.1.2.2.2.2.2.2.2.1, (r4.1.1.2.2.2.2.2.2.2.2.1, ())))))), x.2.1, ())).bind fun r5 =>
    (F_laws_eqViewResult ((r5.1.1.1, (((r5.1.1.2.1, (r5.1.1.2.2.1, (r5.1.1.2.2.2.1, (r5.1.1.2.2.2.2.1, (r5.1.1.2.2.2.2.2.1, (r5.1.1.2.2.2.2.2.2.1, (r5.1.1.2.2.2.2.2.2.2.1, (r5.1.1.2.2.2.2.2.2.2.2.1, (r5.1.1.2.2.2.2.2.2.2.2.2.1, ()))))))))), (r5.1.1.2.2.2.2.2.2.2.2.2.2.1, (r5.1.1.2.2.2.2.2.2.2.2.2.2.2.1, ()))), ())), (r3.1.1.1, (((r3.1.1.2.1, (r3.1.1.2.2.1, (r3.1.1.2.2.2.1, (r3.1.1.2.2.2.2.1, (r3.1.1.2.2.2.2.2.1, (r3.1.1.2.2.2.2.2.2.1, (r3.1.1.2.2.2.2.2.2.2.1, (r3.1.1.2.2.2.2.2.2.2.2.1, (r3.1.1.2.2.2.2.2.2.2.2.2.1, ()))))))))), (r3.1.1.2.2.2.2.2.2.2.2.2.2.1, (r3.1.1.2.2.2.2.2.2.2.2.2.2.2.1, ()))), ())), ())).bind fun r6 =>
    if (!r6.1.1) then
      some ((false, ()), ())
    else
      (F_laws_toHost (x.1, ())).bind fun r7 =>
      (F_laws_eqHost (((r4.1.1.1, (r4.1.1.2.1, (r4.1.1.2.2.1, (r4.1.1.2.2.2.1, ())))), (r4.1.1.2.2.2.2.1, (r4.1.1.2.2.2.2.2.1, (r4.1.1.2.2.2.2.2.2.1, (r4.1.1.2.2.2.2.2.2.2.1, (r4.1.1.2.2.2.2.2.2.2.2.1, ())))))), ((r7.1.1.1, (r7.1.1.2.1, (r7.1.1.2.2.1, (r7.1.1.2.2.2.1, ())))), (r7.1.1.2.2.2.2.1, (r7.1.1.2.2.2.2.2.1, (r7.1.1.2.2.2.2.2.2.1, (r7.1.1.2.2.2.2.2.2.2.1, (r7.1.1.2.2.2.2.2.2.2.2.1, ())))))), ())).bind fun r8 =>
      if (!r8.1.1) then
        some ((false, ()), ())
      else
        (F_laws_markHost ((r4.1.1.1, (r4.1.1.2.1, (r4.1.1.2.2.1, (r4.1.1.2.2.2.1, (r4.1.1.2.2.2.2.1, (r4.1.1.2.2.2.2.2.1, (r4.1.1.2.2.2.2.2.2.1, (r4.1.1.2.2.2.2.2.2.2.1, (r4.1.1.2.2.2.2.2.2.2.2.1, ()))))))))), (1 : Int), ())).bind fun r9 =>
        if (((r4.1.1.1.length == r9.2.1.1.length && (r4.1.1.2.1.length == r9.2.1.2.1.length && (r4.1.1.2.2.1.length == r9.2.1.2.2.1.length && (r4.1.1.2.2.2.1.length == r9.2.1.2.2.2.1.length && (r4.1.1.2.2.2.2.1.length == r9.2.1.2.2.2.2.1.length && (r4.1.1.2.2.2.2.2.1.length == r9.2.1.2.2.2.2.2.1.length && true)))))) && true) && true) = true then
          if (ltI r9.1.1 (0 : Int)) = false then
            (F_laws_eqViewResult ((r5.1.1.1, (((r5.1.1.2.1, (r5.1.1.2.2.1, (r5.1.1.2.2.2.1, (r5.1.1.2.2.2.2.1, (r5.1.1.2.2.2.2.2.1, (r5.1.1.2.2.2.2.2.2.1, (r5.1.1.2.2.2.2.2.2.2.1, (r5.1.1.2.2.2.2.2.2.2.2.1, (r5.1.1.2.2.2.2.2.2.2.2.2.1, ()))))))))), (r5.1.1.2.2.2.2.2.2.2.2.2.2.1, (r5.1.1.2.2.2.2.2.2.2.2.2.2.2.1, ()))), ())), (r3.1.1.1, (((r3.1.1.2.1, (r3.1.1.2.2.1, (r3.1.1.2.2.2.1, (r3.1.1.2.2.2.2.1, (r3.1.1.2.2.2.2.2.1, (r3.1.1.2.2.2.2.2.2.1, (r3.1.1.2.2.2.2.2.2.2.1, (r3.1.1.2.2.2.2.2.2.2.2.1, (r3.1.1.2.2.2.2.2.2.2.2.2.1, ()))))))))), (r3.1.1.2.2.2.2.2.2.2.2.2.2.1, (r3.1.1.2.2.2.2.2.2.2.2.2.2.2.1, ()))), ())), ())).bind fun r10 =>
            if (!r10.1.1) then
              some ((false, ()), ())
            else
              (F_laws_markViewResult ((r5.1.1.1, (r5.1.1.2.1, (r5.1.1.2.2.1, (r5.1.1.2.2.2.1, (r5.1.1.2.2.2.2.1, (r5.1.1.2.2.2.2.2.1, (r5.1.1.2.2.2.2.2.2.1, (r5.1.1.2.2.2.2.2.2.2.1, (r5.1.1.2.2.2.2.2.2.2.2.1, (r5.1.1.2.2.2.2.2.2.2.2.2.1, (r5.1.1.2.2.2.2.2.2.2.2.2.2.1, (r5.1.1.2.2.2.2.2.2.2.2.2.2.2.1, ())))))))))))), (1 : Int), ())).bind fun r11 =>
              if (((r5.1.1.2.1.length == r11.2.1.1.length && (r5.1.1.2.2.2.1.length == r11.2.1.2.1.length && (r5.1.1.2.2.2.2.2.2.2.2.1.length == r11.2.1.2.2.1.length && (r5.1.1.2.2.2.2.2.2.2.2.2.1.length == r11.2.1.2.2.2.1.length && (r5.1.1.2.2.2.2.2.2.2.2.2.2.1.length == r11.2.1.2.2.2.2.1.length && (r5.1.1.2.2.2.2.2.2.2.2.2.2.2.1.length == r11.2.1.2.2.2.2.2.1.length && true)))))) && true) && true) = true then
                (F_laws_heldViewResult ((r5.1.1.1, (((r11.2.1.1, (r5.1.1.2.2.1, (r11.2.1.2.1, (r5.1.1.2.2.2.2.1, (r5.1.1.2.2.2.2.2.1, (r5.1.1.2.2.2.2.2.2.1, (r5.1.1.2.2.2.2.2.2.2.1, (r11.2.1.2.2.1, (r11.2.1.2.2.2.1, ()))))))))), (r11.2.1.2.2.2.2.1, (r11.2.1.2.2.2.2.2.1, ()))), ())), (1 : Int), ())).bind fun r12 =>
                if (ltI r12.1.1 (0 : Int)) then
                  some ((false, ()), ())
                else
                  if (r12.1.1 != r11.1.1) then
                    some ((false, ()), ())
                  else
                    (F_laws_toHost (x.1, ())).bind fun r13 =>
                    (F_impl_ViewOf (((r13.1.1.1, (r13.1.1.2.1, (r13.1.1.2.2.1, (r13.1.1.2.2.2.1, ())))), (r13.1.1.2.2.2.2.1, (r13.1.1.2.2.2.2.2.1, (r13.1.1.2.2.2.2.2.2.1, (r13.1.1.2.2.2.2.2.2.2.1, (r13.1.1.2.2.2.2.2.2.2.2.1, ())))))), x.2.1, ())).bind fun r14 =>
                    (F_laws_eqViewResult ((r14.1.1.1, (((r14.1.1.2.1, (r14.1.1.2.2.1, (r14.1.1.2.2.2.1, (r14.1.1.2.2.2.2.1, (r14.1.1.2.2.2.2.2.1, (r14.1.1.2.2.2.2.2.2.1, (r14.1.1.2.2.2.2.2.2.2.1, (r14.1.1.2.2.2.2.2.2.2.2.1, (r14.1.1.2.2.2.2.2.2.2.2.2.1, ()))))))))), (r14.1.1.2.2.2.2.2.2.2.2.2.2.1, (r14.1.1.2.2.2.2.2.2.2.2.2.2.2.1, ()))), ())), (r3.1.1.1, (((r3.1.1.2.1, (r3.1.1.2.2.1, (r3.1.1.2.2.2.1, (r3.1.1.2.2.2.2.1, (r3.1.1.2.2.2.2.2.1, (r3.1.1.2.2.2.2.2.2.1, (r3.1.1.2.2.2.2.2.2.2.1, (r3.1.1.2.2.2.2.2.2.2.2.1, (r3.1.1.2.2.2.2.2.2.2.2.2.1, ()))))))))), (r3.1.1.2.2.2.2.2.2.2.2.2.2.1, (r3.1.1.2.2.2.2.2.2.2.2.2.2.2.1, ()))), ())), ())).bind fun r15 =>
                    if (!r15.1.1) then
                      some ((false, ()), ())
                    else
                      (F_laws_heldViewResult ((r5.1.1.1, (((r11.2.1.1, (r5.1.1.2.2.1, (r11.2.1.2.1, (r5.1.1.2.2.2.2.1, (r5.1.1.2.2.2.2.2.1, (r5.1.1.2.2.2.2.2.2.1, (r5.1.1.2.2.2.2.2.2.2.1, (r11.2.1.2.2.1, (r11.2.1.2.2.2.1, ()))))))))), (r11.2.1.2.2.2.2.1, (r11.2.1.2.2.2.2.2.1, ()))), ())), (1 : Int), ())).bind fun r16 =>
                      if (ltI r16.1.1 (0 : Int)) then
                        some ((false, ()), ())
                      else
                        if (r16.1.1 != r11.1.1) then
                          some ((false, ()), ())
                        else
                          some ((true, ()), ())
              else none
          else
            some ((false, ()), ())
        else none
abbrev C_laws_FnExactViewOf : Con := ⟨P_laws_FnExactViewOf, R_laws_FnExactViewOf, F_laws_FnExactViewOf, false⟩
abbrev G_laws_FnExactViewOf : Env := [(9, C_laws_szHost), (11, C_laws_toHost), (14, C_laws_eqHost), (15, C_laws_markHost), (40, C_laws_eqViewResult), (43, C_laws_markViewResult), (44, C_laws_heldViewResult), (45, C_spec_ViewOf), (46, C_impl_ViewOf)]
theorem g_laws_FnExactViewOf : EnvOk Tryz.prog G_laws_FnExactViewOf := (env_cons s_laws_szHost (env_cons s_laws_toHost (env_cons s_laws_eqHost (env_cons s_laws_markHost (env_cons s_laws_eqViewResult (env_cons s_laws_markViewResult (env_cons s_laws_heldViewResult (env_cons s_spec_ViewOf (env_cons s_impl_ViewOf env_nil)))))))))
theorem r_laws_FnExactViewOf (x) : runFn T G_laws_FnExactViewOf [] Tryz.f7 P_laws_FnExactViewOf R_laws_FnExactViewOf x = F_laws_FnExactViewOf x := by kernel_rfl
theorem s_laws_FnExactViewOf : CallsOk Tryz.prog 7 C_laws_FnExactViewOf :=
  fn_calls (L := []) hT g_laws_FnExactViewOf Tryz.f7 (by kernel_rfl) (by kernel_rfl) (by kernel_rfl) (plain_ok (by kernel_rfl)) r_laws_FnExactViewOf
theorem q_laws_FnExactViewOf : Sound Tryz.prog 7 C_laws_FnExactViewOf :=
  fn_snd (L := []) hT g_laws_FnExactViewOf Tryz.f7 (by kernel_rfl) (by kernel_rfl) (plain_ok (by kernel_rfl)) r_laws_FnExactViewOf
end Go.Proofs.YtimbcpeilkaahaaGreat
