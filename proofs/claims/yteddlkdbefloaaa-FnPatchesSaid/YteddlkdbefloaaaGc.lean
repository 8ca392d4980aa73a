/- The functions of the laws, each as a plain function of data (F), and that the program's text does what F says. Printed by a program (wip/tools/gen.py). -/
import Derived.Test.YteddlkdbefloaaaGa
import Derived.Test.YteddlkdbefloaaaGb
namespace Go.Proofs.Yteddlkdbefloaaa
open Go Go.RowKit S Go.Proofs
set_option maxRecDepth 100000
set_option linter.unusedVariables false
/-! spec.l1Rise -/
abbrev P_spec_l1Rise : List PK := [.val Y22, .val YI]
abbrev R_spec_l1Rise : List VK := [.s (.dat Y22)]
abbrev i_spec_l1Rise_2 : Shp := { slots := [(0, .s (.dat Y22)), (1, .s (.dat YI)), (5, .s (.dat YI))], boxes := [], rows := [] }
abbrev o_spec_l1Rise_2 : List (Ex × Shp) := [(.exit 0, { slots := [(0, .s (.dat Y22)), (1, .s (.dat YI)), (5, .s (.dat YI))], boxes := [], rows := [] })]
def l_spec_l1Rise_2 (rec : i_spec_l1Rise_2.den → Option (denO o_spec_l1Rise_2)) (u2 : i_spec_l1Rise_2.den) : Option (denO o_spec_l1Rise_2) :=
  let v2 := ((u2.1.1.length : Nat) : Int)
  if (ltI u2.1.2.2.1 v2) = true then
    if 0 ≤ u2.1.2.2.1 then
      ((u2.1.1)[(u2.1.2.2.1).toNat]?).bind fun y3 =>
      if (ltI y3 u2.1.2.1) then
        let v4 := (IntKind.i64.wrap (u2.1.2.2.1 + (1 : Int)))
        rec ((u2.1.1, (u2.1.2.1, (v4, ()))), ((), ()))
      else
        some (.inl ((u2.1.1, (u2.1.2.1, (u2.1.2.2.1, ()))), ((), ())))
    else none
  else
    some (.inl ((u2.1.1, (u2.1.2.1, (u2.1.2.2.1, ()))), ((), ())))
def L_spec_l1Rise_2 (x : i_spec_l1Rise_2.den) : Option (denO o_spec_l1Rise_2) := iterF l_spec_l1Rise_2 lots x
def F_spec_l1Rise (x : denP P_spec_l1Rise) : Option (denV R_spec_l1Rise × denQ P_spec_l1Rise) :=
  (L_spec_l1Rise_2 ((x.1, (x.2.1, ((0 : Int), ()))), ((), ()))).bind fun z5 =>
  match z5 with
  | .inl x6 =>
    let v7 := ((x6.1.1.length : Nat) : Int)
    if (ltI x6.1.2.2.1 v7) = true then
      if 0 ≤ x6.1.2.2.1 then
        ((x6.1.1)[(x6.1.2.2.1).toNat]?).bind fun y8 =>
        if (y8 == x6.1.2.1) then
          some ((x6.1.1, ()), ())
        else
          if 0 ≤ (0 : Int) ∧ (0 : Int) ≤ x6.1.2.2.1 ∧ x6.1.2.2.1 ≤ ((x6.1.1.length : Nat) : Int) then
            let v9 := ((x6.1.1.drop ((0 : Int)).toNat).take ((x6.1.2.2.1).toNat - ((0 : Int)).toNat))
            if (([] : List (den YI)).length + v9.length) * 8 ≤ 140737488355328 then
              let v10 := (([] : List (den YI)) ++ v9)
              if (v10.length + [x6.1.2.1].length) * 8 ≤ 140737488355328 then
                let v11 := (v10 ++ [x6.1.2.1])
                if 0 ≤ x6.1.2.2.1 ∧ x6.1.2.2.1 ≤ ((x6.1.1.length : Nat) : Int) ∧ ((x6.1.1.length : Nat) : Int) ≤ ((x6.1.1.length : Nat) : Int) then
                  let v12 := ((x6.1.1.drop (x6.1.2.2.1).toNat).take ((((x6.1.1.length : Nat) : Int)).toNat - (x6.1.2.2.1).toNat))
                  if (v11.length + v12.length) * 8 ≤ 140737488355328 then
                    let v13 := (v11 ++ v12)
                    some ((v13, ()), ())
                  else none
                else none
              else none
            else none
          else none
      else none
    else
      if 0 ≤ (0 : Int) ∧ (0 : Int) ≤ x6.1.2.2.1 ∧ x6.1.2.2.1 ≤ ((x6.1.1.length : Nat) : Int) then
        let v14 := ((x6.1.1.drop ((0 : Int)).toNat).take ((x6.1.2.2.1).toNat - ((0 : Int)).toNat))
        if (([] : List (den YI)).length + v14.length) * 8 ≤ 140737488355328 then
          let v15 := (([] : List (den YI)) ++ v14)
          if (v15.length + [x6.1.2.1].length) * 8 ≤ 140737488355328 then
            let v16 := (v15 ++ [x6.1.2.1])
            if 0 ≤ x6.1.2.2.1 ∧ x6.1.2.2.1 ≤ ((x6.1.1.length : Nat) : Int) ∧ ((x6.1.1.length : Nat) : Int) ≤ ((x6.1.1.length : Nat) : Int) then
              let v17 := ((x6.1.1.drop (x6.1.2.2.1).toNat).take ((((x6.1.1.length : Nat) : Int)).toNat - (x6.1.2.2.1).toNat))
              if (v16.length + v17.length) * 8 ≤ 140737488355328 then
                let v18 := (v16 ++ v17)
                some ((v18, ()), ())
              else none
            else none
          else none
        else none
      else none
  | .inr z5_ =>
    none
abbrev C_spec_l1Rise : Con := ⟨P_spec_l1Rise, R_spec_l1Rise, F_spec_l1Rise, false⟩
abbrev G_spec_l1Rise : Env := []
theorem g_spec_l1Rise : EnvOk Try.prog G_spec_l1Rise := env_nil
abbrev c_spec_l1Rise_2 : Cut := ⟨i_spec_l1Rise_2, o_spec_l1Rise_2, fun x => iterF l_spec_l1Rise_2 lots x⟩
theorem t_spec_l1Rise_2 (rec x) : run T G_spec_l1Rise [] (nav Try.f75 [1, 1, 0, 0, 0]) (mk 45 i_spec_l1Rise_2 x) (loopK i_spec_l1Rise_2 o_spec_l1Rise_2 rec) = l_spec_l1Rise_2 rec x := by kernel_rfl
theorem k_spec_l1Rise_2 : CutOk Try.prog 45 (.loop (nav Try.f75 [1, 1, 0, 0, 0])) c_spec_l1Rise_2 :=
  loop_cut (L := []) hT g_spec_l1Rise t_spec_l1Rise_2 (plain_ok (by kernel_rfl)) _
theorem r_spec_l1Rise (x) : runFn T G_spec_l1Rise [(2, c_spec_l1Rise_2)] Try.f75 P_spec_l1Rise R_spec_l1Rise x = F_spec_l1Rise x := by kernel_rfl
theorem s_spec_l1Rise : CallsOk Try.prog 75 C_spec_l1Rise :=
  fn_calls (L := [(2, c_spec_l1Rise_2)]) hT g_spec_l1Rise Try.f75 (by kernel_rfl) (by kernel_rfl) (by kernel_rfl) (seq_ok (plain_ok (by kernel_rfl)) (seq_ok (plain_ok (by kernel_rfl)) (seq_ok (block_ok (by kernel_rfl) (loop_ok (by kernel_rfl) k_spec_l1Rise_2)) (plain_ok (by kernel_rfl))))) r_spec_l1Rise
/-! spec.ChangedPages -/
abbrev P_spec_ChangedPages : List PK := [.val Y22, .val Y22]
abbrev R_spec_ChangedPages : List VK := [.s (.dat Y48)]
abbrev i_spec_ChangedPages_11 : Shp := { slots := [(0, .s (.dat Y22)), (1, .s (.dat Y22)), (4, .s (.ptr 4 0)), (7, .s (.ptr 7 0)), (8, .s (.dat YI))], boxes := [(4, [.dat YI, .own 2 YI]), (7, [.dat YI, .dat Y22])], rows := [] }
abbrev o_spec_ChangedPages_11 : List (Ex × Shp) := [(.exit 0, { slots := [(4, .s (.ptr 4 0)), (7, .s (.ptr 7 0))], boxes := [(4, [.dat YI, .own 2 YI]), (7, [.dat YI, .dat Y22])], rows := [] })]
def l_spec_ChangedPages_11 (rec : i_spec_ChangedPages_11.den → Option (denO o_spec_ChangedPages_11)) (u11 : i_spec_ChangedPages_11.den) : Option (denO o_spec_ChangedPages_11) :=
  let v11 := ((u11.1.1.length : Nat) : Int)
  if (ltI u11.1.2.2.2.2.1 v11) then
    if 0 ≤ u11.1.2.2.2.2.1 then
      ((u11.1.1)[(u11.1.2.2.2.2.1).toNat]?).bind fun y12 =>
      if 0 ≤ u11.1.2.2.2.2.1 then
        ((u11.1.2.1)[(u11.1.2.2.2.2.1).toNat]?).bind fun y13 =>
        if (y12 != y13) then
          let v14 := (IntKind.i64.wrap ((u11.1.2.2.2.2.1).tdiv (8 : Int)))
          (F_spec_l1Rise (u11.2.1.2.1.2.1, v14, ())).bind fun r15 =>
          let v16 := (IntKind.i64.wrap (u11.1.2.2.2.2.1 + (1 : Int)))
          rec ((u11.1.1, (u11.1.2.1, ((), ((), (v16, ()))))), (((u11.2.1.1.1, (u11.2.1.1.2.1, ())), ((u11.2.1.2.1.1, (r15.1.1, ())), ())), ()))
        else
          let v17 := (IntKind.i64.wrap (u11.1.2.2.2.2.1 + (1 : Int)))
          rec ((u11.1.1, (u11.1.2.1, ((), ((), (v17, ()))))), (((u11.2.1.1.1, (u11.2.1.1.2.1, ())), ((u11.2.1.2.1.1, (u11.2.1.2.1.2.1, ())), ())), ()))
      else none
    else none
  else
    some (.inl (((), ((), ())), (((u11.2.1.1.1, (u11.2.1.1.2.1, ())), ((u11.2.1.2.1.1, (u11.2.1.2.1.2.1, ())), ())), ())))
def L_spec_ChangedPages_11 (x : i_spec_ChangedPages_11.den) : Option (denO o_spec_ChangedPages_11) := iterF l_spec_ChangedPages_11 lots x
def F_spec_ChangedPages (x : denP P_spec_ChangedPages) : Option (denV R_spec_ChangedPages × denQ P_spec_ChangedPages) :=
  (F_spec_MemoryFault (x.1, ())).bind fun r1 =>
  if (r1.1.1 != (0 : Int)) then
    some (((r1.1.1, (([] : List (den YI)), ())), ()), ())
  else
    (F_spec_MemoryFault (x.2.1, ())).bind fun r2 =>
    if (r2.1.1 != (0 : Int)) then
      some (((r2.1.1, (([] : List (den YI)), ())), ()), ())
    else
      let v3 := ((x.1.length : Nat) : Int)
      let v4 := ((x.2.1.length : Nat) : Int)
      if (v3 != v4) then
        some ((((1 : Int), (([] : List (den YI)), ())), ()), ())
      else
        (L_spec_ChangedPages_11 ((x.1, (x.2.1, ((), ((), ((0 : Int), ()))))), ((((0 : Int), (([] : List (den YI)), ())), (((0 : Int), (([] : List (den YI)), ())), ())), ()))).bind fun z18 =>
        match z18 with
        | .inl x19 =>
          some (((x19.2.1.2.1.1, (x19.2.1.2.1.2.1, ())), ()), ())
        | .inr z18_ =>
          none
abbrev C_spec_ChangedPages : Con := ⟨P_spec_ChangedPages, R_spec_ChangedPages, F_spec_ChangedPages, false⟩
abbrev G_spec_ChangedPages : Env := [(58, C_spec_MemoryFault), (75, C_spec_l1Rise)]
theorem g_spec_ChangedPages : EnvOk Try.prog G_spec_ChangedPages := (env_cons s_spec_MemoryFault (env_cons s_spec_l1Rise env_nil))
abbrev c_spec_ChangedPages_11 : Cut := ⟨i_spec_ChangedPages_11, o_spec_ChangedPages_11, fun x => iterF l_spec_ChangedPages_11 lots x⟩
theorem t_spec_ChangedPages_11 (rec x) : run T G_spec_ChangedPages [] (nav Try.f30 [1, 1, 1, 1, 1, 0, 1, 0, 0]) (mk 50 i_spec_ChangedPages_11 x) (loopK i_spec_ChangedPages_11 o_spec_ChangedPages_11 rec) = l_spec_ChangedPages_11 rec x := by kernel_rfl
theorem k_spec_ChangedPages_11 : CutOk Try.prog 50 (.loop (nav Try.f30 [1, 1, 1, 1, 1, 0, 1, 0, 0])) c_spec_ChangedPages_11 :=
  loop_cut (L := []) hT g_spec_ChangedPages t_spec_ChangedPages_11 (plain_ok (by kernel_rfl)) _
theorem r_spec_ChangedPages (x) : runFn T G_spec_ChangedPages [(11, c_spec_ChangedPages_11)] Try.f30 P_spec_ChangedPages R_spec_ChangedPages x = F_spec_ChangedPages x := by kernel_rfl
theorem s_spec_ChangedPages : CallsOk Try.prog 30 C_spec_ChangedPages :=
  fn_calls (L := [(11, c_spec_ChangedPages_11)]) hT g_spec_ChangedPages Try.f30 (by kernel_rfl) (by kernel_rfl) (by kernel_rfl) (seq_ok (plain_ok (by kernel_rfl)) (seq_ok (plain_ok (by kernel_rfl)) (seq_ok (plain_ok (by kernel_rfl)) (seq_ok (plain_ok (by kernel_rfl)) (seq_ok (plain_ok (by kernel_rfl)) (seq_ok (seq_ok (plain_ok (by kernel_rfl)) (block_ok (by kernel_rfl) (loop_ok (by kernel_rfl) k_spec_ChangedPages_11))) (plain_ok (by kernel_rfl)))))))) r_spec_ChangedPages
/-! impl.firstOf -/
abbrev P_impl_firstOf : List PK := [.val Y22]
abbrev R_impl_firstOf : List VK := [.s (.dat YI)]
abbrev i_impl_firstOf_2 : Shp := { slots := [(5, .s (.dat Y22)), (6, .s (.dat YI)), (7, .s (.dat YI))], boxes := [], rows := [] }
abbrev o_impl_firstOf_2 : List (Ex × Shp) := [(.exit 0, { slots := [], boxes := [], rows := [] }), (.ret, { slots := [(2, .s (.dat YI))], boxes := [], rows := [] })]
def l_impl_firstOf_2 (rec : i_impl_firstOf_2.den → Option (denO o_impl_firstOf_2)) (u2 : i_impl_firstOf_2.den) : Option (denO o_impl_firstOf_2) :=
  if (ltI u2.1.2.2.1 u2.1.2.1) then
    if 0 ≤ u2.1.2.2.1 then
      ((u2.1.1)[(u2.1.2.2.1).toNat]?).bind fun y3 =>
      if (y3 != (0 : Int)) then
        some (.inr (.inl ((y3, ()), ((), ()))))
      else
        let v4 := (IntKind.i64.wrap (u2.1.2.2.1 + (1 : Int)))
        rec ((u2.1.1, (u2.1.2.1, (v4, ()))), ((), ()))
    else none
  else
    some (.inl ((), ((), ())))
def L_impl_firstOf_2 (x : i_impl_firstOf_2.den) : Option (denO o_impl_firstOf_2) := iterF l_impl_firstOf_2 lots x
def F_impl_firstOf (x : denP P_impl_firstOf) : Option (denV R_impl_firstOf × denQ P_impl_firstOf) :=
  let v1 := ((x.1.length : Nat) : Int)
  (L_impl_firstOf_2 ((x.1, (v1, ((0 : Int), ()))), ((), ()))).bind fun z5 =>
  match z5 with
  | .inl x6 =>
    some (((0 : Int), ()), ())
  | .inr z5_ =>
    match z5_ with
    | .inl x7 =>
      some ((x7.1.1, ()), ())
    | .inr z5__ =>
      none
abbrev C_impl_firstOf : Con := ⟨P_impl_firstOf, R_impl_firstOf, F_impl_firstOf, false⟩
abbrev G_impl_firstOf : Env := []
theorem g_impl_firstOf : EnvOk Try.prog G_impl_firstOf := env_nil
abbrev c_impl_firstOf_2 : Cut := ⟨i_impl_firstOf_2, o_impl_firstOf_2, fun x => iterF l_impl_firstOf_2 lots x⟩
theorem t_impl_firstOf_2 (rec x) : run T G_impl_firstOf [] (nav Try.f76 [1, 0, 1, 0, 0]) (mk 15 i_impl_firstOf_2 x) (loopK i_impl_firstOf_2 o_impl_firstOf_2 rec) = l_impl_firstOf_2 rec x := by kernel_rfl
theorem k_impl_firstOf_2 : CutOk Try.prog 15 (.loop (nav Try.f76 [1, 0, 1, 0, 0])) c_impl_firstOf_2 :=
  loop_cut (L := []) hT g_impl_firstOf t_impl_firstOf_2 (plain_ok (by kernel_rfl)) _
theorem r_impl_firstOf (x) : runFn T G_impl_firstOf [(2, c_impl_firstOf_2)] Try.f76 P_impl_firstOf R_impl_firstOf x = F_impl_firstOf x := by kernel_rfl
theorem s_impl_firstOf : CallsOk Try.prog 76 C_impl_firstOf :=
  fn_calls (L := [(2, c_impl_firstOf_2)]) hT g_impl_firstOf Try.f76 (by kernel_rfl) (by kernel_rfl) (by kernel_rfl) (seq_ok (plain_ok (by kernel_rfl)) (seq_ok (seq_ok (plain_ok (by kernel_rfl)) (block_ok (by kernel_rfl) (loop_ok (by kernel_rfl) k_impl_firstOf_2))) (plain_ok (by kernel_rfl)))) r_impl_firstOf
/-! slices.Clone[int64,int64] -/
abbrev P_slices_Clone_int64 : List PK := [.val Y22]
abbrev R_slices_Clone_int64 : List VK := [.s (.own 2 YI)]
def F_slices_Clone_int64 (x : denP P_slices_Clone_int64) : Option (denV R_slices_Clone_int64 × denQ P_slices_Clone_int64) :=
  if (([] : List (den YI)).length + x.1.length) * 8 ≤ 140737488355328 then some (([] ++ x.1, ()), ()) else none
abbrev C_slices_Clone_int64 : Con := ⟨P_slices_Clone_int64, R_slices_Clone_int64, F_slices_Clone_int64, false⟩
theorem s_slices_Clone_int64 : CallsOk Try.prog 130 C_slices_Clone_int64 :=
  nil_first hT (fn := Try.f130) (cn := C_slices_Clone_int64) (c0 := nav Try.f130 [0]) (ca := nav Try.f130 [1, 0, 1, 0]) (cb := nav Try.f130 [1, 1]) (id := 1) (d := 4) (nm := 1032000) (o1 := navOp Try.f130 [1, 0, 0] 0) (o2 := navOp Try.f130 [1, 0, 0] 1)
    (t := 22) (t' := 22) (x := .tmp 3) (r := ⟨Y22, [], 2, 24⟩) (u := YI) (by kernel_rfl) (by kernel_rfl) (by kernel_rfl) ⟨by kernel_rfl, by kernel_rfl⟩ (fun y => by kernel_rfl) (by kernel_rfl) (by kernel_rfl) (by kernel_rfl) (by kernel_rfl) (by kernel_rfl) rfl
    (fun y => (st0 Try.f130 P_slices_Clone_int64 y).set 2 (.s .nls)) (fun y => ((st0 Try.f130 P_slices_Clone_int64 y).set 2 (.s .nls)).set 3 (.s (.d (.slice YI) y.1))) (fun y => y.1)
    (fun y => by kernel_rfl) (fun y => by kernel_rfl) (fun y => by kernel_rfl) (fun y => Nat.le_of_ble_eq_true (by kernel_rfl)) (fun y => by kernel_rfl) (by kernel_rfl) (by kernel_rfl) (by kernel_rfl) (fun y => by kernel_rfl)
    (fun y h => by obtain ⟨l, v⟩ := y; have h : l = [] := h; subst h; show run _ _ _ _ _ _ = F_slices_Clone_int64 ([], v); kernel_rfl) (fun y => by kernel_rfl)
/-! impl.pageOf -/
abbrev P_impl_pageOf : List PK := [.val Y22, .val YI]
abbrev R_impl_pageOf : List VK := [.s (.own 2 YI)]
def F_impl_pageOf (x : denP P_impl_pageOf) : Option (denV R_impl_pageOf × denQ P_impl_pageOf) :=
  let v1 := (IntKind.i64.wrap (x.2.1 * (8 : Int)))
  let v2 := (IntKind.i64.wrap (x.2.1 + (1 : Int)))
  let v3 := (IntKind.i64.wrap (v2 * (8 : Int)))
  if 0 ≤ v1 ∧ v1 ≤ v3 ∧ v3 ≤ ((x.1.length : Nat) : Int) then
    let v4 := ((x.1.drop (v1).toNat).take ((v3).toNat - (v1).toNat))
    (F_slices_Clone_int64 (v4, ())).bind fun r5 =>
    some ((r5.1.1, ()), ())
  else none
abbrev C_impl_pageOf : Con := ⟨P_impl_pageOf, R_impl_pageOf, F_impl_pageOf, false⟩
abbrev G_impl_pageOf : Env := [(130, C_slices_Clone_int64)]
theorem g_impl_pageOf : EnvOk Try.prog G_impl_pageOf := (env_cons s_slices_Clone_int64 env_nil)
theorem r_impl_pageOf (x) : runFn T G_impl_pageOf [] Try.f77 P_impl_pageOf R_impl_pageOf x = F_impl_pageOf x := by kernel_rfl
theorem s_impl_pageOf : CallsOk Try.prog 77 C_impl_pageOf :=
  fn_calls (L := []) hT g_impl_pageOf Try.f77 (by kernel_rfl) (by kernel_rfl) (by kernel_rfl) (plain_ok (by kernel_rfl)) r_impl_pageOf
/-! impl.ChangedPages -/
abbrev P_impl_ChangedPages : List PK := [.val Y22, .val Y22]
abbrev R_impl_ChangedPages : List VK := [.g [.dat YI, .own 2 YI]]
abbrev i_impl_ChangedPages_8 : Shp := { slots := [(0, .s (.dat Y22)), (1, .s (.dat Y22)), (4, .s (.ptr 4 0)), (6, .s (.own 2 YI)), (27, .s (.dat YI)), (28, .s (.dat YI))], boxes := [(4, [.dat YI, .own 2 YI])], rows := [] }
abbrev o_impl_ChangedPages_8 : List (Ex × Shp) := [(.exit 0, { slots := [(4, .s (.ptr 4 0)), (6, .s (.own 2 YI))], boxes := [(4, [.dat YI, .own 2 YI])], rows := [] })]
def l_impl_ChangedPages_8 (rec : i_impl_ChangedPages_8.den → Option (denO o_impl_ChangedPages_8)) (u8 : i_impl_ChangedPages_8.den) : Option (denO o_impl_ChangedPages_8) :=
  if (ltI u8.1.2.2.2.2.2.1 u8.1.2.2.2.2.1) then
    (F_impl_pageOf (u8.1.1, u8.1.2.2.2.2.2.1, ())).bind fun r11 =>
    (F_impl_pageOf (u8.1.2.1, u8.1.2.2.2.2.2.1, ())).bind fun r12 =>
    (F_slices_Equal_int64 (r11.1.1, r12.1.1, ())).bind fun r13 =>
    if (!r13.1.1) then
      if (u8.1.2.2.2.1.length + [u8.1.2.2.2.2.2.1].length) * 8 ≤ 140737488355328 then
        let v14 := (u8.1.2.2.2.1 ++ [u8.1.2.2.2.2.2.1])
        let v15 := (IntKind.i64.wrap (u8.1.2.2.2.2.2.1 + (1 : Int)))
        rec ((u8.1.1, (u8.1.2.1, ((), (v14, (u8.1.2.2.2.2.1, (v15, ())))))), (((u8.2.1.1.1, (u8.2.1.1.2.1, ())), ()), ()))
      else none
    else
      let v16 := (IntKind.i64.wrap (u8.1.2.2.2.2.2.1 + (1 : Int)))
      rec ((u8.1.1, (u8.1.2.1, ((), (u8.1.2.2.2.1, (u8.1.2.2.2.2.1, (v16, ())))))), (((u8.2.1.1.1, (u8.2.1.1.2.1, ())), ()), ()))
  else
    some (.inl (((), (u8.1.2.2.2.1, ())), (((u8.2.1.1.1, (u8.2.1.1.2.1, ())), ()), ())))
def L_impl_ChangedPages_8 (x : i_impl_ChangedPages_8.den) : Option (denO o_impl_ChangedPages_8) := iterF l_impl_ChangedPages_8 lots x
def F_impl_ChangedPages (x : denP P_impl_ChangedPages) : Option (denV R_impl_ChangedPages × denQ P_impl_ChangedPages) :=
  (F_impl_MemoryFault (x.1, ())).bind fun r1 =>
  (F_impl_MemoryFault (x.2.1, ())).bind fun r2 =>
  (F_impl_firstOf ([r1.1.1, r2.1.1], ())).bind fun r3 =>
  if (r3.1.1 != (0 : Int)) then
    some (((r3.1.1, (([] : List (den YI)), ())), ()), ())
  else
    let v4 := ((x.1.length : Nat) : Int)
    let v5 := ((x.2.1.length : Nat) : Int)
    if (v4 != v5) then
      some ((((1 : Int), (([] : List (den YI)), ())), ()), ())
    else
      let v6 := ((x.1.length : Nat) : Int)
      let v7 := (IntKind.i64.wrap ((v6).tdiv (8 : Int)))
      (L_impl_ChangedPages_8 ((x.1, (x.2.1, ((), (([] : List (den YI)), (v7, ((0 : Int), ())))))), ((((0 : Int), (([] : List (den YI)), ())), ()), ()))).bind fun z17 =>
      match z17 with
      | .inl x18 =>
        some ((((0 : Int), (x18.1.2.1, ())), ()), ())
      | .inr z17_ =>
        none
abbrev C_impl_ChangedPages : Con := ⟨P_impl_ChangedPages, R_impl_ChangedPages, F_impl_ChangedPages, false⟩
abbrev G_impl_ChangedPages : Env := [(59, C_impl_MemoryFault), (73, C_slices_Equal_int64), (76, C_impl_firstOf), (77, C_impl_pageOf)]
theorem g_impl_ChangedPages : EnvOk Try.prog G_impl_ChangedPages := (env_cons s_impl_MemoryFault (env_cons s_slices_Equal_int64 (env_cons s_impl_firstOf (env_cons s_impl_pageOf env_nil))))
abbrev c_impl_ChangedPages_8 : Cut := ⟨i_impl_ChangedPages_8, o_impl_ChangedPages_8, fun x => iterF l_impl_ChangedPages_8 lots x⟩
theorem t_impl_ChangedPages_8 (rec x) : run T G_impl_ChangedPages [] (nav Try.f31 [1, 1, 1, 1, 0, 1, 0, 0]) (mk 46 i_impl_ChangedPages_8 x) (loopK i_impl_ChangedPages_8 o_impl_ChangedPages_8 rec) = l_impl_ChangedPages_8 rec x := by kernel_rfl
theorem k_impl_ChangedPages_8 : CutOk Try.prog 46 (.loop (nav Try.f31 [1, 1, 1, 1, 0, 1, 0, 0])) c_impl_ChangedPages_8 :=
  loop_cut (L := []) hT g_impl_ChangedPages t_impl_ChangedPages_8 (plain_ok (by kernel_rfl)) _
theorem r_impl_ChangedPages (x) : runFn T G_impl_ChangedPages [(8, c_impl_ChangedPages_8)] Try.f31 P_impl_ChangedPages R_impl_ChangedPages x = F_impl_ChangedPages x := by kernel_rfl
theorem s_impl_ChangedPages : CallsOk Try.prog 31 C_impl_ChangedPages :=
  fn_calls (L := [(8, c_impl_ChangedPages_8)]) hT g_impl_ChangedPages Try.f31 (by kernel_rfl) (by kernel_rfl) (by kernel_rfl) (seq_ok (plain_ok (by kernel_rfl)) (seq_ok (plain_ok (by kernel_rfl)) (seq_ok (plain_ok (by kernel_rfl)) (seq_ok (plain_ok (by kernel_rfl)) (seq_ok (seq_ok (plain_ok (by kernel_rfl)) (block_ok (by kernel_rfl) (loop_ok (by kernel_rfl) k_impl_ChangedPages_8))) (plain_ok (by kernel_rfl))))))) r_impl_ChangedPages
/-! laws.eqIntsResult -/
abbrev P_laws_eqIntsResult : List PK := [.val Y48, .val Y48]
abbrev R_laws_eqIntsResult : List VK := [.s (.dat .bool)]
def F_laws_eqIntsResult (x : denP P_laws_eqIntsResult) : Option (denV R_laws_eqIntsResult × denQ P_laws_eqIntsResult) :=
  if (x.1.1 != x.2.1.1) then
    some ((false, ()), ())
  else
    (F_laws_eqInt64S (x.1.2.1, x.2.1.2.1, ())).bind fun r1 =>
    if (!r1.1.1) then
      some ((false, ()), ())
    else
      some ((true, ()), ())
abbrev C_laws_eqIntsResult : Con := ⟨P_laws_eqIntsResult, R_laws_eqIntsResult, F_laws_eqIntsResult, false⟩
abbrev G_laws_eqIntsResult : Env := [(18, C_laws_eqInt64S)]
theorem g_laws_eqIntsResult : EnvOk Try.prog G_laws_eqIntsResult := (env_cons s_laws_eqInt64S env_nil)
theorem r_laws_eqIntsResult (x) : runFn T G_laws_eqIntsResult [] Try.f32 P_laws_eqIntsResult R_laws_eqIntsResult x = F_laws_eqIntsResult x := by kernel_rfl
theorem s_laws_eqIntsResult : CallsOk Try.prog 32 C_laws_eqIntsResult :=
  fn_calls (L := []) hT g_laws_eqIntsResult Try.f32 (by kernel_rfl) (by kernel_rfl) (by kernel_rfl) (plain_ok (by kernel_rfl)) r_laws_eqIntsResult
/-! laws.markInt64S -/
abbrev P_laws_markInt64S : List PK := [.row 2 YI, .val YI]
abbrev R_laws_markInt64S : List VK := [.s (.dat YI)]
abbrev i_laws_markInt64S_2 : Shp := { slots := [(0, .s (.ref 9000100)), (1, .s (.dat YI)), (5, .s (.dat YI))], boxes := [], rows := [(9000100, 2, YI)] }
abbrev o_laws_markInt64S_2 : List (Ex × Shp) := [(.exit 0, { slots := [(1, .s (.dat YI))], boxes := [], rows := [(9000100, 2, YI)] })]
def l_laws_markInt64S_2 (rec : i_laws_markInt64S_2.den → Option (denO o_laws_markInt64S_2)) (u2 : i_laws_markInt64S_2.den) : Option (denO o_laws_markInt64S_2) :=
  let v2 := ((u2.2.2.1.length : Nat) : Int)
  if (ltI u2.1.2.2.1 v2) then
    if 0 ≤ u2.1.2.2.1 ∧ u2.1.2.2.1 < ((u2.2.2.1.length : Nat) : Int) then
      ((u2.2.2.1)[(u2.1.2.2.1).toNat]?).bind fun y3 =>
      let v4 := (u2.2.2.1.set (u2.1.2.2.1).toNat u2.1.2.1)
      let v5 := (IntKind.i64.wrap (u2.1.2.1 + (1 : Int)))
      let v6 := (IntKind.i64.wrap (u2.1.2.2.1 + (1 : Int)))
      rec (((), (v5, (v6, ()))), ((), (v4, ())))
    else none
  else
    some (.inl ((u2.1.2.1, ()), ((), (u2.2.2.1, ()))))
def L_laws_markInt64S_2 (x : i_laws_markInt64S_2.den) : Option (denO o_laws_markInt64S_2) := iterF l_laws_markInt64S_2 lots x
def F_laws_markInt64S (x : denP P_laws_markInt64S) : Option (denV R_laws_markInt64S × denQ P_laws_markInt64S) :=
  (L_laws_markInt64S_2 (((), (x.2.1, ((0 : Int), ()))), ((), (x.1, ())))).bind fun z7 =>
  match z7 with
  | .inl x8 =>
    if (x.1.length == x8.2.2.1.length && true) = true then
      some ((x8.1.1, ()), (x8.2.2.1, ()))
    else none
  | .inr z7_ =>
    none
abbrev C_laws_markInt64S : Con := ⟨P_laws_markInt64S, R_laws_markInt64S, F_laws_markInt64S, false⟩
abbrev G_laws_markInt64S : Env := []
theorem g_laws_markInt64S : EnvOk Try.prog G_laws_markInt64S := env_nil
abbrev c_laws_markInt64S_2 : Cut := ⟨i_laws_markInt64S_2, o_laws_markInt64S_2, fun x => iterF l_laws_markInt64S_2 lots x⟩
theorem t_laws_markInt64S_2 (rec x) : run T G_laws_markInt64S [] (nav Try.f22 [1, 0, 1, 0, 0]) (mk 19 i_laws_markInt64S_2 x) (loopK i_laws_markInt64S_2 o_laws_markInt64S_2 rec) = l_laws_markInt64S_2 rec x := by kernel_rfl
theorem k_laws_markInt64S_2 : CutOk Try.prog 19 (.loop (nav Try.f22 [1, 0, 1, 0, 0])) c_laws_markInt64S_2 :=
  loop_cut (L := []) hT g_laws_markInt64S t_laws_markInt64S_2 (plain_ok (by kernel_rfl)) _
theorem r_laws_markInt64S (x) : runFn T G_laws_markInt64S [(2, c_laws_markInt64S_2)] Try.f22 P_laws_markInt64S R_laws_markInt64S x = F_laws_markInt64S x := by kernel_rfl
theorem s_laws_markInt64S : CallsOk Try.prog 22 C_laws_markInt64S :=
  fn_calls (L := [(2, c_laws_markInt64S_2)]) hT g_laws_markInt64S Try.f22 (by kernel_rfl) (by kernel_rfl) (by kernel_rfl) (seq_ok (plain_ok (by kernel_rfl)) (seq_ok (seq_ok (plain_ok (by kernel_rfl)) (block_ok (by kernel_rfl) (loop_ok (by kernel_rfl) k_laws_markInt64S_2))) (plain_ok (by kernel_rfl)))) r_laws_markInt64S
/-! laws.markIntsResult -/
abbrev P_laws_markIntsResult : List PK := [.agg [.dat YI, .own 2 YI], .val YI]
abbrev R_laws_markIntsResult : List VK := [.s (.dat YI)]
def F_laws_markIntsResult (x : denP P_laws_markIntsResult) : Option (denV R_laws_markIntsResult × denQ P_laws_markIntsResult) :=
  (F_laws_markInt64S (x.1.2.1, x.2.1, ())).bind fun r1 =>
  if ((x.1.2.1.length == r1.2.1.length && true) && true) = true then
    if ((x.1.2.1.length == r1.2.1.length && true) && true) = true then
      some ((r1.1.1, ()), ((r1.2.1, ()), ()))
    else none
  else none
abbrev C_laws_markIntsResult : Con := ⟨P_laws_markIntsResult, R_laws_markIntsResult, F_laws_markIntsResult, false⟩
abbrev G_laws_markIntsResult : Env := [(22, C_laws_markInt64S)]
theorem g_laws_markIntsResult : EnvOk Try.prog G_laws_markIntsResult := (env_cons s_laws_markInt64S env_nil)
theorem r_laws_markIntsResult (x) : runFn T G_laws_markIntsResult [] Try.f33 P_laws_markIntsResult R_laws_markIntsResult x = F_laws_markIntsResult x := by kernel_rfl
theorem s_laws_markIntsResult : CallsOk Try.prog 33 C_laws_markIntsResult :=
  fn_calls (L := []) hT g_laws_markIntsResult Try.f33 (by kernel_rfl) (by kernel_rfl) (by kernel_rfl) (plain_ok (by kernel_rfl)) r_laws_markIntsResult
/-! laws.heldInt64S -/
abbrev P_laws_heldInt64S : List PK := [.val Y22, .val YI]
abbrev R_laws_heldInt64S : List VK := [.s (.dat YI)]
abbrev i_laws_heldInt64S_2 : Shp := { slots := [(0, .s (.dat Y22)), (1, .s (.dat YI)), (5, .s (.dat YI))], boxes := [], rows := [] }
abbrev o_laws_heldInt64S_2 : List (Ex × Shp) := [(.exit 0, { slots := [(1, .s (.dat YI))], boxes := [], rows := [] }), (.ret, { slots := [(4, .s (.dat YI))], boxes := [], rows := [] })]
def l_laws_heldInt64S_2 (rec : i_laws_heldInt64S_2.den → Option (denO o_laws_heldInt64S_2)) (u2 : i_laws_heldInt64S_2.den) : Option (denO o_laws_heldInt64S_2) :=
  let v2 := ((u2.1.1.length : Nat) : Int)
  if (ltI u2.1.2.2.1 v2) then
    if 0 ≤ u2.1.2.2.1 then
      ((u2.1.1)[(u2.1.2.2.1).toNat]?).bind fun y3 =>
      if (y3 != u2.1.2.1) then
        some (.inr (.inl (((-1 : Int), ()), ((), ()))))
      else
        let v4 := (IntKind.i64.wrap (u2.1.2.1 + (1 : Int)))
        let v5 := (IntKind.i64.wrap (u2.1.2.2.1 + (1 : Int)))
        rec ((u2.1.1, (v4, (v5, ()))), ((), ()))
    else none
  else
    some (.inl ((u2.1.2.1, ()), ((), ())))
def L_laws_heldInt64S_2 (x : i_laws_heldInt64S_2.den) : Option (denO o_laws_heldInt64S_2) := iterF l_laws_heldInt64S_2 lots x
def F_laws_heldInt64S (x : denP P_laws_heldInt64S) : Option (denV R_laws_heldInt64S × denQ P_laws_heldInt64S) :=
  (L_laws_heldInt64S_2 ((x.1, (x.2.1, ((0 : Int), ()))), ((), ()))).bind fun z6 =>
  match z6 with
  | .inl x7 =>
    some ((x7.1.1, ()), ())
  | .inr z6_ =>
    match z6_ with
    | .inl x8 =>
      some ((x8.1.1, ()), ())
    | .inr z6__ =>
      none
abbrev C_laws_heldInt64S : Con := ⟨P_laws_heldInt64S, R_laws_heldInt64S, F_laws_heldInt64S, false⟩
abbrev G_laws_heldInt64S : Env := []
theorem g_laws_heldInt64S : EnvOk Try.prog G_laws_heldInt64S := env_nil
abbrev c_laws_heldInt64S_2 : Cut := ⟨i_laws_heldInt64S_2, o_laws_heldInt64S_2, fun x => iterF l_laws_heldInt64S_2 lots x⟩
theorem t_laws_heldInt64S_2 (rec x) : run T G_laws_heldInt64S [] (nav Try.f66 [1, 0, 1, 0, 0]) (mk 21 i_laws_heldInt64S_2 x) (loopK i_laws_heldInt64S_2 o_laws_heldInt64S_2 rec) = l_laws_heldInt64S_2 rec x := by kernel_rfl
theorem k_laws_heldInt64S_2 : CutOk Try.prog 21 (.loop (nav Try.f66 [1, 0, 1, 0, 0])) c_laws_heldInt64S_2 :=
  loop_cut (L := []) hT g_laws_heldInt64S t_laws_heldInt64S_2 (plain_ok (by kernel_rfl)) _
theorem r_laws_heldInt64S (x) : runFn T G_laws_heldInt64S [(2, c_laws_heldInt64S_2)] Try.f66 P_laws_heldInt64S R_laws_heldInt64S x = F_laws_heldInt64S x := by kernel_rfl
theorem s_laws_heldInt64S : CallsOk Try.prog 66 C_laws_heldInt64S :=
  fn_calls (L := [(2, c_laws_heldInt64S_2)]) hT g_laws_heldInt64S Try.f66 (by kernel_rfl) (by kernel_rfl) (by kernel_rfl) (seq_ok (plain_ok (by kernel_rfl)) (seq_ok (seq_ok (plain_ok (by kernel_rfl)) (block_ok (by kernel_rfl) (loop_ok (by kernel_rfl) k_laws_heldInt64S_2))) (plain_ok (by kernel_rfl)))) r_laws_heldInt64S
/-! laws.heldIntsResult -/
abbrev P_laws_heldIntsResult : List PK := [.val Y48, .val YI]
abbrev R_laws_heldIntsResult : List VK := [.s (.dat YI)]
def F_laws_heldIntsResult (x : denP P_laws_heldIntsResult) : Option (denV R_laws_heldIntsResult × denQ P_laws_heldIntsResult) :=
  (F_laws_heldInt64S (x.1.2.1, x.2.1, ())).bind fun r1 =>
  if (ltI r1.1.1 (0 : Int)) then
    some (((-1 : Int), ()), ())
  else
    some ((r1.1.1, ()), ())
abbrev C_laws_heldIntsResult : Con := ⟨P_laws_heldIntsResult, R_laws_heldIntsResult, F_laws_heldIntsResult, false⟩
abbrev G_laws_heldIntsResult : Env := [(66, C_laws_heldInt64S)]
theorem g_laws_heldIntsResult : EnvOk Try.prog G_laws_heldIntsResult := (env_cons s_laws_heldInt64S env_nil)
theorem r_laws_heldIntsResult (x) : runFn T G_laws_heldIntsResult [] Try.f34 P_laws_heldIntsResult R_laws_heldIntsResult x = F_laws_heldIntsResult x := by kernel_rfl
theorem s_laws_heldIntsResult : CallsOk Try.prog 34 C_laws_heldIntsResult :=
  fn_calls (L := []) hT g_laws_heldIntsResult Try.f34 (by kernel_rfl) (by kernel_rfl) (by kernel_rfl) (plain_ok (by kernel_rfl)) r_laws_heldIntsResult
/-! laws.FnExactChangedPages -/
abbrev P_laws_FnExactChangedPages : List PK := [.val Y22, .val Y22]
abbrev R_laws_FnExactChangedPages : List VK := [.s (.dat .bool)]
def F_laws_FnExactChangedPages (x : denP P_laws_FnExactChangedPages) : Option (denV R_laws_FnExactChangedPages × denQ P_laws_FnExactChangedPages) :=
  let v1 := ((x.1.length : Nat) : Int)
  if (ltI (1048576 : Int) v1) then
    some ((true, ()), ())
  else
    let v2 := ((x.2.1.length : Nat) : Int)
    if (ltI (1048576 : Int) v2) then
      some ((true, ()), ())
    else
      (F_laws_toInt64S (x.1, ())).bind fun r3 =>
      (F_laws_toInt64S (x.2.1, ())).bind fun r4 =>
      (F_spec_ChangedPages (r3.1.1, r4.1.1, ())).bind fun r5 =>
      (F_laws_toInt64S (x.1, ())).bind fun r6 =>
      (F_laws_toInt64S (x.2.1, ())).bind fun r7 =>
      (F_impl_ChangedPages (r6.1.1, r7.1.1, ())).bind fun r8 =>
      (F_laws_eqIntsResult ((r8.1.1.1, (r8.1.1.2.1, ())), r5.1.1, ())).bind fun r9 =>
      if (!r9.1.1) then
        some ((false, ()), ())
      else
        (F_laws_toInt64S (x.1, ())).bind fun r10 =>
        (F_laws_eqInt64S (r6.1.1, r10.1.1, ())).bind fun r11 =>
        if (!r11.1.1) then
          some ((false, ()), ())
        else
          (F_laws_toInt64S (x.2.1, ())).bind fun r12 =>
          (F_laws_eqInt64S (r7.1.1, r12.1.1, ())).bind fun r13 =>
          if (!r13.1.1) then
            some ((false, ()), ())
          else
            (F_laws_markInt64S (r6.1.1, (1 : Int), ())).bind fun r14 =>
            if ((r6.1.1.length == r14.2.1.length && true) && true) = true then
              (F_laws_markInt64S (r7.1.1, r14.1.1, ())).bind fun r15 =>
              if ((r7.1.1.length == r15.2.1.length && true) && true) = true then
                if (ltI r15.1.1 (0 : Int)) = false then
                  (F_laws_eqIntsResult ((r8.1.1.1, (r8.1.1.2.1, ())), r5.1.1, ())).bind fun r16 =>
                  if (!r16.1.1) then
                    some ((false, ()), ())
                  else
                    (F_laws_markIntsResult ((r8.1.1.1, (r8.1.1.2.1, ())), (1 : Int), ())).bind fun r17 =>
                    if (((r8.1.1.2.1.length == r17.2.1.1.length && true) && true) && true) = true then
                      (F_laws_heldIntsResult ((r8.1.1.1, (r17.2.1.1, ())), (1 : Int), ())).bind fun r18 =>
                      if (ltI r18.1.1 (0 : Int)) then
                        some ((false, ()), ())
                      else
                        if (r18.1.1 != r17.1.1) then
                          some ((false, ()), ())
                        else
                          (F_laws_toInt64S (x.1, ())).bind fun r19 =>
                          (F_laws_toInt64S (x.2.1, ())).bind fun r20 =>
                          (F_impl_ChangedPages (r19.1.1, r20.1.1, ())).bind fun r21 =>
                          (F_laws_eqIntsResult ((r21.1.1.1, (r21.1.1.2.1, ())), r5.1.1, ())).bind fun r22 =>
                          if (!r22.1.1) then
                            some ((false, ()), ())
                          else
                            (F_laws_heldIntsResult ((r8.1.1.1, (r17.2.1.1, ())), (1 : Int), ())).bind fun r23 =>
                            if (ltI r23.1.1 (0 : Int)) then
                              some ((false, ()), ())
                            else
                              if (r23.1.1 != r17.1.1) then
                                some ((false, ()), ())
                              else
                                some ((true, ()), ())
                    else none
                else
                  some ((false, ()), ())
              else none
            else none
abbrev C_laws_FnExactChangedPages : Con := ⟨P_laws_FnExactChangedPages, R_laws_FnExactChangedPages, F_laws_FnExactChangedPages, false⟩
abbrev G_laws_FnExactChangedPages : Env := [(15, C_laws_toInt64S), (18, C_laws_eqInt64S), (22, C_laws_markInt64S), (30, C_spec_ChangedPages), (31, C_impl_ChangedPages), (32, C_laws_eqIntsResult), (33, C_laws_markIntsResult), (34, C_laws_heldIntsResult)]
theorem g_laws_FnExactChangedPages : EnvOk Try.prog G_laws_FnExactChangedPages := (env_cons s_laws_toInt64S (env_cons s_laws_eqInt64S (env_cons s_laws_markInt64S (env_cons s_spec_ChangedPages (env_cons s_impl_ChangedPages (env_cons s_laws_eqIntsResult (env_cons s_laws_markIntsResult (env_cons s_laws_heldIntsResult env_nil))))))))
theorem r_laws_FnExactChangedPages (x) : runFn T G_laws_FnExactChangedPages [] Try.f6 P_laws_FnExactChangedPages R_laws_FnExactChangedPages x = F_laws_FnExactChangedPages x := by kernel_rfl
theorem s_laws_FnExactChangedPages : CallsOk Try.prog 6 C_laws_FnExactChangedPages :=
  fn_calls (L := []) hT g_laws_FnExactChangedPages Try.f6 (by kernel_rfl) (by kernel_rfl) (by kernel_rfl) (plain_ok (by kernel_rfl)) r_laws_FnExactChangedPages
theorem q_laws_FnExactChangedPages : Sound Try.prog 6 C_laws_FnExactChangedPages :=
  fn_snd (L := []) hT g_laws_FnExactChangedPages Try.f6 (by kernel_rfl) (by kernel_rfl) (plain_ok (by kernel_rfl)) r_laws_FnExactChangedPages
end Go.Proofs.Yteddlkdbefloaaa
