/- The functions of the laws, each as a plain function of data (F), and that the program's text does what F says. Printed by a program (wip/tools/gen.py). -/
import Derived.Test.YtkbcjonmodmfcaaGreatDoorGa2
namespace Go.Proofs.YtkbcjonmodmfcaaGreatDoor
open Go Go.RowKit S Go.Proofs
set_option maxRecDepth 100000
set_option linter.unusedVariables false
/-! laws.markStepResult -/
abbrev P_laws_markStepResult : List PK := [.agg [.dat YI, .dat YI, .dat YI, .own 2 YI, .dat YI, .own 2 YI, .dat .bool, .dat .bool, .dat .bool, .dat YI, .own 2 YI, .own 2 YI, .own 2 YI], .val YI]
abbrev R_laws_markStepResult : List VK := [.s (.dat YI)]
def F_laws_markStepResult (x : denP P_laws_markStepResult) : Option (denV R_laws_markStepResult × denQ P_laws_markStepResult) :=
  (F_laws_markHart ((x.1.2.2.2.1, (x.1.2.2.2.2.1, (x.1.2.2.2.2.2.1, (x.1.2.2.2.2.2.2.1, (x.1.2.2.2.2.2.2.2.1, (x.1.2.2.2.2.2.2.2.2.1, (x.1.2.2.2.2.2.2.2.2.2.1, (x.1.2.2.2.2.2.2.2.2.2.2.1, (x.1.2.2.2.2.2.2.2.2.2.2.2.1, ()))))))))), x.2.1, ())).bind fun r1 =>
  if (((x.1.2.2.2.1.length == r1.2.1.1.length && (x.1.2.2.2.2.2.1.length == r1.2.1.2.1.length && (x.1.2.2.2.2.2.2.2.2.2.2.1.length == r1.2.1.2.2.1.length && (x.1.2.2.2.2.2.2.2.2.2.2.2.1.length == r1.2.1.2.2.2.1.length && true)))) && true) && true) = true then
    (F_laws_markInt64S (x.1.2.2.2.2.2.2.2.2.2.2.2.2.1, r1.1.1, ())).bind fun r2 =>
    if ((x.1.2.2.2.2.2.2.2.2.2.2.2.2.1.length == r2.2.1.length && true) && true) = true then
      if ((x.1.2.2.2.1.length == r1.2.1.1.length && (x.1.2.2.2.2.2.1.length == r1.2.1.2.1.length && (x.1.2.2.2.2.2.2.2.2.2.2.1.length == r1.2.1.2.2.1.length && (x.1.2.2.2.2.2.2.2.2.2.2.2.1.length == r1.2.1.2.2.2.1.length && (x.1.2.2.2.2.2.2.2.2.2.2.2.2.1.length == r2.2.1.length && true))))) && true) = true then
        some ((r2.1.1, ()), ((r1.2.1.1, (r1.2.1.2.1, (r1.2.1.2.2.1, (r1.2.1.2.2.2.1, (r2.2.1, ()))))), ()))
      else none
    else none
  else none
abbrev C_laws_markStepResult : Con := ⟨P_laws_markStepResult, R_laws_markStepResult, F_laws_markStepResult, false⟩
abbrev G_laws_markStepResult : Env := [(21, C_laws_markHart), (23, C_laws_markInt64S)]
theorem g_laws_markStepResult : EnvOk Tryz.prog G_laws_markStepResult := (env_cons s_laws_markHart (env_cons s_laws_markInt64S env_nil))
theorem r_laws_markStepResult (x) : runFn T G_laws_markStepResult [] Tryz.f24 P_laws_markStepResult R_laws_markStepResult x = F_laws_markStepResult x := by kernel_rfl
theorem s_laws_markStepResult : CallsOk Tryz.prog 24 C_laws_markStepResult :=
  fn_calls (L := []) hT g_laws_markStepResult Tryz.f24 (by kernel_rfl) (by kernel_rfl) (by kernel_rfl) (plain_ok (by kernel_rfl)) r_laws_markStepResult
/-! laws.heldInt64S -/
abbrev P_laws_heldInt64S : List PK := [.val Y22, .val YI]
abbrev R_laws_heldInt64S : List VK := [.s (.dat YI)]
abbrev i_laws_heldInt64S_2 : Shp := { slots := [(0, .s (.dat Y22)), (1, .s (.dat YI)), (5, .s (.dat YI))], boxes := [], rows := [] }
abbrev o_laws_heldInt64S_2 : List (Ex × Shp) := [(.exit 0, { slots := [(1, .s (.dat YI))], boxes := [], rows := [] }), (.ret, { slots := [(4, .s (.dat YI))], boxes := [], rows := [] })]
def l_laws_heldInt64S_2 (rec : i_laws_heldInt64S_2.den → Option (denO o_laws_heldInt64S_2)) (u2 : i_laws_heldInt64S_2.den) : Option (denO o_laws_heldInt64S_2) :=
  let v2 := ((u2.1.1.length : Nat) : Int)
  if (ltI u2.1.2.2.1 v2) then
    if 0 ≤ u2.1.2.2.1 then
      ((u2.1.1)[(u2.1.2.2.1).toNat]?).bind fun y3 =>
      if (y3 != u2.1.2.1) then
        some (.inr (.inl (((-1 : Int), ()), ((), ()))))
      else
        let v4 := (IntKind.i64.wrap (u2.1.2.1 + (1 : Int)))
        let v5 := (IntKind.i64.wrap (u2.1.2.2.1 + (1 : Int)))
        rec ((u2.1.1, (v4, (v5, ()))), ((), ()))
    else none
  else
    some (.inl ((u2.1.2.1, ()), ((), ())))
def L_laws_heldInt64S_2 (x : i_laws_heldInt64S_2.den) : Option (denO o_laws_heldInt64S_2) := iterF l_laws_heldInt64S_2 lots x
def F_laws_heldInt64S (x : denP P_laws_heldInt64S) : Option (denV R_laws_heldInt64S × denQ P_laws_heldInt64S) :=
  (L_laws_heldInt64S_2 ((x.1, (x.2.1, ((0 : Int), ()))), ((), ()))).bind fun z6 =>
  match z6 with
  | .inl x7 =>
    some ((x7.1.1, ()), ())
  | .inr z6_ =>
    match z6_ with
    | .inl x8 =>
      some ((x8.1.1, ()), ())
    | .inr z6__ =>
      none
abbrev C_laws_heldInt64S : Con := ⟨P_laws_heldInt64S, R_laws_heldInt64S, F_laws_heldInt64S, false⟩
abbrev G_laws_heldInt64S : Env := []
theorem g_laws_heldInt64S : EnvOk Tryz.prog G_laws_heldInt64S := env_nil
abbrev c_laws_heldInt64S_2 : Cut := ⟨i_laws_heldInt64S_2, o_laws_heldInt64S_2, fun x => iterF l_laws_heldInt64S_2 lots x⟩
theorem t_laws_heldInt64S_2 (rec x) : run T G_laws_heldInt64S [] (nav Tryz.f64 [1, 0, 1, 0, 0]) (mk 21 i_laws_heldInt64S_2 x) (loopK i_laws_heldInt64S_2 o_laws_heldInt64S_2 rec) = l_laws_heldInt64S_2 rec x := by kernel_rfl
theorem k_laws_heldInt64S_2 : CutOk Tryz.prog 21 (.loop (nav Tryz.f64 [1, 0, 1, 0, 0])) c_laws_heldInt64S_2 :=
  loop_cut (L := []) hT g_laws_heldInt64S t_laws_heldInt64S_2 (plain_ok (by kernel_rfl)) _
theorem r_laws_heldInt64S (x) : runFn T G_laws_heldInt64S [(2, c_laws_heldInt64S_2)] Tryz.f64 P_laws_heldInt64S R_laws_heldInt64S x = F_laws_heldInt64S x := by kernel_rfl
theorem s_laws_heldInt64S : CallsOk Tryz.prog 64 C_laws_heldInt64S :=
  fn_calls (L := [(2, c_laws_heldInt64S_2)]) hT g_laws_heldInt64S Tryz.f64 (by kernel_rfl) (by kernel_rfl) (by kernel_rfl) (seq_ok (plain_ok (by kernel_rfl)) (seq_ok (seq_ok (plain_ok (by kernel_rfl)) (block_ok (by kernel_rfl) (loop_ok (by kernel_rfl) k_laws_heldInt64S_2))) (plain_ok (by kernel_rfl)))) r_laws_heldInt64S
/-! laws.heldHart -/
abbrev P_laws_heldHart : List PK := [.val Y23, .val YI]
abbrev R_laws_heldHart : List VK := [.s (.dat YI)]
def F_laws_heldHart (x : denP P_laws_heldHart) : Option (denV R_laws_heldHart × denQ P_laws_heldHart) :=
  (F_laws_heldInt64S (x.1.1, x.2.1, ())).bind fun r1 =>
  if (ltI r1.1.1 (0 : Int)) then
    some (((-1 : Int), ()), ())
  else
    (F_laws_heldInt64S (x.1.2.2.1, r1.1.1, ())).bind fun r2 =>
    if (ltI r2.1.1 (0 : Int)) then
      some (((-1 : Int), ()), ())
    else
      (F_laws_heldInt64S (x.1.2.2.2.2.2.2.2.1, r2.1.1, ())).bind fun r3 =>
      if (ltI r3.1.1 (0 : Int)) then
        some (((-1 : Int), ()), ())
      else
        (F_laws_heldInt64S (x.1.2.2.2.2.2.2.2.2.1, r3.1.1, ())).bind fun r4 =>
        if (ltI r4.1.1 (0 : Int)) then
          some (((-1 : Int), ()), ())
        else
          some ((r4.1.1, ()), ())
abbrev C_laws_heldHart : Con := ⟨P_laws_heldHart, R_laws_heldHart, F_laws_heldHart, false⟩
abbrev G_laws_heldHart : Env := [(64, C_laws_heldInt64S)]
theorem g_laws_heldHart : EnvOk Tryz.prog G_laws_heldHart := (env_cons s_laws_heldInt64S env_nil)
theorem r_laws_heldHart (x) : runFn T G_laws_heldHart [] Tryz.f63 P_laws_heldHart R_laws_heldHart x = F_laws_heldHart x := by kernel_rfl
theorem s_laws_heldHart : CallsOk Tryz.prog 63 C_laws_heldHart :=
  fn_calls (L := []) hT g_laws_heldHart Tryz.f63 (by kernel_rfl) (by kernel_rfl) (by kernel_rfl) (plain_ok (by kernel_rfl)) r_laws_heldHart
/-! laws.heldStepResult -/
abbrev P_laws_heldStepResult : List PK := [.val Y29, .val YI]
abbrev R_laws_heldStepResult : List VK := [.s (.dat YI)]
def F_laws_heldStepResult (x : denP P_laws_heldStepResult) : Option (denV R_laws_heldStepResult × denQ P_laws_heldStepResult) :=
  (F_laws_heldHart (x.1.2.2.2.1, x.2.1, ())).bind fun r1 =>
  if (ltI r1.1.1 (0 : Int)) then
    some (((-1 : Int), ()), ())
  else
    (F_laws_heldInt64S (x.1.2.2.2.2.1, r1.1.1, ())).bind fun r2 =>
    if (ltI r2.1.1 (0 : Int)) then
      some (((-1 : Int), ()), ())
    else
      some ((r2.1.1, ()), ())
abbrev C_laws_heldStepResult : Con := ⟨P_laws_heldStepResult, R_laws_heldStepResult, F_laws_heldStepResult, false⟩
abbrev G_laws_heldStepResult : Env := [(63, C_laws_heldHart), (64, C_laws_heldInt64S)]
theorem g_laws_heldStepResult : EnvOk Tryz.prog G_laws_heldStepResult := (env_cons s_laws_heldHart (env_cons s_laws_heldInt64S env_nil))
theorem r_laws_heldStepResult (x) : runFn T G_laws_heldStepResult [] Tryz.f25 P_laws_heldStepResult R_laws_heldStepResult x = F_laws_heldStepResult x := by kernel_rfl
theorem s_laws_heldStepResult : CallsOk Tryz.prog 25 C_laws_heldStepResult :=
  fn_calls (L := []) hT g_laws_heldStepResult Tryz.f25 (by kernel_rfl) (by kernel_rfl) (by kernel_rfl) (plain_ok (by kernel_rfl)) r_laws_heldStepResult
/-! laws.FnExactStepHart -/
abbrev P_laws_FnExactStepHart : List PK := [.val Y23, .val Y25, .val Y22]
abbrev R_laws_FnExactStepHart : List VK := [.s (.dat .bool)]
def F_laws_FnExactStepHart (x : denP P_laws_FnExactStepHart) : Option (denV R_laws_FnExactStepHart × denQ P_laws_FnExactStepHart) :=
  let v1 := ((x.2.2.1.length : Nat) : Int)
  if (ltI (1048576 : Int) v1) then
    some ((true, ()), ())
  else
    (F_laws_szHart (x.1, (1048576 : Int), ())).bind fun r2 =>
    if (ltI r2.1.1 (0 : Int)) then
      some ((true, ()), ())
    else
      (F_laws_szPageS (x.2.1, r2.1.1, ())).bind fun r3 =>
      if (ltI r3.1.1 (0 : Int)) then
        some ((true, ()), ())
      else
        (F_laws_toHart (x.1, ())).bind fun r4 =>
        (F_laws_toPageS (x.2.1, ())).bind fun r5 =>
        (F_laws_toInt64S (x.2.2.1, ())).bind fun r6 =>
        (F_spec_StepHart (r4.1.1, r5.1.1, r6.1.1, ())).bind fun r7 =>
        (F_laws_toHart (x.1, ())).bind fun r8 =>
        (F_laws_toPageS (x.2.1, ())).bind fun r9 =>
        (F_laws_toInt64S (x.2.2.1, ())).bind fun r10 =>
        (F_impl_StepHart (r8.1.1, r9.1.1, r10.1.1, ())).bind fun r11 =>
        (F_laws_eqStepResult ((r11.1.1.1, (r11.1.1.2.1, (r11.1.1.2.2.1, ((r11.1.1.2.2.2.1, (r11.1.1.2.2.2.2.1, (r11.1.1.2.2.2.2.2.1, (r11.1.1.2.2.2.2.2.2.1, (r11.1.1.2.2.2.2.2.2.2.1, (r11.1.1.2.2.2.2.2.2.2.2.1, (r11.1.1.2.2.2.2.2.2.2.2.2.1, (r11.1.1.2.2.2.2.2.2.2.2.2.2.1, (r11.1.1.2.2.2.2.2.2.2.2.2.2.2.1, ()))))))))), (r11.1.1.2.2.2.2.2.2.2.2.2.2.2.2.1, ()))))), (r7.1.1.1, (r7.1.1.2.1, (r7.1.1.2.2.1, ((r7.1.1.2.2.2.1, (r7.1.1.2.2.2.2.1, (r7.1.1.2.2.2.2.2.1, (r7.1.1.2.2.2.2.2.2.1, (r7.1.1.2.2.2.2.2.2.2.1, (r7.1.1.2.2.2.2.2.2.2.2.1, (r7.1.1.2.2.2.2.2.2.2.2.2.1, (r7.1.1.2.2.2.2.2.2.2.2.2.2.1, (r7.1.1.2.2.2.2.2.2.2.2.2.2.2.1, ()))))))))), (r7.1.1.2.2.2.2.2.2.2.2.2.2.2.2.1, ()))))), ())).bind fun r12 =>
        if (!r12.1.1) then
          some ((false, ()), ())
        else
          (F_laws_toHart (x.1, ())).bind fun r13 =>
          (F_laws_eqHart (r8.1.1, r13.1.1, ())).bind fun r14 =>
          if (!r14.1.1) then
            some ((false, ()), ())
          else
            (F_laws_toPageS (x.2.1, ())).bind fun r15 =>
            (F_laws_eqPageS (r9.1.1, r15.1.1, ())).bind fun r16 =>
            if (!r16.1.1) then
              some ((false, ()), ())
            else
              (F_laws_toInt64S (x.2.2.1, ())).bind fun r17 =>
              (F_laws_eqInt64S (r10.1.1, r17.1.1, ())).bind fun r18 =>
              if (!r18.1.1) then
                some ((false, ()), ())
              else
                (F_laws_markHart (r8.1.1, (1 : Int), ())).bind fun r19 =>
                if (((r8.1.1.1.length == r19.2.1.1.length && (r8.1.1.2.2.1.length == r19.2.1.2.1.length && (r8.1.1.2.2.2.2.2.2.2.1.length == r19.2.1.2.2.1.length && (r8.1.1.2.2.2.2.2.2.2.2.1.length == r19.2.1.2.2.2.1.length && true)))) && true) && true) = true then
                  (F_laws_markPageS (r9.1.1, r19.1.1, ())).bind fun r20 =>
                  if ((r9.1.1.length == r20.2.1.length && true) && true) = true then
                    (F_laws_markInt64S (r10.1.1, r20.1.1, ())).bind fun r21 =>
                    if ((r10.1.1.length == r21.2.1.length && true) && true) = true then
                      if (ltI r21.1.1 (0 : Int)) = false then
                        (F_laws_eqStepResult ((r11.1.1.1, (r11.1.1.2.1, (r11.1.1.2.2.1, ((r11.1.1.2.2.2.1, (r11.1.1.2.2.2.2.1, (r11.1.1.2.2.2.2.2.1, (r11.1.1.2.2.2.2.2.2.1, (r11.1.1.2.2.2.2.2.2.2.1, (r11.1.1.2.2.2.2.2.2.2.2.1, (r11.1.1.2.2.2.2.2.2.2.2.2.1, (r11.1.1.2.2.2.2.2.2.2.2.2.2.1, (r11.1.1.2.2.2.2.2.2.2.2.2.2.2.1, ()))))))))), (r11.1.1.2.2.2.2.2.2.2.2.2.2.2.2.1, ()))))), (r7.1.1.1, (r7.1.1.2.1, (r7.1.1.2.2.1, ((r7.1.1.2.2.2.1, (r7.1.1.2.2.2.2.1, (r7.1.1.2.2.2.2.2.1, (r7.1.1.2.2.2.2.2.2.1, (r7.1.1.2.2.2.2.2.2.2.1, (r7.1.1.2.2.2.2.2.2.2.2.1, (r7.1.1.2.2.2.2.2.2.2.2.2.1, (r7.1.1.2.2.2.2.2.2.2.2.2.2.1, (r7.1.1.2.2.2.2.2.2.2.2.2.2.2.1, ()))))))))), (r7.1.1.2.2.2.2.2.2.2.2.2.2.2.2.1, ()))))), ())).bind fun r22 =>
                        if (!r22.1.1) then
                          some ((false, ()), ())
                        else
                          (F_laws_markStepResult (r11.1.1, (1 : Int), ())).bind fun r23 =>
                          if (((r11.1.1.2.2.2.1.length == r23.2.1.1.length && (r11.1.1.2.2.2.2.2.1.length == r23.2.1.2.1.length && (r11.1.1.2.2.2.2.2.2.2.2.2.2.1.length == r23.2.1.2.2.1.length && (r11.1.1.2.2.2.2.2.2.2.2.2.2.2.1.length == r23.2.1.2.2.2.1.length && (r11.1.1.2.2.2.2.2.2.2.2.2.2.2.2.1.length == r23.2.1.2.2.2.2.1.length && true))))) && true) && true) = true then
                            (F_laws_heldStepResult ((r11.1.1.1, (r11.1.1.2.1, (r11.1.1.2.2.1, ((r23.2.1.1, (r11.1.1.2.2.2.2.1, (r23.2.1.2.1, (r11.1.1.2.2.2.2.2.2.1, (r11.1.1.2.2.2.2.2.2.2.1, (r11.1.1.2.2.2.2.2.2.2.2.1, (r11.1.1.2.2.2.2.2.2.2.2.2.1, (r23.2.1.2.2.1, (r23.2.1.2.2.2.1, ()))))))))), (r23.2.1.2.2.2.2.1, ()))))), (1 : Int), ())).bind fun r24 =>
                            if (ltI r24.1.1 (0 : Int)) then
                              some ((false, ()), ())
                            else
                              if (r24.1.1 != r23.1.1) then
                                some ((false, ()), ())
                              else
                                (F_laws_toHart (x.1, ())).bind fun r25 =>
                                (F_laws_toPageS (x.2.1, ())).bind fun r26 =>
                                (F_laws_toInt64S (x.2.2.1, ())).bind fun r27 =>
                                (F_impl_StepHart (r25.1.1, r26.1.1, r27.1.1, ())).bind fun r28 =>
                                (F_laws_eqStepResult ((r28.1.1.1, (r28.1.1.2.1, (r28.1.1.2.2.1, ((r28.1.1.2.2.2.1, (r28.1.1.2.2.2.2.1, (r28.1.1.2.2.2.2.2.1, (r28.1.1.2.2.2.2.2.2.1, (r28.1.1.2.2.2.2.2.2.2.1, (r28.1.1.2.2.2.2.2.2.2.2.1, (r28.1.1.2.2.2.2.2.2.2.2.2.1, (r28.1.1.2.2.2.2.2.2.2.2.2.2.1, (r28.1.1.2.2.2.2.2.2.2.2.2.2.2.1, ()))))))))), (r28.1.1.2.2.2.2.2.2.2.2.2.2.2.2.1, ()))))), (r7.1.1.1, (r7.1.1.2.1, (r7.1.1.2.2.1, ((r7.1.1.2.2.2.1, (r7.1.1.2.2.2.2.1, (r7.1.1.2.2.2.2.2.1, (r7.1.1.2.2.2.2.2.2.1, (r7.1.1.2.2.2.2.2.2.2.1, (r7.1.1.2.2.2.2.2.2.2.2.1, (r7.1.1.2.2.2.2.2.2.2.2.2.1, (r7.1.1.2.2.2.2.2.2.2.2.2.2.1, (r7.1.1.2.2.2.2.2.2.2.2.2.2.2.1, ()))))))))), (r7.1.1.2.2.2.2.2.2.2.2.2.2.2.2.1, ()))))), ())).bind fun r29 =>
                                if (!r29.1.1) then
                                  some ((false, ()), ())
                                else
                                  (F_laws_heldStepResult ((r11.1.1.1, (r11.1.1.2.1, (r11.1.1.2.2.1, ((r23.2.1.1, (r11.1.1.2.2.2.2.1, (r23.2.1.2.1, (r11.1.1.2.2.2.2.2.2.1, (r11.1.1.2.2.2.2.2.2.2.1, (r11.1.1.2.2.2.2.2.2.2.2.1, (r11.1.1.2.2.2.2.2.2.2.2.2.1, (r23.2.1.2.2.1, (r23.2.1.2.2.2.1, ()))))))))), (r23.2.1.2.2.2.2.1, ()))))), (1 : Int), ())).bind fun r30 =>
                                  if (ltI r30.1.1 (0 : Int)) then
                                    some ((false, ()), ())
                                  else
                                    if (r30.1.1 != r23.1.1) then
                                      some ((false, ()), ())
                                    else
                                      some ((true, ()), ())
                          else none
                      else
                        some ((false, ()), ())
                    else none
                  else none
                else none
abbrev C_laws_FnExactStepHart : Con := ⟨P_laws_FnExactStepHart, R_laws_FnExactStepHart, F_laws_FnExactStepHart, false⟩
abbrev G_laws_FnExactStepHart : Env := [(10, C_laws_szHart), (11, C_laws_szPageS), (12, C_spec_StepHart), (13, C_laws_toHart), (14, C_laws_toPageS), (15, C_laws_toInt64S), (16, C_impl_StepHart), (17, C_laws_eqStepResult), (18, C_laws_eqHart), (19, C_laws_eqPageS), (20, C_laws_eqInt64S), (21, C_laws_markHart), (22, C_laws_markPageS), (23, C_laws_markInt64S), (24, C_laws_markStepResult), (25, C_laws_heldStepResult)]
theorem g_laws_FnExactStepHart : EnvOk Tryz.prog G_laws_FnExactStepHart := (env_cons s_laws_szHart (env_cons s_laws_szPageS (env_cons s_spec_StepHart (env_cons s_laws_toHart (env_cons s_laws_toPageS (env_cons s_laws_toInt64S (env_cons s_impl_StepHart (env_cons s_laws_eqStepResult (env_cons s_laws_eqHart (env_cons s_laws_eqPageS (env_cons s_laws_eqInt64S (env_cons s_laws_markHart (env_cons s_laws_markPageS (env_cons s_laws_markInt64S (env_cons s_laws_markStepResult (env_cons s_laws_heldStepResult env_nil))))))))))))))))
theorem r_laws_FnExactStepHart (x) : runFn T G_laws_FnExactStepHart [] Tryz.f3 P_laws_FnExactStepHart R_laws_FnExactStepHart x = F_laws_FnExactStepHart x := by kernel_rfl
theorem s_laws_FnExactStepHart : CallsOk Tryz.prog 3 C_laws_FnExactStepHart :=
  fn_calls (L := []) hT g_laws_FnExactStepHart Tryz.f3 (by kernel_rfl) (by kernel_rfl) (by kernel_rfl) (plain_ok (by kernel_rfl)) r_laws_FnExactStepHart
theorem q_laws_FnExactStepHart : Sound Tryz.prog 3 C_laws_FnExactStepHart :=
  fn_snd (L := []) hT g_laws_FnExactStepHart Tryz.f3 (by kernel_rfl) (by kernel_rfl) (plain_ok (by kernel_rfl)) r_laws_FnExactStepHart
/-! spec.StepMany -/
abbrev P_spec_StepMany : List PK := [.val Y23, .val Y25, .val Y22, .val YI]
abbrev R_spec_StepMany : List VK := [.g [.dat YI, .dat YI, .dat YI, .own 2 YI, .dat YI, .own 2 YI, .dat .bool, .dat .bool, .dat .bool, .dat YI, .dat Y22, .own 2 YI, .own 2 YI]]
abbrev i_spec_StepMany_9 : Shp := { slots := [(3, .s (.dat YI)), (8, .s (.ptr 8 0)), (10, .s (.ptr 1193500 0)), (11, .s (.ptr 11 0)), (12, .s (.dat YI))], boxes := [(8, [.dat YI, .dat YI, .dat YI, .own 2 YI, .dat YI, .own 2 YI, .dat .bool, .dat .bool, .dat .bool, .dat YI, .own 2 YI, .own 2 YI, .own 2 YI]), (11, [.dat YI, .dat YI, .dat YI, .own 2 YI, .dat YI, .own 2 YI, .dat .bool, .dat .bool, .dat .bool, .dat YI, .own 2 YI, .own 2 YI, .own 2 YI]), (1193500, [.dat Y25, .own 2 YI, .dat YI, .own 2 YI, .dat YI, .own 2 YI, .dat .bool, .dat .bool, .dat .bool, .dat YI, .dat Y22, .own 2 YI, .dat YI])], rows := [] }
abbrev o_spec_StepMany_9 : List (Ex × Shp) := [(.exit 0, { slots := [(8, .s (.ptr 8 0)), (10, .s (.ptr 1193500 0)), (11, .s (.ptr 11 0))], boxes := [(8, [.dat YI, .dat YI, .dat YI, .own 2 YI, .dat YI, .own 2 YI, .dat .bool, .dat .bool, .dat .bool, .dat YI, .own 2 YI, .own 2 YI, .own 2 YI]), (11, [.dat YI, .dat YI, .dat YI, .own 2 YI, .dat YI, .own 2 YI, .dat .bool, .dat .bool, .dat .bool, .dat YI, .own 2 YI, .own 2 YI, .own 2 YI]), (1193500, [.dat Y25, .own 2 YI, .dat YI, .own 2 YI, .dat YI, .own 2 YI, .dat .bool, .dat .bool, .dat .bool, .dat YI, .dat Y22, .own 2 YI, .dat YI])], rows := [] })]
def l_spec_StepMany_9 (rec : i_spec_StepMany_9.den → Option (denO o_spec_StepMany_9)) (u9 : i_spec_StepMany_9.den) : Option (denO o_spec_StepMany_9) :=
  if (ltI u9.1.2.2.2.2.1 u9.1.1) then
    (F_spec_l10Step (u9.2.1.2.2.1, ())).bind fun r5 =>
    if (leI (0 : Int) r5.2.1.2.2.2.2.2.2.2.2.2.2.2.2.1) then
      if (leI (0 : Int) r5.2.1.2.2.1) then
        let v6 := (IntKind.i64.wrap (u9.1.2.2.2.2.1 + (1 : Int)))
        rec ((u9.1.1, ((), ((), ((), (v6, ()))))), ((u9.2.1.1, ((u9.2.1.2.1.1, (r5.2.1.2.2.2.2.2.2.2.2.2.2.2.2.1, (r5.2.1.2.2.1, (u9.2.1.2.1.2.2.2.1, (u9.2.1.2.1.2.2.2.2.1, (u9.2.1.2.1.2.2.2.2.2.1, (u9.2.1.2.1.2.2.2.2.2.2.1, (u9.2.1.2.1.2.2.2.2.2.2.2.1, (u9.2.1.2.1.2.2.2.2.2.2.2.2.1, (u9.2.1.2.1.2.2.2.2.2.2.2.2.2.1, (u9.2.1.2.1.2.2.2.2.2.2.2.2.2.2.1, (u9.2.1.2.1.2.2.2.2.2.2.2.2.2.2.2.1, (u9.2.1.2.1.2.2.2.2.2.2.2.2.2.2.2.2.1, ()))))))))))))), (r5.2.1, ()))), ()))
      else
        let v7 := (IntKind.i64.wrap (u9.1.2.2.2.2.1 + (1 : Int)))
        rec ((u9.1.1, ((), ((), ((), (v7, ()))))), ((u9.2.1.1, ((u9.2.1.2.1.1, (r5.2.1.2.2.2.2.2.2.2.2.2.2.2.2.1, (u9.2.1.2.1.2.2.1, (u9.2.1.2.1.2.2.2.1, (u9.2.1.2.1.2.2.2.2.1, (u9.2.1.2.1.2.2.2.2.2.1, (u9.2.1.2.1.2.2.2.2.2.2.1, (u9.2.1.2.1.2.2.2.2.2.2.2.1, (u9.2.1.2.1.2.2.2.2.2.2.2.2.1, (u9.2.1.2.1.2.2.2.2.2.2.2.2.2.1, (u9.2.1.2.1.2.2.2.2.2.2.2.2.2.2.1, (u9.2.1.2.1.2.2.2.2.2.2.2.2.2.2.2.1, (u9.2.1.2.1.2.2.2.2.2.2.2.2.2.2.2.2.1, ()))))))))))))), (r5.2.1, ()))), ()))
    else
      if (leI (0 : Int) r5.2.1.2.2.1) then
        let v8 := (IntKind.i64.wrap (u9.1.2.2.2.2.1 + (1 : Int)))
        rec ((u9.1.1, ((), ((), ((), (v8, ()))))), ((u9.2.1.1, ((u9.2.1.2.1.1, (u9.2.1.2.1.2.1, (r5.2.1.2.2.1, (u9.2.1.2.1.2.2.2.1, (u9.2.1.2.1.2.2.2.2.1, (u9.2.1.2.1.2.2.2.2.2.1, (u9.2.1.2.1.2.2.2.2.2.2.1, (u9.2.1.2.1.2.2.2.2.2.2.2.1, (u9.2.1.2.1.2.2.2.2.2.2.2.2.1, (u9.2.1.2.1.2.2.2.2.2.2.2.2.2.1, (u9.2.1.2.1.2.2.2.2.2.2.2.2.2.2.1, (u9.2.1.2.1.2.2.2.2.2.2.2.2.2.2.2.1, (u9.2.1.2.1.2.2.2.2.2.2.2.2.2.2.2.2.1, ()))))))))))))), (r5.2.1, ()))), ()))
      else
        let v9 := (IntKind.i64.wrap (u9.1.2.2.2.2.1 + (1 : Int)))
        rec ((u9.1.1, ((), ((), ((), (v9, ()))))), ((u9.2.1.1, (u9.2.1.2.1, (r5.2.1, ()))), ()))
  else
    some (.inl (((), ((), ((), ()))), ((u9.2.1.1, (u9.2.1.2.1, (u9.2.1.2.2.1, ()))), ())))
def L_spec_StepMany_9 (x : i_spec_StepMany_9.den) : Option (denO o_spec_StepMany_9) := iterF l_spec_StepMany_9 lots x
def F_spec_StepMany (x : denP P_spec_StepMany) : Option (denV R_spec_StepMany × denQ P_spec_StepMany) :=
  (F_spec_l10Asked (x.1, x.2.1, x.2.2.1, ())).bind fun r1 =>
  if (r1.1.1 != (0 : Int)) then
    some (((r1.1.1, ((0 : Int), ((0 : Int), (([] : List (den YI)), ((0 : Int), (([] : List (den YI)), (false, (false, (false, ((0 : Int), (([] : List (den YI)), (([] : List (den YI)), (([] : List (den YI)), ()))))))))))))), ()), ())
  else
    (F_spec_l1In (x.2.2.2.1, (0 : Int), (500 : Int), ())).bind fun r2 =>
    if (!r2.1.1) then
      some ((((3 : Int), ((0 : Int), ((0 : Int), (([] : List (den YI)), ((0 : Int), (([] : List (den YI)), (false, (false, (false, ((0 : Int), (([] : List (den YI)), (([] : List (den YI)), (([] : List (den YI)), ()))))))))))))), ()), ())
    else
      (F_spec_l10New (x.1, x.2.1, x.2.2.1, ())).bind fun r3 =>
      (L_spec_StepMany_9 ((x.2.2.2.1, ((), ((), ((), ((0 : Int), ()))))), ((((0 : Int), ((0 : Int), ((0 : Int), (([] : List (den YI)), ((0 : Int), (([] : List (den YI)), (false, (false, (false, ((0 : Int), (([] : List (den YI)), (([] : List (den YI)), (([] : List (den YI)), ()))))))))))))), (((0 : Int), ((-1 : Int), ((-1 : Int), (([] : List (den YI)), ((0 : Int), (([] : List (den YI)), (false, (false, (false, ((0 : Int), (([] : List (den YI)), (([] : List (den YI)), (([] : List (den YI)), ()))))))))))))), (r3.1.1, ()))), ()))).bind fun z10 =>
      match z10 with
      | .inl x11 =>
        some (((x11.2.1.2.1.1, (x11.2.1.2.1.2.1, (x11.2.1.2.1.2.2.1, (x11.2.1.2.2.1.2.2.2.1, (x11.2.1.2.2.1.2.2.2.2.1, (x11.2.1.2.2.1.2.2.2.2.2.1, (x11.2.1.2.2.1.2.2.2.2.2.2.1, (x11.2.1.2.2.1.2.2.2.2.2.2.2.1, (x11.2.1.2.2.1.2.2.2.2.2.2.2.2.1, (x11.2.1.2.2.1.2.2.2.2.2.2.2.2.2.1, (x11.2.1.2.2.1.2.2.2.2.2.2.2.2.2.2.1, (x11.2.1.2.2.1.2.2.2.2.2.2.2.2.2.2.2.1, (x11.2.1.2.2.1.2.1, ()))))))))))))), ()), ())
      | .inr z10_ =>
        none
abbrev C_spec_StepMany : Con := ⟨P_spec_StepMany, R_spec_StepMany, F_spec_StepMany, false⟩
abbrev G_spec_StepMany : Env := [(58, C_spec_l10Asked), (59, C_spec_l10New), (60, C_spec_l10Step), (65, C_spec_l1In)]
theorem g_spec_StepMany : EnvOk Tryz.prog G_spec_StepMany := (env_cons s_spec_l10Asked (env_cons s_spec_l10New (env_cons s_spec_l10Step (env_cons s_spec_l1In env_nil))))
abbrev c_spec_StepMany_9 : Cut := ⟨i_spec_StepMany_9, o_spec_StepMany_9, fun x => iterF l_spec_StepMany_9 lots x⟩
theorem t_spec_StepMany_9 (rec x) : run T G_spec_StepMany [] (nav Tryz.f26 [1, 1, 1, 1, 1, 0, 1, 0, 0]) (mk 67 i_spec_StepMany_9 x) (loopK i_spec_StepMany_9 o_spec_StepMany_9 rec) = l_spec_StepMany_9 rec x := by kernel_rfl
theorem k_spec_StepMany_9 : CutOk Tryz.prog 67 (.loop (nav Tryz.f26 [1, 1, 1, 1, 1, 0, 1, 0, 0])) c_spec_StepMany_9 :=
  loop_cut (L := []) hT g_spec_StepMany t_spec_StepMany_9 (plain_ok (by kernel_rfl)) _
theorem r_spec_StepMany (x) : runFn T G_spec_StepMany [(9, c_spec_StepMany_9)] Tryz.f26 P_spec_StepMany R_spec_StepMany x = F_spec_StepMany x := by kernel_rfl
theorem s_spec_StepMany : CallsOk Tryz.prog 26 C_spec_StepMany :=
  fn_calls (L := [(9, c_spec_StepMany_9)]) hT g_spec_StepMany Tryz.f26 (by kernel_rfl) (by kernel_rfl) (by kernel_rfl) (seq_ok (plain_ok (by kernel_rfl)) (seq_ok (plain_ok (by kernel_rfl)) (seq_ok (plain_ok (by kernel_rfl)) (seq_ok (plain_ok (by kernel_rfl)) (seq_ok (plain_ok (by kernel_rfl)) (seq_ok (seq_ok (plain_ok (by kernel_rfl)) (block_ok (by kernel_rfl) (loop_ok (by kernel_rfl) k_spec_StepMany_9))) (plain_ok (by kernel_rfl)))))))) r_spec_StepMany
/-! laws.FnExactStepMany -/
abbrev P_laws_FnExactStepMany : List PK := [.val Y23, .val Y25, .val Y22, .val YI]
abbrev R_laws_FnExactStepMany : List VK := [.s (.dat .bool)]
def F_laws_FnExactStepMany (x : denP P_laws_FnExactStepMany) : Option (denV R_laws_FnExactStepMany × denQ P_laws_FnExactStepMany) :=
  let v1 := ((x.2.2.1.length : Nat) : Int)
  if (ltI (1048576 : Int) v1) then
    some ((true, ()), ())
  else
    (F_laws_szHart (x.1, (1048576 : Int), ())).bind fun r2 =>
    if (ltI r2.1.1 (0 : Int)) then
      some ((true, ()), ())
    else
      (F_laws_szPageS (x.2.1, r2.1.1, ())).bind fun r3 =>
      if (ltI r3.1.1 (0 : Int)) then
        some ((true, ()), ())
      else
        (F_laws_toHart (x.1, ())).bind fun r4 =>
        (F_laws_toPageS (x.2.1, ())).bind fun r5 =>
        (F_laws_toInt64S (x.2.2.1, ())).bind fun r6 =>
        (F_spec_StepMany (r4.1.1, r5.1.1, r6.1.1, x.2.2.2.1, ())).bind fun r7 =>
        (F_laws_toHart (x.1, ())).bind fun r8 =>
        (F_laws_toPageS (x.2.1, ())).bind fun r9 =>
        (F_laws_toInt64S (x.2.2.1, ())).bind fun r10 =>
        (F_impl_StepMany (r8.1.1, r9.1.1, r10.1.1, x.2.2.2.1, ())).bind fun r11 =>
        (F_laws_eqStepResult ((r11.1.1.1, (r11.1.1.2.1, (r11.1.1.2.2.1, ((r11.1.1.2.2.2.1, (r11.1.1.2.2.2.2.1, (r11.1.1.2.2.2.2.2.1, (r11.1.1.2.2.2.2.2.2.1, (r11.1.1.2.2.2.2.2.2.2.1, (r11.1.1.2.2.2.2.2.2.2.2.1, (r11.1.1.2.2.2.2.2.2.2.2.2.1, (r11.1.1.2.2.2.2.2.2.2.2.2.2.1, (r11.1.1.2.2.2.2.2.2.2.2.2.2.2.1, ()))))))))), (r11.1.1.2.2.2.2.2.2.2.2.2.2.2.2.1, ()))))), (r7.1.1.1, (r7.1.1.2.1, (r7.1.1.2.2.1, ((r7.1.1.2.2.2.1, (r7.1.1.2.2.2.2.1, (r7.1.1.2.2.2.2.2.1, (r7.1.1.2.2.2.2.2.2.1, (r7.1.1.2.2.2.2.2.2.2.1, (r7.1.1.2.2.2.2.2.2.2.2.1, (r7.1.1.2.2.2.2.2.2.2.2.2.1, (r7.1.1.2.2.2.2.2.2.2.2.2.2.1, (r7.1.1.2.2.2.2.2.2.2.2.2.2.2.1, ()))))))))), (r7.1.1.2.2.2.2.2.2.2.2.2.2.2.2.1, ()))))), ())).bind fun r12 =>
        if (!r12.1.1) then
          some ((false, ()), ())
        else
          (F_laws_toHart (x.1, ())).bind fun r13 =>
          (F_laws_eqHart (r8.1.1, r13.1.1, ())).bind fun r14 =>
          if (!r14.1.1) then
            some ((false, ()), ())
          else
            (F_laws_toPageS (x.2.1, ())).bind fun r15 =>
            (F_laws_eqPageS (r9.1.1, r15.1.1, ())).bind fun r16 =>
            if (!r16.1.1) then
              some ((false, ()), ())
            else
              (F_laws_toInt64S (x.2.2.1, ())).bind fun r17 =>
              (F_laws_eqInt64S (r10.1.1, r17.1.1, ())).bind fun r18 =>
              if (!r18.1.1) then
                some ((false, ()), ())
              else
                (F_laws_markHart (r8.1.1, (1 : Int), ())).bind fun r19 =>
                if (((r8.1.1.1.length == r19.2.1.1.length && (r8.1.1.2.2.1.length == r19.2.1.2.1.length && (r8.1.1.2.2.2.2.2.2.2.1.length == r19.2.1.2.2.1.length && (r8.1.1.2.2.2.2.2.2.2.2.1.length == r19.2.1.2.2.2.1.length && true)))) && true) && true) = true then
                  (F_laws_markPageS (r9.1.1, r19.1.1, ())).bind fun r20 =>
                  if ((r9.1.1.length == r20.2.1.length && true) && true) = true then
                    (F_laws_markInt64S (r10.1.1, r20.1.1, ())).bind fun r21 =>
                    if ((r10.1.1.length == r21.2.1.length && true) && true) = true then
                      if (ltI r21.1.1 (0 : Int)) = false then
                        (F_laws_eqStepResult ((r11.1.1.1, (r11.1.1.2.1, (r11.1.1.2.2.1, ((r11.1.1.2.2.2.1, (r11.1.1.2.2.2.2.1, (r11.1.1.2.2.2.2.2.1, (r11.1.1.2.2.2.2.2.2.1, (r11.1.1.2.2.2.2.2.2.2.1, (r11.1.1.2.2.2.2.2.2.2.2.1, (r11.1.1.2.2.2.2.2.2.2.2.2.1, (r11.1.1.2.2.2.2.2.2.2.2.2.2.1, (r11.1.1.2.2.2.2.2.2.2.2.2.2.2.1, ()))))))))), (r11.1.1.2.2.2.2.2.2.2.2.2.2.2.2.1, ()))))), (r7.1.1.1, (r7.1.1.2.1, (r7.1.1.2.2.1, ((r7.1.1.2.2.2.1, (r7.1.1.2.2.2.2.1, (r7.1.1.2.2.2.2.2.1, (r7.1.1.2.2.2.2.2.2.1, (r7.1.1.2.2.2.2.2.2.2.1, (r7.1.1.2.2.2.2.2.2.2.2.1, (r7.1.1.2.2.2.2.2.2.2.2.2.1, (r7.1.1.2.2.2.2.2.2.2.2.2.2.1, (r7.1.1.2.2.2.2.2.2.2.2.2.2.2.1, ()))))))))), (r7.1.1.2.2.2.2.2.2.2.2.2.2.2.2.1, ()))))), ())).bind fun r22 =>
                        if (!r22.1.1) then
                          some ((false, ()), ())
                        else
                          (F_laws_markStepResult (r11.1.1, (1 : Int), ())).bind fun r23 =>
                          if (((r11.1.1.2.2.2.1.length == r23.2.1.1.length && (r11.1.1.2.2.2.2.2.1.length == r23.2.1.2.1.length && (r11.1.1.2.2.2.2.2.2.2.2.2.2.1.length == r23.2.1.2.2.1.length && (r11.1.1.2.2.2.2.2.2.2.2.2.2.2.1.length == r23.2.1.2.2.2.1.length && (r11.1.1.2.2.2.2.2.2.2.2.2.2.2.2.1.length == r23.2.1.2.2.2.2.1.length && true))))) && true) && true) = true then
                            (F_laws_heldStepResult ((r11.1.1.1, (r11.1.1.2.1, (r11.1.1.2.2.1, ((r23.2.1.1, (r11.1.1.2.2.2.2.1, (r23.2.1.2.1, (r11.1.1.2.2.2.2.2.2.1, (r11.1.1.2.2.2.2.2.2.2.1, (r11.1.1.2.2.2.2.2.2.2.2.1, (r11.1.1.2.2.2.2.2.2.2.2.2.1, (r23.2.1.2.2.1, (r23.2.1.2.2.2.1, ()))))))))), (r23.2.1.2.2.2.2.1, ()))))), (1 : Int), ())).bind fun r24 =>
                            if (ltI r24.1.1 (0 : Int)) then
                              some ((false, ()), ())
                            else
                              if (r24.1.1 != r23.1.1) then
                                some ((false, ()), ())
                              else
                                (F_laws_toHart (x.1, ())).bind fun r25 =>
                                (F_laws_toPageS (x.2.1, ())).bind fun r26 =>
                                (F_laws_toInt64S (x.2.2.1, ())).bind fun r27 =>
                                (F_impl_StepMany (r25.1.1, r26.1.1, r27.1.1, x.2.2.2.1, ())).bind fun r28 =>
                                (F_laws_eqStepResult ((r28.1.1.1, (r28.1.1.2.1, (r28.1.1.2.2.1, ((r28.1.1.2.2.2.1, (r28.1.1.2.2.2.2.1, (r28.1.1.2.2.2.2.2.1, (r28.1.1.2.2.2.2.2.2.1, (r28.1.1.2.2.2.2.2.2.2.1, (r28.1.1.2.2.2.2.2.2.2.2.1, (r28.1.1.2.2.2.2.2.2.2.2.2.1, (r28.1.1.2.2.2.2.2.2.2.2.2.2.1, (r28.1.1.2.2.2.2.2.2.2.2.2.2.2.1, ()))))))))), (r28.1.1.2.2.2.2.2.2.2.2.2.2.2.2.1, ()))))), (r7.1.1.1, (r7.1.1.2.1, (r7.1.1.2.2.1, ((r7.1.1.2.2.2.1, (r7.1.1.2.2.2.2.1, (r7.1.1.2.2.2.2.2.1, (r7.1.1.2.2.2.2.2.2.1, (r7.1.1.2.2.2.2.2.2.2.1, (r7.1.1.2.2.2.2.2.2.2.2.1, (r7.1.1.2.2.2.2.2.2.2.2.2.1, (r7.1.1.2.2.2.2.2.2.2.2.2.2.1, (r7.1.1.2.2.2.2.2.2.2.2.2.2.2.1, ()))))))))), (r7.1.1.2.2.2.2.2.2.2.2.2.2.2.2.1, ()))))), ())).bind fun r29 =>
                                if (!r29.1.1) then
                                  some ((false, ()), ())
                                else
                                  (F_laws_heldStepResult ((r11.1.1.1, (r11.1.1.2.1, (r11.1.1.2.2.1, ((r23.2.1.1, (r11.1.1.2.2.2.2.1, (r23.2.1.2.1, (r11.1.1.2.2.2.2.2.2.1, (r11.1.1.2.2.2.2.2.2.2.1, (r11.1.1.2.2.2.2.2.2.2.2.1, (r11.1.1.2.2.2.2.2.2.2.2.2.1, (r23.2.1.2.2.1, (r23.2.1.2.2.2.1, ()))))))))), (r23.2.1.2.2.2.2.1, ()))))), (1 : Int), ())).bind fun r30 =>
                                  if (ltI r30.1.1 (0 : Int)) then
                                    some ((false, ()), ())
                                  else
                                    if (r30.1.1 != r23.1.1) then
                                      some ((false, ()), ())
                                    else
                                      some ((true, ()), ())
                          else none
                      else
                        some ((false, ()), ())
                    else none
                  else none
                else none
abbrev C_laws_FnExactStepMany : Con := ⟨P_laws_FnExactStepMany, R_laws_FnExactStepMany, F_laws_FnExactStepMany, false⟩
abbrev G_laws_FnExactStepMany : Env := [(10, C_laws_szHart), (11, C_laws_szPageS), (13, C_laws_toHart), (14, C_laws_toPageS), (15, C_laws_toInt64S), (17, C_laws_eqStepResult), (18, C_laws_eqHart), (19, C_laws_eqPageS), (20, C_laws_eqInt64S), (21, C_laws_markHart), (22, C_laws_markPageS), (23, C_laws_markInt64S), (24, C_laws_markStepResult), (25, C_laws_heldStepResult), (26, C_spec_StepMany), (27, C_impl_StepMany)]
theorem g_laws_FnExactStepMany : EnvOk Tryz.prog G_laws_FnExactStepMany := (env_cons s_laws_szHart (env_cons s_laws_szPageS (env_cons s_laws_toHart (env_cons s_laws_toPageS (env_cons s_laws_toInt64S (env_cons s_laws_eqStepResult (env_cons s_laws_eqHart (env_cons s_laws_eqPageS (env_cons s_laws_eqInt64S (env_cons s_laws_markHart (env_cons s_laws_markPageS (env_cons s_laws_markInt64S (env_cons s_laws_markStepResult (env_cons s_laws_heldStepResult (env_cons s_spec_StepMany (env_cons s_impl_StepMany env_nil))))))))))))))))
theorem r_laws_FnExactStepMany (x) : runFn T G_laws_FnExactStepMany [] Tryz.f4 P_laws_FnExactStepMany R_laws_FnExactStepMany x = F_laws_FnExactStepMany x := by kernel_rfl
theorem s_laws_FnExactStepMany : CallsOk Tryz.prog 4 C_laws_FnExactStepMany :=
  fn_calls (L := []) hT g_laws_FnExactStepMany Tryz.f4 (by kernel_rfl) (by kernel_rfl) (by kernel_rfl) (plain_ok (by kernel_rfl)) r_laws_FnExactStepMany
theorem q_laws_FnExactStepMany : Sound Tryz.prog 4 C_laws_FnExactStepMany :=
  fn_snd (L := []) hT g_laws_FnExactStepMany Tryz.f4 (by kernel_rfl) (by kernel_rfl) (plain_ok (by kernel_rfl)) r_laws_FnExactStepMany
end Go.Proofs.YtkbcjonmodmfcaaGreatDoor
