/- The functions of the laws, each as a plain function of data (F), and that the program's text does what F says. Printed by a program (wip/tools/gen.py). -/
import Derived.Test.YtajnommlfjfgpaaGreatDoorGa2
namespace Go.Proofs.YtajnommlfjfgpaaGreatDoor
open Go Go.RowKit S Go.Proofs
set_option maxRecDepth 100000
set_option linter.unusedVariables false
/-! spec.l10Memory -/
abbrev P_spec_l10Memory : List PK := [.box [.dat Y27, .own 2 YI, .dat YI, .own 2 YI, .dat YI, .own 2 YI, .dat .bool, .dat .bool, .dat .bool, .dat YI, .dat Y24, .own 2 YI, .dat YI] [.dat Y27, .own 2 YI, .dat YI, .own 2 YI, .dat YI, .own 2 YI, .dat .bool, .dat .bool, .dat .bool, .dat YI, .dat Y24, .own 2 YI, .dat YI], .val Y42]
abbrev R_spec_l10Memory : List VK := [.s (.dat .bool)]
def F_spec_l10Memory (x : denP P_spec_l10Memory) : Option (denV R_spec_l10Memory × denQ P_spec_l10Memory) :=
  if 0 ≤ x.2.1.2.2.1 ∧ x.2.1.2.2.1 < ((x.1.2.2.2.1.length : Nat) : Int) then
    ((x.1.2.2.2.1)[(x.2.1.2.2.1).toNat]?).bind fun y1 =>
    (F_spec_OffsetOf (x.2.1.2.2.2.1, ())).bind fun r2 =>
    (F_spec_AddWords (y1, r2.1.1, ())).bind fun r3 =>
    if (x.2.1.1 == (15 : Int)) then
      (F_spec_l10Place ((x.1.1, (x.1.2.1, (x.1.2.2.1, ((x.1.2.2.2.1, (x.1.2.2.2.2.1, (x.1.2.2.2.2.2.1, (x.1.2.2.2.2.2.2.1, (x.1.2.2.2.2.2.2.2.1, (x.1.2.2.2.2.2.2.2.2.1, (x.1.2.2.2.2.2.2.2.2.2.1, (x.1.2.2.2.2.2.2.2.2.2.2.1, (x.1.2.2.2.2.2.2.2.2.2.2.2.1, ()))))))))), (x.1.2.2.2.2.2.2.2.2.2.2.2.2.1, ()))))), r3.1.1, (2 : Int), ())).bind fun r4 =>
      if (r4.1.2.1 != (0 : Int)) then
        (F_spec_l10Fall (x.1, (4 : Int), r3.1.1, ())).bind fun r5 =>
        some ((false, ()), (r5.2.1, ()))
      else
        if (x.2.1.1 == (14 : Int)) = true then
          if (leI (1000 : Int) r4.1.1) then
            let v6 := (IntKind.i64.wrap (r4.1.1 - (1000 : Int)))
            (F_spec_l9Read ((x.1.2.2.2.1, (x.1.2.2.2.2.1, (x.1.2.2.2.2.2.1, (x.1.2.2.2.2.2.2.1, (x.1.2.2.2.2.2.2.2.1, (x.1.2.2.2.2.2.2.2.2.1, (x.1.2.2.2.2.2.2.2.2.2.1, (x.1.2.2.2.2.2.2.2.2.2.2.1, (x.1.2.2.2.2.2.2.2.2.2.2.2.1, ()))))))))), v6, ())).bind fun r7 =>
            (F_spec_l10Put ((x.1.1, (x.1.2.1, (x.1.2.2.1, (r7.2.1.1, (r7.2.1.2.1, (r7.2.1.2.2.1, (r7.2.1.2.2.2.1, (r7.2.1.2.2.2.2.1, (r7.2.1.2.2.2.2.2.1, (r7.2.1.2.2.2.2.2.2.1, (r7.2.1.2.2.2.2.2.2.2.1, (r7.2.1.2.2.2.2.2.2.2.2.1, (x.1.2.2.2.2.2.2.2.2.2.2.2.2.1, ()))))))))))))), x.2.1.2.1, r7.1.1, ())).bind fun r8 =>
            some ((true, ()), (r8.2.1, ()))
          else
            if (x.2.1.1 == (14 : Int)) then
              if 0 ≤ r4.1.1 ∧ r4.1.1 < ((x.1.2.1.length : Nat) : Int) then
                ((x.1.2.1)[(r4.1.1).toNat]?).bind fun y9 =>
                (F_spec_l10Put (x.1, x.2.1.2.1, y9, ())).bind fun r10 =>
                some ((true, ()), (r10.2.1, ()))
              else none
            else
              if (leI (1000 : Int) r4.1.1) then
                let v11 := (IntKind.i64.wrap (r4.1.1 - (1000 : Int)))
                if 0 ≤ x.2.1.2.1 ∧ x.2.1.2.1 < ((x.1.2.2.2.1.length : Nat) : Int) then
                  ((x.1.2.2.2.1)[(x.2.1.2.1).toNat]?).bind fun y12 =>
                  (F_spec_l9Write ((x.1.2.2.2.1, (x.1.2.2.2.2.1, (x.1.2.2.2.2.2.1, (x.1.2.2.2.2.2.2.1, (x.1.2.2.2.2.2.2.2.1, (x.1.2.2.2.2.2.2.2.2.1, (x.1.2.2.2.2.2.2.2.2.2.1, (x.1.2.2.2.2.2.2.2.2.2.2.1, (x.1.2.2.2.2.2.2.2.2.2.2.2.1, ()))))))))), v11, y12, ())).bind fun r13 =>
                  some ((true, ()), ((x.1.1, (x.1.2.1, (r13.1.1, (r13.2.1.1, (r13.2.1.2.1, (r13.2.1.2.2.1, (r13.2.1.2.2.2.1, (r13.2.1.2.2.2.2.1, (r13.2.1.2.2.2.2.2.1, (r13.2.1.2.2.2.2.2.2.1, (r13.2.1.2.2.2.2.2.2.2.1, (r13.2.1.2.2.2.2.2.2.2.2.1, (x.1.2.2.2.2.2.2.2.2.2.2.2.2.1, ()))))))))))))), ()))
                else none
              else
                if 0 ≤ x.2.1.2.1 ∧ x.2.1.2.1 < ((x.1.2.2.2.1.length : Nat) : Int) then
                  ((x.1.2.2.2.1)[(x.2.1.2.1).toNat]?).bind fun y14 =>
                  if 0 ≤ r4.1.1 ∧ r4.1.1 < ((x.1.2.1.length : Nat) : Int) then
                    ((x.1.2.1)[(r4.1.1).toNat]?).bind fun y15 =>
                    let v16 := (x.1.2.1.set (r4.1.1).toNat y14)
                    some ((true, ()), ((x.1.1, (v16, (x.1.2.2.1, (x.1.2.2.2.1, (x.1.2.2.2.2.1, (x.1.2.2.2.2.2.1, (x.1.2.2.2.2.2.2.1, (x.1.2.2.2.2.2.2.2.1, (x.1.2.2.2.2.2.2.2.2.1, (x.1.2.2.2.2.2.2.2.2.2.1, (x.1.2.2.2.2.2.2.2.2.2.2.1, (x.1.2.2.2.2.2.2.2.2.2.2.2.1, (x.1.2.2.2.2.2.2.2.2.2.2.2.2.1, ()))))))))))))), ()))
                  else none
                else none
        else
          if (x.2.1.1 == (14 : Int)) then
            if 0 ≤ r4.1.1 ∧ r4.1.1 < ((x.1.2.1.length : Nat) : Int) then
              ((x.1.2.1)[(r4.1.1).toNat]?).bind fun y17 =>
              (F_spec_l10Put (x.1, x.2.1.2.1, y17, ())).bind fun r18 =>
              some ((true, ()), (r18.2.1, ()))
            else none
          else
            if (leI (1000 : Int) r4.1.1) then
              let v19 := (IntKind.i64.wrap (r4.1.1 - (1000 : Int)))
              if 0 ≤ x.2.1.2.1 ∧ x.2.1.2.1 < ((x.1.2.2.2.1.length : Nat) : Int) then
                ((x.1.2.2.2.1)[(x.2.1.2.1).toNat]?).bind fun y20 =>
                (F_spec_l9Write ((x.1.2.2.2.1, (x.1.2.2.2.2.1, (x.1.2.2.2.2.2.1, (x.1.2.2.2.2.2.2.1, (x.1.2.2.2.2.2.2.2.1, (x.1.2.2.2.2.2.2.2.2.1, (x.1.2.2.2.2.2.2.2.2.2.1, (x.1.2.2.2.2.2.2.2.2.2.2.1, (x.1.2.2.2.2.2.2.2.2.2.2.2.1, ()))))))))), v19, y20, ())).bind fun r21 =>
                some ((true, ()), ((x.1.1, (x.1.2.1, (r21.1.1, (r21.2.1.1, (r21.2.1.2.1, (r21.2.1.2.2.1, (r21.2.1.2.2.2.1, (r21.2.1.2.2.2.2.1, (r21.2.1.2.2.2.2.2.1, (r21.2.1.2.2.2.2.2.2.1, (r21.2.1.2.2.2.2.2.2.2.1, (r21.2.1.2.2.2.2.2.2.2.2.1, (x.1.2.2.2.2.2.2.2.2.2.2.2.2.1, ()))))))))))))), ()))
              else none
            else
              if 0 ≤ x.2.1.2.1 ∧ x.2.1.2.1 < ((x.1.2.2.2.1.length : Nat) : Int) then
                ((x.1.2.2.2.1)[(x.2.1.2.1).toNat]?).bind fun y22 =>
                if 0 ≤ r4.1.1 ∧ r4.1.1 < ((x.1.2.1.length : Nat) : Int) then
                  ((x.1.2.1)[(r4.1.1).toNat]?).bind fun y23 =>
                  let v24 := (x.1.2.1.set (r4.1.1).toNat y22)
                  some ((true, ()), ((x.1.1, (v24, (x.1.2.2.1, (x.1.2.2.2.1, (x.1.2.2.2.2.1, (x.1.2.2.2.2.2.1, (x.1.2.2.2.2.2.2.1, (x.1.2.2.2.2.2.2.2.1, (x.1.2.2.2.2.2.2.2.2.1, (x.1.2.2.2.2.2.2.2.2.2.1, (x.1.2.2.2.2.2.2.2.2.2.2.1, (x.1.2.2.2.2.2.2.2.2.2.2.2.1, (x.1.2.2.2.2.2.2.2.2.2.2.2.2.1, ()))))))))))))), ()))
                else none
              else none
    else
      (F_spec_l10Place ((x.1.1, (x.1.2.1, (x.1.2.2.1, ((x.1.2.2.2.1, (x.1.2.2.2.2.1, (x.1.2.2.2.2.2.1, (x.1.2.2.2.2.2.2.1, (x.1.2.2.2.2.2.2.2.1, (x.1.2.2.2.2.2.2.2.2.1, (x.1.2.2.2.2.2.2.2.2.2.1, (x.1.2.2.2.2.2.2.2.2.2.2.1, (x.1.2.2.2.2.2.2.2.2.2.2.2.1, ()))))))))), (x.1.2.2.2.2.2.2.2.2.2.2.2.2.1, ()))))), r3.1.1, (1 : Int), ())).bind fun r25 =>
      if (r25.1.2.1 != (0 : Int)) then
        (F_spec_l10Fall (x.1, (3 : Int), r3.1.1, ())).bind fun r26 =>
        some ((false, ()), (r26.2.1, ()))
      else
        if (x.2.1.1 == (14 : Int)) = true then
          if (leI (1000 : Int) r25.1.1) then
            let v27 := (IntKind.i64.wrap (r25.1.1 - (1000 : Int)))
            (F_spec_l9Read ((x.1.2.2.2.1, (x.1.2.2.2.2.1, (x.1.2.2.2.2.2.1, (x.1.2.2.2.2.2.2.1, (x.1.2.2.2.2.2.2.2.1, (x.1.2.2.2.2.2.2.2.2.1, (x.1.2.2.2.2.2.2.2.2.2.1, (x.1.2.2.2.2.2.2.2.2.2.2.1, (x.1.2.2.2.2.2.2.2.2.2.2.2.1, ()))))))))), v27, ())).bind fun r28 =>
            (F_spec_l10Put ((x.1.1, (x.1.2.1, (x.1.2.2.1, (r28.2.1.1, (r28.2.1.2.1, (r28.2.1.2.2.1, (r28.2.1.2.2.2.1, (r28.2.1.2.2.2.2.1, (r28.2.1.2.2.2.2.2.1, (r28.2.1.2.2.2.2.2.2.1, (r28.2.1.2.2.2.2.2.2.2.1, (r28.2.1.2.2.2.2.2.2.2.2.1, (x.1.2.2.2.2.2.2.2.2.2.2.2.2.1, ()))))))))))))), x.2.1.2.1, r28.1.1, ())).bind fun r29 =>
            some ((true, ()), (r29.2.1, ()))
          else
            if (x.2.1.1 == (14 : Int)) then
              if 0 ≤ r25.1.1 ∧ r25.1.1 < ((x.1.2.1.length : Nat) : Int) then
                ((x.1.2.1)[(r25.1.1).toNat]?).bind fun y30 =>
                (F_spec_l10Put (x.1, x.2.1.2.1, y30, ())).bind fun r31 =>
                some ((true, ()), (r31.2.1, ()))
              else none
            else
              if (leI (1000 : Int) r25.1.1) then
                let v32 := (IntKind.i64.wrap (r25.1.1 - (1000 : Int)))
                if 0 ≤ x.2.1.2.1 ∧ x.2.1.2.1 < ((x.1.2.2.2.1.length : Nat) : Int) then
                  ((x.1.2.2.2.1)[(x.2.1.2.1).toNat]?).bind fun y33 =>
                  (F_spec_l9Write ((x.1.2.2.2.1, (x.1.2.2.2.2.1, (x.1.2.2.2.2.2.1, (x.1.2.2.2.2.2.2.1, (x.1.2.2.2.2.2.2.2.1, (x.1.2.2.2.2.2.2.2.2.1, (x.1.2.2.2.2.2.2.2.2.2.1, (x.1.2.2.2.2.2.2.2.2.2.2.1, (x.1.2.2.2.2.2.2.2.2.2.2.2.1, ()))))))))), v32, y33, ())).bind fun r34 =>
                  some ((true, ()), ((x.1.1, (x.1.2.1, (r34.1.1, (r34.2.1.1, (r34.2.1.2.1, (r34.2.1.2.2.1, (r34.2.1.2.2.2.1, (r34.2.1.2.2.2.2.1, (r34.2.1.2.2.2.2.2.1, (r34.2.1.2.2.2.2.2.2.1, (r34.2.1.2.2.2.2.2.2.2.1, (r34.2.1.2.2.2.2.2.2.2.2.1, (x.1.2.2.2.2.2.2.2.2.2.2.2.2.1, ()))))))))))))), ()))
                else none
              else
                if 0 ≤ x.2.1.2.1 ∧ x.2.1.2.1 < ((x.1.2.2.2.1.length : Nat) : Int) then
                  ((x.1.2.2.2.1)[(x.2.1.2.1).toNat]?).bind fun y35 =>
                  if 0 ≤ r25.1.1 ∧ r25.1.1 < ((x.1.2.1.length : Nat) : Int) then
                    ((x.1.2.1)[(r25.1.1).toNat]?).bind fun y36 =>
                    let v37 := (x.1.2.1.set (r25.1.1).toNat y35)
                    some ((true, ()), ((x.1.1, (v37, (x.1.2.2.1, (x.1.2.2.2.1, (x.1.2.2.2.2.1, (x.1.2.2.2.2.2.1, (x.1.2.2.2.2.2.2.1, (x.1.2.2.2.2.2.2.2.1, (x.1.2.2.2.2.2.2.2.2.1, (x.1.2.2.2.2.2.2.2.2.2.1, (x.1.2.2.2.2.2.2.2.2.2.2.1, (x.1.2.2.2.2.2.2.2.2.2.2.2.1, (x.1.2.2.2.2.2.2.2.2.2.2.2.2.1, ()))))))))))))), ()))
                  else none
                else none
        else
          if (x.2.1.1 == (14 : Int)) then
            if 0 ≤ r25.1.1 ∧ r25.1.1 < ((x.1.2.1.length : Nat) : Int) then
              ((x.1.2.1)[(r25.1.1).toNat]?).bind fun y38 =>
              (F_spec_l10Put (x.1, x.2.1.2.1, y38, ())).bind fun r39 =>
              some ((true, ()), (r39.2.1, ()))
            else none
          else
            if (leI (1000 : Int) r25.1.1) then
              let v40 := (IntKind.i64.wrap (r25.1.1 - (1000 : Int)))
              if 0 ≤ x.2.1.2.1 ∧ x.2.1.2.1 < ((x.1.2.2.2.1.length : Nat) : Int) then
                ((x.1.2.2.2.1)[(x.2.1.2.1).toNat]?).bind fun y41 =>
                (F_spec_l9Write ((x.1.2.2.2.1, (x.1.2.2.2.2.1, (x.1.2.2.2.2.2.1, (x.1.2.2.2.2.2.2.1, (x.1.2.2.2.2.2.2.2.1, (x.1.2.2.2.2.2.2.2.2.1, (x.1.2.2.2.2.2.2.2.2.2.1, (x.1.2.2.2.2.2.2.2.2.2.2.1, (x.1.2.2.2.2.2.2.2.2.2.2.2.1, ()))))))))), v40, y41, ())).bind fun r42 =>
                some ((true, ()), ((x.1.1, (x.1.2.1, (r42.1.1, (r42.2.1.1, (r42.2.1.2.1, (r42.2.1.2.2.1, (r42.2.1.2.2.2.1, (r42.2.1.2.2.2.2.1, (r42.2.1.2.2.2.2.2.1, (r42.2.1.2.2.2.2.2.2.1, (r42.2.1.2.2.2.2.2.2.2.1, (r42.2.1.2.2.2.2.2.2.2.2.1, (x.1.2.2.2.2.2.2.2.2.2.2.2.2.1, ()))))))))))))), ()))
              else none
            else
              if 0 ≤ x.2.1.2.1 ∧ x.2.1.2.1 < ((x.1.2.2.2.1.length : Nat) : Int) then
                ((x.1.2.2.2.1)[(x.2.1.2.1).toNat]?).bind fun y43 =>
                if 0 ≤ r25.1.1 ∧ r25.1.1 < ((x.1.2.1.length : Nat) : Int) then
                  ((x.1.2.1)[(r25.1.1).toNat]?).bind fun y44 =>
                  let v45 := (x.1.2.1.set (r25.1.1).toNat y43)
                  some ((true, ()), ((x.1.1, (v45, (x.1.2.2.1, (x.1.2.2.2.1, (x.1.2.2.2.2.1, (x.1.2.2.2.2.2.1, (x.1.2.2.2.2.2.2.1, (x.1.2.2.2.2.2.2.2.1, (x.1.2.2.2.2.2.2.2.2.1, (x.1.2.2.2.2.2.2.2.2.2.1, (x.1.2.2.2.2.2.2.2.2.2.2.1, (x.1.2.2.2.2.2.2.2.2.2.2.2.1, (x.1.2.2.2.2.2.2.2.2.2.2.2.2.1, ()))))))))))))), ()))
                else none
              else none
  else none
abbrev C_spec_l10Memory : Con := ⟨P_spec_l10Memory, R_spec_l10Memory, F_spec_l10Memory, false⟩
abbrev G_spec_l10Memory : Env := [(65, C_spec_l10Place), (147, C_spec_l10Fall), (221, C_spec_AddWords), (222, C_spec_OffsetOf), (223, C_spec_l10Put), (271, C_spec_l9Read), (272, C_spec_l9Write)]
theorem g_spec_l10Memory : EnvOk Tryz.prog G_spec_l10Memory := (env_cons s_spec_l10Place (env_cons s_spec_l10Fall (env_cons s_spec_AddWords (env_cons s_spec_OffsetOf (env_cons s_spec_l10Put (env_cons s_spec_l9Read (env_cons s_spec_l9Write env_nil)))))))
theorem r_spec_l10Memory (x) : runFn T G_spec_l10Memory [] Tryz.f224 P_spec_l10Memory R_spec_l10Memory x = F_spec_l10Memory x := by kernel_rfl
theorem s_spec_l10Memory : CallsOk Tryz.prog 224 C_spec_l10Memory :=
  fn_calls (L := []) hT g_spec_l10Memory Tryz.f224 (by kernel_rfl) (by kernel_rfl) (by kernel_rfl) (plain_ok (by kernel_rfl)) r_spec_l10Memory
/-! spec.SignedOf -/
abbrev P_spec_SignedOf : List PK := [.val YI]
abbrev R_spec_SignedOf : List VK := [.s (.dat YI)]
def F_spec_SignedOf (x : denP P_spec_SignedOf) : Option (denV R_spec_SignedOf × denQ P_spec_SignedOf) :=
  let v1 := (IntKind.u32.wrap x.1)
  let v2 := (IntKind.i32.wrap v1)
  let v3 := (IntKind.i64.wrap v2)
  some ((v3, ()), ())
abbrev C_spec_SignedOf : Con := ⟨P_spec_SignedOf, R_spec_SignedOf, F_spec_SignedOf, false⟩
abbrev G_spec_SignedOf : Env := []
theorem g_spec_SignedOf : EnvOk Tryz.prog G_spec_SignedOf := env_nil
theorem r_spec_SignedOf (x) : runFn T G_spec_SignedOf [] Tryz.f273 P_spec_SignedOf R_spec_SignedOf x = F_spec_SignedOf x := by kernel_rfl
theorem s_spec_SignedOf : CallsOk Tryz.prog 273 C_spec_SignedOf :=
  fn_calls (L := []) hT g_spec_SignedOf Tryz.f273 (by kernel_rfl) (by kernel_rfl) (by kernel_rfl) (plain_ok (by kernel_rfl)) r_spec_SignedOf
/-! spec.l10Taken -/
abbrev P_spec_l10Taken : List PK := [.ptr Y25, .val Y42]
abbrev R_spec_l10Taken : List VK := [.s (.dat .bool)]
def F_spec_l10Taken (x : denP P_spec_l10Taken) : Option (denV R_spec_l10Taken × denQ P_spec_l10Taken) :=
  if 0 ≤ x.2.1.2.1 then
    ((x.1.1)[(x.2.1.2.1).toNat]?).bind fun y1 =>
    if 0 ≤ x.2.1.2.2.1 then
      ((x.1.1)[(x.2.1.2.2.1).toNat]?).bind fun y2 =>
      if (x.2.1.1 == (16 : Int)) then
        some (((y1 == y2), ()), ())
      else
        if (x.2.1.1 == (17 : Int)) then
          some (((y1 != y2), ()), ())
        else
          (F_spec_SignedOf (y1, ())).bind fun r3 =>
          (F_spec_SignedOf (y2, ())).bind fun r4 =>
          some (((ltI r3.1.1 r4.1.1), ()), ())
    else none
  else none
abbrev C_spec_l10Taken : Con := ⟨P_spec_l10Taken, R_spec_l10Taken, F_spec_l10Taken, false⟩
abbrev G_spec_l10Taken : Env := [(273, C_spec_SignedOf)]
theorem g_spec_l10Taken : EnvOk Tryz.prog G_spec_l10Taken := (env_cons s_spec_SignedOf env_nil)
theorem r_spec_l10Taken (x) : runFn T G_spec_l10Taken [] Tryz.f225 P_spec_l10Taken R_spec_l10Taken x = F_spec_l10Taken x := by kernel_rfl
theorem s_spec_l10Taken : CallsOk Tryz.prog 225 C_spec_l10Taken :=
  fn_calls (L := []) hT g_spec_l10Taken Tryz.f225 (by kernel_rfl) (by kernel_rfl) (by kernel_rfl) (plain_ok (by kernel_rfl)) r_spec_l10Taken
/-! spec.l8Get -/
abbrev P_spec_l8Get : List PK := [.ptr Y25, .val YI]
abbrev R_spec_l8Get : List VK := [.s (.dat YI)]
def F_spec_l8Get (x : denP P_spec_l8Get) : Option (denV R_spec_l8Get × denQ P_spec_l8Get) :=
  if (x.2.1 == (6 : Int)) then
    (F_spec_l8Pending (x.1, ())).bind fun r1 =>
    some ((r1.1.1, ()), ())
  else
    if (x.2.1 == (8 : Int)) then
      some ((x.1.2.2.2.2.2.2.1, ()), ())
    else
      if 0 ≤ x.2.1 then
        ((x.1.2.2.1)[(x.2.1).toNat]?).bind fun y2 =>
        some ((y2, ()), ())
      else none
abbrev C_spec_l8Get : Con := ⟨P_spec_l8Get, R_spec_l8Get, F_spec_l8Get, false⟩
abbrev G_spec_l8Get : Env := [(148, C_spec_l8Pending)]
theorem g_spec_l8Get : EnvOk Tryz.prog G_spec_l8Get := (env_cons s_spec_l8Pending env_nil)
theorem r_spec_l8Get (x) : runFn T G_spec_l8Get [] Tryz.f226 P_spec_l8Get R_spec_l8Get x = F_spec_l8Get x := by kernel_rfl
theorem s_spec_l8Get : CallsOk Tryz.prog 226 C_spec_l8Get :=
  fn_calls (L := []) hT g_spec_l8Get Tryz.f226 (by kernel_rfl) (by kernel_rfl) (by kernel_rfl) (plain_ok (by kernel_rfl)) r_spec_l8Get
/-! spec.l8Back -/
abbrev P_spec_l8Back : List PK := [.box [.own 2 YI, .dat YI, .own 2 YI, .dat .bool, .dat .bool, .dat .bool, .dat YI, .dat Y24, .own 2 YI] [.own 2 YI, .dat YI, .own 2 YI, .dat .bool, .dat .bool, .dat .bool, .dat YI, .dat Y24, .own 2 YI]]
abbrev R_spec_l8Back : List VK := []
def F_spec_l8Back (x : denP P_spec_l8Back) : Option (denV R_spec_l8Back × denQ P_spec_l8Back) :=
  if 0 ≤ (2 : Int) ∧ (2 : Int) < ((x.1.2.2.1.length : Nat) : Int) then
    ((x.1.2.2.1)[((2 : Int)).toNat]?).bind fun y1 =>
    if 0 ≤ (0 : Int) ∧ (0 : Int) < ((x.1.2.2.1.length : Nat) : Int) then
      ((x.1.2.2.1)[((0 : Int)).toNat]?).bind fun y2 =>
      let v3 := (IntKind.i64.wrap ((y2).tdiv (2 : Int)))
      let v4 := (IntKind.i64.wrap ((2 : Int) + v3))
      if 0 ≤ (0 : Int) ∧ (0 : Int) < ((x.1.2.2.1.length : Nat) : Int) then
        ((x.1.2.2.1)[((0 : Int)).toNat]?).bind fun y5 =>
        let v6 := (x.1.2.2.1.set ((0 : Int)).toNat v4)
        some ((), ((x.1.1, (y1, (v6, (x.1.2.2.2.1, (x.1.2.2.2.2.1, (x.1.2.2.2.2.2.1, (x.1.2.2.2.2.2.2.1, (x.1.2.2.2.2.2.2.2.1, (x.1.2.2.2.2.2.2.2.2.1, ()))))))))), ()))
      else none
    else none
  else none
abbrev C_spec_l8Back : Con := ⟨P_spec_l8Back, R_spec_l8Back, F_spec_l8Back, false⟩
abbrev G_spec_l8Back : Env := []
theorem g_spec_l8Back : EnvOk Tryz.prog G_spec_l8Back := env_nil
theorem r_spec_l8Back (x) : runFn T G_spec_l8Back [] Tryz.f228 P_spec_l8Back R_spec_l8Back x = F_spec_l8Back x := by kernel_rfl
theorem s_spec_l8Back : CallsOk Tryz.prog 228 C_spec_l8Back :=
  fn_calls (L := []) hT g_spec_l8Back Tryz.f228 (by kernel_rfl) (by kernel_rfl) (by kernel_rfl) (plain_ok (by kernel_rfl)) r_spec_l8Back
/-! spec.MulWords -/
abbrev P_spec_MulWords : List PK := [.val YI, .val YI]
abbrev R_spec_MulWords : List VK := [.s (.dat YI)]
def F_spec_MulWords (x : denP P_spec_MulWords) : Option (denV R_spec_MulWords × denQ P_spec_MulWords) :=
  let v1 := (IntKind.u32.wrap x.1)
  let v2 := (IntKind.u32.wrap x.2.1)
  let v3 := (IntKind.u32.wrap (v1 * v2))
  let v4 := (IntKind.i64.wrap v3)
  some ((v4, ()), ())
abbrev C_spec_MulWords : Con := ⟨P_spec_MulWords, R_spec_MulWords, F_spec_MulWords, false⟩
abbrev G_spec_MulWords : Env := []
theorem g_spec_MulWords : EnvOk Tryz.prog G_spec_MulWords := env_nil
theorem r_spec_MulWords (x) : runFn T G_spec_MulWords [] Tryz.f275 P_spec_MulWords R_spec_MulWords x = F_spec_MulWords x := by kernel_rfl
theorem s_spec_MulWords : CallsOk Tryz.prog 275 C_spec_MulWords :=
  fn_calls (L := []) hT g_spec_MulWords Tryz.f275 (by kernel_rfl) (by kernel_rfl) (by kernel_rfl) (plain_ok (by kernel_rfl)) r_spec_MulWords
/-! spec.DivWords -/
abbrev P_spec_DivWords : List PK := [.val YI, .val YI]
abbrev R_spec_DivWords : List VK := [.s (.dat YI)]
def F_spec_DivWords (x : denP P_spec_DivWords) : Option (denV R_spec_DivWords × denQ P_spec_DivWords) :=
  (F_spec_WrapWord (x.2.1, ())).bind fun r1 =>
  if (r1.1.1 == (0 : Int)) then
    some (((4294967295 : Int), ()), ())
  else
    (F_spec_SignedOf (x.1, ())).bind fun r2 =>
    (F_spec_SignedOf (x.2.1, ())).bind fun r3 =>
    if r3.1.1 = 0 then none else
    let v4 := (IntKind.i64.wrap ((r2.1.1).tdiv r3.1.1))
    (F_spec_WrapWord (v4, ())).bind fun r5 =>
    some ((r5.1.1, ()), ())
abbrev C_spec_DivWords : Con := ⟨P_spec_DivWords, R_spec_DivWords, F_spec_DivWords, false⟩
abbrev G_spec_DivWords : Env := [(273, C_spec_SignedOf), (274, C_spec_WrapWord)]
theorem g_spec_DivWords : EnvOk Tryz.prog G_spec_DivWords := (env_cons s_spec_SignedOf (env_cons s_spec_WrapWord env_nil))
theorem r_spec_DivWords (x) : runFn T G_spec_DivWords [] Tryz.f276 P_spec_DivWords R_spec_DivWords x = F_spec_DivWords x := by kernel_rfl
theorem s_spec_DivWords : CallsOk Tryz.prog 276 C_spec_DivWords :=
  fn_calls (L := []) hT g_spec_DivWords Tryz.f276 (by kernel_rfl) (by kernel_rfl) (by kernel_rfl) (plain_ok (by kernel_rfl)) r_spec_DivWords
/-! spec.RemWords -/
abbrev P_spec_RemWords : List PK := [.val YI, .val YI]
abbrev R_spec_RemWords : List VK := [.s (.dat YI)]
def F_spec_RemWords (x : denP P_spec_RemWords) : Option (denV R_spec_RemWords × denQ P_spec_RemWords) :=
  (F_spec_WrapWord (x.2.1, ())).bind fun r1 =>
  if (r1.1.1 == (0 : Int)) then
    (F_spec_WrapWord (x.1, ())).bind fun r2 =>
    some ((r2.1.1, ()), ())
  else
    (F_spec_SignedOf (x.1, ())).bind fun r3 =>
    (F_spec_SignedOf (x.2.1, ())).bind fun r4 =>
    if r4.1.1 = 0 then none else
    let v5 := ((r3.1.1).tmod r4.1.1)
    (F_spec_WrapWord (v5, ())).bind fun r6 =>
    some ((r6.1.1, ()), ())
abbrev C_spec_RemWords : Con := ⟨P_spec_RemWords, R_spec_RemWords, F_spec_RemWords, false⟩
abbrev G_spec_RemWords : Env := [(273, C_spec_SignedOf), (274, C_spec_WrapWord)]
theorem g_spec_RemWords : EnvOk Tryz.prog G_spec_RemWords := (env_cons s_spec_SignedOf (env_cons s_spec_WrapWord env_nil))
theorem r_spec_RemWords (x) : runFn T G_spec_RemWords [] Tryz.f277 P_spec_RemWords R_spec_RemWords x = F_spec_RemWords x := by kernel_rfl
theorem s_spec_RemWords : CallsOk Tryz.prog 277 C_spec_RemWords :=
  fn_calls (L := []) hT g_spec_RemWords Tryz.f277 (by kernel_rfl) (by kernel_rfl) (by kernel_rfl) (plain_ok (by kernel_rfl)) r_spec_RemWords
/-! spec.BitWords -/
abbrev P_spec_BitWords : List PK := [.val YI, .val YI, .val YI]
abbrev R_spec_BitWords : List VK := [.s (.dat Y40)]
def F_spec_BitWords (x : denP P_spec_BitWords) : Option (denV R_spec_BitWords × denQ P_spec_BitWords) :=
  if (x.1 == (1 : Int)) then
    let v1 := (IntKind.u32.wrap x.2.1)
    let v2 := (IntKind.u32.wrap x.2.2.1)
    let v3 := (iand .u32 v1 v2)
    let v4 := (IntKind.i64.wrap v3)
    some ((((0 : Int), (v4, ())), ()), ())
  else
    if (x.1 == (2 : Int)) then
      let v5 := (IntKind.u32.wrap x.2.1)
      let v6 := (IntKind.u32.wrap x.2.2.1)
      let v7 := (ior .u32 v5 v6)
      let v8 := (IntKind.i64.wrap v7)
      some ((((0 : Int), (v8, ())), ()), ())
    else
      if (x.1 == (3 : Int)) then
        let v9 := (IntKind.u32.wrap x.2.1)
        let v10 := (IntKind.u32.wrap x.2.2.1)
        let v11 := (ixor .u32 v9 v10)
        let v12 := (IntKind.i64.wrap v11)
        some ((((0 : Int), (v12, ())), ()), ())
      else
        some ((((3 : Int), ((0 : Int), ())), ()), ())
abbrev C_spec_BitWords : Con := ⟨P_spec_BitWords, R_spec_BitWords, F_spec_BitWords, false⟩
abbrev G_spec_BitWords : Env := []
theorem g_spec_BitWords : EnvOk Tryz.prog G_spec_BitWords := env_nil
theorem r_spec_BitWords (x) : runFn T G_spec_BitWords [] Tryz.f278 P_spec_BitWords R_spec_BitWords x = F_spec_BitWords x := by kernel_rfl
theorem s_spec_BitWords : CallsOk Tryz.prog 278 C_spec_BitWords :=
  fn_calls (L := []) hT g_spec_BitWords Tryz.f278 (by kernel_rfl) (by kernel_rfl) (by kernel_rfl) (plain_ok (by kernel_rfl)) r_spec_BitWords
/-! spec.ShiftWord -/
abbrev P_spec_ShiftWord : List PK := [.val YI, .val YI, .val .bool]
abbrev R_spec_ShiftWord : List VK := [.s (.dat YI)]
def F_spec_ShiftWord (x : denP P_spec_ShiftWord) : Option (denV R_spec_ShiftWord × denQ P_spec_ShiftWord) :=
  let v1 := (IntKind.u32.wrap x.2.1)
  let v2 := ((v1).tmod (32 : Int))
  let v3 := (IntKind.u64.wrap v2)
  if x.2.2.1 then
    let v4 := (IntKind.u32.wrap x.1)
    if v3 < 0 then none else
    let v5 := (IntKind.u32.wrap (v4 * 2 ^ (min (v3).toNat 32)))
    let v6 := (IntKind.i64.wrap v5)
    some ((v6, ()), ())
  else
    let v7 := (IntKind.u32.wrap x.1)
    if v3 < 0 then none else
    let v8 := ((v7).fdiv (2 ^ (min (v3).toNat 32)))
    let v9 := (IntKind.i64.wrap v8)
    some ((v9, ()), ())
abbrev C_spec_ShiftWord : Con := ⟨P_spec_ShiftWord, R_spec_ShiftWord, F_spec_ShiftWord, false⟩
abbrev G_spec_ShiftWord : Env := []
theorem g_spec_ShiftWord : EnvOk Tryz.prog G_spec_ShiftWord := env_nil
theorem r_spec_ShiftWord (x) : runFn T G_spec_ShiftWord [] Tryz.f279 P_spec_ShiftWord R_spec_ShiftWord x = F_spec_ShiftWord x := by kernel_rfl
theorem s_spec_ShiftWord : CallsOk Tryz.prog 279 C_spec_ShiftWord :=
  fn_calls (L := []) hT g_spec_ShiftWord Tryz.f279 (by kernel_rfl) (by kernel_rfl) (by kernel_rfl) (plain_ok (by kernel_rfl)) r_spec_ShiftWord
/-! spec.l2Alu -/
abbrev P_spec_l2Alu : List PK := [.val YI, .val YI, .val YI]
abbrev R_spec_l2Alu : List VK := [.s (.dat YI)]
def F_spec_l2Alu (x : denP P_spec_l2Alu) : Option (denV R_spec_l2Alu × denQ P_spec_l2Alu) :=
  if (x.1 == (1 : Int)) then
    (F_spec_AddWords (x.2.1, x.2.2.1, ())).bind fun r1 =>
    some ((r1.1.1, ()), ())
  else
    if (x.1 == (2 : Int)) then
      let v2 := (IntKind.u32.wrap x.2.1)
      let v3 := (IntKind.u32.wrap x.2.2.1)
      let v4 := (IntKind.u32.wrap (v2 - v3))
      let v5 := (IntKind.i64.wrap v4)
      some ((v5, ()), ())
    else
      if (x.1 == (3 : Int)) then
        (F_spec_MulWords (x.2.1, x.2.2.1, ())).bind fun r6 =>
        some ((r6.1.1, ()), ())
      else
        if (x.1 == (4 : Int)) then
          (F_spec_DivWords (x.2.1, x.2.2.1, ())).bind fun r7 =>
          some ((r7.1.1, ()), ())
        else
          if (x.1 == (5 : Int)) then
            (F_spec_RemWords (x.2.1, x.2.2.1, ())).bind fun r8 =>
            some ((r8.1.1, ()), ())
          else
            if (x.1 == (6 : Int)) then
              let v9 := (IntKind.i64.wrap (x.1 - (6 : Int)))
              let v10 := (IntKind.i64.wrap (v9 + (1 : Int)))
              (F_spec_BitWords (v10, x.2.1, x.2.2.1, ())).bind fun r11 =>
              some ((r11.1.1.2.1, ()), ())
            else
              if (x.1 == (7 : Int)) then
                let v12 := (IntKind.i64.wrap (x.1 - (6 : Int)))
                let v13 := (IntKind.i64.wrap (v12 + (1 : Int)))
                (F_spec_BitWords (v13, x.2.1, x.2.2.1, ())).bind fun r14 =>
                some ((r14.1.1.2.1, ()), ())
              else
                if (x.1 == (8 : Int)) then
                  let v15 := (IntKind.i64.wrap (x.1 - (6 : Int)))
                  let v16 := (IntKind.i64.wrap (v15 + (1 : Int)))
                  (F_spec_BitWords (v16, x.2.1, x.2.2.1, ())).bind fun r17 =>
                  some ((r17.1.1.2.1, ()), ())
                else
                  if (x.1 == (9 : Int)) then
                    (F_spec_ShiftWord (x.2.1, x.2.2.1, true, ())).bind fun r18 =>
                    some ((r18.1.1, ()), ())
                  else
                    if (x.1 == (10 : Int)) then
                      (F_spec_ShiftWord (x.2.1, x.2.2.1, false, ())).bind fun r19 =>
                      some ((r19.1.1, ()), ())
                    else
                      (F_spec_SignedOf (x.2.1, ())).bind fun r20 =>
                      (F_spec_SignedOf (x.2.2.1, ())).bind fun r21 =>
                      if (ltI r20.1.1 r21.1.1) then
                        some (((1 : Int), ()), ())
                      else
                        some (((0 : Int), ()), ())
abbrev C_spec_l2Alu : Con := ⟨P_spec_l2Alu, R_spec_l2Alu, F_spec_l2Alu, false⟩
abbrev G_spec_l2Alu : Env := [(221, C_spec_AddWords), (273, C_spec_SignedOf), (275, C_spec_MulWords), (276, C_spec_DivWords), (277, C_spec_RemWords), (278, C_spec_BitWords), (279, C_spec_ShiftWord)]
theorem g_spec_l2Alu : EnvOk Tryz.prog G_spec_l2Alu := (env_cons s_spec_AddWords (env_cons s_spec_SignedOf (env_cons s_spec_MulWords (env_cons s_spec_DivWords (env_cons s_spec_RemWords (env_cons s_spec_BitWords (env_cons s_spec_ShiftWord env_nil)))))))
theorem r_spec_l2Alu (x) : runFn T G_spec_l2Alu [] Tryz.f229 P_spec_l2Alu R_spec_l2Alu x = F_spec_l2Alu x := by kernel_rfl
theorem s_spec_l2Alu : CallsOk Tryz.prog 229 C_spec_l2Alu :=
  fn_calls (L := []) hT g_spec_l2Alu Tryz.f229 (by kernel_rfl) (by kernel_rfl) (by kernel_rfl) (plain_ok (by kernel_rfl)) r_spec_l2Alu
/-! spec.l10Do -/
abbrev P_spec_l10Do : List PK := [.box [.dat Y27, .own 2 YI, .dat YI, .own 2 YI, .dat YI, .own 2 YI, .dat .bool, .dat .bool, .dat .bool, .dat YI, .dat Y24, .own 2 YI, .dat YI] [.dat Y27, .own 2 YI, .dat YI, .own 2 YI, .dat YI, .own 2 YI, .dat .bool, .dat .bool, .dat .bool, .dat YI, .dat Y24, .own 2 YI, .dat YI], .val Y42]
abbrev R_spec_l10Do : List VK := [.s (.dat .bool)]
def F_spec_l10Do (x : denP P_spec_l10Do) : Option (denV R_spec_l10Do × denQ P_spec_l10Do) :=
  (F_spec_AddWords (x.1.2.2.2.2.1, (1 : Int), ())).bind fun r1 =>
  (F_spec_OffsetOf (x.2.1.2.2.2.1, ())).bind fun r2 =>
  (F_spec_AddWords (x.1.2.2.2.2.1, r2.1.1, ())).bind fun r3 =>
  if (x.2.1.1 == (12 : Int)) then
    if 0 ≤ x.2.1.2.2.1 ∧ x.2.1.2.2.1 < ((x.1.2.2.2.1.length : Nat) : Int) then
      ((x.1.2.2.2.1)[(x.2.1.2.2.1).toNat]?).bind fun y4 =>
      (F_spec_OffsetOf (x.2.1.2.2.2.1, ())).bind fun r5 =>
      (F_spec_AddWords (y4, r5.1.1, ())).bind fun r6 =>
      (F_spec_l10Put (x.1, x.2.1.2.1, r6.1.1, ())).bind fun r7 =>
      some ((true, ()), ((r7.2.1.1, (r7.2.1.2.1, (r7.2.1.2.2.1, (r7.2.1.2.2.2.1, (r1.1.1, (r7.2.1.2.2.2.2.2.1, (r7.2.1.2.2.2.2.2.2.1, (r7.2.1.2.2.2.2.2.2.2.1, (r7.2.1.2.2.2.2.2.2.2.2.1, (r7.2.1.2.2.2.2.2.2.2.2.2.1, (r7.2.1.2.2.2.2.2.2.2.2.2.2.1, (r7.2.1.2.2.2.2.2.2.2.2.2.2.2.1, (r7.2.1.2.2.2.2.2.2.2.2.2.2.2.2.1, ()))))))))))))), ()))
    else none
  else
    if (x.2.1.1 == (13 : Int)) then
      let v8 := (IntKind.i64.wrap (x.2.1.2.2.2.1 * (65536 : Int)))
      (F_spec_l10Put (x.1, x.2.1.2.1, v8, ())).bind fun r9 =>
      some ((true, ()), ((r9.2.1.1, (r9.2.1.2.1, (r9.2.1.2.2.1, (r9.2.1.2.2.2.1, (r1.1.1, (r9.2.1.2.2.2.2.2.1, (r9.2.1.2.2.2.2.2.2.1, (r9.2.1.2.2.2.2.2.2.2.1, (r9.2.1.2.2.2.2.2.2.2.2.1, (r9.2.1.2.2.2.2.2.2.2.2.2.1, (r9.2.1.2.2.2.2.2.2.2.2.2.2.1, (r9.2.1.2.2.2.2.2.2.2.2.2.2.2.1, (r9.2.1.2.2.2.2.2.2.2.2.2.2.2.2.1, ()))))))))))))), ()))
    else
      if (x.2.1.1 == (14 : Int)) then
        (F_spec_l10Memory (x.1, x.2.1, ())).bind fun r10 =>
        if (!r10.1.1) then
          some ((false, ()), (r10.2.1, ()))
        else
          some ((true, ()), ((r10.2.1.1, (r10.2.1.2.1, (r10.2.1.2.2.1, (r10.2.1.2.2.2.1, (r1.1.1, (r10.2.1.2.2.2.2.2.1, (r10.2.1.2.2.2.2.2.2.1, (r10.2.1.2.2.2.2.2.2.2.1, (r10.2.1.2.2.2.2.2.2.2.2.1, (r10.2.1.2.2.2.2.2.2.2.2.2.1, (r10.2.1.2.2.2.2.2.2.2.2.2.2.1, (r10.2.1.2.2.2.2.2.2.2.2.2.2.2.1, (r10.2.1.2.2.2.2.2.2.2.2.2.2.2.2.1, ()))))))))))))), ()))
      else
        if (x.2.1.1 == (15 : Int)) then
          (F_spec_l10Memory (x.1, x.2.1, ())).bind fun r11 =>
          if (!r11.1.1) then
            some ((false, ()), (r11.2.1, ()))
          else
            some ((true, ()), ((r11.2.1.1, (r11.2.1.2.1, (r11.2.1.2.2.1, (r11.2.1.2.2.2.1, (r1.1.1, (r11.2.1.2.2.2.2.2.1, (r11.2.1.2.2.2.2.2.2.1, (r11.2.1.2.2.2.2.2.2.2.1, (r11.2.1.2.2.2.2.2.2.2.2.1, (r11.2.1.2.2.2.2.2.2.2.2.2.1, (r11.2.1.2.2.2.2.2.2.2.2.2.2.1, (r11.2.1.2.2.2.2.2.2.2.2.2.2.2.1, (r11.2.1.2.2.2.2.2.2.2.2.2.2.2.2.1, ()))))))))))))), ()))
        else
          if (x.2.1.1 == (16 : Int)) then
            (F_spec_l10Taken ((x.1.2.2.2.1, (x.1.2.2.2.2.1, (x.1.2.2.2.2.2.1, (x.1.2.2.2.2.2.2.1, (x.1.2.2.2.2.2.2.2.1, (x.1.2.2.2.2.2.2.2.2.1, (x.1.2.2.2.2.2.2.2.2.2.1, (x.1.2.2.2.2.2.2.2.2.2.2.1, (x.1.2.2.2.2.2.2.2.2.2.2.2.1, ()))))))))), x.2.1, ())).bind fun r12 =>
            if r12.1.1 then
              some ((true, ()), ((x.1.1, (x.1.2.1, (x.1.2.2.1, (x.1.2.2.2.1, (r3.1.1, (x.1.2.2.2.2.2.1, (x.1.2.2.2.2.2.2.1, (x.1.2.2.2.2.2.2.2.1, (x.1.2.2.2.2.2.2.2.2.1, (x.1.2.2.2.2.2.2.2.2.2.1, (x.1.2.2.2.2.2.2.2.2.2.2.1, (x.1.2.2.2.2.2.2.2.2.2.2.2.1, (x.1.2.2.2.2.2.2.2.2.2.2.2.2.1, ()))))))))))))), ()))
            else
              some ((true, ()), ((x.1.1, (x.1.2.1, (x.1.2.2.1, (x.1.2.2.2.1, (r1.1.1, (x.1.2.2.2.2.2.1, (x.1.2.2.2.2.2.2.1, (x.1.2.2.2.2.2.2.2.1, (x.1.2.2.2.2.2.2.2.2.1, (x.1.2.2.2.2.2.2.2.2.2.1, (x.1.2.2.2.2.2.2.2.2.2.2.1, (x.1.2.2.2.2.2.2.2.2.2.2.2.1, (x.1.2.2.2.2.2.2.2.2.2.2.2.2.1, ()))))))))))))), ()))
          else
            if (x.2.1.1 == (17 : Int)) then
              (F_spec_l10Taken ((x.1.2.2.2.1, (x.1.2.2.2.2.1, (x.1.2.2.2.2.2.1, (x.1.2.2.2.2.2.2.1, (x.1.2.2.2.2.2.2.2.1, (x.1.2.2.2.2.2.2.2.2.1, (x.1.2.2.2.2.2.2.2.2.2.1, (x.1.2.2.2.2.2.2.2.2.2.2.1, (x.1.2.2.2.2.2.2.2.2.2.2.2.1, ()))))))))), x.2.1, ())).bind fun r13 =>
              if r13.1.1 then
                some ((true, ()), ((x.1.1, (x.1.2.1, (x.1.2.2.1, (x.1.2.2.2.1, (r3.1.1, (x.1.2.2.2.2.2.1, (x.1.2.2.2.2.2.2.1, (x.1.2.2.2.2.2.2.2.1, (x.1.2.2.2.2.2.2.2.2.1, (x.1.2.2.2.2.2.2.2.2.2.1, (x.1.2.2.2.2.2.2.2.2.2.2.1, (x.1.2.2.2.2.2.2.2.2.2.2.2.1, (x.1.2.2.2.2.2.2.2.2.2.2.2.2.1, ()))))))))))))), ()))
              else
                some ((true, ()), ((x.1.1, (x.1.2.1, (x.1.2.2.1, (x.1.2.2.2.1, (r1.1.1, (x.1.2.2.2.2.2.1, (x.1.2.2.2.2.2.2.1, (x.1.2.2.2.2.2.2.2.1, (x.1.2.2.2.2.2.2.2.2.1, (x.1.2.2.2.2.2.2.2.2.2.1, (x.1.2.2.2.2.2.2.2.2.2.2.1, (x.1.2.2.2.2.2.2.2.2.2.2.2.1, (x.1.2.2.2.2.2.2.2.2.2.2.2.2.1, ()))))))))))))), ()))
            else
              if (x.2.1.1 == (18 : Int)) then
                (F_spec_l10Taken ((x.1.2.2.2.1, (x.1.2.2.2.2.1, (x.1.2.2.2.2.2.1, (x.1.2.2.2.2.2.2.1, (x.1.2.2.2.2.2.2.2.1, (x.1.2.2.2.2.2.2.2.2.1, (x.1.2.2.2.2.2.2.2.2.2.1, (x.1.2.2.2.2.2.2.2.2.2.2.1, (x.1.2.2.2.2.2.2.2.2.2.2.2.1, ()))))))))), x.2.1, ())).bind fun r14 =>
                if r14.1.1 then
                  some ((true, ()), ((x.1.1, (x.1.2.1, (x.1.2.2.1, (x.1.2.2.2.1, (r3.1.1, (x.1.2.2.2.2.2.1, (x.1.2.2.2.2.2.2.1, (x.1.2.2.2.2.2.2.2.1, (x.1.2.2.2.2.2.2.2.2.1, (x.1.2.2.2.2.2.2.2.2.2.1, (x.1.2.2.2.2.2.2.2.2.2.2.1, (x.1.2.2.2.2.2.2.2.2.2.2.2.1, (x.1.2.2.2.2.2.2.2.2.2.2.2.2.1, ()))))))))))))), ()))
                else
                  some ((true, ()), ((x.1.1, (x.1.2.1, (x.1.2.2.1, (x.1.2.2.2.1, (r1.1.1, (x.1.2.2.2.2.2.1, (x.1.2.2.2.2.2.2.1, (x.1.2.2.2.2.2.2.2.1, (x.1.2.2.2.2.2.2.2.2.1, (x.1.2.2.2.2.2.2.2.2.2.1, (x.1.2.2.2.2.2.2.2.2.2.2.1, (x.1.2.2.2.2.2.2.2.2.2.2.2.1, (x.1.2.2.2.2.2.2.2.2.2.2.2.2.1, ()))))))))))))), ()))
              else
                if (x.2.1.1 == (19 : Int)) then
                  (F_spec_l10Put (x.1, x.2.1.2.1, r1.1.1, ())).bind fun r15 =>
                  some ((true, ()), ((r15.2.1.1, (r15.2.1.2.1, (r15.2.1.2.2.1, (r15.2.1.2.2.2.1, (r3.1.1, (r15.2.1.2.2.2.2.2.1, (r15.2.1.2.2.2.2.2.2.1, (r15.2.1.2.2.2.2.2.2.2.1, (r15.2.1.2.2.2.2.2.2.2.2.1, (r15.2.1.2.2.2.2.2.2.2.2.2.1, (r15.2.1.2.2.2.2.2.2.2.2.2.2.1, (r15.2.1.2.2.2.2.2.2.2.2.2.2.2.1, (r15.2.1.2.2.2.2.2.2.2.2.2.2.2.2.1, ()))))))))))))), ()))
                else
                  if (x.2.1.1 == (20 : Int)) then
                    if 0 ≤ x.2.1.2.2.1 ∧ x.2.1.2.2.1 < ((x.1.2.2.2.1.length : Nat) : Int) then
                      ((x.1.2.2.2.1)[(x.2.1.2.2.1).toNat]?).bind fun y16 =>
                      (F_spec_OffsetOf (x.2.1.2.2.2.1, ())).bind fun r17 =>
                      (F_spec_AddWords (y16, r17.1.1, ())).bind fun r18 =>
                      (F_spec_l10Put (x.1, x.2.1.2.1, r1.1.1, ())).bind fun r19 =>
                      some ((true, ()), ((r19.2.1.1, (r19.2.1.2.1, (r19.2.1.2.2.1, (r19.2.1.2.2.2.1, (r18.1.1, (r19.2.1.2.2.2.2.2.1, (r19.2.1.2.2.2.2.2.2.1, (r19.2.1.2.2.2.2.2.2.2.1, (r19.2.1.2.2.2.2.2.2.2.2.1, (r19.2.1.2.2.2.2.2.2.2.2.2.1, (r19.2.1.2.2.2.2.2.2.2.2.2.2.1, (r19.2.1.2.2.2.2.2.2.2.2.2.2.2.1, (r19.2.1.2.2.2.2.2.2.2.2.2.2.2.2.1, ()))))))))))))), ()))
                    else none
                  else
                    if (x.2.1.1 == (21 : Int)) then
                      (F_spec_l8Get ((x.1.2.2.2.1, (x.1.2.2.2.2.1, (x.1.2.2.2.2.2.1, (x.1.2.2.2.2.2.2.1, (x.1.2.2.2.2.2.2.2.1, (x.1.2.2.2.2.2.2.2.2.1, (x.1.2.2.2.2.2.2.2.2.2.1, (x.1.2.2.2.2.2.2.2.2.2.2.1, (x.1.2.2.2.2.2.2.2.2.2.2.2.1, ()))))))))), x.2.1.2.2.2.1, ())).bind fun r20 =>
                      (F_spec_l10Put (x.1, x.2.1.2.1, r20.1.1, ())).bind fun r21 =>
                      some ((true, ()), ((r21.2.1.1, (r21.2.1.2.1, (r21.2.1.2.2.1, (r21.2.1.2.2.2.1, (r1.1.1, (r21.2.1.2.2.2.2.2.1, (r21.2.1.2.2.2.2.2.2.1, (r21.2.1.2.2.2.2.2.2.2.1, (r21.2.1.2.2.2.2.2.2.2.2.1, (r21.2.1.2.2.2.2.2.2.2.2.2.1, (r21.2.1.2.2.2.2.2.2.2.2.2.2.1, (r21.2.1.2.2.2.2.2.2.2.2.2.2.2.1, (r21.2.1.2.2.2.2.2.2.2.2.2.2.2.2.1, ()))))))))))))), ()))
                    else
                      if (x.2.1.1 == (22 : Int)) then
                        if 0 ≤ x.2.1.2.2.1 ∧ x.2.1.2.2.1 < ((x.1.2.2.2.1.length : Nat) : Int) then
                          ((x.1.2.2.2.1)[(x.2.1.2.2.1).toNat]?).bind fun y22 =>
                          (F_spec_l8Set ((x.1.2.2.2.1, (x.1.2.2.2.2.1, (x.1.2.2.2.2.2.1, (x.1.2.2.2.2.2.2.1, (x.1.2.2.2.2.2.2.2.1, (x.1.2.2.2.2.2.2.2.2.1, (x.1.2.2.2.2.2.2.2.2.2.1, (x.1.2.2.2.2.2.2.2.2.2.2.1, (x.1.2.2.2.2.2.2.2.2.2.2.2.1, ()))))))))), x.2.1.2.2.2.1, y22, ())).bind fun r23 =>
                          some ((true, ()), ((x.1.1, (x.1.2.1, (x.1.2.2.1, (r23.2.1.1, (r1.1.1, (r23.2.1.2.2.1, (r23.2.1.2.2.2.1, (r23.2.1.2.2.2.2.1, (r23.2.1.2.2.2.2.2.1, (r23.2.1.2.2.2.2.2.2.1, (r23.2.1.2.2.2.2.2.2.2.1, (r23.2.1.2.2.2.2.2.2.2.2.1, (x.1.2.2.2.2.2.2.2.2.2.2.2.2.1, ()))))))))))))), ()))
                        else none
                      else
                        if (x.2.1.1 == (23 : Int)) then
                          (F_spec_l10Fall (x.1, (5 : Int), (0 : Int), ())).bind fun r24 =>
                          some ((false, ()), (r24.2.1, ()))
                        else
                          if (x.2.1.1 == (24 : Int)) then
                            (F_spec_l8Back ((x.1.2.2.2.1, (x.1.2.2.2.2.1, (x.1.2.2.2.2.2.1, (x.1.2.2.2.2.2.2.1, (x.1.2.2.2.2.2.2.2.1, (x.1.2.2.2.2.2.2.2.2.1, (x.1.2.2.2.2.2.2.2.2.2.1, (x.1.2.2.2.2.2.2.2.2.2.2.1, (x.1.2.2.2.2.2.2.2.2.2.2.2.1, ()))))))))), ())).bind fun r25 =>
                            some ((true, ()), ((x.1.1, (x.1.2.1, (x.1.2.2.1, (r25.2.1.1, (r25.2.1.2.1, (r25.2.1.2.2.1, (r25.2.1.2.2.2.1, (r25.2.1.2.2.2.2.1, (r25.2.1.2.2.2.2.2.1, (r25.2.1.2.2.2.2.2.2.1, (r25.2.1.2.2.2.2.2.2.2.1, (r25.2.1.2.2.2.2.2.2.2.2.1, (x.1.2.2.2.2.2.2.2.2.2.2.2.2.1, ()))))))))))))), ()))
                          else
                            if (x.2.1.1 == (25 : Int)) then
                              some ((true, ()), ((x.1.1, (x.1.2.1, (x.1.2.2.1, (x.1.2.2.2.1, (r1.1.1, (x.1.2.2.2.2.2.1, (x.1.2.2.2.2.2.2.1, (true, (x.1.2.2.2.2.2.2.2.2.1, (x.1.2.2.2.2.2.2.2.2.2.1, (x.1.2.2.2.2.2.2.2.2.2.2.1, (x.1.2.2.2.2.2.2.2.2.2.2.2.1, (x.1.2.2.2.2.2.2.2.2.2.2.2.2.1, ()))))))))))))), ()))
                            else
                              if (x.2.1.1 == (26 : Int)) then
                                some ((true, ()), ((x.1.1, (x.1.2.1, (x.1.2.2.1, (x.1.2.2.2.1, (x.1.2.2.2.2.1, (x.1.2.2.2.2.2.1, (true, (x.1.2.2.2.2.2.2.2.1, (x.1.2.2.2.2.2.2.2.2.1, (x.1.2.2.2.2.2.2.2.2.2.1, (x.1.2.2.2.2.2.2.2.2.2.2.1, (x.1.2.2.2.2.2.2.2.2.2.2.2.1, (x.1.2.2.2.2.2.2.2.2.2.2.2.2.1, ()))))))))))))), ()))
                              else
                                if 0 ≤ x.2.1.2.2.1 ∧ x.2.1.2.2.1 < ((x.1.2.2.2.1.length : Nat) : Int) then
                                  ((x.1.2.2.2.1)[(x.2.1.2.2.1).toNat]?).bind fun y26 =>
                                  if 0 ≤ x.2.1.2.2.2.1 ∧ x.2.1.2.2.2.1 < ((x.1.2.2.2.1.length : Nat) : Int) then
                                    ((x.1.2.2.2.1)[(x.2.1.2.2.2.1).toNat]?).bind fun y27 =>
                                    (F_spec_l2Alu (x.2.1.1, y26, y27, ())).bind fun r28 =>
                                    (F_spec_l10Put (x.1, x.2.1.2.1, r28.1.1, ())).bind fun r29 =>
                                    some ((true, ()), ((r29.2.1.1, (r29.2.1.2.1, (r29.2.1.2.2.1, (r29.2.1.2.2.2.1, (r1.1.1, (r29.2.1.2.2.2.2.2.1, (r29.2.1.2.2.2.2.2.2.1, (r29.2.1.2.2.2.2.2.2.2.1, (r29.2.1.2.2.2.2.2.2.2.2.1, (r29.2.1.2.2.2.2.2.2.2.2.2.1, (r29.2.1.2.2.2.2.2.2.2.2.2.2.1, (r29.2.1.2.2.2.2.2.2.2.2.2.2.2.1, (r29.2.1.2.2.2.2.2.2.2.2.2.2.2.2.1, ()))))))))))))), ()))
                                  else none
                                else none
abbrev C_spec_l10Do : Con := ⟨P_spec_l10Do, R_spec_l10Do, F_spec_l10Do, false⟩
abbrev G_spec_l10Do : Env := [(147, C_spec_l10Fall), (221, C_spec_AddWords), (222, C_spec_OffsetOf), (223, C_spec_l10Put), (224, C_spec_l10Memory), (225, C_spec_l10Taken), (226, C_spec_l8Get), (227, C_spec_l8Set), (228, C_spec_l8Back), (229, C_spec_l2Alu)]
theorem g_spec_l10Do : EnvOk Tryz.prog G_spec_l10Do := (env_cons s_spec_l10Fall (env_cons s_spec_AddWords (env_cons s_spec_OffsetOf (env_cons s_spec_l10Put (env_cons s_spec_l10Memory (env_cons s_spec_l10Taken (env_cons s_spec_l8Get (env_cons s_spec_l8Set (env_cons s_spec_l8Back (env_cons s_spec_l2Alu env_nil))))))))))
theorem r_spec_l10Do (x) : runFn T G_spec_l10Do [] Tryz.f150 P_spec_l10Do R_spec_l10Do x = F_spec_l10Do x := by kernel_rfl
theorem s_spec_l10Do : CallsOk Tryz.prog 150 C_spec_l10Do :=
  fn_calls (L := []) hT g_spec_l10Do Tryz.f150 (by kernel_rfl) (by kernel_rfl) (by kernel_rfl) (plain_ok (by kernel_rfl)) r_spec_l10Do
/-! spec.l1Min -/
abbrev P_spec_l1Min : List PK := [.val YI, .val YI]
abbrev R_spec_l1Min : List VK := [.s (.dat YI)]
def F_spec_l1Min (x : denP P_spec_l1Min) : Option (denV R_spec_l1Min × denQ P_spec_l1Min) :=
  if (ltI x.1 x.2.1) then
    some ((x.1, ()), ())
  else
    some ((x.2.1, ()), ())
abbrev C_spec_l1Min : Con := ⟨P_spec_l1Min, R_spec_l1Min, F_spec_l1Min, false⟩
abbrev G_spec_l1Min : Env := []
theorem g_spec_l1Min : EnvOk Tryz.prog G_spec_l1Min := env_nil
theorem r_spec_l1Min (x) : runFn T G_spec_l1Min [] Tryz.f151 P_spec_l1Min R_spec_l1Min x = F_spec_l1Min x := by kernel_rfl
theorem s_spec_l1Min : CallsOk Tryz.prog 151 C_spec_l1Min :=
  fn_calls (L := []) hT g_spec_l1Min Tryz.f151 (by kernel_rfl) (by kernel_rfl) (by kernel_rfl) (plain_ok (by kernel_rfl)) r_spec_l1Min
/-! spec.l10Step -/
abbrev P_spec_l10Step : List PK := [.box [.dat Y27, .own 2 YI, .dat YI, .own 2 YI, .dat YI, .own 2 YI, .dat .bool, .dat .bool, .dat .bool, .dat YI, .dat Y24, .own 2 YI, .dat YI] [.dat Y27, .own 2 YI, .dat YI, .own 2 YI, .dat YI, .own 2 YI, .dat .bool, .dat .bool, .dat .bool, .dat YI, .dat Y24, .own 2 YI, .dat YI]]
abbrev R_spec_l10Step : List VK := []
def F_spec_l10Step (x : denP P_spec_l10Step) : Option (denV R_spec_l10Step × denQ P_spec_l10Step) :=
  if x.1.2.2.2.2.2.2.1 then
    some ((), ((x.1.1, (x.1.2.1, ((-1 : Int), (x.1.2.2.2.1, (x.1.2.2.2.2.1, (x.1.2.2.2.2.2.1, (x.1.2.2.2.2.2.2.1, (x.1.2.2.2.2.2.2.2.1, (x.1.2.2.2.2.2.2.2.2.1, (x.1.2.2.2.2.2.2.2.2.2.1, (x.1.2.2.2.2.2.2.2.2.2.2.1, (x.1.2.2.2.2.2.2.2.2.2.2.2.1, ((-1 : Int), ()))))))))))))), ()))
  else
    (F_spec_l8Due ((x.1.2.2.2.1, (x.1.2.2.2.2.1, (x.1.2.2.2.2.2.1, (x.1.2.2.2.2.2.2.1, (x.1.2.2.2.2.2.2.2.1, (x.1.2.2.2.2.2.2.2.2.1, (x.1.2.2.2.2.2.2.2.2.2.1, (x.1.2.2.2.2.2.2.2.2.2.2.1, (x.1.2.2.2.2.2.2.2.2.2.2.2.1, ()))))))))), ())).bind fun r1 =>
    if (leI (0 : Int) r1.1.1) then
      let v2 := (IntKind.i64.wrap ((16 : Int) + r1.1.1))
      (F_spec_l10Fall ((x.1.1, (x.1.2.1, ((-1 : Int), (x.1.2.2.2.1, (x.1.2.2.2.2.1, (x.1.2.2.2.2.2.1, (x.1.2.2.2.2.2.2.1, (x.1.2.2.2.2.2.2.2.1, (x.1.2.2.2.2.2.2.2.2.1, (x.1.2.2.2.2.2.2.2.2.2.1, (x.1.2.2.2.2.2.2.2.2.2.2.1, (x.1.2.2.2.2.2.2.2.2.2.2.2.1, ((-1 : Int), ()))))))))))))), v2, (0 : Int), ())).bind fun r3 =>
      some ((), (r3.2.1, ()))
    else
      if x.1.2.2.2.2.2.2.2.1 then
        (F_spec_l8Pending ((x.1.2.2.2.1, (x.1.2.2.2.2.1, (x.1.2.2.2.2.2.1, (x.1.2.2.2.2.2.2.1, (x.1.2.2.2.2.2.2.2.1, (x.1.2.2.2.2.2.2.2.2.1, (x.1.2.2.2.2.2.2.2.2.2.1, (x.1.2.2.2.2.2.2.2.2.2.2.1, (x.1.2.2.2.2.2.2.2.2.2.2.2.1, ()))))))))), ())).bind fun r4 =>
        if 0 ≤ (7 : Int) ∧ (7 : Int) < ((x.1.2.2.2.2.2.1.length : Nat) : Int) then
          ((x.1.2.2.2.2.2.1)[((7 : Int)).toNat]?).bind fun y5 =>
          let v6 := (iand .i64 r4.1.1 y5)
          if (v6 == (0 : Int)) then
            some ((), ((x.1.1, (x.1.2.1, ((-1 : Int), (x.1.2.2.2.1, (x.1.2.2.2.2.1, (x.1.2.2.2.2.2.1, (x.1.2.2.2.2.2.2.1, (x.1.2.2.2.2.2.2.2.1, (x.1.2.2.2.2.2.2.2.2.1, (x.1.2.2.2.2.2.2.2.2.2.1, (x.1.2.2.2.2.2.2.2.2.2.2.1, (x.1.2.2.2.2.2.2.2.2.2.2.2.1, ((-1 : Int), ()))))))))))))), ()))
          else
            (F_spec_l10Place ((x.1.1, (x.1.2.1, ((-1 : Int), ((x.1.2.2.2.1, (x.1.2.2.2.2.1, (x.1.2.2.2.2.2.1, (x.1.2.2.2.2.2.2.1, (false, (x.1.2.2.2.2.2.2.2.2.1, (x.1.2.2.2.2.2.2.2.2.2.1, (x.1.2.2.2.2.2.2.2.2.2.2.1, (x.1.2.2.2.2.2.2.2.2.2.2.2.1, ()))))))))), ((-1 : Int), ()))))), x.1.2.2.2.2.1, (4 : Int), ())).bind fun r7 =>
            if (r7.1.2.1 != (0 : Int)) then
              (F_spec_l10Fall ((x.1.1, (x.1.2.1, ((-1 : Int), (x.1.2.2.2.1, (x.1.2.2.2.2.1, (x.1.2.2.2.2.2.1, (x.1.2.2.2.2.2.2.1, (false, (x.1.2.2.2.2.2.2.2.2.1, (x.1.2.2.2.2.2.2.2.2.2.1, (x.1.2.2.2.2.2.2.2.2.2.2.1, (x.1.2.2.2.2.2.2.2.2.2.2.2.1, ((-1 : Int), ()))))))))))))), (2 : Int), x.1.2.2.2.2.1, ())).bind fun r8 =>
              some ((), (r8.2.1, ()))
            else
              if 0 ≤ r7.1.1 ∧ r7.1.1 < ((x.1.2.1.length : Nat) : Int) then
                ((x.1.2.1)[(r7.1.1).toNat]?).bind fun y9 =>
                (F_spec_l2Decode (y9, ())).bind fun r10 =>
                if (!r10.1.2.1) then
                  if 0 ≤ r7.1.1 ∧ r7.1.1 < ((x.1.2.1.length : Nat) : Int) then
                    ((x.1.2.1)[(r7.1.1).toNat]?).bind fun y11 =>
                    (F_spec_l10Fall ((x.1.1, (x.1.2.1, ((-1 : Int), (x.1.2.2.2.1, (x.1.2.2.2.2.1, (x.1.2.2.2.2.2.1, (x.1.2.2.2.2.2.2.1, (false, (x.1.2.2.2.2.2.2.2.2.1, (x.1.2.2.2.2.2.2.2.2.2.1, (x.1.2.2.2.2.2.2.2.2.2.2.1, (x.1.2.2.2.2.2.2.2.2.2.2.2.1, ((-1 : Int), ()))))))))))))), (1 : Int), y11, ())).bind fun r12 =>
                    some ((), (r12.2.1, ()))
                  else none
                else
                  (F_spec_l10Do ((x.1.1, (x.1.2.1, ((-1 : Int), (x.1.2.2.2.1, (x.1.2.2.2.2.1, (x.1.2.2.2.2.2.1, (x.1.2.2.2.2.2.2.1, (false, (x.1.2.2.2.2.2.2.2.2.1, (x.1.2.2.2.2.2.2.2.2.2.1, (x.1.2.2.2.2.2.2.2.2.2.2.1, (x.1.2.2.2.2.2.2.2.2.2.2.2.1, ((-1 : Int), ()))))))))))))), r10.1.1, ())).bind fun r13 =>
                  if r13.1.1 then
                    let v14 := (IntKind.i64.wrap (r13.2.1.2.2.2.2.2.2.2.2.2.1 + (1 : Int)))
                    (F_spec_l1Min ((1000000000 : Int), v14, ())).bind fun r15 =>
                    some ((), ((r13.2.1.1, (r13.2.1.2.1, (r13.2.1.2.2.1, (r13.2.1.2.2.2.1, (r13.2.1.2.2.2.2.1, (r13.2.1.2.2.2.2.2.1, (r13.2.1.2.2.2.2.2.2.1, (r13.2.1.2.2.2.2.2.2.2.1, (r13.2.1.2.2.2.2.2.2.2.2.1, (r15.1.1, (r13.2.1.2.2.2.2.2.2.2.2.2.2.1, (r13.2.1.2.2.2.2.2.2.2.2.2.2.2.1, (r13.2.1.2.2.2.2.2.2.2.2.2.2.2.2.1, ()))))))))))))), ()))
                  else
                    some ((), (r13.2.1, ()))
              else none
        else none
      else
        (F_spec_l10Place ((x.1.1, (x.1.2.1, ((-1 : Int), ((x.1.2.2.2.1, (x.1.2.2.2.2.1, (x.1.2.2.2.2.2.1, (x.1.2.2.2.2.2.2.1, (x.1.2.2.2.2.2.2.2.1, (x.1.2.2.2.2.2.2.2.2.1, (x.1.2.2.2.2.2.2.2.2.2.1, (x.1.2.2.2.2.2.2.2.2.2.2.1, (x.1.2.2.2.2.2.2.2.2.2.2.2.1, ()))))))))), ((-1 : Int), ()))))), x.1.2.2.2.2.1, (4 : Int), ())).bind fun r16 =>
        if (r16.1.2.1 != (0 : Int)) then
          (F_spec_l10Fall ((x.1.1, (x.1.2.1, ((-1 : Int), (x.1.2.2.2.1, (x.1.2.2.2.2.1, (x.1.2.2.2.2.2.1, (x.1.2.2.2.2.2.2.1, (x.1.2.2.2.2.2.2.2.1, (x.1.2.2.2.2.2.2.2.2.1, (x.1.2.2.2.2.2.2.2.2.2.1, (x.1.2.2.2.2.2.2.2.2.2.2.1, (x.1.2.2.2.2.2.2.2.2.2.2.2.1, ((-1 : Int), ()))))))))))))), (2 : Int), x.1.2.2.2.2.1, ())).bind fun r17 =>
          some ((), (r17.2.1, ()))
        else
          if 0 ≤ r16.1.1 ∧ r16.1.1 < ((x.1.2.1.length : Nat) : Int) then
            ((x.1.2.1)[(r16.1.1).toNat]?).bind fun y18 =>
            (F_spec_l2Decode (y18, ())).bind fun r19 =>
            if (!r19.1.2.1) then
              if 0 ≤ r16.1.1 ∧ r16.1.1 < ((x.1.2.1.length : Nat) : Int) then
                ((x.1.2.1)[(r16.1.1).toNat]?).bind fun y20 =>
                (F_spec_l10Fall ((x.1.1, (x.1.2.1, ((-1 : Int), (x.1.2.2.2.1, (x.1.2.2.2.2.1, (x.1.2.2.2.2.2.1, (x.1.2.2.2.2.2.2.1, (x.1.2.2.2.2.2.2.2.1, (x.1.2.2.2.2.2.2.2.2.1, (x.1.2.2.2.2.2.2.2.2.2.1, (x.1.2.2.2.2.2.2.2.2.2.2.1, (x.1.2.2.2.2.2.2.2.2.2.2.2.1, ((-1 : Int), ()))))))))))))), (1 : Int), y20, ())).bind fun r21 =>
                some ((), (r21.2.1, ()))
              else none
            else
              (F_spec_l10Do ((x.1.1, (x.1.2.1, ((-1 : Int), (x.1.2.2.2.1, (x.1.2.2.2.2.1, (x.1.2.2.2.2.2.1, (x.1.2.2.2.2.2.2.1, (x.1.2.2.2.2.2.2.2.1, (x.1.2.2.2.2.2.2.2.2.1, (x.1.2.2.2.2.2.2.2.2.2.1, (x.1.2.2.2.2.2.2.2.2.2.2.1, (x.1.2.2.2.2.2.2.2.2.2.2.2.1, ((-1 : Int), ()))))))))))))), r19.1.1, ())).bind fun r22 =>
              if r22.1.1 then
                let v23 := (IntKind.i64.wrap (r22.2.1.2.2.2.2.2.2.2.2.2.1 + (1 : Int)))
                (F_spec_l1Min ((1000000000 : Int), v23, ())).bind fun r24 =>
                some ((), ((r22.2.1.1, (r22.2.1.2.1, (r22.2.1.2.2.1, (r22.2.1.2.2.2.1, (r22.2.1.2.2.2.2.1, (r22.2.1.2.2.2.2.2.1, (r22.2.1.2.2.2.2.2.2.1, (r22.2.1.2.2.2.2.2.2.2.1, (r22.2.1.2.2.2.2.2.2.2.2.1, (r24.1.1, (r22.2.1.2.2.2.2.2.2.2.2.2.2.1, (r22.2.1.2.2.2.2.2.2.2.2.2.2.2.1, (r22.2.1.2.2.2.2.2.2.2.2.2.2.2.2.1, ()))))))))))))), ()))
              else
                some ((), (r22.2.1, ()))
          else none
abbrev C_spec_l10Step : Con := ⟨P_spec_l10Step, R_spec_l10Step, F_spec_l10Step, false⟩
abbrev G_spec_l10Step : Env := [(65, C_spec_l10Place), (146, C_spec_l8Due), (147, C_spec_l10Fall), (148, C_spec_l8Pending), (149, C_spec_l2Decode), (150, C_spec_l10Do), (151, C_spec_l1Min)]
theorem g_spec_l10Step : EnvOk Tryz.prog G_spec_l10Step := (env_cons s_spec_l10Place (env_cons s_spec_l8Due (env_cons s_spec_l10Fall (env_cons s_spec_l8Pending (env_cons s_spec_l2Decode (env_cons s_spec_l10Do (env_cons s_spec_l1Min env_nil)))))))
theorem r_spec_l10Step (x) : runFn T G_spec_l10Step [] Tryz.f61 P_spec_l10Step R_spec_l10Step x = F_spec_l10Step x := by kernel_rfl
theorem s_spec_l10Step : CallsOk Tryz.prog 61 C_spec_l10Step :=
  fn_calls (L := []) hT g_spec_l10Step Tryz.f61 (by kernel_rfl) (by kernel_rfl) (by kernel_rfl) (plain_ok (by kernel_rfl)) r_spec_l10Step
/-! spec.StepMany -/
abbrev P_spec_StepMany : List PK := [.val Y25, .val Y27, .val Y24, .val YI]
abbrev R_spec_StepMany : List VK := [.g [.dat YI, .dat YI, .dat YI, .own 2 YI, .dat YI, .own 2 YI, .dat .bool, .dat .bool, .dat .bool, .dat YI, .dat Y24, .own 2 YI, .own 2 YI]]
abbrev i_spec_StepMany_9 : Shp := { slots := [(3, .s (.dat YI)), (8, .s (.ptr 8 0)), (10, .s (.ptr 1193500 0)), (11, .s (.ptr 11 0)), (12, .s (.dat YI))], boxes := [(8, [.dat YI, .dat YI, .dat YI, .own 2 YI, .dat YI, .own 2 YI, .dat .bool, .dat .bool, .dat .bool, .dat YI, .own 2 YI, .own 2 YI, .own 2 YI]), (11, [.dat YI, .dat YI, .dat YI, .own 2 YI, .dat YI, .own 2 YI, .dat .bool, .dat .bool, .dat .bool, .dat YI, .own 2 YI, .own 2 YI, .own 2 YI]), (1193500, [.dat Y27, .own 2 YI, .dat YI, .own 2 YI, .dat YI, .own 2 YI, .dat .bool, .dat .bool, .dat .bool, .dat YI, .dat Y24, .own 2 YI, .dat YI])], rows := [] }
abbrev o_spec_StepMany_9 : List (Ex × Shp) := [(.exit 0, { slots := [(8, .s (.ptr 8 0)), (10, .s (.ptr 1193500 0)), (11, .s (.ptr 11 0))], boxes := [(8, [.dat YI, .dat YI, .dat YI, .own 2 YI, .dat YI, .own 2 YI, .dat .bool, .dat .bool, .dat .bool, .dat YI, .own 2 YI, .own 2 YI, .own 2 YI]), (11, [.dat YI, .dat YI, .dat YI, .own 2 YI, .dat YI, .own 2 YI, .dat .bool, .dat .bool, .dat .bool, .dat YI, .own 2 YI, .own 2 YI, .own 2 YI]), (1193500, [.dat Y27, .own 2 YI, .dat YI, .own 2 YI, .dat YI, .own 2 YI, .dat .bool, .dat .bool, .dat .bool, .dat YI, .dat Y24, .own 2 YI, .dat YI])], rows := [] })]
def l_spec_StepMany_9 (rec : i_spec_StepMany_9.den → Option (denO o_spec_StepMany_9)) (u9 : i_spec_StepMany_9.den) : Option (denO o_spec_StepMany_9) :=
  if (ltI u9.1.2.2.2.2.1 u9.1.1) then
    (F_spec_l10Step (u9.2.1.2.2.1, ())).bind fun r5 =>
    if (leI (0 : Int) r5.2.1.2.2.2.2.2.2.2.2.2.2.2.2.1) then
      if (leI (0 : Int) r5.2.1.2.2.1) then
        let v6 := (IntKind.i64.wrap (u9.1.2.2.2.2.1 + (1 : Int)))
        rec ((u9.1.1, ((), ((), ((), (v6, ()))))), ((u9.2.1.1, ((u9.2.1.2.1.1, (r5.2.1.2.2.2.2.2.2.2.2.2.2.2.2.1, (r5.2.1.2.2.1, (u9.2.1.2.1.2.2.2.1, (u9.2.1.2.1.2.2.2.2.1, (u9.2.1.2.1.2.2.2.2.2.1, (u9.2.1.2.1.2.2.2.2.2.2.1, (u9.2.1.2.1.2.2.2.2.2.2.2.1, (u9.2.1.2.1.2.2.2.2.2.2.2.2.1, (u9.2.1.2.1.2.2.2.2.2.2.2.2.2.1, (u9.2.1.2.1.2.2.2.2.2.2.2.2.2.2.1, (u9.2.1.2.1.2.2.2.2.2.2.2.2.2.2.2.1, (u9.2.1.2.1.2.2.2.2.2.2.2.2.2.2.2.2.1, ()))))))))))))), (r5.2.1, ()))), ()))
      else
        let v7 := (IntKind.i64.wrap (u9.1.2.2.2.2.1 + (1 : Int)))
        rec ((u9.1.1, ((), ((), ((), (v7, ()))))), ((u9.2.1.1, ((u9.2.1.2.1.1, (r5.2.1.2.2.2.2.2.2.2.2.2.2.2.2.1, (u9.2.1.2.1.2.2.1, (u9.2.1.2.1.2.2.2.1, (u9.2.1.2.1.2.2.2.2.1, (u9.2.1.2.1.2.2.2.2.2.1, (u9.2.1.2.1.2.2.2.2.2.2.1, (u9.2.1.2.1.2.2.2.2.2.2.2.1, (u9.2.1.2.1.2.2.2.2.2.2.2.2.1, (u9.2.1.2.1.2.2.2.2.2.2.2.2.2.1, (u9.2.1.2.1.2.2.2.2.2.2.2.2.2.2.1, (u9.2.1.2.1.2.2.2.2.2.2.2.2.2.2.2.1, (u9.2.1.2.1.2.2.2.2.2.2.2.2.2.2.2.2.1, ()))))))))))))), (r5.2.1, ()))), ()))
    else
      if (leI (0 : Int) r5.2.1.2.2.1) then
        let v8 := (IntKind.i64.wrap (u9.1.2.2.2.2.1 + (1 : Int)))
        rec ((u9.1.1, ((), ((), ((), (v8, ()))))), ((u9.2.1.1, ((u9.2.1.2.1.1, (u9.2.1.2.1.2.1, (r5.2.1.2.2.1, (u9.2.1.2.1.2.2.2.1, (u9.2.1.2.1.2.2.2.2.1, (u9.2.1.2.1.2.2.2.2.2.1, (u9.2.1.2.1.2.2.2.2.2.2.1, (u9.2.1.2.1.2.2.2.2.2.2.2.1, (u9.2.1.2.1.2.2.2.2.2.2.2.2.1, (u9.2.1.2.1.2.2.2.2.2.2.2.2.2.1, (u9.2.1.2.1.2.2.2.2.2.2.2.2.2.2.1, (u9.2.1.2.1.2.2.2.2.2.2.2.2.2.2.2.1, (u9.2.1.2.1.2.2.2.2.2.2.2.2.2.2.2.2.1, ()))))))))))))), (r5.2.1, ()))), ()))
      else
        let v9 := (IntKind.i64.wrap (u9.1.2.2.2.2.1 + (1 : Int)))
        rec ((u9.1.1, ((), ((), ((), (v9, ()))))), ((u9.2.1.1, (u9.2.1.2.1, (r5.2.1, ()))), ()))
  else
    some (.inl (((), ((), ((), ()))), ((u9.2.1.1, (u9.2.1.2.1, (u9.2.1.2.2.1, ()))), ())))
def L_spec_StepMany_9 (x : i_spec_StepMany_9.den) : Option (denO o_spec_StepMany_9) := iterF l_spec_StepMany_9 lots x
def F_spec_StepMany (x : denP P_spec_StepMany) : Option (denV R_spec_StepMany × denQ P_spec_StepMany) :=
  (F_spec_l10Asked (x.1, x.2.1, x.2.2.1, ())).bind fun r1 =>
  if (r1.1.1 != (0 : Int)) then
    some (((r1.1.1, ((0 : Int), ((0 : Int), (([] : List (den YI)), ((0 : Int), (([] : List (den YI)), (false, (false, (false, ((0 : Int), (([] : List (den YI)), (([] : List (den YI)), (([] : List (den YI)), ()))))))))))))), ()), ())
  else
    (F_spec_l1In (x.2.2.2.1, (0 : Int), (500 : Int), ())).bind fun r2 =>
    if (!r2.1.1) then
      some ((((3 : Int), ((0 : Int), ((0 : Int), (([] : List (den YI)), ((0 : Int), (([] : List (den YI)), (false, (false, (false, ((0 : Int), (([] : List (den YI)), (([] : List (den YI)), (([] : List (den YI)), ()))))))))))))), ()), ())
    else
      (F_spec_l10New (x.1, x.2.1, x.2.2.1, ())).bind fun r3 =>
      (L_spec_StepMany_9 ((x.2.2.2.1, ((), ((), ((), ((0 : Int), ()))))), ((((0 : Int), ((0 : Int), ((0 : Int), (([] : List (den YI)), ((0 : Int), (([] : List (den YI)), (false, (false, (false, ((0 : Int), (([] : List (den YI)), (([] : List (den YI)), (([] : List (den YI)), ()))))))))))))), (((0 : Int), ((-1 : Int), ((-1 : Int), (([] : List (den YI)), ((0 : Int), (([] : List (den YI)), (false, (false, (false, ((0 : Int), (([] : List (den YI)), (([] : List (den YI)), (([] : List (den YI)), ()))))))))))))), (r3.1.1, ()))), ()))).bind fun z10 =>
      match z10 with
      | .inl x11 =>
        some (((x11.2.1.2.1.1, (x11.2.1.2.1.2.1, (x11.2.1.2.1.2.2.1, (x11.2.1.2.2.1.2.2.2.1, (x11.2.1.2.2.1.2.2.2.2.1, (x11.2.1.2.2.1.2.2.2.2.2.1, (x11.2.1.2.2.1.2.2.2.2.2.2.1, (x11.2.1.2.2.1.2.2.2.2.2.2.2.1, (x11.2.1.2.2.1.2.2.2.2.2.2.2.2.1, (x11.2.1.2.2.1.2.2.2.2.2.2.2.2.2.1, (x11.2.1.2.2.1.2.2.2.2.2.2.2.2.2.2.1, (x11.2.1.2.2.1.2.2.2.2.2.2.2.2.2.2.2.1, (x11.2.1.2.2.1.2.1, ()))))))))))))), ()), ())
      | .inr z10_ =>
        none
abbrev C_spec_StepMany : Con := ⟨P_spec_StepMany, R_spec_StepMany, F_spec_StepMany, false⟩
abbrev G_spec_StepMany : Env := [(58, C_spec_l10Asked), (59, C_spec_l1In), (60, C_spec_l10New), (61, C_spec_l10Step)]
theorem g_spec_StepMany : EnvOk Tryz.prog G_spec_StepMany := (env_cons s_spec_l10Asked (env_cons s_spec_l1In (env_cons s_spec_l10New (env_cons s_spec_l10Step env_nil))))
abbrev c_spec_StepMany_9 : Cut := ⟨i_spec_StepMany_9, o_spec_StepMany_9, fun x => iterF l_spec_StepMany_9 lots x⟩
theorem t_spec_StepMany_9 (rec x) : run T G_spec_StepMany [] (nav Tryz.f14 [1, 1, 1, 1, 1, 0, 1, 0, 0]) (mk 67 i_spec_StepMany_9 x) (loopK i_spec_StepMany_9 o_spec_StepMany_9 rec) = l_spec_StepMany_9 rec x := by kernel_rfl
theorem k_spec_StepMany_9 : CutOk Tryz.prog 67 (.loop (nav Tryz.f14 [1, 1, 1, 1, 1, 0, 1, 0, 0])) c_spec_StepMany_9 :=
  loop_cut (L := []) hT g_spec_StepMany t_spec_StepMany_9 (plain_ok (by kernel_rfl)) _
theorem r_spec_StepMany (x) : runFn T G_spec_StepMany [(9, c_spec_StepMany_9)] Tryz.f14 P_spec_StepMany R_spec_StepMany x = F_spec_StepMany x := by kernel_rfl
theorem s_spec_StepMany : CallsOk Tryz.prog 14 C_spec_StepMany :=
  fn_calls (L := [(9, c_spec_StepMany_9)]) hT g_spec_StepMany Tryz.f14 (by kernel_rfl) (by kernel_rfl) (by kernel_rfl) (seq_ok (plain_ok (by kernel_rfl)) (seq_ok (plain_ok (by kernel_rfl)) (seq_ok (plain_ok (by kernel_rfl)) (seq_ok (plain_ok (by kernel_rfl)) (seq_ok (plain_ok (by kernel_rfl)) (seq_ok (seq_ok (plain_ok (by kernel_rfl)) (block_ok (by kernel_rfl) (loop_ok (by kernel_rfl) k_spec_StepMany_9))) (plain_ok (by kernel_rfl)))))))) r_spec_StepMany
/-! laws.lwAt -/
abbrev P_laws_lwAt : List PK := [.val Y22, .val YI, .val YI]
abbrev R_laws_lwAt : List VK := [.s (.dat YI)]
def F_laws_lwAt (x : denP P_laws_lwAt) : Option (denV R_laws_lwAt × denQ P_laws_lwAt) :=
  let v1 := ((x.1.length : Nat) : Int)
  if (leI x.2.2.1 (1 : Int)) then
    some (((0 : Int), ()), ())
  else
    if (v1 == (0 : Int)) then
      let v2 := (IntKind.i64.wrap (x.2.1 * (7 : Int)))
      if x.2.2.1 = 0 then none else
      let v3 := ((v2).tmod x.2.2.1)
      some ((v3, ()), ())
    else
      if v1 = 0 then none else
      let v4 := ((x.2.1).tmod v1)
      if 0 ≤ v4 then
        ((x.1)[(v4).toNat]?).bind fun y5 =>
        let v6 := (IntKind.i64.wrap y5)
        if v1 = 0 then none else
        let v7 := (IntKind.i64.wrap ((x.2.1).tdiv v1))
        let v8 := (IntKind.i64.wrap (v7 * (3 : Int)))
        let v9 := (IntKind.i64.wrap (v6 + v8))
        if (ltI (200 : Int) x.2.2.1) then
          let v10 := (IntKind.i64.wrap (v9 * (251 : Int)))
          let v11 := (IntKind.i64.wrap (x.2.1 + (1 : Int)))
          if v1 = 0 then none else
          let v12 := ((v11).tmod v1)
          if 0 ≤ v12 then
            ((x.1)[(v12).toNat]?).bind fun y13 =>
            let v14 := (IntKind.i64.wrap y13)
            let v15 := (IntKind.i64.wrap (v10 + v14))
            if x.2.2.1 = 0 then none else
            let v16 := ((v15).tmod x.2.2.1)
            some ((v16, ()), ())
          else none
        else
          if x.2.2.1 = 0 then none else
          let v17 := ((v9).tmod x.2.2.1)
          some ((v17, ()), ())
      else none
abbrev C_laws_lwAt : Con := ⟨P_laws_lwAt, R_laws_lwAt, F_laws_lwAt, false⟩
abbrev G_laws_lwAt : Env := []
theorem g_laws_lwAt : EnvOk Tryz.prog G_laws_lwAt := env_nil
theorem r_laws_lwAt (x) : runFn T G_laws_lwAt [] Tryz.f15 P_laws_lwAt R_laws_lwAt x = F_laws_lwAt x := by kernel_rfl
theorem s_laws_lwAt : CallsOk Tryz.prog 15 C_laws_lwAt :=
  fn_calls (L := []) hT g_laws_lwAt Tryz.f15 (by kernel_rfl) (by kernel_rfl) (by kernel_rfl) (plain_ok (by kernel_rfl)) r_laws_lwAt
/-! impl.StepHart -/
abbrev P_impl_StepHart : List PK := [.val Y25, .val Y27, .val Y24]
abbrev R_impl_StepHart : List VK := [.g [.dat YI, .dat YI, .dat YI, .own 2 YI, .dat YI, .own 2 YI, .dat .bool, .dat .bool, .dat .bool, .dat YI, .own 2 YI, .own 2 YI, .own 2 YI]]
def F_impl_StepHart (x : denP P_impl_StepHart) : Option (denV R_impl_StepHart × denQ P_impl_StepHart) :=
  (F_impl_StepMany (x.1, x.2.1, x.2.2.1, (1 : Int), ())).bind fun r1 =>
  some ((r1.1.1, ()), ())
abbrev C_impl_StepHart : Con := ⟨P_impl_StepHart, R_impl_StepHart, F_impl_StepHart, false⟩
abbrev G_impl_StepHart : Env := [(13, C_impl_StepMany)]
theorem g_impl_StepHart : EnvOk Tryz.prog G_impl_StepHart := (env_cons s_impl_StepMany env_nil)
theorem r_impl_StepHart (x) : runFn T G_impl_StepHart [] Tryz.f16 P_impl_StepHart R_impl_StepHart x = F_impl_StepHart x := by kernel_rfl
theorem s_impl_StepHart : CallsOk Tryz.prog 16 C_impl_StepHart :=
  fn_calls (L := []) hT g_impl_StepHart Tryz.f16 (by kernel_rfl) (by kernel_rfl) (by kernel_rfl) (plain_ok (by kernel_rfl)) r_impl_StepHart
/-! laws.lwNums -/
abbrev P_laws_lwNums : List PK := [.val Y24, .val Y24]
abbrev R_laws_lwNums : List VK := [.s (.dat .bool)]
abbrev i_laws_lwNums_4 : Shp := { slots := [(0, .s (.dat Y24)), (1, .s (.dat Y24)), (5, .s (.dat YI))], boxes := [], rows := [] }
abbrev o_laws_lwNums_4 : List (Ex × Shp) := [(.exit 0, { slots := [], boxes := [], rows := [] }), (.ret, { slots := [(4, .s (.dat .bool))], boxes := [], rows := [] })]
def l_laws_lwNums_4 (rec : i_laws_lwNums_4.den → Option (denO o_laws_lwNums_4)) (u4 : i_laws_lwNums_4.den) : Option (denO o_laws_lwNums_4) :=
  let v5 := ((u4.1.1.length : Nat) : Int)
  if (ltI u4.1.2.2.1 v5) then
    if 0 ≤ u4.1.2.2.1 then
      ((u4.1.1)[(u4.1.2.2.1).toNat]?).bind fun y6 =>
      if 0 ≤ u4.1.2.2.1 then
        ((u4.1.2.1)[(u4.1.2.2.1).toNat]?).bind fun y7 =>
        if (y6 != y7) then
          some (.inr (.inl ((false, ()), ((), ()))))
        else
          let v8 := (IntKind.i64.wrap (u4.1.2.2.1 + (1 : Int)))
          rec ((u4.1.1, (u4.1.2.1, (v8, ()))), ((), ()))
      else none
    else none
  else
    some (.inl ((), ((), ())))
def L_laws_lwNums_4 (x : i_laws_lwNums_4.den) : Option (denO o_laws_lwNums_4) := iterF l_laws_lwNums_4 lots x
def F_laws_lwNums (x : denP P_laws_lwNums) : Option (denV R_laws_lwNums × denQ P_laws_lwNums) :=
  let v1 := ((x.1.length : Nat) : Int)
  let v2 := ((x.2.1.length : Nat) : Int)
  if (v1 != v2) then
    some ((false, ()), ())
  else
    (L_laws_lwNums_4 ((x.1, (x.2.1, ((0 : Int), ()))), ((), ()))).bind fun z9 =>
    match z9 with
    | .inl x10 =>
      some ((true, ()), ())
    | .inr z9_ =>
      match z9_ with
      | .inl x11 =>
        some ((x11.1.1, ()), ())
      | .inr z9__ =>
        none
abbrev C_laws_lwNums : Con := ⟨P_laws_lwNums, R_laws_lwNums, F_laws_lwNums, false⟩
abbrev G_laws_lwNums : Env := []
theorem g_laws_lwNums : EnvOk Tryz.prog G_laws_lwNums := env_nil
abbrev c_laws_lwNums_4 : Cut := ⟨i_laws_lwNums_4, o_laws_lwNums_4, fun x => iterF l_laws_lwNums_4 lots x⟩
theorem t_laws_lwNums_4 (rec x) : run T G_laws_lwNums [] (nav Tryz.f17 [1, 1, 0, 1, 0, 0]) (mk 26 i_laws_lwNums_4 x) (loopK i_laws_lwNums_4 o_laws_lwNums_4 rec) = l_laws_lwNums_4 rec x := by kernel_rfl
theorem k_laws_lwNums_4 : CutOk Tryz.prog 26 (.loop (nav Tryz.f17 [1, 1, 0, 1, 0, 0])) c_laws_lwNums_4 :=
  loop_cut (L := []) hT g_laws_lwNums t_laws_lwNums_4 (plain_ok (by kernel_rfl)) _
theorem r_laws_lwNums (x) : runFn T G_laws_lwNums [(4, c_laws_lwNums_4)] Tryz.f17 P_laws_lwNums R_laws_lwNums x = F_laws_lwNums x := by kernel_rfl
theorem s_laws_lwNums : CallsOk Tryz.prog 17 C_laws_lwNums :=
  fn_calls (L := [(4, c_laws_lwNums_4)]) hT g_laws_lwNums Tryz.f17 (by kernel_rfl) (by kernel_rfl) (by kernel_rfl) (seq_ok (plain_ok (by kernel_rfl)) (seq_ok (plain_ok (by kernel_rfl)) (seq_ok (seq_ok (plain_ok (by kernel_rfl)) (block_ok (by kernel_rfl) (loop_ok (by kernel_rfl) k_laws_lwNums_4))) (plain_ok (by kernel_rfl))))) r_laws_lwNums
/-! laws.FnMany -/
abbrev P_laws_FnMany : List PK := [.val Y22]
abbrev R_laws_FnMany : List VK := [.s (.dat .bool)]
def F_laws_FnMany (x : denP P_laws_FnMany) : Option (denV R_laws_FnMany × denQ P_laws_FnMany) :=
  (F_laws_lwBig (x.1, ())).bind fun r1 =>
  if r1.1.1 then
    some ((true, ()), ())
  else
    (F_spec_DrawStepMany (x.1, ())).bind fun r2 =>
    (F_impl_StepMany (r2.1.1, r2.1.2.1, r2.1.2.2.1, r2.1.2.2.2.1, ())).bind fun r3 =>
    if (r3.1.1.1 != (0 : Int)) then
      (F_spec_StepMany (r2.1.1, r2.1.2.1, r2.1.2.2.1, r2.1.2.2.2.1, ())).bind fun r4 =>
      some (((r4.1.1.1 == r3.1.1.1), ()), ())
    else
      let v5 := (IntKind.i64.wrap (r2.1.2.2.2.1 + (1 : Int)))
      (F_laws_lwAt (x.1, (3 : Int), v5, ())).bind fun r6 =>
      (F_impl_StepMany (r2.1.1, r2.1.2.1, r2.1.2.2.1, r6.1.1, ())).bind fun r7 =>
      let v8 := (IntKind.i64.wrap (r2.1.2.2.2.1 - r6.1.1))
      (F_impl_StepMany ((r7.1.1.2.2.2.1, (r7.1.1.2.2.2.2.1, (r7.1.1.2.2.2.2.2.1, (r7.1.1.2.2.2.2.2.2.1, (r7.1.1.2.2.2.2.2.2.2.1, (r7.1.1.2.2.2.2.2.2.2.2.1, (r7.1.1.2.2.2.2.2.2.2.2.2.1, (r7.1.1.2.2.2.2.2.2.2.2.2.2.1, (r7.1.1.2.2.2.2.2.2.2.2.2.2.2.1, ()))))))))), r2.1.2.1, r7.1.1.2.2.2.2.2.2.2.2.2.2.2.2.1, v8, ())).bind fun r9 =>
      (F_impl_StepMany (r2.1.1, r2.1.2.1, r2.1.2.2.1, (1 : Int), ())).bind fun r10 =>
      (F_impl_StepHart (r2.1.1, r2.1.2.1, r2.1.2.2.1, ())).bind fun r11 =>
      if (r7.1.1.1 == (0 : Int)) = true then
        if (r9.1.1.1 == (0 : Int)) = true then
          (F_laws_lwNums (r9.1.1.2.2.2.2.2.2.2.2.2.2.2.2.1, r3.1.1.2.2.2.2.2.2.2.2.2.2.2.2.1, ())).bind fun r12 =>
          if r12.1.1 = true then
            (F_laws_lwNums (r9.1.1.2.2.2.1, r3.1.1.2.2.2.1, ())).bind fun r13 =>
            if r13.1.1 = true then
              if (r9.1.1.2.2.2.2.1 == r3.1.1.2.2.2.2.1) = true then
                if (r9.1.1.2.2.2.2.2.2.2.2.2.1 == r3.1.1.2.2.2.2.2.2.2.2.2.1) = true then
                  (F_laws_lwNums (r9.1.1.2.2.2.2.2.2.2.2.2.2.2.1, r3.1.1.2.2.2.2.2.2.2.2.2.2.2.1, ())).bind fun r14 =>
                  if r14.1.1 = true then
                    if (r10.1.1.2.2.2.2.1 == r11.1.1.2.2.2.2.1) = true then
                      (F_laws_lwNums (r10.1.1.2.2.2.2.2.2.2.2.2.2.2.2.1, r11.1.1.2.2.2.2.2.2.2.2.2.2.2.2.1, ())).bind fun r15 =>
                      if r15.1.1 = true then
                        let v16 := ((r3.1.1.2.2.2.2.2.2.2.2.2.2.2.2.1.length : Nat) : Int)
                        let v17 := ((r2.1.2.2.1.length : Nat) : Int)
                        some (((v16 == v17), ()), ())
                      else
                        some ((false, ()), ())
                    else
                      some ((false, ()), ())
                  else
                    some ((false, ()), ())
                else
                  some ((false, ()), ())
              else
                some ((false, ()), ())
            else
              some ((false, ()), ())
          else
            some ((false, ()), ())
        else
          some ((false, ()), ())
      else
        some ((false, ()), ())
abbrev C_laws_FnMany : Con := ⟨P_laws_FnMany, R_laws_FnMany, F_laws_FnMany, false⟩
abbrev G_laws_FnMany : Env := [(11, C_laws_lwBig), (12, C_spec_DrawStepMany), (13, C_impl_StepMany), (14, C_spec_StepMany), (15, C_laws_lwAt), (16, C_impl_StepHart), (17, C_laws_lwNums)]
theorem g_laws_FnMany : EnvOk Tryz.prog G_laws_FnMany := (env_cons s_laws_lwBig (env_cons s_spec_DrawStepMany (env_cons s_impl_StepMany (env_cons s_spec_StepMany (env_cons s_laws_lwAt (env_cons s_impl_StepHart (env_cons s_laws_lwNums env_nil)))))))
theorem r_laws_FnMany (x) : runFn T G_laws_FnMany [] Tryz.f3 P_laws_FnMany R_laws_FnMany x = F_laws_FnMany x := by kernel_rfl
theorem s_laws_FnMany : CallsOk Tryz.prog 3 C_laws_FnMany :=
  fn_calls (L := []) hT g_laws_FnMany Tryz.f3 (by kernel_rfl) (by kernel_rfl) (by kernel_rfl) (plain_ok (by kernel_rfl)) r_laws_FnMany
theorem q_laws_FnMany : Sound Tryz.prog 3 C_laws_FnMany :=
  fn_snd (L := []) hT g_laws_FnMany Tryz.f3 (by kernel_rfl) (by kernel_rfl) (plain_ok (by kernel_rfl)) r_laws_FnMany
/-! spec.DrawStepHart -/
abbrev P_spec_DrawStepHart : List PK := [.val Y22]
abbrev R_spec_DrawStepHart : List VK := [.g [.dat Y24, .dat YI, .own 2 YI, .dat .bool, .dat .bool, .dat .bool, .dat YI, .dat Y24, .own 2 YI], .s (.dat Y27), .s (.dat Y24)]
def F_spec_DrawStepHart (x : denP P_spec_DrawStepHart) : Option (denV R_spec_DrawStepHart × denQ P_spec_DrawStepHart) :=
  (F_spec_l1Source (x.1, ())).bind fun r1 =>
  (F_spec_l10World ((r1.1.1.1, (r1.1.1.2.1, ())), ())).bind fun r2 =>
  some ((r2.1.1, r2.1.2.1, r2.1.2.2.1, ()), ())
abbrev C_spec_DrawStepHart : Con := ⟨P_spec_DrawStepHart, R_spec_DrawStepHart, F_spec_DrawStepHart, false⟩
abbrev G_spec_DrawStepHart : Env := [(51, C_spec_l1Source), (52, C_spec_l10World)]
theorem g_spec_DrawStepHart : EnvOk Tryz.prog G_spec_DrawStepHart := (env_cons s_spec_l1Source (env_cons s_spec_l10World env_nil))
theorem r_spec_DrawStepHart (x) : runFn T G_spec_DrawStepHart [] Tryz.f18 P_spec_DrawStepHart R_spec_DrawStepHart x = F_spec_DrawStepHart x := by kernel_rfl
theorem s_spec_DrawStepHart : CallsOk Tryz.prog 18 C_spec_DrawStepHart :=
  fn_calls (L := []) hT g_spec_DrawStepHart Tryz.f18 (by kernel_rfl) (by kernel_rfl) (by kernel_rfl) (plain_ok (by kernel_rfl)) r_spec_DrawStepHart
/-! spec.StepHart -/
abbrev P_spec_StepHart : List PK := [.val Y25, .val Y27, .val Y24]
abbrev R_spec_StepHart : List VK := [.g [.dat YI, .dat YI, .dat YI, .own 2 YI, .dat YI, .own 2 YI, .dat .bool, .dat .bool, .dat .bool, .dat YI, .dat Y24, .own 2 YI, .own 2 YI]]
def F_spec_StepHart (x : denP P_spec_StepHart) : Option (denV R_spec_StepHart × denQ P_spec_StepHart) :=
  (F_spec_l10Asked (x.1, x.2.1, x.2.2.1, ())).bind fun r1 =>
  if (r1.1.1 != (0 : Int)) then
    some (((r1.1.1, ((0 : Int), ((0 : Int), (([] : List (den YI)), ((0 : Int), (([] : List (den YI)), (false, (false, (false, ((0 : Int), (([] : List (den YI)), (([] : List (den YI)), (([] : List (den YI)), ()))))))))))))), ()), ())
  else
    (F_spec_l10New (x.1, x.2.1, x.2.2.1, ())).bind fun r2 =>
    (F_spec_l10Step (r2.1.1, ())).bind fun r3 =>
    some ((((0 : Int), (r3.2.1.2.2.2.2.2.2.2.2.2.2.2.2.1, (r3.2.1.2.2.1, (r3.2.1.2.2.2.1, (r3.2.1.2.2.2.2.1, (r3.2.1.2.2.2.2.2.1, (r3.2.1.2.2.2.2.2.2.1, (r3.2.1.2.2.2.2.2.2.2.1, (r3.2.1.2.2.2.2.2.2.2.2.1, (r3.2.1.2.2.2.2.2.2.2.2.2.1, (r3.2.1.2.2.2.2.2.2.2.2.2.2.1, (r3.2.1.2.2.2.2.2.2.2.2.2.2.2.1, (r3.2.1.2.1, ()))))))))))))), ()), ())
abbrev C_spec_StepHart : Con := ⟨P_spec_StepHart, R_spec_StepHart, F_spec_StepHart, false⟩
abbrev G_spec_StepHart : Env := [(58, C_spec_l10Asked), (60, C_spec_l10New), (61, C_spec_l10Step)]
theorem g_spec_StepHart : EnvOk Tryz.prog G_spec_StepHart := (env_cons s_spec_l10Asked (env_cons s_spec_l10New (env_cons s_spec_l10Step env_nil)))
theorem r_spec_StepHart (x) : runFn T G_spec_StepHart [] Tryz.f19 P_spec_StepHart R_spec_StepHart x = F_spec_StepHart x := by kernel_rfl
theorem s_spec_StepHart : CallsOk Tryz.prog 19 C_spec_StepHart :=
  fn_calls (L := []) hT g_spec_StepHart Tryz.f19 (by kernel_rfl) (by kernel_rfl) (by kernel_rfl) (plain_ok (by kernel_rfl)) r_spec_StepHart
/-! laws.FnSteps -/
abbrev P_laws_FnSteps : List PK := [.val Y22]
abbrev R_laws_FnSteps : List VK := [.s (.dat .bool)]
abbrev i_laws_FnSteps_15 : Shp := { slots := [(3, .s (.ptr 3 0)), (4, .s (.dat Y27)), (5, .s (.dat Y24)), (6, .s (.ptr 6 0)), (7, .s (.dat YI)), (8, .s (.dat .bool)), (9, .s (.dat YI))], boxes := [(3, [.dat Y24, .dat YI, .own 2 YI, .dat .bool, .dat .bool, .dat .bool, .dat YI, .dat Y24, .own 2 YI]), (6, [.dat YI, .dat YI, .dat YI, .own 2 YI, .dat YI, .own 2 YI, .dat .bool, .dat .bool, .dat .bool, .dat YI, .own 2 YI, .own 2 YI, .own 2 YI])], rows := [] }
abbrev o_laws_FnSteps_15 : List (Ex × Shp) := [(.exit 2, { slots := [(3, .s (.ptr 3 0)), (4, .s (.dat Y27)), (5, .s (.dat Y24)), (6, .s (.ptr 6 0)), (7, .s (.dat YI)), (8, .s (.dat .bool))], boxes := [(3, [.dat Y24, .dat YI, .own 2 YI, .dat .bool, .dat .bool, .dat .bool, .dat YI, .dat Y24, .own 2 YI]), (6, [.dat YI, .dat YI, .dat YI, .own 2 YI, .dat YI, .own 2 YI, .dat .bool, .dat .bool, .dat .bool, .dat YI, .own 2 YI, .own 2 YI, .own 2 YI])], rows := [] })]
def l_laws_FnSteps_15 (rec : i_laws_FnSteps_15.den → Option (denO o_laws_FnSteps_15)) (u15 : i_laws_FnSteps_15.den) : Option (denO o_laws_FnSteps_15) :=
  let v23 := ((u15.1.2.1.length : Nat) : Int)
  if (ltI u15.1.2.2.2.2.2.2.1 v23) then
    if u15.1.2.2.2.2.2.1 = false then
      if 0 ≤ u15.1.2.2.2.2.2.2.1 then
        ((u15.1.2.1)[(u15.1.2.2.2.2.2.2.1).toNat]?).bind fun y24 =>
        let v25 := (IntKind.i64.wrap ((u15.1.2.2.2.2.1).tdiv (8 : Int)))
        if (y24.1 == v25) = true then
          if 0 ≤ u15.1.2.2.2.2.2.2.1 then
            ((u15.1.2.1)[(u15.1.2.2.2.2.2.2.1).toNat]?).bind fun y26 =>
            let v27 := (iand .i64 y26.2.1 (2 : Int))
            let v28 := (IntKind.i64.wrap (u15.1.2.2.2.2.2.2.1 + (1 : Int)))
            rec (((), (u15.1.2.1, (u15.1.2.2.1, ((), (u15.1.2.2.2.2.1, ((v27 != (0 : Int)), (v28, ()))))))), ((u15.2.1.1, (u15.2.1.2.1, ())), ()))
          else none
        else
          let v29 := (IntKind.i64.wrap (u15.1.2.2.2.2.2.2.1 + (1 : Int)))
          rec (((), (u15.1.2.1, (u15.1.2.2.1, ((), (u15.1.2.2.2.2.1, (false, (v29, ()))))))), ((u15.2.1.1, (u15.2.1.2.1, ())), ()))
      else none
    else
      let v30 := (IntKind.i64.wrap (u15.1.2.2.2.2.2.2.1 + (1 : Int)))
      rec (((), (u15.1.2.1, (u15.1.2.2.1, ((), (u15.1.2.2.2.2.1, (true, (v30, ()))))))), ((u15.2.1.1, (u15.2.1.2.1, ())), ()))
  else
    some (.inl (((), (u15.1.2.1, (u15.1.2.2.1, ((), (u15.1.2.2.2.2.1, (u15.1.2.2.2.2.2.1, ())))))), ((u15.2.1.1, (u15.2.1.2.1, ())), ())))
def L_laws_FnSteps_15 (x : i_laws_FnSteps_15.den) : Option (denO o_laws_FnSteps_15) := iterF l_laws_FnSteps_15 lots x
abbrev i_laws_FnSteps_10 : Shp := { slots := [(3, .s (.ptr 3 0)), (4, .s (.dat Y27)), (5, .s (.dat Y24)), (6, .s (.ptr 6 0)), (7, .s (.dat YI))], boxes := [(3, [.dat Y24, .dat YI, .own 2 YI, .dat .bool, .dat .bool, .dat .bool, .dat YI, .dat Y24, .own 2 YI]), (6, [.dat YI, .dat YI, .dat YI, .own 2 YI, .dat YI, .own 2 YI, .dat .bool, .dat .bool, .dat .bool, .dat YI, .own 2 YI, .own 2 YI, .own 2 YI])], rows := [] }
abbrev o_laws_FnSteps_10 : List (Ex × Shp) := [(.exit 0, { slots := [(3, .s (.ptr 3 0)), (4, .s (.dat Y27)), (5, .s (.dat Y24)), (6, .s (.ptr 6 0))], boxes := [(3, [.dat Y24, .dat YI, .own 2 YI, .dat .bool, .dat .bool, .dat .bool, .dat YI, .dat Y24, .own 2 YI]), (6, [.dat YI, .dat YI, .dat YI, .own 2 YI, .dat YI, .own 2 YI, .dat .bool, .dat .bool, .dat .bool, .dat YI, .own 2 YI, .own 2 YI, .own 2 YI])], rows := [] }), (.ret, { slots := [(2, .s (.dat .bool))], boxes := [], rows := [] })]
def l_laws_FnSteps_10 (rec : i_laws_FnSteps_10.den → Option (denO o_laws_FnSteps_10)) (u10 : i_laws_FnSteps_10.den) : Option (denO o_laws_FnSteps_10) :=
  let v17 := ((u10.1.2.2.1.length : Nat) : Int)
  if (ltI u10.1.2.2.2.2.1 v17) then
    if 0 ≤ u10.1.2.2.2.2.1 ∧ u10.1.2.2.2.2.1 < ((u10.2.1.2.1.2.2.2.2.2.2.2.2.2.2.2.2.1.length : Nat) : Int) then
      ((u10.2.1.2.1.2.2.2.2.2.2.2.2.2.2.2.2.1)[(u10.1.2.2.2.2.1).toNat]?).bind fun y18 =>
      if 0 ≤ u10.1.2.2.2.2.1 then
        ((u10.1.2.2.1)[(u10.1.2.2.2.2.1).toNat]?).bind fun y19 =>
        if (y18 == y19) then
          let v20 := (IntKind.i64.wrap (u10.1.2.2.2.2.1 + (1 : Int)))
          rec (((), (u10.1.2.1, (u10.1.2.2.1, ((), (v20, ()))))), ((u10.2.1.1, (u10.2.1.2.1, ())), ()))
        else
          (L_laws_FnSteps_15 (((), (u10.1.2.1, (u10.1.2.2.1, ((), (u10.1.2.2.2.2.1, (false, ((0 : Int), ()))))))), ((u10.2.1.1, (u10.2.1.2.1, ())), ()))).bind fun z31 =>
          match z31 with
          | .inl x32 =>
            if (!x32.1.2.2.2.2.2.1) then
              some (.inr (.inl ((false, ()), ((), ()))))
            else
              let v33 := (IntKind.i64.wrap (x32.1.2.2.2.2.1 + (1 : Int)))
              rec (((), (x32.1.2.1, (x32.1.2.2.1, ((), (v33, ()))))), ((x32.2.1.1, (x32.2.1.2.1, ())), ()))
          | .inr z31_ =>
            none
      else none
    else none
  else
    some (.inl (((), (u10.1.2.1, (u10.1.2.2.1, ((), ())))), ((u10.2.1.1, (u10.2.1.2.1, ())), ())))
def L_laws_FnSteps_10 (x : i_laws_FnSteps_10.den) : Option (denO o_laws_FnSteps_10) := iterF l_laws_FnSteps_10 lots x
def F_laws_FnSteps (x : denP P_laws_FnSteps) : Option (denV R_laws_FnSteps × denQ P_laws_FnSteps) :=
  (F_laws_lwBig (x.1, ())).bind fun r1 =>
  if r1.1.1 then
    some ((true, ()), ())
  else
    (F_spec_DrawStepHart (x.1, ())).bind fun r2 =>
    (F_impl_StepHart (r2.1.1, r2.1.2.1, r2.1.2.2.1, ())).bind fun r3 =>
    if (r3.1.1.1 != (0 : Int)) then
      (F_spec_StepHart (r2.1.1, r2.1.2.1, r2.1.2.2.1, ())).bind fun r4 =>
      some (((r4.1.1.1 == r3.1.1.1), ()), ())
    else
      (F_impl_HartFault ((r3.1.1.2.2.2.1, (r3.1.1.2.2.2.2.1, (r3.1.1.2.2.2.2.2.1, (r3.1.1.2.2.2.2.2.2.1, (r3.1.1.2.2.2.2.2.2.2.1, (r3.1.1.2.2.2.2.2.2.2.2.1, (r3.1.1.2.2.2.2.2.2.2.2.2.1, (r3.1.1.2.2.2.2.2.2.2.2.2.2.1, (r3.1.1.2.2.2.2.2.2.2.2.2.2.2.1, ()))))))))), ())).bind fun r5 =>
      if (r5.1.1 != (0 : Int)) = false then
        (F_impl_MemoryFault (r3.1.1.2.2.2.2.2.2.2.2.2.2.2.2.1, ())).bind fun r6 =>
        if (r6.1.1 != (0 : Int)) = false then
          let v7 := ((r3.1.1.2.2.2.2.2.2.2.2.2.2.2.2.1.length : Nat) : Int)
          let v8 := ((r2.1.2.2.1.length : Nat) : Int)
          if (v7 != v8) = false then
            if 0 ≤ (0 : Int) ∧ (0 : Int) < ((r3.1.1.2.2.2.1.length : Nat) : Int) then
              ((r3.1.1.2.2.2.1)[((0 : Int)).toNat]?).bind fun y9 =>
              if (y9 != (0 : Int)) = false then
                if (ltI r3.1.1.2.2.2.2.2.2.2.2.2.1 r2.1.1.2.2.2.2.2.2.1) = false then
                  let v10 := (IntKind.i64.wrap (r2.1.1.2.2.2.2.2.2.1 + (1 : Int)))
                  if (ltI v10 r3.1.1.2.2.2.2.2.2.2.2.2.1) = false then
                    if (leI (0 : Int) r3.1.1.2.1) = true then
                      if (r3.1.1.2.2.2.2.2.2.2.2.2.1 != r2.1.1.2.2.2.2.2.2.1) = false then
                        if r2.1.1.2.2.2.1 = true then
                          if (r3.1.1.2.2.2.2.1 != r2.1.1.2.1) then
                            some ((false, ()), ())
                          else
                            (L_laws_FnSteps_10 (((), (r2.1.2.1, (r2.1.2.2.1, ((), ((0 : Int), ()))))), ((r2.1.1, (r3.1.1, ())), ()))).bind fun z34 =>
                            match z34 with
                            | .inl x35 =>
                              (F_spec_StepHart (x35.2.1.1, x35.1.2.1, x35.1.2.2.1, ())).bind fun r36 =>
                              some (((x35.2.1.2.1.2.2.2.2.1 == r36.1.1.2.2.2.2.1), ()), ())
                            | .inr z34_ =>
                              match z34_ with
                              | .inl x37 =>
                                some ((x37.1.1, ()), ())
                              | .inr z34__ =>
                                none
                        else
                          (L_laws_FnSteps_10 (((), (r2.1.2.1, (r2.1.2.2.1, ((), ((0 : Int), ()))))), ((r2.1.1, (r3.1.1, ())), ()))).bind fun z38 =>
                          match z38 with
                          | .inl x39 =>
                            (F_spec_StepHart (x39.2.1.1, x39.1.2.1, x39.1.2.2.1, ())).bind fun r40 =>
                            some (((x39.2.1.2.1.2.2.2.2.1 == r40.1.1.2.2.2.2.1), ()), ())
                          | .inr z38_ =>
                            match z38_ with
                            | .inl x41 =>
                              some ((x41.1.1, ()), ())
                            | .inr z38__ =>
                              none
                      else
                        some ((false, ()), ())
                    else
                      if r2.1.1.2.2.2.1 = true then
                        if (r3.1.1.2.2.2.2.1 != r2.1.1.2.1) then
                          some ((false, ()), ())
                        else
                          (L_laws_FnSteps_10 (((), (r2.1.2.1, (r2.1.2.2.1, ((), ((0 : Int), ()))))), ((r2.1.1, (r3.1.1, ())), ()))).bind fun z42 =>
                          match z42 with
                          | .inl x43 =>
                            (F_spec_StepHart (x43.2.1.1, x43.1.2.1, x43.1.2.2.1, ())).bind fun r44 =>
                            some (((x43.2.1.2.1.2.2.2.2.1 == r44.1.1.2.2.2.2.1), ()), ())
                          | .inr z42_ =>
                            match z42_ with
                            | .inl x45 =>
                              some ((x45.1.1, ()), ())
                            | .inr z42__ =>
                              none
                      else
                        (L_laws_FnSteps_10 (((), (r2.1.2.1, (r2.1.2.2.1, ((), ((0 : Int), ()))))), ((r2.1.1, (r3.1.1, ())), ()))).bind fun z46 =>
                        match z46 with
                        | .inl x47 =>
                          (F_spec_StepHart (x47.2.1.1, x47.1.2.1, x47.1.2.2.1, ())).bind fun r48 =>
                          some (((x47.2.1.2.1.2.2.2.2.1 == r48.1.1.2.2.2.2.1), ()), ())
                        | .inr z46_ =>
                          match z46_ with
                          | .inl x49 =>
                            some ((x49.1.1, ()), ())
                          | .inr z46__ =>
                            none
                  else
                    some ((false, ()), ())
                else
                  some ((false, ()), ())
              else
                some ((false, ()), ())
            else none
          else
            some ((false, ()), ())
        else
          some ((false, ()), ())
      else
        some ((false, ()), ())
abbrev C_laws_FnSteps : Con := ⟨P_laws_FnSteps, R_laws_FnSteps, F_laws_FnSteps, false⟩
abbrev G_laws_FnSteps : Env := [(11, C_laws_lwBig), (16, C_impl_StepHart), (18, C_spec_DrawStepHart), (19, C_spec_StepHart), (20, C_impl_HartFault), (21, C_impl_MemoryFault)]
theorem g_laws_FnSteps : EnvOk Tryz.prog G_laws_FnSteps := (env_cons s_laws_lwBig (env_cons s_impl_StepHart (env_cons s_spec_DrawStepHart (env_cons s_spec_StepHart (env_cons s_impl_HartFault (env_cons s_impl_MemoryFault env_nil))))))
abbrev c_laws_FnSteps_15 : Cut := ⟨i_laws_FnSteps_15, o_laws_FnSteps_15, fun x => iterF l_laws_FnSteps_15 lots x⟩
theorem t_laws_FnSteps_15 (rec x) : run T G_laws_FnSteps [] (nav Tryz.f4 [1, 1, 1, 1, 1, 1, 0, 1, 0, 0, 1, 0, 0, 1, 1, 0, 1, 0, 0]) (mk 155 i_laws_FnSteps_15 x) (loopK i_laws_FnSteps_15 o_laws_FnSteps_15 rec) = l_laws_FnSteps_15 rec x := by kernel_rfl
theorem k_laws_FnSteps_15 : CutOk Tryz.prog 155 (.loop (nav Tryz.f4 [1, 1, 1, 1, 1, 1, 0, 1, 0, 0, 1, 0, 0, 1, 1, 0, 1, 0, 0])) c_laws_FnSteps_15 :=
  loop_cut (L := []) hT g_laws_FnSteps t_laws_FnSteps_15 (plain_ok (by kernel_rfl)) _
abbrev c_laws_FnSteps_10 : Cut := ⟨i_laws_FnSteps_10, o_laws_FnSteps_10, fun x => iterF l_laws_FnSteps_10 lots x⟩
theorem t_laws_FnSteps_10 (rec x) : run T G_laws_FnSteps [(15, c_laws_FnSteps_15)] (nav Tryz.f4 [1, 1, 1, 1, 1, 1, 0, 1, 0, 0]) (mk 155 i_laws_FnSteps_10 x) (loopK i_laws_FnSteps_10 o_laws_FnSteps_10 rec) = l_laws_FnSteps_10 rec x := by kernel_rfl
theorem k_laws_FnSteps_10 : CutOk Tryz.prog 155 (.loop (nav Tryz.f4 [1, 1, 1, 1, 1, 1, 0, 1, 0, 0])) c_laws_FnSteps_10 :=
  loop_cut (L := [(15, c_laws_FnSteps_15)]) hT g_laws_FnSteps t_laws_FnSteps_10 (seq_ok (plain_ok (by kernel_rfl)) (seq_ok (block_ok (by kernel_rfl) (seq_ok (plain_ok (by kernel_rfl)) (seq_ok (plain_ok (by kernel_rfl)) (seq_ok (seq_ok (plain_ok (by kernel_rfl)) (block_ok (by kernel_rfl) (loop_ok (by kernel_rfl) k_laws_FnSteps_15))) (plain_ok (by kernel_rfl)))))) (plain_ok (by kernel_rfl)))) _
theorem r_laws_FnSteps (x) : runFn T G_laws_FnSteps [(15, c_laws_FnSteps_15), (10, c_laws_FnSteps_10)] Tryz.f4 P_laws_FnSteps R_laws_FnSteps x = F_laws_FnSteps x := by kernel_rfl
theorem s_laws_FnSteps : CallsOk Tryz.prog 4 C_laws_FnSteps :=
  fn_calls (L := [(15, c_laws_FnSteps_15), (10, c_laws_FnSteps_10)]) hT g_laws_FnSteps Tryz.f4 (by kernel_rfl) (by kernel_rfl) (by kernel_rfl) (seq_ok (plain_ok (by kernel_rfl)) (seq_ok (plain_ok (by kernel_rfl)) (seq_ok (plain_ok (by kernel_rfl)) (seq_ok (plain_ok (by kernel_rfl)) (seq_ok (plain_ok (by kernel_rfl)) (seq_ok (plain_ok (by kernel_rfl)) (seq_ok (seq_ok (plain_ok (by kernel_rfl)) (block_ok (by kernel_rfl) (loop_ok (by kernel_rfl) k_laws_FnSteps_10))) (plain_ok (by kernel_rfl))))))))) r_laws_FnSteps
theorem q_laws_FnSteps : Sound Tryz.prog 4 C_laws_FnSteps :=
  fn_snd (L := [(15, c_laws_FnSteps_15), (10, c_laws_FnSteps_10)]) hT g_laws_FnSteps Tryz.f4 (by kernel_rfl) (by kernel_rfl) (seq_ok (plain_ok (by kernel_rfl)) (seq_ok (plain_ok (by kernel_rfl)) (seq_ok (plain_ok (by kernel_rfl)) (seq_ok (plain_ok (by kernel_rfl)) (seq_ok (plain_ok (by kernel_rfl)) (seq_ok (plain_ok (by kernel_rfl)) (seq_ok (seq_ok (plain_ok (by kernel_rfl)) (block_ok (by kernel_rfl) (loop_ok (by kernel_rfl) k_laws_FnSteps_10))) (plain_ok (by kernel_rfl))))))))) r_laws_FnSteps
/-! spec.DrawNextIns -/
abbrev P_spec_DrawNextIns : List PK := [.val Y22]
abbrev R_spec_DrawNextIns : List VK := [.g [.dat Y24, .dat YI, .own 2 YI, .dat .bool, .dat .bool, .dat .bool, .dat YI, .dat Y24, .own 2 YI], .s (.dat Y27), .s (.dat Y24)]
def F_spec_DrawNextIns (x : denP P_spec_DrawNextIns) : Option (denV R_spec_DrawNextIns × denQ P_spec_DrawNextIns) :=
  (F_spec_l1Source (x.1, ())).bind fun r1 =>
  (F_spec_l10World ((r1.1.1.1, (r1.1.1.2.1, ())), ())).bind fun r2 =>
  some ((r2.1.1, r2.1.2.1, r2.1.2.2.1, ()), ())
abbrev C_spec_DrawNextIns : Con := ⟨P_spec_DrawNextIns, R_spec_DrawNextIns, F_spec_DrawNextIns, false⟩
abbrev G_spec_DrawNextIns : Env := [(51, C_spec_l1Source), (52, C_spec_l10World)]
theorem g_spec_DrawNextIns : EnvOk Tryz.prog G_spec_DrawNextIns := (env_cons s_spec_l1Source (env_cons s_spec_l10World env_nil))
theorem r_spec_DrawNextIns (x) : runFn T G_spec_DrawNextIns [] Tryz.f22 P_spec_DrawNextIns R_spec_DrawNextIns x = F_spec_DrawNextIns x := by kernel_rfl
theorem s_spec_DrawNextIns : CallsOk Tryz.prog 22 C_spec_DrawNextIns :=
  fn_calls (L := []) hT g_spec_DrawNextIns Tryz.f22 (by kernel_rfl) (by kernel_rfl) (by kernel_rfl) (plain_ok (by kernel_rfl)) r_spec_DrawNextIns
/-! impl.PlaceOf -/
abbrev P_impl_PlaceOf : List PK := [.val Y25, .val Y27, .val Y24, .val YI, .val YI]
abbrev R_impl_PlaceOf : List VK := [.s (.dat Y40)]
def F_impl_PlaceOf (x : denP P_impl_PlaceOf) : Option (denV R_impl_PlaceOf × denQ P_impl_PlaceOf) :=
  (F_impl_stepFault (x.1, x.2.1, x.2.2.1, ())).bind fun r1 =>
  if (r1.1.1 == (0 : Int)) = true then
    (F_impl_kindCode (x.2.2.2.2.1, ())).bind fun r2 =>
    if (r2.1.1 == (0 : Int)) then
      some ((((3 : Int), ((0 : Int), ())), ()), ())
    else
      if (r1.1.1 != (0 : Int)) then
        some (((r1.1.1, ((0 : Int), ())), ()), ())
      else
        (F_impl_Hart_place (x.1, x.2.1, x.2.2.1, x.2.2.2.1, x.2.2.2.2.1, ())).bind fun r3 =>
        some ((r3.1.1, ()), ())
  else
    if (r1.1.1 != (0 : Int)) then
      some (((r1.1.1, ((0 : Int), ())), ()), ())
    else
      (F_impl_Hart_place (x.1, x.2.1, x.2.2.1, x.2.2.2.1, x.2.2.2.2.1, ())).bind fun r4 =>
      some ((r4.1.1, ()), ())
abbrev C_impl_PlaceOf : Con := ⟨P_impl_PlaceOf, R_impl_PlaceOf, F_impl_PlaceOf, false⟩
abbrev G_impl_PlaceOf : Env := [(55, C_impl_stepFault), (68, C_impl_kindCode), (69, C_impl_Hart_place)]
theorem g_impl_PlaceOf : EnvOk Tryz.prog G_impl_PlaceOf := (env_cons s_impl_stepFault (env_cons s_impl_kindCode (env_cons s_impl_Hart_place env_nil)))
theorem r_impl_PlaceOf (x) : runFn T G_impl_PlaceOf [] Tryz.f26 P_impl_PlaceOf R_impl_PlaceOf x = F_impl_PlaceOf x := by kernel_rfl
theorem s_impl_PlaceOf : CallsOk Tryz.prog 26 C_impl_PlaceOf :=
  fn_calls (L := []) hT g_impl_PlaceOf Tryz.f26 (by kernel_rfl) (by kernel_rfl) (by kernel_rfl) (plain_ok (by kernel_rfl)) r_impl_PlaceOf
/-! impl.NextIns -/
abbrev P_impl_NextIns : List PK := [.val Y25, .val Y27, .val Y24]
abbrev R_impl_NextIns : List VK := [.s (.dat Y44)]
def F_impl_NextIns (x : denP P_impl_NextIns) : Option (denV R_impl_NextIns × denQ P_impl_NextIns) :=
  (F_impl_PlaceOf (x.1, x.2.1, x.2.2.1, x.1.2.1, (4 : Int), ())).bind fun r1 =>
  if (r1.1.1.1 != (0 : Int)) then
    some (((r1.1.1.1, (((0 : Int), ((0 : Int), ((0 : Int), ((0 : Int), ())))), ())), ()), ())
  else
    if 0 ≤ r1.1.1.2.1 then
      ((x.2.2.1)[(r1.1.1.2.1).toNat]?).bind fun y2 =>
      (F_impl_DecodeIns (y2, ())).bind fun r3 =>
      some ((r3.1.1, ()), ())
    else none
abbrev C_impl_NextIns : Con := ⟨P_impl_NextIns, R_impl_NextIns, F_impl_NextIns, false⟩
abbrev G_impl_NextIns : Env := [(26, C_impl_PlaceOf), (64, C_impl_DecodeIns)]
theorem g_impl_NextIns : EnvOk Tryz.prog G_impl_NextIns := (env_cons s_impl_PlaceOf (env_cons s_impl_DecodeIns env_nil))
theorem r_impl_NextIns (x) : runFn T G_impl_NextIns [] Tryz.f23 P_impl_NextIns R_impl_NextIns x = F_impl_NextIns x := by kernel_rfl
theorem s_impl_NextIns : CallsOk Tryz.prog 23 C_impl_NextIns :=
  fn_calls (L := []) hT g_impl_NextIns Tryz.f23 (by kernel_rfl) (by kernel_rfl) (by kernel_rfl) (plain_ok (by kernel_rfl)) r_impl_NextIns
/-! spec.DecodeIns -/
abbrev P_spec_DecodeIns : List PK := [.val YI]
abbrev R_spec_DecodeIns : List VK := [.s (.dat Y44)]
def F_spec_DecodeIns (x : denP P_spec_DecodeIns) : Option (denV R_spec_DecodeIns × denQ P_spec_DecodeIns) :=
  (F_spec_l2Decode (x.1, ())).bind fun r1 =>
  if (!r1.1.2.1) then
    some ((((5 : Int), (((0 : Int), ((0 : Int), ((0 : Int), ((0 : Int), ())))), ())), ()), ())
  else
    some ((((0 : Int), (r1.1.1, ())), ()), ())
abbrev C_spec_DecodeIns : Con := ⟨P_spec_DecodeIns, R_spec_DecodeIns, F_spec_DecodeIns, false⟩
abbrev G_spec_DecodeIns : Env := [(149, C_spec_l2Decode)]
theorem g_spec_DecodeIns : EnvOk Tryz.prog G_spec_DecodeIns := (env_cons s_spec_l2Decode env_nil)
theorem r_spec_DecodeIns (x) : runFn T G_spec_DecodeIns [] Tryz.f66 P_spec_DecodeIns R_spec_DecodeIns x = F_spec_DecodeIns x := by kernel_rfl
theorem s_spec_DecodeIns : CallsOk Tryz.prog 66 C_spec_DecodeIns :=
  fn_calls (L := []) hT g_spec_DecodeIns Tryz.f66 (by kernel_rfl) (by kernel_rfl) (by kernel_rfl) (plain_ok (by kernel_rfl)) r_spec_DecodeIns
/-! spec.NextIns -/
abbrev P_spec_NextIns : List PK := [.val Y25, .val Y27, .val Y24]
abbrev R_spec_NextIns : List VK := [.s (.dat Y44)]
def F_spec_NextIns (x : denP P_spec_NextIns) : Option (denV R_spec_NextIns × denQ P_spec_NextIns) :=
  (F_spec_l10Asked (x.1, x.2.1, x.2.2.1, ())).bind fun r1 =>
  if (r1.1.1 != (0 : Int)) then
    some (((r1.1.1, (((0 : Int), ((0 : Int), ((0 : Int), ((0 : Int), ())))), ())), ()), ())
  else
    (F_spec_l10Place ((x.2.1, (x.2.2.1, ((0 : Int), (x.1, ((0 : Int), ()))))), x.1.2.1, (4 : Int), ())).bind fun r2 =>
    if (r2.1.2.1 != (0 : Int)) then
      some (((r2.1.2.1, (((0 : Int), ((0 : Int), ((0 : Int), ((0 : Int), ())))), ())), ()), ())
    else
      if 0 ≤ r2.1.1 then
        ((x.2.2.1)[(r2.1.1).toNat]?).bind fun y3 =>
        (F_spec_DecodeIns (y3, ())).bind fun r4 =>
        some ((r4.1.1, ()), ())
      else none
abbrev C_spec_NextIns : Con := ⟨P_spec_NextIns, R_spec_NextIns, F_spec_NextIns, false⟩
abbrev G_spec_NextIns : Env := [(58, C_spec_l10Asked), (65, C_spec_l10Place), (66, C_spec_DecodeIns)]
theorem g_spec_NextIns : EnvOk Tryz.prog G_spec_NextIns := (env_cons s_spec_l10Asked (env_cons s_spec_l10Place (env_cons s_spec_DecodeIns env_nil)))
theorem r_spec_NextIns (x) : runFn T G_spec_NextIns [] Tryz.f24 P_spec_NextIns R_spec_NextIns x = F_spec_NextIns x := by kernel_rfl
theorem s_spec_NextIns : CallsOk Tryz.prog 24 C_spec_NextIns :=
  fn_calls (L := []) hT g_spec_NextIns Tryz.f24 (by kernel_rfl) (by kernel_rfl) (by kernel_rfl) (plain_ok (by kernel_rfl)) r_spec_NextIns
/-! impl.DueOf -/
abbrev P_impl_DueOf : List PK := [.val Y25]
abbrev R_impl_DueOf : List VK := [.s (.dat Y40)]
def F_impl_DueOf (x : denP P_impl_DueOf) : Option (denV R_impl_DueOf × denQ P_impl_DueOf) :=
  (F_impl_HartFault (x.1, ())).bind fun r1 =>
  if (r1.1.1 != (0 : Int)) then
    some (((r1.1.1, ((0 : Int), ())), ()), ())
  else
    (F_impl_Hart_due (x.1, ())).bind fun r2 =>
    if (ltI r2.1.1 (0 : Int)) then
      some ((((4 : Int), ((0 : Int), ())), ()), ())
    else
      some ((((0 : Int), (r2.1.1, ())), ()), ())
abbrev C_impl_DueOf : Con := ⟨P_impl_DueOf, R_impl_DueOf, F_impl_DueOf, false⟩
abbrev G_impl_DueOf : Env := [(20, C_impl_HartFault), (67, C_impl_Hart_due)]
theorem g_impl_DueOf : EnvOk Tryz.prog G_impl_DueOf := (env_cons s_impl_HartFault (env_cons s_impl_Hart_due env_nil))
theorem r_impl_DueOf (x) : runFn T G_impl_DueOf [] Tryz.f25 P_impl_DueOf R_impl_DueOf x = F_impl_DueOf x := by kernel_rfl
theorem s_impl_DueOf : CallsOk Tryz.prog 25 C_impl_DueOf :=
  fn_calls (L := []) hT g_impl_DueOf Tryz.f25 (by kernel_rfl) (by kernel_rfl) (by kernel_rfl) (plain_ok (by kernel_rfl)) r_impl_DueOf
/-! laws.FnFaults -/
abbrev P_laws_FnFaults : List PK := [.val Y22]
abbrev R_laws_FnFaults : List VK := [.s (.dat .bool)]
def F_laws_FnFaults (x : denP P_laws_FnFaults) : Option (denV R_laws_FnFaults × denQ P_laws_FnFaults) :=
  (F_laws_lwBig (x.1, ())).bind fun r1 =>
  if r1.1.1 then
    some ((true, ()), ())
  else
    (F_spec_DrawNextIns (x.1, ())).bind fun r2 =>
    (F_impl_NextIns (r2.1.1, r2.1.2.1, r2.1.2.2.1, ())).bind fun r3 =>
    (F_impl_StepHart (r2.1.1, r2.1.2.1, r2.1.2.2.1, ())).bind fun r4 =>
    if (r4.1.1.1 != (0 : Int)) then
      (F_spec_NextIns (r2.1.1, r2.1.2.1, r2.1.2.2.1, ())).bind fun r5 =>
      if (r5.1.1.1 == r3.1.1.1) = true then
        (F_spec_StepHart (r2.1.1, r2.1.2.1, r2.1.2.2.1, ())).bind fun r6 =>
        some (((r6.1.1.1 == r4.1.1.1), ()), ())
      else
        some ((false, ()), ())
    else
      if r2.1.1.2.2.2.1 = false then
        if r2.1.1.2.2.2.2.1 = false then
          (F_impl_DueOf (r2.1.1, ())).bind fun r7 =>
          if (r7.1.1.1 == (0 : Int)) then
            (F_spec_StepHart (r2.1.1, r2.1.2.1, r2.1.2.2.1, ())).bind fun r8 =>
            some (((r8.1.1.2.1 == r4.1.1.2.1), ()), ())
          else
            (F_impl_PlaceOf (r2.1.1, r2.1.2.1, r2.1.2.2.1, r2.1.1.2.1, (4 : Int), ())).bind fun r9 =>
            if (r9.1.1.1 != (0 : Int)) then
              if (r3.1.1.1 == r9.1.1.1) = true then
                if (r4.1.1.2.1 == (2 : Int)) = true then
                  if 0 ≤ (4 : Int) ∧ (4 : Int) < ((r4.1.1.2.2.2.2.2.1.length : Nat) : Int) then
                    ((r4.1.1.2.2.2.2.2.1)[((4 : Int)).toNat]?).bind fun y10 =>
                    some (((y10 == r2.1.1.2.1), ()), ())
                  else none
                else
                  some ((false, ()), ())
              else
                some ((false, ()), ())
            else
              if (r3.1.1.1 != (0 : Int)) then
                if (r4.1.1.2.1 == (1 : Int)) = true then
                  if 0 ≤ (4 : Int) ∧ (4 : Int) < ((r4.1.1.2.2.2.2.2.1.length : Nat) : Int) then
                    ((r4.1.1.2.2.2.2.2.1)[((4 : Int)).toNat]?).bind fun y11 =>
                    if 0 ≤ r9.1.1.2.1 then
                      ((r2.1.2.2.1)[(r9.1.1.2.1).toNat]?).bind fun y12 =>
                      some (((y11 == y12), ()), ())
                    else none
                  else none
                else
                  some ((false, ()), ())
              else
                if (r3.1.1.2.1.1 == (23 : Int)) then
                  some (((r4.1.1.2.1 == (5 : Int)), ()), ())
                else
                  if (r3.1.1.2.1.1 == (14 : Int)) = false then
                    if (r3.1.1.2.1.1 == (15 : Int)) then
                      if 0 ≤ r3.1.1.2.1.2.2.1 then
                        ((r2.1.1.1)[(r3.1.1.2.1.2.2.1).toNat]?).bind fun y13 =>
                        (F_impl_OffsetOf (r3.1.1.2.1.2.2.2.1, ())).bind fun r14 =>
                        (F_impl_AddWords (y13, r14.1.1, ())).bind fun r15 =>
                        if (r3.1.1.2.1.1 == (15 : Int)) then
                          (F_impl_PlaceOf (r2.1.1, r2.1.2.1, r2.1.2.2.1, r15.1.1, (2 : Int), ())).bind fun r16 =>
                          if ((r16.1.1.1 != (0 : Int)) == (r4.1.1.2.1 == (4 : Int))) = true then
                            if (r16.1.1.1 == (0 : Int)) = false then
                              if 0 ≤ (4 : Int) ∧ (4 : Int) < ((r4.1.1.2.2.2.2.2.1.length : Nat) : Int) then
                                ((r4.1.1.2.2.2.2.2.1)[((4 : Int)).toNat]?).bind fun y17 =>
                                some (((y17 == r15.1.1), ()), ())
                              else none
                            else
                              some ((true, ()), ())
                          else
                            some ((false, ()), ())
                        else
                          (F_impl_PlaceOf (r2.1.1, r2.1.2.1, r2.1.2.2.1, r15.1.1, (1 : Int), ())).bind fun r18 =>
                          if ((r18.1.1.1 != (0 : Int)) == (r4.1.1.2.1 == (3 : Int))) = true then
                            if (r18.1.1.1 == (0 : Int)) = false then
                              if 0 ≤ (4 : Int) ∧ (4 : Int) < ((r4.1.1.2.2.2.2.2.1.length : Nat) : Int) then
                                ((r4.1.1.2.2.2.2.2.1)[((4 : Int)).toNat]?).bind fun y19 =>
                                some (((y19 == r15.1.1), ()), ())
                              else none
                            else
                              some ((true, ()), ())
                          else
                            some ((false, ()), ())
                      else none
                    else
                      if (r4.1.1.2.1 == (-1 : Int)) = true then
                        if (leI r2.1.1.2.2.2.2.2.2.1 r4.1.1.2.2.2.2.2.2.2.2.2.1) = true then
                          let v20 := ((r4.1.1.2.2.2.2.2.2.2.2.2.2.2.2.1.length : Nat) : Int)
                          let v21 := ((r2.1.2.2.1.length : Nat) : Int)
                          some (((v20 == v21), ()), ())
                        else
                          some ((false, ()), ())
                      else
                        some ((false, ()), ())
                  else
                    if 0 ≤ r3.1.1.2.1.2.2.1 then
                      ((r2.1.1.1)[(r3.1.1.2.1.2.2.1).toNat]?).bind fun y22 =>
                      (F_impl_OffsetOf (r3.1.1.2.1.2.2.2.1, ())).bind fun r23 =>
                      (F_impl_AddWords (y22, r23.1.1, ())).bind fun r24 =>
                      if (r3.1.1.2.1.1 == (15 : Int)) then
                        (F_impl_PlaceOf (r2.1.1, r2.1.2.1, r2.1.2.2.1, r24.1.1, (2 : Int), ())).bind fun r25 =>
                        if ((r25.1.1.1 != (0 : Int)) == (r4.1.1.2.1 == (4 : Int))) = true then
                          if (r25.1.1.1 == (0 : Int)) = false then
                            if 0 ≤ (4 : Int) ∧ (4 : Int) < ((r4.1.1.2.2.2.2.2.1.length : Nat) : Int) then
                              ((r4.1.1.2.2.2.2.2.1)[((4 : Int)).toNat]?).bind fun y26 =>
                              some (((y26 == r24.1.1), ()), ())
                            else none
                          else
                            some ((true, ()), ())
                        else
                          some ((false, ()), ())
                      else
                        (F_impl_PlaceOf (r2.1.1, r2.1.2.1, r2.1.2.2.1, r24.1.1, (1 : Int), ())).bind fun r27 =>
                        if ((r27.1.1.1 != (0 : Int)) == (r4.1.1.2.1 == (3 : Int))) = true then
                          if (r27.1.1.1 == (0 : Int)) = false then
                            if 0 ≤ (4 : Int) ∧ (4 : Int) < ((r4.1.1.2.2.2.2.2.1.length : Nat) : Int) then
                              ((r4.1.1.2.2.2.2.2.1)[((4 : Int)).toNat]?).bind fun y28 =>
                              some (((y28 == r24.1.1), ()), ())
                            else none
                          else
                            some ((true, ()), ())
                        else
                          some ((false, ()), ())
                    else none
        else
          (F_spec_StepHart (r2.1.1, r2.1.2.1, r2.1.2.2.1, ())).bind fun r29 =>
          some (((r29.1.1.2.1 == r4.1.1.2.1), ()), ())
      else
        (F_spec_StepHart (r2.1.1, r2.1.2.1, r2.1.2.2.1, ())).bind fun r30 =>
        some (((r30.1.1.2.1 == r4.1.1.2.1), ()), ())
abbrev C_laws_FnFaults : Con := ⟨P_laws_FnFaults, R_laws_FnFaults, F_laws_FnFaults, false⟩
abbrev G_laws_FnFaults : Env := [(11, C_laws_lwBig), (16, C_impl_StepHart), (19, C_spec_StepHart), (22, C_spec_DrawNextIns), (23, C_impl_NextIns), (24, C_spec_NextIns), (25, C_impl_DueOf), (26, C_impl_PlaceOf), (27, C_impl_AddWords), (28, C_impl_OffsetOf)]
theorem g_laws_FnFaults : EnvOk Tryz.prog G_laws_FnFaults := (env_cons s_laws_lwBig (env_cons s_impl_StepHart (env_cons s_spec_StepHart (env_cons s_spec_DrawNextIns (env_cons s_impl_NextIns (env_cons s_spec_NextIns (env_cons s_impl_DueOf (env_cons s_impl_PlaceOf (env_cons s_impl_AddWords (env_cons s_impl_OffsetOf env_nil))))))))))
theorem r_laws_FnFaults (x) : runFn T G_laws_FnFaults [] Tryz.f5 P_laws_FnFaults R_laws_FnFaults x = F_laws_FnFaults x := by kernel_rfl
theorem s_laws_FnFaults : CallsOk Tryz.prog 5 C_laws_FnFaults :=
  fn_calls (L := []) hT g_laws_FnFaults Tryz.f5 (by kernel_rfl) (by kernel_rfl) (by kernel_rfl) (plain_ok (by kernel_rfl)) r_laws_FnFaults
theorem q_laws_FnFaults : Sound Tryz.prog 5 C_laws_FnFaults :=
  fn_snd (L := []) hT g_laws_FnFaults Tryz.f5 (by kernel_rfl) (by kernel_rfl) (plain_ok (by kernel_rfl)) r_laws_FnFaults
end Go.Proofs.YtajnommlfjfgpaaGreatDoor
