/- The functions of the laws, each as a plain function of data (F), and that the program's text does what F says. Printed by a program (wip/tools/gen.py). -/
import Derived.Test.YtajnommlfjfgpaaGreatDoorGs2
namespace Go.Proofs.YtajnommlfjfgpaaGreatDoor
open Go Go.RowKit S Go.Proofs
set_option maxRecDepth 100000
set_option linter.unusedVariables false
/-! spec.l2Alu -/
abbrev P_dl : List PK := [.val YI, .val YI, .val YI]
abbrev R_dl : List VK := [.s (.dat YI)]
def F_dl (x : denP P_dl) : Option (denV R_dl × denQ P_dl) :=
 if (x.1 == (1 : Int)) then
 (F_cw (x.2.1, x.2.2.1, ())).bind fun r1 =>
 some ((r1.1.1, ()), ())
 else
 if (x.1 == (2 : Int)) then
  let v2 := (IntKind.u32.wrap x.2.1)
  let v3 := (IntKind.u32.wrap x.2.2.1)
  let v4 := (IntKind.u32.wrap (v2 - v3))
  let v5 := (IntKind.i64.wrap v4)
  some ((v5, ()), ())
 else
  if (x.1 == (3 : Int)) then
  (F_dg (x.2.1, x.2.2.1, ())).bind fun r6 =>
  some ((r6.1.1, ()), ())
  else
  if (x.1 == (4 : Int)) then
   (F_dh (x.2.1, x.2.2.1, ())).bind fun r7 =>
   some ((r7.1.1, ()), ())
  else
   if (x.1 == (5 : Int)) then
   (F_di (x.2.1, x.2.2.1, ())).bind fun r8 =>
   some ((r8.1.1, ()), ())
   else
   if (x.1 == (6 : Int)) then
    let v9 := (IntKind.i64.wrap (x.1 - (6 : Int)))
    let v10 := (IntKind.i64.wrap (v9 + (1 : Int)))
    (F_dj (v10, x.2.1, x.2.2.1, ())).bind fun r11 =>
    some ((r11.1.1.2.1, ()), ())
   else
    if (x.1 == (7 : Int)) then
    let v12 := (IntKind.i64.wrap (x.1 - (6 : Int)))
    let v13 := (IntKind.i64.wrap (v12 + (1 : Int)))
    (F_dj (v13, x.2.1, x.2.2.1, ())).bind fun r14 =>
    some ((r14.1.1.2.1, ()), ())
    else
    if (x.1 == (8 : Int)) then
     let v15 := (IntKind.i64.wrap (x.1 - (6 : Int)))
     let v16 := (IntKind.i64.wrap (v15 + (1 : Int)))
     (F_dj (v16, x.2.1, x.2.2.1, ())).bind fun r17 =>
     some ((r17.1.1.2.1, ()), ())
    else
     if (x.1 == (9 : Int)) then
     (F_dk (x.2.1, x.2.2.1, true, ())).bind fun r18 =>
     some ((r18.1.1, ()), ())
     else
     if (x.1 == (10 : Int)) then
      (F_dk (x.2.1, x.2.2.1, false, ())).bind fun r19 =>
      some ((r19.1.1, ()), ())
     else
      (F_dc (x.2.1, ())).bind fun r20 =>
      (F_dc (x.2.2.1, ())).bind fun r21 =>
      if (ltI r20.1.1 r21.1.1) then
      some (((1 : Int), ()), ())
      else
      some (((0 : Int), ()), ())
abbrev C_dl : Con := ⟨P_dl, R_dl, F_dl, false⟩
abbrev G_dl : Env := [(221, C_cw), (273, C_dc), (275, C_dg), (276, C_dh), (277, C_di), (278, C_dj), (279, C_dk)]
theorem g_dl : EnvOk Tryz.prog G_dl := (env_cons s_cw (env_cons s_dc (env_cons s_dg (env_cons s_dh (env_cons s_di (env_cons s_dj (env_cons s_dk env_nil)))))))
theorem r_dl (x) : runFn T G_dl [] Tryz.f229 P_dl R_dl x = F_dl x := by kernel_rfl
theorem s_dl : CallsOk Tryz.prog 229 C_dl :=
 fn_calls (L := []) hT g_dl Tryz.f229 (by kernel_rfl) (by kernel_rfl) (by kernel_rfl) (plain_ok (by kernel_rfl)) r_dl
/-! spec.l10Do -/
abbrev P_dm : List PK := [.box [.dat Y27, .own 2 YI, .dat YI, .own 2 YI, .dat YI, .own 2 YI, .dat .bool, .dat .bool, .dat .bool, .dat YI, .dat Y24, .own 2 YI, .dat YI] [.dat Y27, .own 2 YI, .dat YI, .own 2 YI, .dat YI, .own 2 YI, .dat .bool, .dat .bool, .dat .bool, .dat YI, .dat Y24, .own 2 YI, .dat YI], .val Y42]
abbrev R_dm : List VK := [.s (.dat .bool)]
def F_dm (x : denP P_dm) : Option (denV R_dm × denQ P_dm) :=
 (F_cw (x.1.2.2.2.2.1, (1 : Int), ())).bind fun r1 =>
 (F_cx (x.2.1.2.2.2.1, ())).bind fun r2 =>
 (F_cw (x.1.2.2.2.2.1, r2.1.1, ())).bind fun r3 =>
 if (x.2.1.1 == (12 : Int)) then
 if 0 ≤ x.2.1.2.2.1 ∧ x.2.1.2.2.1 < ((x.1.2.2.2.1.length : Nat) : Int) then
  ((x.1.2.2.2.1)[(x.2.1.2.2.1).toNat]?).bind fun y4 =>
  (F_cx (x.2.1.2.2.2.1, ())).bind fun r5 =>
  (F_cw (y4, r5.1.1, ())).bind fun r6 =>
  (F_cy (x.1, x.2.1.2.1, r6.1.1, ())).bind fun r7 =>
  some ((true, ()), ((r7.2.1.1, (r7.2.1.2.1, (r7.2.1.2.2.1, (r7.2.1.2.2.2.1, (r1.1.1, (r7.2.1.2.2.2.2.2.1, (r7.2.1.2.2.2.2.2.2.1, (r7.2.1.2.2.2.2.2.2.2.1, (r7.2.1.2.2.2.2.2.2.2.2.1, (r7.2.1.2.2.2.2.2.2.2.2.2.1, (r7.2.1.2.2.2.2.2.2.2.2.2.2.1, (r7.2.1.2.2.2.2.2.2.2.2.2.2.2.1, (r7.2.1.2.2.2.2.2.2.2.2.2.2.2.2.1, ()))))))))))))), ()))
 else none
 else
 if (x.2.1.1 == (13 : Int)) then
  let v8 := (IntKind.i64.wrap (x.2.1.2.2.2.1 * (65536 : Int)))
  (F_cy (x.1, x.2.1.2.1, v8, ())).bind fun r9 =>
  some ((true, ()), ((r9.2.1.1, (r9.2.1.2.1, (r9.2.1.2.2.1, (r9.2.1.2.2.2.1, (r1.1.1, (r9.2.1.2.2.2.2.2.1, (r9.2.1.2.2.2.2.2.2.1, (r9.2.1.2.2.2.2.2.2.2.1, (r9.2.1.2.2.2.2.2.2.2.2.1, (r9.2.1.2.2.2.2.2.2.2.2.2.1, (r9.2.1.2.2.2.2.2.2.2.2.2.2.1, (r9.2.1.2.2.2.2.2.2.2.2.2.2.2.1, (r9.2.1.2.2.2.2.2.2.2.2.2.2.2.2.1, ()))))))))))))), ()))
 else
  if (x.2.1.1 == (14 : Int)) then
  (F_db (x.1, x.2.1, ())).bind fun r10 =>
  if (!r10.1.1) then
   some ((false, ()), (r10.2.1, ()))
  else
   some ((true, ()), ((r10.2.1.1, (r10.2.1.2.1, (r10.2.1.2.2.1, (r10.2.1.2.2.2.1, (r1.1.1, (r10.2.1.2.2.2.2.2.1, (r10.2.1.2.2.2.2.2.2.1, (r10.2.1.2.2.2.2.2.2.2.1, (r10.2.1.2.2.2.2.2.2.2.2.1, (r10.2.1.2.2.2.2.2.2.2.2.2.1, (r10.2.1.2.2.2.2.2.2.2.2.2.2.1, (r10.2.1.2.2.2.2.2.2.2.2.2.2.2.1, (r10.2.1.2.2.2.2.2.2.2.2.2.2.2.2.1, ()))))))))))))), ()))
  else
  if (x.2.1.1 == (15 : Int)) then
   (F_db (x.1, x.2.1, ())).bind fun r11 =>
   if (!r11.1.1) then
   some ((false, ()), (r11.2.1, ()))
   else
   some ((true, ()), ((r11.2.1.1, (r11.2.1.2.1, (r11.2.1.2.2.1, (r11.2.1.2.2.2.1, (r1.1.1, (r11.2.1.2.2.2.2.2.1, (r11.2.1.2.2.2.2.2.2.1, (r11.2.1.2.2.2.2.2.2.2.1, (r11.2.1.2.2.2.2.2.2.2.2.1, (r11.2.1.2.2.2.2.2.2.2.2.2.1, (r11.2.1.2.2.2.2.2.2.2.2.2.2.1, (r11.2.1.2.2.2.2.2.2.2.2.2.2.2.1, (r11.2.1.2.2.2.2.2.2.2.2.2.2.2.2.1, ()))))))))))))), ()))
  else
   if (x.2.1.1 == (16 : Int)) then
   (F_dd ((x.1.2.2.2.1, (x.1.2.2.2.2.1, (x.1.2.2.2.2.2.1, (x.1.2.2.2.2.2.2.1, (x.1.2.2.2.2.2.2.2.1, (x.1.2.2.2.2.2.2.2.2.1, (x.1.2.2.2.2.2.2.2.2.2.1, (x.1.2.2.2.2.2.2.2.2.2.2.1, (x.1.2.2.2.2.2.2.2.2.2.2.2.1, ()))))))))), x.2.1, ())).bind fun r12 =>
   if r12.1.1 then
    some ((true, ()), ((x.1.1, (x.1.2.1, (x.1.2.2.1, (x.1.2.2.2.1, (r3.1.1, (x.1.2.2.2.2.2.1, (x.1.2.2.2.2.2.2.1, (x.1.2.2.2.2.2.2.2.1, (x.1.2.2.2.2.2.2.2.2.1, (x.1.2.2.2.2.2.2.2.2.2.1, (x.1.2.2.2.2.2.2.2.2.2.2.1, (x.1.2.2.2.2.2.2.2.2.2.2.2.1, (x.1.2.2.2.2.2.2.2.2.2.2.2.2.1, ()))))))))))))), ()))
   else
    some ((true, ()), ((x.1.1, (x.1.2.1, (x.1.2.2.1, (x.1.2.2.2.1, (r1.1.1, (x.1.2.2.2.2.2.1, (x.1.2.2.2.2.2.2.1, (x.1.2.2.2.2.2.2.2.1, (x.1.2.2.2.2.2.2.2.2.1, (x.1.2.2.2.2.2.2.2.2.2.1, (x.1.2.2.2.2.2.2.2.2.2.2.1, (x.1.2.2.2.2.2.2.2.2.2.2.2.1, (x.1.2.2.2.2.2.2.2.2.2.2.2.2.1, ()))))))))))))), ()))
   else
   if (x.2.1.1 == (17 : Int)) then
    (F_dd ((x.1.2.2.2.1, (x.1.2.2.2.2.1, (x.1.2.2.2.2.2.1, (x.1.2.2.2.2.2.2.1, (x.1.2.2.2.2.2.2.2.1, (x.1.2.2.2.2.2.2.2.2.1, (x.1.2.2.2.2.2.2.2.2.2.1, (x.1.2.2.2.2.2.2.2.2.2.2.1, (x.1.2.2.2.2.2.2.2.2.2.2.2.1, ()))))))))), x.2.1, ())).bind fun r13 =>
    if r13.1.1 then
    some ((true, ()), ((x.1.1, (x.1.2.1, (x.1.2.2.1, (x.1.2.2.2.1, (r3.1.1, (x.1.2.2.2.2.2.1, (x.1.2.2.2.2.2.2.1, (x.1.2.2.2.2.2.2.2.1, (x.1.2.2.2.2.2.2.2.2.1, (x.1.2.2.2.2.2.2.2.2.2.1, (x.1.2.2.2.2.2.2.2.2.2.2.1, (x.1.2.2.2.2.2.2.2.2.2.2.2.1, (x.1.2.2.2.2.2.2.2.2.2.2.2.2.1, ()))))))))))))), ()))
    else
    some ((true, ()), ((x.1.1, (x.1.2.1, (x.1.2.2.1, (x.1.2.2.2.1, (r1.1.1, (x.1.2.2.2.2.2.1, (x.1.2.2.2.2.2.2.1, (x.1.2.2.2.2.2.2.2.1, (x.1.2.2.2.2.2.2.2.2.1, (x.1.2.2.2.2.2.2.2.2.2.1, (x.1.2.2.2.2.2.2.2.2.2.2.1, (x.1.2.2.2.2.2.2.2.2.2.2.2.1, (x.1.2.2.2.2.2.2.2.2.2.2.2.2.1, ()))))))))))))), ()))
   else
    if (x.2.1.1 == (18 : Int)) then
    (F_dd ((x.1.2.2.2.1, (x.1.2.2.2.2.1, (x.1.2.2.2.2.2.1, (x.1.2.2.2.2.2.2.1, (x.1.2.2.2.2.2.2.2.1, (x.1.2.2.2.2.2.2.2.2.1, (x.1.2.2.2.2.2.2.2.2.2.1, (x.1.2.2.2.2.2.2.2.2.2.2.1, (x.1.2.2.2.2.2.2.2.2.2.2.2.1, ()))))))))), x.2.1, ())).bind fun r14 =>
    if r14.1.1 then
     some ((true, ()), ((x.1.1, (x.1.2.1, (x.1.2.2.1, (x.1.2.2.2.1, (r3.1.1, (x.1.2.2.2.2.2.1, (x.1.2.2.2.2.2.2.1, (x.1.2.2.2.2.2.2.2.1, (x.1.2.2.2.2.2.2.2.2.1, (x.1.2.2.2.2.2.2.2.2.2.1, (x.1.2.2.2.2.2.2.2.2.2.2.1, (x.1.2.2.2.2.2.2.2.2.2.2.2.1, (x.1.2.2.2.2.2.2.2.2.2.2.2.2.1, ()))))))))))))), ()))
    else
     some ((true, ()), ((x.1.1, (x.1.2.1, (x.1.2.2.1, (x.1.2.2.2.1, (r1.1.1, (x.1.2.2.2.2.2.1, (x.1.2.2.2.2.2.2.1, (x.1.2.2.2.2.2.2.2.1, (x.1.2.2.2.2.2.2.2.2.1, (x.1.2.2.2.2.2.2.2.2.2.1, (x.1.2.2.2.2.2.2.2.2.2.2.1, (x.1.2.2.2.2.2.2.2.2.2.2.2.1, (x.1.2.2.2.2.2.2.2.2.2.2.2.2.1, ()))))))))))))), ()))
    else
    if (x.2.1.1 == (19 : Int)) then
     (F_cy (x.1, x.2.1.2.1, r1.1.1, ())).bind fun r15 =>
     some ((true, ()), ((r15.2.1.1, (r15.2.1.2.1, (r15.2.1.2.2.1, (r15.2.1.2.2.2.1, (r3.1.1, (r15.2.1.2.2.2.2.2.1, (r15.2.1.2.2.2.2.2.2.1, (r15.2.1.2.2.2.2.2.2.2.1, (r15.2.1.2.2.2.2.2.2.2.2.1, (r15.2.1.2.2.2.2.2.2.2.2.2.1, (r15.2.1.2.2.2.2.2.2.2.2.2.2.1, (r15.2.1.2.2.2.2.2.2.2.2.2.2.2.1, (r15.2.1.2.2.2.2.2.2.2.2.2.2.2.2.1, ()))))))))))))), ()))
    else
     if (x.2.1.1 == (20 : Int)) then
     if 0 ≤ x.2.1.2.2.1 ∧ x.2.1.2.2.1 < ((x.1.2.2.2.1.length : Nat) : Int) then
      ((x.1.2.2.2.1)[(x.2.1.2.2.1).toNat]?).bind fun y16 =>
      (F_cx (x.2.1.2.2.2.1, ())).bind fun r17 =>
      (F_cw (y16, r17.1.1, ())).bind fun r18 =>
      (F_cy (x.1, x.2.1.2.1, r1.1.1, ())).bind fun r19 =>
      some ((true, ()), ((r19.2.1.1, (r19.2.1.2.1, (r19.2.1.2.2.1, (r19.2.1.2.2.2.1, (r18.1.1, (r19.2.1.2.2.2.2.2.1, (r19.2.1.2.2.2.2.2.2.1, (r19.2.1.2.2.2.2.2.2.2.1, (r19.2.1.2.2.2.2.2.2.2.2.1, (r19.2.1.2.2.2.2.2.2.2.2.2.1, (r19.2.1.2.2.2.2.2.2.2.2.2.2.1, (r19.2.1.2.2.2.2.2.2.2.2.2.2.2.1, (r19.2.1.2.2.2.2.2.2.2.2.2.2.2.2.1, ()))))))))))))), ()))
     else none
     else
     if (x.2.1.1 == (21 : Int)) then
      (F_de ((x.1.2.2.2.1, (x.1.2.2.2.2.1, (x.1.2.2.2.2.2.1, (x.1.2.2.2.2.2.2.1, (x.1.2.2.2.2.2.2.2.1, (x.1.2.2.2.2.2.2.2.2.1, (x.1.2.2.2.2.2.2.2.2.2.1, (x.1.2.2.2.2.2.2.2.2.2.2.1, (x.1.2.2.2.2.2.2.2.2.2.2.2.1, ()))))))))), x.2.1.2.2.2.1, ())).bind fun r20 =>
      (F_cy (x.1, x.2.1.2.1, r20.1.1, ())).bind fun r21 =>
      some ((true, ()), ((r21.2.1.1, (r21.2.1.2.1, (r21.2.1.2.2.1, (r21.2.1.2.2.2.1, (r1.1.1, (r21.2.1.2.2.2.2.2.1, (r21.2.1.2.2.2.2.2.2.1, (r21.2.1.2.2.2.2.2.2.2.1, (r21.2.1.2.2.2.2.2.2.2.2.1, (r21.2.1.2.2.2.2.2.2.2.2.2.1, (r21.2.1.2.2.2.2.2.2.2.2.2.2.1, (r21.2.1.2.2.2.2.2.2.2.2.2.2.2.1, (r21.2.1.2.2.2.2.2.2.2.2.2.2.2.2.1, ()))))))))))))), ()))
     else
      if (x.2.1.1 == (22 : Int)) then
      if 0 ≤ x.2.1.2.2.1 ∧ x.2.1.2.2.1 < ((x.1.2.2.2.1.length : Nat) : Int) then
       ((x.1.2.2.2.1)[(x.2.1.2.2.1).toNat]?).bind fun y22 =>
       (F_l ((x.1.2.2.2.1, (x.1.2.2.2.2.1, (x.1.2.2.2.2.2.1, (x.1.2.2.2.2.2.2.1, (x.1.2.2.2.2.2.2.2.1, (x.1.2.2.2.2.2.2.2.2.1, (x.1.2.2.2.2.2.2.2.2.2.1, (x.1.2.2.2.2.2.2.2.2.2.2.1, (x.1.2.2.2.2.2.2.2.2.2.2.2.1, ()))))))))), x.2.1.2.2.2.1, y22, ())).bind fun r23 =>
       some ((true, ()), ((x.1.1, (x.1.2.1, (x.1.2.2.1, (r23.2.1.1, (r1.1.1, (r23.2.1.2.2.1, (r23.2.1.2.2.2.1, (r23.2.1.2.2.2.2.1, (r23.2.1.2.2.2.2.2.1, (r23.2.1.2.2.2.2.2.2.1, (r23.2.1.2.2.2.2.2.2.2.1, (r23.2.1.2.2.2.2.2.2.2.2.1, (x.1.2.2.2.2.2.2.2.2.2.2.2.2.1, ()))))))))))))), ()))
      else none
      else
      if (x.2.1.1 == (23 : Int)) then
       (F_co (x.1, (5 : Int), (0 : Int), ())).bind fun r24 =>
       some ((false, ()), (r24.2.1, ()))
      else
       if (x.2.1.1 == (24 : Int)) then
       (F_df ((x.1.2.2.2.1, (x.1.2.2.2.2.1, (x.1.2.2.2.2.2.1, (x.1.2.2.2.2.2.2.1, (x.1.2.2.2.2.2.2.2.1, (x.1.2.2.2.2.2.2.2.2.1, (x.1.2.2.2.2.2.2.2.2.2.1, (x.1.2.2.2.2.2.2.2.2.2.2.1, (x.1.2.2.2.2.2.2.2.2.2.2.2.1, ()))))))))), ())).bind fun r25 =>
       some ((true, ()), ((x.1.1, (x.1.2.1, (x.1.2.2.1, (r25.2.1.1, (r25.2.1.2.1, (r25.2.1.2.2.1, (r25.2.1.2.2.2.1, (r25.2.1.2.2.2.2.1, (r25.2.1.2.2.2.2.2.1, (r25.2.1.2.2.2.2.2.2.1, (r25.2.1.2.2.2.2.2.2.2.1, (r25.2.1.2.2.2.2.2.2.2.2.1, (x.1.2.2.2.2.2.2.2.2.2.2.2.2.1, ()))))))))))))), ()))
       else
       if (x.2.1.1 == (25 : Int)) then
        some ((true, ()), ((x.1.1, (x.1.2.1, (x.1.2.2.1, (x.1.2.2.2.1, (r1.1.1, (x.1.2.2.2.2.2.1, (x.1.2.2.2.2.2.2.1, (true, (x.1.2.2.2.2.2.2.2.2.1, (x.1.2.2.2.2.2.2.2.2.2.1, (x.1.2.2.2.2.2.2.2.2.2.2.1, (x.1.2.2.2.2.2.2.2.2.2.2.2.1, (x.1.2.2.2.2.2.2.2.2.2.2.2.2.1, ()))))))))))))), ()))
       else
        if (x.2.1.1 == (26 : Int)) then
        some ((true, ()), ((x.1.1, (x.1.2.1, (x.1.2.2.1, (x.1.2.2.2.1, (x.1.2.2.2.2.1, (x.1.2.2.2.2.2.1, (true, (x.1.2.2.2.2.2.2.2.1, (x.1.2.2.2.2.2.2.2.2.1, (x.1.2.2.2.2.2.2.2.2.2.1, (x.1.2.2.2.2.2.2.2.2.2.2.1, (x.1.2.2.2.2.2.2.2.2.2.2.2.1, (x.1.2.2.2.2.2.2.2.2.2.2.2.2.1, ()))))))))))))), ()))
        else
        if 0 ≤ x.2.1.2.2.1 ∧ x.2.1.2.2.1 < ((x.1.2.2.2.1.length : Nat) : Int) then
         ((x.1.2.2.2.1)[(x.2.1.2.2.1).toNat]?).bind fun y26 =>
         if 0 ≤ x.2.1.2.2.2.1 ∧ x.2.1.2.2.2.1 < ((x.1.2.2.2.1.length : Nat) : Int) then
         ((x.1.2.2.2.1)[(x.2.1.2.2.2.1).toNat]?).bind fun y27 =>
         (F_dl (x.2.1.1, y26, y27, ())).bind fun r28 =>
         (F_cy (x.1, x.2.1.2.1, r28.1.1, ())).bind fun r29 =>
         some ((true, ()), ((r29.2.1.1, (r29.2.1.2.1, (r29.2.1.2.2.1, (r29.2.1.2.2.2.1, (r1.1.1, (r29.2.1.2.2.2.2.2.1, (r29.2.1.2.2.2.2.2.2.1, (r29.2.1.2.2.2.2.2.2.2.1, (r29.2.1.2.2.2.2.2.2.2.2.1, (r29.2.1.2.2.2.2.2.2.2.2.2.1, (r29.2.1.2.2.2.2.2.2.2.2.2.2.1, (r29.2.1.2.2.2.2.2.2.2.2.2.2.2.1, (r29.2.1.2.2.2.2.2.2.2.2.2.2.2.2.1, ()))))))))))))), ()))
         else none
        else none
abbrev C_dm : Con := ⟨P_dm, R_dm, F_dm, false⟩
abbrev G_dm : Env := [(147, C_co), (221, C_cw), (222, C_cx), (223, C_cy), (224, C_db), (225, C_dd), (226, C_de), (227, C_l), (228, C_df), (229, C_dl)]
theorem g_dm : EnvOk Tryz.prog G_dm := (env_cons s_co (env_cons s_cw (env_cons s_cx (env_cons s_cy (env_cons s_db (env_cons s_dd (env_cons s_de (env_cons s_l (env_cons s_df (env_cons s_dl env_nil))))))))))
theorem r_dm (x) : runFn T G_dm [] Tryz.f150 P_dm R_dm x = F_dm x := by kernel_rfl
theorem s_dm : CallsOk Tryz.prog 150 C_dm :=
 fn_calls (L := []) hT g_dm Tryz.f150 (by kernel_rfl) (by kernel_rfl) (by kernel_rfl) (plain_ok (by kernel_rfl)) r_dm
/-! spec.l1Min -/
abbrev P_dn : List PK := [.val YI, .val YI]
abbrev R_dn : List VK := [.s (.dat YI)]
def F_dn (x : denP P_dn) : Option (denV R_dn × denQ P_dn) :=
 if (ltI x.1 x.2.1) then
 some ((x.1, ()), ())
 else
 some ((x.2.1, ()), ())
abbrev C_dn : Con := ⟨P_dn, R_dn, F_dn, false⟩
abbrev G_dn : Env := []
theorem g_dn : EnvOk Tryz.prog G_dn := env_nil
theorem r_dn (x) : runFn T G_dn [] Tryz.f151 P_dn R_dn x = F_dn x := by kernel_rfl
theorem s_dn : CallsOk Tryz.prog 151 C_dn :=
 fn_calls (L := []) hT g_dn Tryz.f151 (by kernel_rfl) (by kernel_rfl) (by kernel_rfl) (plain_ok (by kernel_rfl)) r_dn
/-! spec.l10Step -/
abbrev P_do : List PK := [.box [.dat Y27, .own 2 YI, .dat YI, .own 2 YI, .dat YI, .own 2 YI, .dat .bool, .dat .bool, .dat .bool, .dat YI, .dat Y24, .own 2 YI, .dat YI] [.dat Y27, .own 2 YI, .dat YI, .own 2 YI, .dat YI, .own 2 YI, .dat .bool, .dat .bool, .dat .bool, .dat YI, .dat Y24, .own 2 YI, .dat YI]]
abbrev R_do : List VK := []
def F_do (x : denP P_do) : Option (denV R_do × denQ P_do) :=
 if x.1.2.2.2.2.2.2.1 then
 some ((), ((x.1.1, (x.1.2.1, ((-1 : Int), (x.1.2.2.2.1, (x.1.2.2.2.2.1, (x.1.2.2.2.2.2.1, (x.1.2.2.2.2.2.2.1, (x.1.2.2.2.2.2.2.2.1, (x.1.2.2.2.2.2.2.2.2.1, (x.1.2.2.2.2.2.2.2.2.2.1, (x.1.2.2.2.2.2.2.2.2.2.2.1, (x.1.2.2.2.2.2.2.2.2.2.2.2.1, ((-1 : Int), ()))))))))))))), ()))
 else
 (F_cm ((x.1.2.2.2.1, (x.1.2.2.2.2.1, (x.1.2.2.2.2.2.1, (x.1.2.2.2.2.2.2.1, (x.1.2.2.2.2.2.2.2.1, (x.1.2.2.2.2.2.2.2.2.1, (x.1.2.2.2.2.2.2.2.2.2.1, (x.1.2.2.2.2.2.2.2.2.2.2.1, (x.1.2.2.2.2.2.2.2.2.2.2.2.1, ()))))))))), ())).bind fun r1 =>
 if (leI (0 : Int) r1.1.1) then
  let v2 := (IntKind.i64.wrap ((16 : Int) + r1.1.1))
  (F_co ((x.1.1, (x.1.2.1, ((-1 : Int), (x.1.2.2.2.1, (x.1.2.2.2.2.1, (x.1.2.2.2.2.2.1, (x.1.2.2.2.2.2.2.1, (x.1.2.2.2.2.2.2.2.1, (x.1.2.2.2.2.2.2.2.2.1, (x.1.2.2.2.2.2.2.2.2.2.1, (x.1.2.2.2.2.2.2.2.2.2.2.1, (x.1.2.2.2.2.2.2.2.2.2.2.2.1, ((-1 : Int), ()))))))))))))), v2, (0 : Int), ())).bind fun r3 =>
  some ((), (r3.2.1, ()))
 else
  if x.1.2.2.2.2.2.2.2.1 then
  (F_cl ((x.1.2.2.2.1, (x.1.2.2.2.2.1, (x.1.2.2.2.2.2.1, (x.1.2.2.2.2.2.2.1, (x.1.2.2.2.2.2.2.2.1, (x.1.2.2.2.2.2.2.2.2.1, (x.1.2.2.2.2.2.2.2.2.2.1, (x.1.2.2.2.2.2.2.2.2.2.2.1, (x.1.2.2.2.2.2.2.2.2.2.2.2.1, ()))))))))), ())).bind fun r4 =>
  if 0 ≤ (7 : Int) ∧ (7 : Int) < ((x.1.2.2.2.2.2.1.length : Nat) : Int) then
   ((x.1.2.2.2.2.2.1)[((7 : Int)).toNat]?).bind fun y5 =>
   let v6 := (iand .i64 r4.1.1 y5)
   if (v6 == (0 : Int)) then
   some ((), ((x.1.1, (x.1.2.1, ((-1 : Int), (x.1.2.2.2.1, (x.1.2.2.2.2.1, (x.1.2.2.2.2.2.1, (x.1.2.2.2.2.2.2.1, (x.1.2.2.2.2.2.2.2.1, (x.1.2.2.2.2.2.2.2.2.1, (x.1.2.2.2.2.2.2.2.2.2.1, (x.1.2.2.2.2.2.2.2.2.2.2.1, (x.1.2.2.2.2.2.2.2.2.2.2.2.1, ((-1 : Int), ()))))))))))))), ()))
   else
   (F_cu ((x.1.1, (x.1.2.1, ((-1 : Int), ((x.1.2.2.2.1, (x.1.2.2.2.2.1, (x.1.2.2.2.2.2.1, (x.1.2.2.2.2.2.2.1, (false, (x.1.2.2.2.2.2.2.2.2.1, (x.1.2.2.2.2.2.2.2.2.2.1, (x.1.2.2.2.2.2.2.2.2.2.2.1, (x.1.2.2.2.2.2.2.2.2.2.2.2.1, ()))))))))), ((-1 : Int), ()))))), x.1.2.2.2.2.1, (4 : Int), ())).bind fun r7 =>
   if (r7.1.2.1 != (0 : Int)) then
    (F_co ((x.1.1, (x.1.2.1, ((-1 : Int), (x.1.2.2.2.1, (x.1.2.2.2.2.1, (x.1.2.2.2.2.2.1, (x.1.2.2.2.2.2.2.1, (false, (x.1.2.2.2.2.2.2.2.2.1, (x.1.2.2.2.2.2.2.2.2.2.1, (x.1.2.2.2.2.2.2.2.2.2.2.1, (x.1.2.2.2.2.2.2.2.2.2.2.2.1, ((-1 : Int), ()))))))))))))), (2 : Int), x.1.2.2.2.2.1, ())).bind fun r8 =>
    some ((), (r8.2.1, ()))
   else
    if 0 ≤ r7.1.1 ∧ r7.1.1 < ((x.1.2.1.length : Nat) : Int) then
    ((x.1.2.1)[(r7.1.1).toNat]?).bind fun y9 =>
    (F_cv (y9, ())).bind fun r10 =>
    if (!r10.1.2.1) then
     if 0 ≤ r7.1.1 ∧ r7.1.1 < ((x.1.2.1.length : Nat) : Int) then
     ((x.1.2.1)[(r7.1.1).toNat]?).bind fun y11 =>
     (F_co ((x.1.1, (x.1.2.1, ((-1 : Int), (x.1.2.2.2.1, (x.1.2.2.2.2.1, (x.1.2.2.2.2.2.1, (x.1.2.2.2.2.2.2.1, (false, (x.1.2.2.2.2.2.2.2.2.1, (x.1.2.2.2.2.2.2.2.2.2.1, (x.1.2.2.2.2.2.2.2.2.2.2.1, (x.1.2.2.2.2.2.2.2.2.2.2.2.1, ((-1 : Int), ()))))))))))))), (1 : Int), y11, ())).bind fun r12 =>
     some ((), (r12.2.1, ()))
     else none
    else
     (F_dm ((x.1.1, (x.1.2.1, ((-1 : Int), (x.1.2.2.2.1, (x.1.2.2.2.2.1, (x.1.2.2.2.2.2.1, (x.1.2.2.2.2.2.2.1, (false, (x.1.2.2.2.2.2.2.2.2.1, (x.1.2.2.2.2.2.2.2.2.2.1, (x.1.2.2.2.2.2.2.2.2.2.2.1, (x.1.2.2.2.2.2.2.2.2.2.2.2.1, ((-1 : Int), ()))))))))))))), r10.1.1, ())).bind fun r13 =>
     if r13.1.1 then
     let v14 := (IntKind.i64.wrap (r13.2.1.2.2.2.2.2.2.2.2.2.1 + (1 : Int)))
     (F_dn ((1000000000 : Int), v14, ())).bind fun r15 =>
     some ((), ((r13.2.1.1, (r13.2.1.2.1, (r13.2.1.2.2.1, (r13.2.1.2.2.2.1, (r13.2.1.2.2.2.2.1, (r13.2.1.2.2.2.2.2.1, (r13.2.1.2.2.2.2.2.2.1, (r13.2.1.2.2.2.2.2.2.2.1, (r13.2.1.2.2.2.2.2.2.2.2.1, (r15.1.1, (r13.2.1.2.2.2.2.2.2.2.2.2.2.1, (r13.2.1.2.2.2.2.2.2.2.2.2.2.2.1, (r13.2.1.2.2.2.2.2.2.2.2.2.2.2.2.1, ()))))))))))))), ()))
     else
     some ((), (r13.2.1, ()))
    else none
  else none
  else
  (F_cu ((x.1.1, (x.1.2.1, ((-1 : Int), ((x.1.2.2.2.1, (x.1.2.2.2.2.1, (x.1.2.2.2.2.2.1, (x.1.2.2.2.2.2.2.1, (x.1.2.2.2.2.2.2.2.1, (x.1.2.2.2.2.2.2.2.2.1, (x.1.2.2.2.2.2.2.2.2.2.1, (x.1.2.2.2.2.2.2.2.2.2.2.1, (x.1.2.2.2.2.2.2.2.2.2.2.2.1, ()))))))))), ((-1 : Int), ()))))), x.1.2.2.2.2.1, (4 : Int), ())).bind fun r16 =>
  if (r16.1.2.1 != (0 : Int)) then
   (F_co ((x.1.1, (x.1.2.1, ((-1 : Int), (x.1.2.2.2.1, (x.1.2.2.2.2.1, (x.1.2.2.2.2.2.1, (x.1.2.2.2.2.2.2.1, (x.1.2.2.2.2.2.2.2.1, (x.1.2.2.2.2.2.2.2.2.1, (x.1.2.2.2.2.2.2.2.2.2.1, (x.1.2.2.2.2.2.2.2.2.2.2.1, (x.1.2.2.2.2.2.2.2.2.2.2.2.1, ((-1 : Int), ()))))))))))))), (2 : Int), x.1.2.2.2.2.1, ())).bind fun r17 =>
   some ((), (r17.2.1, ()))
  else
   if 0 ≤ r16.1.1 ∧ r16.1.1 < ((x.1.2.1.length : Nat) : Int) then
   ((x.1.2.1)[(r16.1.1).toNat]?).bind fun y18 =>
   (F_cv (y18, ())).bind fun r19 =>
   if (!r19.1.2.1) then
    if 0 ≤ r16.1.1 ∧ r16.1.1 < ((x.1.2.1.length : Nat) : Int) then
    ((x.1.2.1)[(r16.1.1).toNat]?).bind fun y20 =>
    (F_co ((x.1.1, (x.1.2.1, ((-1 : Int), (x.1.2.2.2.1, (x.1.2.2.2.2.1, (x.1.2.2.2.2.2.1, (x.1.2.2.2.2.2.2.1, (x.1.2.2.2.2.2.2.2.1, (x.1.2.2.2.2.2.2.2.2.1, (x.1.2.2.2.2.2.2.2.2.2.1, (x.1.2.2.2.2.2.2.2.2.2.2.1, (x.1.2.2.2.2.2.2.2.2.2.2.2.1, ((-1 : Int), ()))))))))))))), (1 : Int), y20, ())).bind fun r21 =>
    some ((), (r21.2.1, ()))
    else none
   else
    (F_dm ((x.1.1, (x.1.2.1, ((-1 : Int), (x.1.2.2.2.1, (x.1.2.2.2.2.1, (x.1.2.2.2.2.2.1, (x.1.2.2.2.2.2.2.1, (x.1.2.2.2.2.2.2.2.1, (x.1.2.2.2.2.2.2.2.2.1, (x.1.2.2.2.2.2.2.2.2.2.1, (x.1.2.2.2.2.2.2.2.2.2.2.1, (x.1.2.2.2.2.2.2.2.2.2.2.2.1, ((-1 : Int), ()))))))))))))), r19.1.1, ())).bind fun r22 =>
    if r22.1.1 then
    let v23 := (IntKind.i64.wrap (r22.2.1.2.2.2.2.2.2.2.2.2.1 + (1 : Int)))
    (F_dn ((1000000000 : Int), v23, ())).bind fun r24 =>
    some ((), ((r22.2.1.1, (r22.2.1.2.1, (r22.2.1.2.2.1, (r22.2.1.2.2.2.1, (r22.2.1.2.2.2.2.1, (r22.2.1.2.2.2.2.2.1, (r22.2.1.2.2.2.2.2.2.1, (r22.2.1.2.2.2.2.2.2.2.1, (r22.2.1.2.2.2.2.2.2.2.2.1, (r24.1.1, (r22.2.1.2.2.2.2.2.2.2.2.2.2.1, (r22.2.1.2.2.2.2.2.2.2.2.2.2.2.1, (r22.2.1.2.2.2.2.2.2.2.2.2.2.2.2.1, ()))))))))))))), ()))
    else
    some ((), (r22.2.1, ()))
   else none
abbrev C_do : Con := ⟨P_do, R_do, F_do, false⟩
abbrev G_do : Env := [(65, C_cu), (146, C_cm), (147, C_co), (148, C_cl), (149, C_cv), (150, C_dm), (151, C_dn)]
theorem g_do : EnvOk Tryz.prog G_do := (env_cons s_cu (env_cons s_cm (env_cons s_co (env_cons s_cl (env_cons s_cv (env_cons s_dm (env_cons s_dn env_nil)))))))
theorem r_do (x) : runFn T G_do [] Tryz.f61 P_do R_do x = F_do x := by kernel_rfl
theorem s_do : CallsOk Tryz.prog 61 C_do :=
 fn_calls (L := []) hT g_do Tryz.f61 (by kernel_rfl) (by kernel_rfl) (by kernel_rfl) (plain_ok (by kernel_rfl)) r_do
/-! spec.StepHart -/
abbrev P_dp : List PK := [.val Y25, .val Y27, .val Y24]
abbrev R_dp : List VK := [.g [.dat YI, .dat YI, .dat YI, .own 2 YI, .dat YI, .own 2 YI, .dat .bool, .dat .bool, .dat .bool, .dat YI, .dat Y24, .own 2 YI, .own 2 YI]]
def F_dp (x : denP P_dp) : Option (denV R_dp × denQ P_dp) :=
 (F_ch (x.1, x.2.1, x.2.2.1, ())).bind fun r1 =>
 if (r1.1.1 != (0 : Int)) then
 some (((r1.1.1, ((0 : Int), ((0 : Int), (([] : List (den YI)), ((0 : Int), (([] : List (den YI)), (false, (false, (false, ((0 : Int), (([] : List (den YI)), (([] : List (den YI)), (([] : List (den YI)), ()))))))))))))), ()), ())
 else
 (F_ck (x.1, x.2.1, x.2.2.1, ())).bind fun r2 =>
 (F_do (r2.1.1, ())).bind fun r3 =>
 some ((((0 : Int), (r3.2.1.2.2.2.2.2.2.2.2.2.2.2.2.1, (r3.2.1.2.2.1, (r3.2.1.2.2.2.1, (r3.2.1.2.2.2.2.1, (r3.2.1.2.2.2.2.2.1, (r3.2.1.2.2.2.2.2.2.1, (r3.2.1.2.2.2.2.2.2.2.1, (r3.2.1.2.2.2.2.2.2.2.2.1, (r3.2.1.2.2.2.2.2.2.2.2.2.1, (r3.2.1.2.2.2.2.2.2.2.2.2.2.1, (r3.2.1.2.2.2.2.2.2.2.2.2.2.2.1, (r3.2.1.2.1, ()))))))))))))), ()), ())
abbrev C_dp : Con := ⟨P_dp, R_dp, F_dp, false⟩
abbrev G_dp : Env := [(58, C_ch), (60, C_ck), (61, C_do)]
theorem g_dp : EnvOk Tryz.prog G_dp := (env_cons s_ch (env_cons s_ck (env_cons s_do env_nil)))
theorem r_dp (x) : runFn T G_dp [] Tryz.f19 P_dp R_dp x = F_dp x := by kernel_rfl
theorem s_dp : CallsOk Tryz.prog 19 C_dp :=
 fn_calls (L := []) hT g_dp Tryz.f19 (by kernel_rfl) (by kernel_rfl) (by kernel_rfl) (plain_ok (by kernel_rfl)) r_dp
/-! laws.FnSteps -/
abbrev P_dq : List PK := [.val Y22]
abbrev R_dq : List VK := [.s (.dat .bool)]
abbrev i_dq_15 : Shp := { slots := [(3, .s (.ptr 3 0)), (4, .s (.dat Y27)), (5, .s (.dat Y24)), (6, .s (.ptr 6 0)), (7, .s (.dat YI)), (8, .s (.dat .bool)), (9, .s (.dat YI))], boxes := [(3, [.dat Y24, .dat YI, .own 2 YI, .dat .bool, .dat .bool, .dat .bool, .dat YI, .dat Y24, .own 2 YI]), (6, [.dat YI, .dat YI, .dat YI, .own 2 YI, .dat YI, .own 2 YI, .dat .bool, .dat .bool, .dat .bool, .dat YI, .own 2 YI, .own 2 YI, .own 2 YI])], rows := [] }
abbrev o_dq_15 : List (Ex × Shp) := [(.exit 2, { slots := [(3, .s (.ptr 3 0)), (4, .s (.dat Y27)), (5, .s (.dat Y24)), (6, .s (.ptr 6 0)), (7, .s (.dat YI)), (8, .s (.dat .bool))], boxes := [(3, [.dat Y24, .dat YI, .own 2 YI, .dat .bool, .dat .bool, .dat .bool, .dat YI, .dat Y24, .own 2 YI]), (6, [.dat YI, .dat YI, .dat YI, .own 2 YI, .dat YI, .own 2 YI, .dat .bool, .dat .bool, .dat .bool, .dat YI, .own 2 YI, .own 2 YI, .own 2 YI])], rows := [] })]
def l_dq_15 (rec : i_dq_15.den → Option (denO o_dq_15)) (u15 : i_dq_15.den) : Option (denO o_dq_15) :=
 let v23 := ((u15.1.2.1.length : Nat) : Int)
 if (ltI u15.1.2.2.2.2.2.2.1 v23) then
 if u15.1.2.2.2.2.2.1 = false then
  if 0 ≤ u15.1.2.2.2.2.2.2.1 then
  ((u15.1.2.1)[(u15.1.2.2.2.2.2.2.1).toNat]?).bind fun y24 =>
  let v25 := (IntKind.i64.wrap ((u15.1.2.2.2.2.1).tdiv (8 : Int)))
  if (y24.1 == v25) = true then
   if 0 ≤ u15.1.2.2.2.2.2.2.1 then
   ((u15.1.2.1)[(u15.1.2.2.2.2.2.2.1).toNat]?).bind fun y26 =>
   let v27 := (iand .i64 y26.2.1 (2 : Int))
   let v28 := (IntKind.i64.wrap (u15.1.2.2.2.2.2.2.1 + (1 : Int)))
   rec (((), (u15.1.2.1, (u15.1.2.2.1, ((), (u15.1.2.2.2.2.1, ((v27 != (0 : Int)), (v28, ()))))))), ((u15.2.1.1, (u15.2.1.2.1, ())), ()))
   else none
  else
   let v29 := (IntKind.i64.wrap (u15.1.2.2.2.2.2.2.1 + (1 : Int)))
   rec (((), (u15.1.2.1, (u15.1.2.2.1, ((), (u15.1.2.2.2.2.1, (false, (v29, ()))))))), ((u15.2.1.1, (u15.2.1.2.1, ())), ()))
  else none
 else
  let v30 := (IntKind.i64.wrap (u15.1.2.2.2.2.2.2.1 + (1 : Int)))
  rec (((), (u15.1.2.1, (u15.1.2.2.1, ((), (u15.1.2.2.2.2.1, (true, (v30, ()))))))), ((u15.2.1.1, (u15.2.1.2.1, ())), ()))
 else
 some (.inl (((), (u15.1.2.1, (u15.1.2.2.1, ((), (u15.1.2.2.2.2.1, (u15.1.2.2.2.2.2.1, ())))))), ((u15.2.1.1, (u15.2.1.2.1, ())), ())))
def L_dq_15 (x : i_dq_15.den) : Option (denO o_dq_15) := iterF l_dq_15 lots x
abbrev i_dq_10 : Shp := { slots := [(3, .s (.ptr 3 0)), (4, .s (.dat Y27)), (5, .s (.dat Y24)), (6, .s (.ptr 6 0)), (7, .s (.dat YI))], boxes := [(3, [.dat Y24, .dat YI, .own 2 YI, .dat .bool, .dat .bool, .dat .bool, .dat YI, .dat Y24, .own 2 YI]), (6, [.dat YI, .dat YI, .dat YI, .own 2 YI, .dat YI, .own 2 YI, .dat .bool, .dat .bool, .dat .bool, .dat YI, .own 2 YI, .own 2 YI, .own 2 YI])], rows := [] }
abbrev o_dq_10 : List (Ex × Shp) := [(.exit 0, { slots := [(3, .s (.ptr 3 0)), (4, .s (.dat Y27)), (5, .s (.dat Y24)), (6, .s (.ptr 6 0))], boxes := [(3, [.dat Y24, .dat YI, .own 2 YI, .dat .bool, .dat .bool, .dat .bool, .dat YI, .dat Y24, .own 2 YI]), (6, [.dat YI, .dat YI, .dat YI, .own 2 YI, .dat YI, .own 2 YI, .dat .bool, .dat .bool, .dat .bool, .dat YI, .own 2 YI, .own 2 YI, .own 2 YI])], rows := [] }), (.ret, { slots := [(2, .s (.dat .bool))], boxes := [], rows := [] })]
def l_dq_10 (rec : i_dq_10.den → Option (denO o_dq_10)) (u10 : i_dq_10.den) : Option (denO o_dq_10) :=
 let v17 := ((u10.1.2.2.1.length : Nat) : Int)
 if (ltI u10.1.2.2.2.2.1 v17) then
 if 0 ≤ u10.1.2.2.2.2.1 ∧ u10.1.2.2.2.2.1 < ((u10.2.1.2.1.2.2.2.2.2.2.2.2.2.2.2.2.1.length : Nat) : Int) then
  ((u10.2.1.2.1.2.2.2.2.2.2.2.2.2.2.2.2.1)[(u10.1.2.2.2.2.1).toNat]?).bind fun y18 =>
  if 0 ≤ u10.1.2.2.2.2.1 then
  ((u10.1.2.2.1)[(u10.1.2.2.2.2.1).toNat]?).bind fun y19 =>
  if (y18 == y19) then
   let v20 := (IntKind.i64.wrap (u10.1.2.2.2.2.1 + (1 : Int)))
   rec (((), (u10.1.2.1, (u10.1.2.2.1, ((), (v20, ()))))), ((u10.2.1.1, (u10.2.1.2.1, ())), ()))
  else
   (L_dq_15 (((), (u10.1.2.1, (u10.1.2.2.1, ((), (u10.1.2.2.2.2.1, (false, ((0 : Int), ()))))))), ((u10.2.1.1, (u10.2.1.2.1, ())), ()))).bind fun z31 =>
   match z31 with
   | .inl x32 =>
   if (!x32.1.2.2.2.2.2.1) then
    some (.inr (.inl ((false, ()), ((), ()))))
   else
    let v33 := (IntKind.i64.wrap (x32.1.2.2.2.2.1 + (1 : Int)))
    rec (((), (x32.1.2.1, (x32.1.2.2.1, ((), (v33, ()))))), ((x32.2.1.1, (x32.2.1.2.1, ())), ()))
   | .inr z31_ =>
   none
  else none
 else none
 else
 some (.inl (((), (u10.1.2.1, (u10.1.2.2.1, ((), ())))), ((u10.2.1.1, (u10.2.1.2.1, ())), ())))
def L_dq_10 (x : i_dq_10.den) : Option (denO o_dq_10) := iterF l_dq_10 lots x
def F_dq (x : denP P_dq) : Option (denV R_dq × denQ P_dq) :=
 (F_a (x.1, ())).bind fun r1 =>
 if r1.1.1 then
 some ((true, ()), ())
 else
 (F_aa (x.1, ())).bind fun r2 =>
 (F_cd (r2.1.1, r2.1.2.1, r2.1.2.2.1, ())).bind fun r3 =>
 if (r3.1.1.1 != (0 : Int)) then
  (F_dp (r2.1.1, r2.1.2.1, r2.1.2.2.1, ())).bind fun r4 =>
  some (((r4.1.1.1 == r3.1.1.1), ()), ())
 else
  (F_ah ((r3.1.1.2.2.2.1, (r3.1.1.2.2.2.2.1, (r3.1.1.2.2.2.2.2.1, (r3.1.1.2.2.2.2.2.2.1, (r3.1.1.2.2.2.2.2.2.2.1, (r3.1.1.2.2.2.2.2.2.2.2.1, (r3.1.1.2.2.2.2.2.2.2.2.2.1, (r3.1.1.2.2.2.2.2.2.2.2.2.2.1, (r3.1.1.2.2.2.2.2.2.2.2.2.2.2.1, ()))))))))), ())).bind fun r5 =>
  if (r5.1.1 != (0 : Int)) = false then
  (F_ak (r3.1.1.2.2.2.2.2.2.2.2.2.2.2.2.1, ())).bind fun r6 =>
  if (r6.1.1 != (0 : Int)) = false then
   let v7 := ((r3.1.1.2.2.2.2.2.2.2.2.2.2.2.2.1.length : Nat) : Int)
   let v8 := ((r2.1.2.2.1.length : Nat) : Int)
   if (v7 != v8) = false then
   if 0 ≤ (0 : Int) ∧ (0 : Int) < ((r3.1.1.2.2.2.1.length : Nat) : Int) then
    ((r3.1.1.2.2.2.1)[((0 : Int)).toNat]?).bind fun y9 =>
    if (y9 != (0 : Int)) = false then
    if (ltI r3.1.1.2.2.2.2.2.2.2.2.2.1 r2.1.1.2.2.2.2.2.2.1) = false then
     let v10 := (IntKind.i64.wrap (r2.1.1.2.2.2.2.2.2.1 + (1 : Int)))
     if (ltI v10 r3.1.1.2.2.2.2.2.2.2.2.2.1) = false then
     if (leI (0 : Int) r3.1.1.2.1) = true then
      if (r3.1.1.2.2.2.2.2.2.2.2.2.1 != r2.1.1.2.2.2.2.2.2.1) = false then
      if r2.1.1.2.2.2.1 = true then
       if (r3.1.1.2.2.2.2.1 != r2.1.1.2.1) then
       some ((false, ()), ())
       else
       (L_dq_10 (((), (r2.1.2.1, (r2.1.2.2.1, ((), ((0 : Int), ()))))), ((r2.1.1, (r3.1.1, ())), ()))).bind fun z34 =>
       match z34 with
       | .inl x35 =>
        (F_dp (x35.2.1.1, x35.1.2.1, x35.1.2.2.1, ())).bind fun r36 =>
        some (((x35.2.1.2.1.2.2.2.2.1 == r36.1.1.2.2.2.2.1), ()), ())
       | .inr z34_ =>
        match z34_ with
        | .inl x37 =>
        some ((x37.1.1, ()), ())
        | .inr z34__ =>
        none
      else
       (L_dq_10 (((), (r2.1.2.1, (r2.1.2.2.1, ((), ((0 : Int), ()))))), ((r2.1.1, (r3.1.1, ())), ()))).bind fun z38 =>
       match z38 with
       | .inl x39 =>
       (F_dp (x39.2.1.1, x39.1.2.1, x39.1.2.2.1, ())).bind fun r40 =>
       some (((x39.2.1.2.1.2.2.2.2.1 == r40.1.1.2.2.2.2.1), ()), ())
       | .inr z38_ =>
       match z38_ with
       | .inl x41 =>
        some ((x41.1.1, ()), ())
       | .inr z38__ =>
        none
      else
      some ((false, ()), ())
     else
      if r2.1.1.2.2.2.1 = true then
      if (r3.1.1.2.2.2.2.1 != r2.1.1.2.1) then
       some ((false, ()), ())
      else
       (L_dq_10 (((), (r2.1.2.1, (r2.1.2.2.1, ((), ((0 : Int), ()))))), ((r2.1.1, (r3.1.1, ())), ()))).bind fun z42 =>
       match z42 with
       | .inl x43 =>
       (F_dp (x43.2.1.1, x43.1.2.1, x43.1.2.2.1, ())).bind fun r44 =>
       some (((x43.2.1.2.1.2.2.2.2.1 == r44.1.1.2.2.2.2.1), ()), ())
       | .inr z42_ =>
       match z42_ with
       | .inl x45 =>
        some ((x45.1.1, ()), ())
       | .inr z42__ =>
        none
      else
      (L_dq_10 (((), (r2.1.2.1, (r2.1.2.2.1, ((), ((0 : Int), ()))))), ((r2.1.1, (r3.1.1, ())), ()))).bind fun z46 =>
      match z46 with
      | .inl x47 =>
       (F_dp (x47.2.1.1, x47.1.2.1, x47.1.2.2.1, ())).bind fun r48 =>
       some (((x47.2.1.2.1.2.2.2.2.1 == r48.1.1.2.2.2.2.1), ()), ())
      | .inr z46_ =>
       match z46_ with
       | .inl x49 =>
       some ((x49.1.1, ()), ())
       | .inr z46__ =>
       none
     else
     some ((false, ()), ())
    else
     some ((false, ()), ())
    else
    some ((false, ()), ())
   else none
   else
   some ((false, ()), ())
  else
   some ((false, ()), ())
  else
  some ((false, ()), ())
abbrev C_dq : Con := ⟨P_dq, R_dq, F_dq, false⟩
abbrev G_dq : Env := [(11, C_a), (16, C_cd), (18, C_aa), (19, C_dp), (20, C_ah), (21, C_ak)]
theorem g_dq : EnvOk Tryz.prog G_dq := (env_cons s_a (env_cons s_cd (env_cons s_aa (env_cons s_dp (env_cons s_ah (env_cons s_ak env_nil))))))
abbrev c_dq_15 : Cut := ⟨i_dq_15, o_dq_15, fun x => iterF l_dq_15 lots x⟩
theorem t_dq_15 (rec x) : run T G_dq [] (nav Tryz.f4 [1, 1, 1, 1, 1, 1, 0, 1, 0, 0, 1, 0, 0, 1, 1, 0, 1, 0, 0]) (mk 155 i_dq_15 x) (loopK i_dq_15 o_dq_15 rec) = l_dq_15 rec x := by kernel_rfl
theorem k_dq_15 : CutOk Tryz.prog 155 (.loop (nav Tryz.f4 [1, 1, 1, 1, 1, 1, 0, 1, 0, 0, 1, 0, 0, 1, 1, 0, 1, 0, 0])) c_dq_15 :=
 loop_cut (L := []) hT g_dq t_dq_15 (plain_ok (by kernel_rfl)) _
abbrev c_dq_10 : Cut := ⟨i_dq_10, o_dq_10, fun x => iterF l_dq_10 lots x⟩
theorem t_dq_10 (rec x) : run T G_dq [(15, c_dq_15)] (nav Tryz.f4 [1, 1, 1, 1, 1, 1, 0, 1, 0, 0]) (mk 155 i_dq_10 x) (loopK i_dq_10 o_dq_10 rec) = l_dq_10 rec x := by kernel_rfl
theorem k_dq_10 : CutOk Tryz.prog 155 (.loop (nav Tryz.f4 [1, 1, 1, 1, 1, 1, 0, 1, 0, 0])) c_dq_10 :=
 loop_cut (L := [(15, c_dq_15)]) hT g_dq t_dq_10 (seq_ok (plain_ok (by kernel_rfl)) (seq_ok (block_ok (by kernel_rfl) (seq_ok (plain_ok (by kernel_rfl)) (seq_ok (plain_ok (by kernel_rfl)) (seq_ok (seq_ok (plain_ok (by kernel_rfl)) (block_ok (by kernel_rfl) (loop_ok (by kernel_rfl) k_dq_15))) (plain_ok (by kernel_rfl)))))) (plain_ok (by kernel_rfl)))) _
theorem r_dq (x) : runFn T G_dq [(15, c_dq_15), (10, c_dq_10)] Tryz.f4 P_dq R_dq x = F_dq x := by kernel_rfl
theorem s_dq : CallsOk Tryz.prog 4 C_dq :=
 fn_calls (L := [(15, c_dq_15), (10, c_dq_10)]) hT g_dq Tryz.f4 (by kernel_rfl) (by kernel_rfl) (by kernel_rfl) (seq_ok (plain_ok (by kernel_rfl)) (seq_ok (plain_ok (by kernel_rfl)) (seq_ok (plain_ok (by kernel_rfl)) (seq_ok (plain_ok (by kernel_rfl)) (seq_ok (plain_ok (by kernel_rfl)) (seq_ok (plain_ok (by kernel_rfl)) (seq_ok (seq_ok (plain_ok (by kernel_rfl)) (block_ok (by kernel_rfl) (loop_ok (by kernel_rfl) k_dq_10))) (plain_ok (by kernel_rfl))))))))) r_dq
theorem q_dq : Sound Tryz.prog 4 C_dq :=
 fn_snd (L := [(15, c_dq_15), (10, c_dq_10)]) hT g_dq Tryz.f4 (by kernel_rfl) (by kernel_rfl) (seq_ok (plain_ok (by kernel_rfl)) (seq_ok (plain_ok (by kernel_rfl)) (seq_ok (plain_ok (by kernel_rfl)) (seq_ok (plain_ok (by kernel_rfl)) (seq_ok (plain_ok (by kernel_rfl)) (seq_ok (plain_ok (by kernel_rfl)) (seq_ok (seq_ok (plain_ok (by kernel_rfl)) (block_ok (by kernel_rfl) (loop_ok (by kernel_rfl) k_dq_10))) (plain_ok (by kernel_rfl))))))))) r_dq
end Go.Proofs.YtajnommlfjfgpaaGreatDoor
