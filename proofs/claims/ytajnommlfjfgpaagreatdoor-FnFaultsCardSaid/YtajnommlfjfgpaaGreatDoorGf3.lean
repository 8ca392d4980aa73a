/- The functions of the laws, each as a plain function of data (F), and that the program's text does what F says. Printed by a program (wip/tools/gen.py). -/
import Derived.Test.YtajnommlfjfgpaaGreatDoorGf2
namespace Go.Proofs.YtajnommlfjfgpaaGreatDoor
open Go Go.RowKit S Go.Proofs
set_option maxRecDepth 100000
set_option linter.unusedVariables false
/-! spec.DivWords -/
abbrev P_dh : List PK := [.val YI, .val YI]
abbrev R_dh : List VK := [.s (.dat YI)]
def F_dh (x : denP P_dh) : Option (denV R_dh × denQ P_dh) :=
 (F_k (x.2.1, ())).bind fun r1 =>
 if (r1.1.1 == (0 : Int)) then
 some (((4294967295 : Int), ()), ())
 else
 (F_dc (x.1, ())).bind fun r2 =>
 (F_dc (x.2.1, ())).bind fun r3 =>
 if r3.1.1 = 0 then none else
 let v4 := (IntKind.i64.wrap ((r2.1.1).tdiv r3.1.1))
 (F_k (v4, ())).bind fun r5 =>
 some ((r5.1.1, ()), ())
abbrev C_dh : Con := ⟨P_dh, R_dh, F_dh, false⟩
abbrev G_dh : Env := [(273, C_dc), (274, C_k)]
theorem g_dh : EnvOk Tryz.prog G_dh := (env_cons s_dc (env_cons s_k env_nil))
theorem r_dh (x) : runFn T G_dh [] Tryz.f276 P_dh R_dh x = F_dh x := by kernel_rfl
theorem s_dh : CallsOk Tryz.prog 276 C_dh :=
 fn_calls (L := []) hT g_dh Tryz.f276 (by kernel_rfl) (by kernel_rfl) (by kernel_rfl) (plain_ok (by kernel_rfl)) r_dh
/-! spec.RemWords -/
abbrev P_di : List PK := [.val YI, .val YI]
abbrev R_di : List VK := [.s (.dat YI)]
def F_di (x : denP P_di) : Option (denV R_di × denQ P_di) :=
 (F_k (x.2.1, ())).bind fun r1 =>
 if (r1.1.1 == (0 : Int)) then
 (F_k (x.1, ())).bind fun r2 =>
 some ((r2.1.1, ()), ())
 else
 (F_dc (x.1, ())).bind fun r3 =>
 (F_dc (x.2.1, ())).bind fun r4 =>
 if r4.1.1 = 0 then none else
 let v5 := ((r3.1.1).tmod r4.1.1)
 (F_k (v5, ())).bind fun r6 =>
 some ((r6.1.1, ()), ())
abbrev C_di : Con := ⟨P_di, R_di, F_di, false⟩
abbrev G_di : Env := [(273, C_dc), (274, C_k)]
theorem g_di : EnvOk Tryz.prog G_di := (env_cons s_dc (env_cons s_k env_nil))
theorem r_di (x) : runFn T G_di [] Tryz.f277 P_di R_di x = F_di x := by kernel_rfl
theorem s_di : CallsOk Tryz.prog 277 C_di :=
 fn_calls (L := []) hT g_di Tryz.f277 (by kernel_rfl) (by kernel_rfl) (by kernel_rfl) (plain_ok (by kernel_rfl)) r_di
/-! spec.BitWords -/
abbrev P_dj : List PK := [.val YI, .val YI, .val YI]
abbrev R_dj : List VK := [.s (.dat Y40)]
def F_dj (x : denP P_dj) : Option (denV R_dj × denQ P_dj) :=
 if (x.1 == (1 : Int)) then
 let v1 := (IntKind.u32.wrap x.2.1)
 let v2 := (IntKind.u32.wrap x.2.2.1)
 let v3 := (iand .u32 v1 v2)
 let v4 := (IntKind.i64.wrap v3)
 some ((((0 : Int), (v4, ())), ()), ())
 else
 if (x.1 == (2 : Int)) then
  let v5 := (IntKind.u32.wrap x.2.1)
  let v6 := (IntKind.u32.wrap x.2.2.1)
  let v7 := (ior .u32 v5 v6)
  let v8 := (IntKind.i64.wrap v7)
  some ((((0 : Int), (v8, ())), ()), ())
 else
  if (x.1 == (3 : Int)) then
  let v9 := (IntKind.u32.wrap x.2.1)
  let v10 := (IntKind.u32.wrap x.2.2.1)
  let v11 := (ixor .u32 v9 v10)
  let v12 := (IntKind.i64.wrap v11)
  some ((((0 : Int), (v12, ())), ()), ())
  else
  some ((((3 : Int), ((0 : Int), ())), ()), ())
abbrev C_dj : Con := ⟨P_dj, R_dj, F_dj, false⟩
abbrev G_dj : Env := []
theorem g_dj : EnvOk Tryz.prog G_dj := env_nil
theorem r_dj (x) : runFn T G_dj [] Tryz.f278 P_dj R_dj x = F_dj x := by kernel_rfl
theorem s_dj : CallsOk Tryz.prog 278 C_dj :=
 fn_calls (L := []) hT g_dj Tryz.f278 (by kernel_rfl) (by kernel_rfl) (by kernel_rfl) (plain_ok (by kernel_rfl)) r_dj
/-! spec.ShiftWord -/
abbrev P_dk : List PK := [.val YI, .val YI, .val .bool]
abbrev R_dk : List VK := [.s (.dat YI)]
def F_dk (x : denP P_dk) : Option (denV R_dk × denQ P_dk) :=
 let v1 := (IntKind.u32.wrap x.2.1)
 let v2 := ((v1).tmod (32 : Int))
 let v3 := (IntKind.u64.wrap v2)
 if x.2.2.1 then
 let v4 := (IntKind.u32.wrap x.1)
 if v3 < 0 then none else
 let v5 := (IntKind.u32.wrap (v4 * 2 ^ (min (v3).toNat 32)))
 let v6 := (IntKind.i64.wrap v5)
 some ((v6, ()), ())
 else
 let v7 := (IntKind.u32.wrap x.1)
 if v3 < 0 then none else
 let v8 := ((v7).fdiv (2 ^ (min (v3).toNat 32)))
 let v9 := (IntKind.i64.wrap v8)
 some ((v9, ()), ())
abbrev C_dk : Con := ⟨P_dk, R_dk, F_dk, false⟩
abbrev G_dk : Env := []
theorem g_dk : EnvOk Tryz.prog G_dk := env_nil
theorem r_dk (x) : runFn T G_dk [] Tryz.f279 P_dk R_dk x = F_dk x := by kernel_rfl
theorem s_dk : CallsOk Tryz.prog 279 C_dk :=
 fn_calls (L := []) hT g_dk Tryz.f279 (by kernel_rfl) (by kernel_rfl) (by kernel_rfl) (plain_ok (by kernel_rfl)) r_dk
/-! spec.l2Alu -/
abbrev P_dl : List PK := [.val YI, .val YI, .val YI]
abbrev R_dl : List VK := [.s (.dat YI)]
def F_dl (x : denP P_dl) : Option (denV R_dl × denQ P_dl) :=
 if (x.1 == (1 : Int)) then
 (F_cw (x.2.1, x.2.2.1, ())).bind fun r1 =>
 some ((r1.1.1, ()), ())
 else
 if (x.1 == (2 : Int)) then
  let v2 := (IntKind.u32.wrap x.2.1)
  let v3 := (IntKind.u32.wrap x.2.2.1)
  let v4 := (IntKind.u32.wrap (v2 - v3))
  let v5 := (IntKind.i64.wrap v4)
  some ((v5, ()), ())
 else
  if (x.1 == (3 : Int)) then
  (F_dg (x.2.1, x.2.2.1, ())).bind fun r6 =>
  some ((r6.1.1, ()), ())
  else
  if (x.1 == (4 : Int)) then
   (F_dh (x.2.1, x.2.2.1, ())).bind fun r7 =>
   some ((r7.1.1, ()), ())
  else
   if (x.1 == (5 : Int)) then
   (F_di (x.2.1, x.2.2.1, ())).bind fun r8 =>
   some ((r8.1.1, ()), ())
   else
   if (x.1 == (6 : Int)) then
    let v9 := (IntKind.i64.wrap (x.1 - (6 : Int)))
    let v10 := (IntKind.i64.wrap (v9 + (1 : Int)))
    (F_dj (v10, x.2.1, x.2.2.1, ())).bind fun r11 =>
    some ((r11.1.1.2.1, ()), ())
   else
    if (x.1 == (7 : Int)) then
    let v12 := (IntKind.i64.wrap (x.1 - (6 : Int)))
    let v13 := (IntKind.i64.wrap (v12 + (1 : Int)))
    (F_dj (v13, x.2.1, x.2.2.1, ())).bind fun r14 =>
    some ((r14.1.1.2.1, ()), ())
    else
    if (x.1 == (8 : Int)) then
     let v15 := (IntKind.i64.wrap (x.1 - (6 : Int)))
     let v16 := (IntKind.i64.wrap (v15 + (1 : Int)))
     (F_dj (v16, x.2.1, x.2.2.1, ())).bind fun r17 =>
     some ((r17.1.1.2.1, ()), ())
    else
     if (x.1 == (9 : Int)) then
     (F_dk (x.2.1, x.2.2.1, true, ())).bind fun r18 =>
     some ((r18.1.1, ()), ())
     else
     if (x.1 == (10 : Int)) then
      (F_dk (x.2.1, x.2.2.1, false, ())).bind fun r19 =>
      some ((r19.1.1, ()), ())
     else
      (F_dc (x.2.1, ())).bind fun r20 =>
      (F_dc (x.2.2.1, ())).bind fun r21 =>
      if (ltI r20.1.1 r21.1.1) then
      some (((1 : Int), ()), ())
      else
      some (((0 : Int), ()), ())
abbrev C_dl : Con := ⟨P_dl, R_dl, F_dl, false⟩
abbrev G_dl : Env := [(221, C_cw), (273, C_dc), (275, C_dg), (276, C_dh), (277, C_di), (278, C_dj), (279, C_dk)]
theorem g_dl : EnvOk Tryz.prog G_dl := (env_cons s_cw (env_cons s_dc (env_cons s_dg (env_cons s_dh (env_cons s_di (env_cons s_dj (env_cons s_dk env_nil)))))))
theorem r_dl (x) : runFn T G_dl [] Tryz.f229 P_dl R_dl x = F_dl x := by kernel_rfl
theorem s_dl : CallsOk Tryz.prog 229 C_dl :=
 fn_calls (L := []) hT g_dl Tryz.f229 (by kernel_rfl) (by kernel_rfl) (by kernel_rfl) (plain_ok (by kernel_rfl)) r_dl
/-! spec.l10Do -/
abbrev P_dm : List PK := [.box [.dat Y27, .own 2 YI, .dat YI, .own 2 YI, .dat YI, .own 2 YI, .dat .bool, .dat .bool, .dat .bool, .dat YI, .dat Y24, .own 2 YI, .dat YI] [.dat Y27, .own 2 YI, .dat YI, .own 2 YI, .dat YI, .own 2 YI, .dat .bool, .dat .bool, .dat .bool, .dat YI, .dat Y24, .own 2 YI, .dat YI], .val Y42]
abbrev R_dm : List VK := [.s (.dat .bool)]
def F_dm (x : denP P_dm) : Option (denV R_dm × denQ P_dm) :=
 (F_cw (x.1.2.2.2.2.1, (1 : Int), ())).bind fun r1 =>
 (F_cx (x.2.1.2.2.2.1, ())).bind fun r2 =>
 (F_cw (x.1.2.2.2.2.1, r2.1.1, ())).bind fun r3 =>
 if (x.2.1.1 == (12 : Int)) then
 if 0 ≤ x.2.1.2.2.1 ∧ x.2.1.2.2.1 < ((x.1.2.2.2.1.length : Nat) : Int) then
  ((x.1.2.2.2.1)[(x.2.1.2.2.1).toNat]?).bind fun y4 =>
  (F_cx (x.2.1.2.2.2.1, ())).bind fun r5 =>
  (F_cw (y4, r5.1.1, ())).bind fun r6 =>
  (F_cy (x.1, x.2.1.2.1, r6.1.1, ())).bind fun r7 =>
  some ((true, ()), ((r7.2.1.1, (r7.2.1.2.1, (r7.2.1.2.2.1, (r7.2.1.2.2.2.1, (r1.1.1, (r7.2.1.2.2.2.2.2.1, (r7.2.1.2.2.2.2.2.2.1, (r7.2.1.2.2.2.2.2.2.2.1, (r7.2.1.2.2.2.2.2.2.2.2.1, (r7.2.1.2.2.2.2.2.2.2.2.2.1, (r7.2.1.2.2.2.2.2.2.2.2.2.2.1, (r7.2.1.2.2.2.2.2.2.2.2.2.2.2.1, (r7.2.1.2.2.2.2.2.2.2.2.2.2.2.2.1, ()))))))))))))), ()))
 else none
 else
 if (x.2.1.1 == (13 : Int)) then
  let v8 := (IntKind.i64.wrap (x.2.1.2.2.2.1 * (65536 : Int)))
  (F_cy (x.1, x.2.1.2.1, v8, ())).bind fun r9 =>
  some ((true, ()), ((r9.2.1.1, (r9.2.1.2.1, (r9.2.1.2.2.1, (r9.2.1.2.2.2.1, (r1.1.1, (r9.2.1.2.2.2.2.2.1, (r9.2.1.2.2.2.2.2.2.1, (r9.2.1.2.2.2.2.2.2.2.1, (r9.2.1.2.2.2.2.2.2.2.2.1, (r9.2.1.2.2.2.2.2.2.2.2.2.1, (r9.2.1.2.2.2.2.2.2.2.2.2.2.1, (r9.2.1.2.2.2.2.2.2.2.2.2.2.2.1, (r9.2.1.2.2.2.2.2.2.2.2.2.2.2.2.1, ()))))))))))))), ()))
 else
  if (x.2.1.1 == (14 : Int)) then
  (F_db (x.1, x.2.1, ())).bind fun r10 =>
  if (!r10.1.1) then
   some ((false, ()), (r10.2.1, ()))
  else
   some ((true, ()), ((r10.2.1.1, (r10.2.1.2.1, (r10.2.1.2.2.1, (r10.2.1.2.2.2.1, (r1.1.1, (r10.2.1.2.2.2.2.2.1, (r10.2.1.2.2.2.2.2.2.1, (r10.2.1.2.2.2.2.2.2.2.1, (r10.2.1.2.2.2.2.2.2.2.2.1, (r10.2.1.2.2.2.2.2.2.2.2.2.1, (r10.2.1.2.2.2.2.2.2.2.2.2.2.1, (r10.2.1.2.2.2.2.2.2.2.2.2.2.2.1, (r10.2.1.2.2.2.2.2.2.2.2.2.2.2.2.1, ()))))))))))))), ()))
  else
  if (x.2.1.1 == (15 : Int)) then
   (F_db (x.1, x.2.1, ())).bind fun r11 =>
   if (!r11.1.1) then
   some ((false, ()), (r11.2.1, ()))
   else
   some ((true, ()), ((r11.2.1.1, (r11.2.1.2.1, (r11.2.1.2.2.1, (r11.2.1.2.2.2.1, (r1.1.1, (r11.2.1.2.2.2.2.2.1, (r11.2.1.2.2.2.2.2.2.1, (r11.2.1.2.2.2.2.2.2.2.1, (r11.2.1.2.2.2.2.2.2.2.2.1, (r11.2.1.2.2.2.2.2.2.2.2.2.1, (r11.2.1.2.2.2.2.2.2.2.2.2.2.1, (r11.2.1.2.2.2.2.2.2.2.2.2.2.2.1, (r11.2.1.2.2.2.2.2.2.2.2.2.2.2.2.1, ()))))))))))))), ()))
  else
   if (x.2.1.1 == (16 : Int)) then
   (F_dd ((x.1.2.2.2.1, (x.1.2.2.2.2.1, (x.1.2.2.2.2.2.1, (x.1.2.2.2.2.2.2.1, (x.1.2.2.2.2.2.2.2.1, (x.1.2.2.2.2.2.2.2.2.1, (x.1.2.2.2.2.2.2.2.2.2.1, (x.1.2.2.2.2.2.2.2.2.2.2.1, (x.1.2.2.2.2.2.2.2.2.2.2.2.1, ()))))))))), x.2.1, ())).bind fun r12 =>
   if r12.1.1 then
    some ((true, ()), ((x.1.1, (x.1.2.1, (x.1.2.2.1, (x.1.2.2.2.1, (r3.1.1, (x.1.2.2.2.2.2.1, (x.1.2.2.2.2.2.2.1, (x.1.2.2.2.2.2.2.2.1, (x.1.2.2.2.2.2.2.2.2.1, (x.1.2.2.2.2.2.2.2.2.2.1, (x.1.2.2.2.2.2.2.2.2.2.2.1, (x.1.2.2.2.2.2.2.2.2.2.2.2.1, (x.1.2.2.2.2.2.2.2.2.2.2.2.2.1, ()))))))))))))), ()))
   else
    some ((true, ()), ((x.1.1, (x.1.2.1, (x.1.2.2.1, (x.1.2.2.2.1, (r1.1.1, (x.1.2.2.2.2.2.1, (x.1.2.2.2.2.2.2.1, (x.1.2.2.2.2.2.2.2.1, (x.1.2.2.2.2.2.2.2.2.1, (x.1.2.2.2.2.2.2.2.2.2.1, (x.1.2.2.2.2.2.2.2.2.2.2.1, (x.1.2.2.2.2.2.2.2.2.2.2.2.1, (x.1.2.2.2.2.2.2.2.2.2.2.2.2.1, ()))))))))))))), ()))
   else
   if (x.2.1.1 == (17 : Int)) then
    (F_dd ((x.1.2.2.2.1, (x.1.2.2.2.2.1, (x.1.2.2.2.2.2.1, (x.1.2.2.2.2.2.2.1, (x.1.2.2.2.2.2.2.2.1, (x.1.2.2.2.2.2.2.2.2.1, (x.1.2.2.2.2.2.2.2.2.2.1, (x.1.2.2.2.2.2.2.2.2.2.2.1, (x.1.2.2.2.2.2.2.2.2.2.2.2.1, ()))))))))), x.2.1, ())).bind fun r13 =>
    if r13.1.1 then
    some ((true, ()), ((x.1.1, (x.1.2.1, (x.1.2.2.1, (x.1.2.2.2.1, (r3.1.1, (x.1.2.2.2.2.2.1, (x.1.2.2.2.2.2.2.1, (x.1.2.2.2.2.2.2.2.1, (x.1.2.2.2.2.2.2.2.2.1, (x.1.2.2.2.2.2.2.2.2.2.1, (x.1.2.2.2.2.2.2.2.2.2.2.1, (x.1.2.2.2.2.2.2.2.2.2.2.2.1, (x.1.2.2.2.2.2.2.2.2.2.2.2.2.1, ()))))))))))))), ()))
    else
    some ((true, ()), ((x.1.1, (x.1.2.1, (x.1.2.2.1, (x.1.2.2.2.1, (r1.1.1, (x.1.2.2.2.2.2.1, (x.1.2.2.2.2.2.2.1, (x.1.2.2.2.2.2.2.2.1, (x.1.2.2.2.2.2.2.2.2.1, (x.1.2.2.2.2.2.2.2.2.2.1, (x.1.2.2.2.2.2.2.2.2.2.2.1, (x.1.2.2.2.2.2.2.2.2.2.2.2.1, (x.1.2.2.2.2.2.2.2.2.2.2.2.2.1, ()))))))))))))), ()))
   else
    if (x.2.1.1 == (18 : Int)) then
    (F_dd ((x.1.2.2.2.1, (x.1.2.2.2.2.1, (x.1.2.2.2.2.2.1, (x.1.2.2.2.2.2.2.1, (x.1.2.2.2.2.2.2.2.1, (x.1.2.2.2.2.2.2.2.2.1, (x.1.2.2.2.2.2.2.2.2.2.1, (x.1.2.2.2.2.2.2.2.2.2.2.1, (x.1.2.2.2.2.2.2.2.2.2.2.2.1, ()))))))))), x.2.1, ())).bind fun r14 =>
    if r14.1.1 then
     some ((true, ()), ((x.1.1, (x.1.2.1, (x.1.2.2.1, (x.1.2.2.2.1, (r3.1.1, (x.1.2.2.2.2.2.1, (x.1.2.2.2.2.2.2.1, (x.1.2.2.2.2.2.2.2.1, (x.1.2.2.2.2.2.2.2.2.1, (x.1.2.2.2.2.2.2.2.2.2.1, (x.1.2.2.2.2.2.2.2.2.2.2.1, (x.1.2.2.2.2.2.2.2.2.2.2.2.1, (x.1.2.2.2.2.2.2.2.2.2.2.2.2.1, ()))))))))))))), ()))
    else
     some ((true, ()), ((x.1.1, (x.1.2.1, (x.1.2.2.1, (x.1.2.2.2.1, (r1.1.1, (x.1.2.2.2.2.2.1, (x.1.2.2.2.2.2.2.1, (x.1.2.2.2.2.2.2.2.1, (x.1.2.2.2.2.2.2.2.2.1, (x.1.2.2.2.2.2.2.2.2.2.1, (x.1.2.2.2.2.2.2.2.2.2.2.1, (x.1.2.2.2.2.2.2.2.2.2.2.2.1, (x.1.2.2.2.2.2.2.2.2.2.2.2.2.1, ()))))))))))))), ()))
    else
    if (x.2.1.1 == (19 : Int)) then
     (F_cy (x.1, x.2.1.2.1, r1.1.1, ())).bind fun r15 =>
     some ((true, ()), ((r15.2.1.1, (r15.2.1.2.1, (r15.2.1.2.2.1, (r15.2.1.2.2.2.1, (r3.1.1, (r15.2.1.2.2.2.2.2.1, (r15.2.1.2.2.2.2.2.2.1, (r15.2.1.2.2.2.2.2.2.2.1, (r15.2.1.2.2.2.2.2.2.2.2.1, (r15.2.1.2.2.2.2.2.2.2.2.2.1, (r15.2.1.2.2.2.2.2.2.2.2.2.2.1, (r15.2.1.2.2.2.2.2.2.2.2.2.2.2.1, (r15.2.1.2.2.2.2.2.2.2.2.2.2.2.2.1, ()))))))))))))), ()))
    else
     if (x.2.1.1 == (20 : Int)) then
     if 0 ≤ x.2.1.2.2.1 ∧ x.2.1.2.2.1 < ((x.1.2.2.2.1.length : Nat) : Int) then
      ((x.1.2.2.2.1)[(x.2.1.2.2.1).toNat]?).bind fun y16 =>
      (F_cx (x.2.1.2.2.2.1, ())).bind fun r17 =>
      (F_cw (y16, r17.1.1, ())).bind fun r18 =>
      (F_cy (x.1, x.2.1.2.1, r1.1.1, ())).bind fun r19 =>
      some ((true, ()), ((r19.2.1.1, (r19.2.1.2.1, (r19.2.1.2.2.1, (r19.2.1.2.2.2.1, (r18.1.1, (r19.2.1.2.2.2.2.2.1, (r19.2.1.2.2.2.2.2.2.1, (r19.2.1.2.2.2.2.2.2.2.1, (r19.2.1.2.2.2.2.2.2.2.2.1, (r19.2.1.2.2.2.2.2.2.2.2.2.1, (r19.2.1.2.2.2.2.2.2.2.2.2.2.1, (r19.2.1.2.2.2.2.2.2.2.2.2.2.2.1, (r19.2.1.2.2.2.2.2.2.2.2.2.2.2.2.1, ()))))))))))))), ()))
     else none
     else
     if (x.2.1.1 == (21 : Int)) then
      (F_de ((x.1.2.2.2.1, (x.1.2.2.2.2.1, (x.1.2.2.2.2.2.1, (x.1.2.2.2.2.2.2.1, (x.1.2.2.2.2.2.2.2.1, (x.1.2.2.2.2.2.2.2.2.1, (x.1.2.2.2.2.2.2.2.2.2.1, (x.1.2.2.2.2.2.2.2.2.2.2.1, (x.1.2.2.2.2.2.2.2.2.2.2.2.1, ()))))))))), x.2.1.2.2.2.1, ())).bind fun r20 =>
      (F_cy (x.1, x.2.1.2.1, r20.1.1, ())).bind fun r21 =>
      some ((true, ()), ((r21.2.1.1, (r21.2.1.2.1, (r21.2.1.2.2.1, (r21.2.1.2.2.2.1, (r1.1.1, (r21.2.1.2.2.2.2.2.1, (r21.2.1.2.2.2.2.2.2.1, (r21.2.1.2.2.2.2.2.2.2.1, (r21.2.1.2.2.2.2.2.2.2.2.1, (r21.2.1.2.2.2.2.2.2.2.2.2.1, (r21.2.1.2.2.2.2.2.2.2.2.2.2.1, (r21.2.1.2.2.2.2.2.2.2.2.2.2.2.1, (r21.2.1.2.2.2.2.2.2.2.2.2.2.2.2.1, ()))))))))))))), ()))
     else
      if (x.2.1.1 == (22 : Int)) then
      if 0 ≤ x.2.1.2.2.1 ∧ x.2.1.2.2.1 < ((x.1.2.2.2.1.length : Nat) : Int) then
       ((x.1.2.2.2.1)[(x.2.1.2.2.1).toNat]?).bind fun y22 =>
       (F_l ((x.1.2.2.2.1, (x.1.2.2.2.2.1, (x.1.2.2.2.2.2.1, (x.1.2.2.2.2.2.2.1, (x.1.2.2.2.2.2.2.2.1, (x.1.2.2.2.2.2.2.2.2.1, (x.1.2.2.2.2.2.2.2.2.2.1, (x.1.2.2.2.2.2.2.2.2.2.2.1, (x.1.2.2.2.2.2.2.2.2.2.2.2.1, ()))))))))), x.2.1.2.2.2.1, y22, ())).bind fun r23 =>
       some ((true, ()), ((x.1.1, (x.1.2.1, (x.1.2.2.1, (r23.2.1.1, (r1.1.1, (r23.2.1.2.2.1, (r23.2.1.2.2.2.1, (r23.2.1.2.2.2.2.1, (r23.2.1.2.2.2.2.2.1, (r23.2.1.2.2.2.2.2.2.1, (r23.2.1.2.2.2.2.2.2.2.1, (r23.2.1.2.2.2.2.2.2.2.2.1, (x.1.2.2.2.2.2.2.2.2.2.2.2.2.1, ()))))))))))))), ()))
      else none
      else
      if (x.2.1.1 == (23 : Int)) then
       (F_co (x.1, (5 : Int), (0 : Int), ())).bind fun r24 =>
       some ((false, ()), (r24.2.1, ()))
      else
       if (x.2.1.1 == (24 : Int)) then
       (F_df ((x.1.2.2.2.1, (x.1.2.2.2.2.1, (x.1.2.2.2.2.2.1, (x.1.2.2.2.2.2.2.1, (x.1.2.2.2.2.2.2.2.1, (x.1.2.2.2.2.2.2.2.2.1, (x.1.2.2.2.2.2.2.2.2.2.1, (x.1.2.2.2.2.2.2.2.2.2.2.1, (x.1.2.2.2.2.2.2.2.2.2.2.2.1, ()))))))))), ())).bind fun r25 =>
       some ((true, ()), ((x.1.1, (x.1.2.1, (x.1.2.2.1, (r25.2.1.1, (r25.2.1.2.1, (r25.2.1.2.2.1, (r25.2.1.2.2.2.1, (r25.2.1.2.2.2.2.1, (r25.2.1.2.2.2.2.2.1, (r25.2.1.2.2.2.2.2.2.1, (r25.2.1.2.2.2.2.2.2.2.1, (r25.2.1.2.2.2.2.2.2.2.2.1, (x.1.2.2.2.2.2.2.2.2.2.2.2.2.1, ()))))))))))))), ()))
       else
       if (x.2.1.1 == (25 : Int)) then
        some ((true, ()), ((x.1.1, (x.1.2.1, (x.1.2.2.1, (x.1.2.2.2.1, (r1.1.1, (x.1.2.2.2.2.2.1, (x.1.2.2.2.2.2.2.1, (true, (x.1.2.2.2.2.2.2.2.2.1, (x.1.2.2.2.2.2.2.2.2.2.1, (x.1.2.2.2.2.2.2.2.2.2.2.1, (x.1.2.2.2.2.2.2.2.2.2.2.2.1, (x.1.2.2.2.2.2.2.2.2.2.2.2.2.1, ()))))))))))))), ()))
       else
        if (x.2.1.1 == (26 : Int)) then
        some ((true, ()), ((x.1.1, (x.1.2.1, (x.1.2.2.1, (x.1.2.2.2.1, (x.1.2.2.2.2.1, (x.1.2.2.2.2.2.1, (true, (x.1.2.2.2.2.2.2.2.1, (x.1.2.2.2.2.2.2.2.2.1, (x.1.2.2.2.2.2.2.2.2.2.1, (x.1.2.2.2.2.2.2.2.2.2.2.1, (x.1.2.2.2.2.2.2.2.2.2.2.2.1, (x.1.2.2.2.2.2.2.2.2.2.2.2.2.1, ()))))))))))))), ()))
        else
        if 0 ≤ x.2.1.2.2.1 ∧ x.2.1.2.2.1 < ((x.1.2.2.2.1.length : Nat) : Int) then
         ((x.1.2.2.2.1)[(x.2.1.2.2.1).toNat]?).bind fun y26 =>
         if 0 ≤ x.2.1.2.2.2.1 ∧ x.2.1.2.2.2.1 < ((x.1.2.2.2.1.length : Nat) : Int) then
         ((x.1.2.2.2.1)[(x.2.1.2.2.2.1).toNat]?).bind fun y27 =>
         (F_dl (x.2.1.1, y26, y27, ())).bind fun r28 =>
         (F_cy (x.1, x.2.1.2.1, r28.1.1, ())).bind fun r29 =>
         some ((true, ()), ((r29.2.1.1, (r29.2.1.2.1, (r29.2.1.2.2.1, (r29.2.1.2.2.2.1, (r1.1.1, (r29.2.1.2.2.2.2.2.1, (r29.2.1.2.2.2.2.2.2.1, (r29.2.1.2.2.2.2.2.2.2.1, (r29.2.1.2.2.2.2.2.2.2.2.1, (r29.2.1.2.2.2.2.2.2.2.2.2.1, (r29.2.1.2.2.2.2.2.2.2.2.2.2.1, (r29.2.1.2.2.2.2.2.2.2.2.2.2.2.1, (r29.2.1.2.2.2.2.2.2.2.2.2.2.2.2.1, ()))))))))))))), ()))
         else none
        else none
abbrev C_dm : Con := ⟨P_dm, R_dm, F_dm, false⟩
abbrev G_dm : Env := [(147, C_co), (221, C_cw), (222, C_cx), (223, C_cy), (224, C_db), (225, C_dd), (226, C_de), (227, C_l), (228, C_df), (229, C_dl)]
theorem g_dm : EnvOk Tryz.prog G_dm := (env_cons s_co (env_cons s_cw (env_cons s_cx (env_cons s_cy (env_cons s_db (env_cons s_dd (env_cons s_de (env_cons s_l (env_cons s_df (env_cons s_dl env_nil))))))))))
theorem r_dm (x) : runFn T G_dm [] Tryz.f150 P_dm R_dm x = F_dm x := by kernel_rfl
theorem s_dm : CallsOk Tryz.prog 150 C_dm :=
 fn_calls (L := []) hT g_dm Tryz.f150 (by kernel_rfl) (by kernel_rfl) (by kernel_rfl) (plain_ok (by kernel_rfl)) r_dm
/-! spec.l1Min -/
abbrev P_dn : List PK := [.val YI, .val YI]
abbrev R_dn : List VK := [.s (.dat YI)]
def F_dn (x : denP P_dn) : Option (denV R_dn × denQ P_dn) :=
 if (ltI x.1 x.2.1) then
 some ((x.1, ()), ())
 else
 some ((x.2.1, ()), ())
abbrev C_dn : Con := ⟨P_dn, R_dn, F_dn, false⟩
abbrev G_dn : Env := []
theorem g_dn : EnvOk Tryz.prog G_dn := env_nil
theorem r_dn (x) : runFn T G_dn [] Tryz.f151 P_dn R_dn x = F_dn x := by kernel_rfl
theorem s_dn : CallsOk Tryz.prog 151 C_dn :=
 fn_calls (L := []) hT g_dn Tryz.f151 (by kernel_rfl) (by kernel_rfl) (by kernel_rfl) (plain_ok (by kernel_rfl)) r_dn
/-! spec.l10Step -/
abbrev P_do : List PK := [.box [.dat Y27, .own 2 YI, .dat YI, .own 2 YI, .dat YI, .own 2 YI, .dat .bool, .dat .bool, .dat .bool, .dat YI, .dat Y24, .own 2 YI, .dat YI] [.dat Y27, .own 2 YI, .dat YI, .own 2 YI, .dat YI, .own 2 YI, .dat .bool, .dat .bool, .dat .bool, .dat YI, .dat Y24, .own 2 YI, .dat YI]]
abbrev R_do : List VK := []
def F_do (x : denP P_do) : Option (denV R_do × denQ P_do) :=
 if x.1.2.2.2.2.2.2.1 then
 some ((), ((x.1.1, (x.1.2.1, ((-1 : Int), (x.1.2.2.2.1, (x.1.2.2.2.2.1, (x.1.2.2.2.2.2.1, (x.1.2.2.2.2.2.2.1, (x.1.2.2.2.2.2.2.2.1, (x.1.2.2.2.2.2.2.2.2.1, (x.1.2.2.2.2.2.2.2.2.2.1, (x.1.2.2.2.2.2.2.2.2.2.2.1, (x.1.2.2.2.2.2.2.2.2.2.2.2.1, ((-1 : Int), ()))))))))))))), ()))
 else
 (F_cm ((x.1.2.2.2.1, (x.1.2.2.2.2.1, (x.1.2.2.2.2.2.1, (x.1.2.2.2.2.2.2.1, (x.1.2.2.2.2.2.2.2.1, (x.1.2.2.2.2.2.2.2.2.1, (x.1.2.2.2.2.2.2.2.2.2.1, (x.1.2.2.2.2.2.2.2.2.2.2.1, (x.1.2.2.2.2.2.2.2.2.2.2.2.1, ()))))))))), ())).bind fun r1 =>
 if (leI (0 : Int) r1.1.1) then
  let v2 := (IntKind.i64.wrap ((16 : Int) + r1.1.1))
  (F_co ((x.1.1, (x.1.2.1, ((-1 : Int), (x.1.2.2.2.1, (x.1.2.2.2.2.1, (x.1.2.2.2.2.2.1, (x.1.2.2.2.2.2.2.1, (x.1.2.2.2.2.2.2.2.1, (x.1.2.2.2.2.2.2.2.2.1, (x.1.2.2.2.2.2.2.2.2.2.1, (x.1.2.2.2.2.2.2.2.2.2.2.1, (x.1.2.2.2.2.2.2.2.2.2.2.2.1, ((-1 : Int), ()))))))))))))), v2, (0 : Int), ())).bind fun r3 =>
  some ((), (r3.2.1, ()))
 else
  if x.1.2.2.2.2.2.2.2.1 then
  (F_cl ((x.1.2.2.2.1, (x.1.2.2.2.2.1, (x.1.2.2.2.2.2.1, (x.1.2.2.2.2.2.2.1, (x.1.2.2.2.2.2.2.2.1, (x.1.2.2.2.2.2.2.2.2.1, (x.1.2.2.2.2.2.2.2.2.2.1, (x.1.2.2.2.2.2.2.2.2.2.2.1, (x.1.2.2.2.2.2.2.2.2.2.2.2.1, ()))))))))), ())).bind fun r4 =>
  if 0 ≤ (7 : Int) ∧ (7 : Int) < ((x.1.2.2.2.2.2.1.length : Nat) : Int) then
   ((x.1.2.2.2.2.2.1)[((7 : Int)).toNat]?).bind fun y5 =>
   let v6 := (iand .i64 r4.1.1 y5)
   if (v6 == (0 : Int)) then
   some ((), ((x.1.1, (x.1.2.1, ((-1 : Int), (x.1.2.2.2.1, (x.1.2.2.2.2.1, (x.1.2.2.2.2.2.1, (x.1.2.2.2.2.2.2.1, (x.1.2.2.2.2.2.2.2.1, (x.1.2.2.2.2.2.2.2.2.1, (x.1.2.2.2.2.2.2.2.2.2.1, (x.1.2.2.2.2.2.2.2.2.2.2.1, (x.1.2.2.2.2.2.2.2.2.2.2.2.1, ((-1 : Int), ()))))))))))))), ()))
   else
   (F_cu ((x.1.1, (x.1.2.1, ((-1 : Int), ((x.1.2.2.2.1, (x.1.2.2.2.2.1, (x.1.2.2.2.2.2.1, (x.1.2.2.2.2.2.2.1, (false, (x.1.2.2.2.2.2.2.2.2.1, (x.1.2.2.2.2.2.2.2.2.2.1, (x.1.2.2.2.2.2.2.2.2.2.2.1, (x.1.2.2.2.2.2.2.2.2.2.2.2.1, ()))))))))), ((-1 : Int), ()))))), x.1.2.2.2.2.1, (4 : Int), ())).bind fun r7 =>
   if (r7.1.2.1 != (0 : Int)) then
    (F_co ((x.1.1, (x.1.2.1, ((-1 : Int), (x.1.2.2.2.1, (x.1.2.2.2.2.1, (x.1.2.2.2.2.2.1, (x.1.2.2.2.2.2.2.1, (false, (x.1.2.2.2.2.2.2.2.2.1, (x.1.2.2.2.2.2.2.2.2.2.1, (x.1.2.2.2.2.2.2.2.2.2.2.1, (x.1.2.2.2.2.2.2.2.2.2.2.2.1, ((-1 : Int), ()))))))))))))), (2 : Int), x.1.2.2.2.2.1, ())).bind fun r8 =>
    some ((), (r8.2.1, ()))
   else
    if 0 ≤ r7.1.1 ∧ r7.1.1 < ((x.1.2.1.length : Nat) : Int) then
    ((x.1.2.1)[(r7.1.1).toNat]?).bind fun y9 =>
    (F_cv (y9, ())).bind fun r10 =>
    if (!r10.1.2.1) then
     if 0 ≤ r7.1.1 ∧ r7.1.1 < ((x.1.2.1.length : Nat) : Int) then
     ((x.1.2.1)[(r7.1.1).toNat]?).bind fun y11 =>
     (F_co ((x.1.1, (x.1.2.1, ((-1 : Int), (x.1.2.2.2.1, (x.1.2.2.2.2.1, (x.1.2.2.2.2.2.1, (x.1.2.2.2.2.2.2.1, (false, (x.1.2.2.2.2.2.2.2.2.1, (x.1.2.2.2.2.2.2.2.2.2.1, (x.1.2.2.2.2.2.2.2.2.2.2.1, (x.1.2.2.2.2.2.2.2.2.2.2.2.1, ((-1 : Int), ()))))))))))))), (1 : Int), y11, ())).bind fun r12 =>
     some ((), (r12.2.1, ()))
     else none
    else
     (F_dm ((x.1.1, (x.1.2.1, ((-1 : Int), (x.1.2.2.2.1, (x.1.2.2.2.2.1, (x.1.2.2.2.2.2.1, (x.1.2.2.2.2.2.2.1, (false, (x.1.2.2.2.2.2.2.2.2.1, (x.1.2.2.2.2.2.2.2.2.2.1, (x.1.2.2.2.2.2.2.2.2.2.2.1, (x.1.2.2.2.2.2.2.2.2.2.2.2.1, ((-1 : Int), ()))))))))))))), r10.1.1, ())).bind fun r13 =>
     if r13.1.1 then
     let v14 := (IntKind.i64.wrap (r13.2.1.2.2.2.2.2.2.2.2.2.1 + (1 : Int)))
     (F_dn ((1000000000 : Int), v14, ())).bind fun r15 =>
     some ((), ((r13.2.1.1, (r13.2.1.2.1, (r13.2.1.2.2.1, (r13.2.1.2.2.2.1, (r13.2.1.2.2.2.2.1, (r13.2.1.2.2.2.2.2.1, (r13.2.1.2.2.2.2.2.2.1, (r13.2.1.2.2.2.2.2.2.2.1, (r13.2.1.2.2.2.2.2.2.2.2.1, (r15.1.1, (r13.2.1.2.2.2.2.2.2.2.2.2.2.1, (r13.2.1.2.2.2.2.2.2.2.2.2.2.2.1, (r13.2.1.2.2.2.2.2.2.2.2.2.2.2.2.1, ()))))))))))))), ()))
     else
     some ((), (r13.2.1, ()))
    else none
  else none
  else
  (F_cu ((x.1.1, (x.1.2.1, ((-1 : Int), ((x.1.2.2.2.1, (x.1.2.2.2.2.1, (x.1.2.2.2.2.2.1, (x.1.2.2.2.2.2.2.1, (x.1.2.2.2.2.2.2.2.1, (x.1.2.2.2.2.2.2.2.2.1, (x.1.2.2.2.2.2.2.2.2.2.1, (x.1.2.2.2.2.2.2.2.2.2.2.1, (x.1.2.2.2.2.2.2.2.2.2.2.2.1, ()))))))))), ((-1 : Int), ()))))), x.1.2.2.2.2.1, (4 : Int), ())).bind fun r16 =>
  if (r16.1.2.1 != (0 : Int)) then
   (F_co ((x.1.1, (x.1.2.1, ((-1 : Int), (x.1.2.2.2.1, (x.1.2.2.2.2.1, (x.1.2.2.2.2.2.1, (x.1.2.2.2.2.2.2.1, (x.1.2.2.2.2.2.2.2.1, (x.1.2.2.2.2.2.2.2.2.1, (x.1.2.2.2.2.2.2.2.2.2.1, (x.1.2.2.2.2.2.2.2.2.2.2.1, (x.1.2.2.2.2.2.2.2.2.2.2.2.1, ((-1 : Int), ()))))))))))))), (2 : Int), x.1.2.2.2.2.1, ())).bind fun r17 =>
   some ((), (r17.2.1, ()))
  else
   if 0 ≤ r16.1.1 ∧ r16.1.1 < ((x.1.2.1.length : Nat) : Int) then
   ((x.1.2.1)[(r16.1.1).toNat]?).bind fun y18 =>
   (F_cv (y18, ())).bind fun r19 =>
   if (!r19.1.2.1) then
    if 0 ≤ r16.1.1 ∧ r16.1.1 < ((x.1.2.1.length : Nat) : Int) then
    ((x.1.2.1)[(r16.1.1).toNat]?).bind fun y20 =>
    (F_co ((x.1.1, (x.1.2.1, ((-1 : Int), (x.1.2.2.2.1, (x.1.2.2.2.2.1, (x.1.2.2.2.2.2.1, (x.1.2.2.2.2.2.2.1, (x.1.2.2.2.2.2.2.2.1, (x.1.2.2.2.2.2.2.2.2.1, (x.1.2.2.2.2.2.2.2.2.2.1, (x.1.2.2.2.2.2.2.2.2.2.2.1, (x.1.2.2.2.2.2.2.2.2.2.2.2.1, ((-1 : Int), ()))))))))))))), (1 : Int), y20, ())).bind fun r21 =>
    some ((), (r21.2.1, ()))
    else none
   else
    (F_dm ((x.1.1, (x.1.2.1, ((-1 : Int), (x.1.2.2.2.1, (x.1.2.2.2.2.1, (x.1.2.2.2.2.2.1, (x.1.2.2.2.2.2.2.1, (x.1.2.2.2.2.2.2.2.1, (x.1.2.2.2.2.2.2.2.2.1, (x.1.2.2.2.2.2.2.2.2.2.1, (x.1.2.2.2.2.2.2.2.2.2.2.1, (x.1.2.2.2.2.2.2.2.2.2.2.2.1, ((-1 : Int), ()))))))))))))), r19.1.1, ())).bind fun r22 =>
    if r22.1.1 then
    let v23 := (IntKind.i64.wrap (r22.2.1.2.2.2.2.2.2.2.2.2.1 + (1 : Int)))
    (F_dn ((1000000000 : Int), v23, ())).bind fun r24 =>
    some ((), ((r22.2.1.1, (r22.2.1.2.1, (r22.2.1.2.2.1, (r22.2.1.2.2.2.1, (r22.2.1.2.2.2.2.1, (r22.2.1.2.2.2.2.2.1, (r22.2.1.2.2.2.2.2.2.1, (r22.2.1.2.2.2.2.2.2.2.1, (r22.2.1.2.2.2.2.2.2.2.2.1, (r24.1.1, (r22.2.1.2.2.2.2.2.2.2.2.2.2.1, (r22.2.1.2.2.2.2.2.2.2.2.2.2.2.1, (r22.2.1.2.2.2.2.2.2.2.2.2.2.2.2.1, ()))))))))))))), ()))
    else
    some ((), (r22.2.1, ()))
   else none
abbrev C_do : Con := ⟨P_do, R_do, F_do, false⟩
abbrev G_do : Env := [(65, C_cu), (146, C_cm), (147, C_co), (148, C_cl), (149, C_cv), (150, C_dm), (151, C_dn)]
theorem g_do : EnvOk Tryz.prog G_do := (env_cons s_cu (env_cons s_cm (env_cons s_co (env_cons s_cl (env_cons s_cv (env_cons s_dm (env_cons s_dn env_nil)))))))
theorem r_do (x) : runFn T G_do [] Tryz.f61 P_do R_do x = F_do x := by kernel_rfl
theorem s_do : CallsOk Tryz.prog 61 C_do :=
 fn_calls (L := []) hT g_do Tryz.f61 (by kernel_rfl) (by kernel_rfl) (by kernel_rfl) (plain_ok (by kernel_rfl)) r_do
/-! spec.StepHart -/
abbrev P_dp : List PK := [.val Y25, .val Y27, .val Y24]
abbrev R_dp : List VK := [.g [.dat YI, .dat YI, .dat YI, .own 2 YI, .dat YI, .own 2 YI, .dat .bool, .dat .bool, .dat .bool, .dat YI, .dat Y24, .own 2 YI, .own 2 YI]]
def F_dp (x : denP P_dp) : Option (denV R_dp × denQ P_dp) :=
 (F_ch (x.1, x.2.1, x.2.2.1, ())).bind fun r1 =>
 if (r1.1.1 != (0 : Int)) then
 some (((r1.1.1, ((0 : Int), ((0 : Int), (([] : List (den YI)), ((0 : Int), (([] : List (den YI)), (false, (false, (false, ((0 : Int), (([] : List (den YI)), (([] : List (den YI)), (([] : List (den YI)), ()))))))))))))), ()), ())
 else
 (F_ck (x.1, x.2.1, x.2.2.1, ())).bind fun r2 =>
 (F_do (r2.1.1, ())).bind fun r3 =>
 some ((((0 : Int), (r3.2.1.2.2.2.2.2.2.2.2.2.2.2.2.1, (r3.2.1.2.2.1, (r3.2.1.2.2.2.1, (r3.2.1.2.2.2.2.1, (r3.2.1.2.2.2.2.2.1, (r3.2.1.2.2.2.2.2.2.1, (r3.2.1.2.2.2.2.2.2.2.1, (r3.2.1.2.2.2.2.2.2.2.2.1, (r3.2.1.2.2.2.2.2.2.2.2.2.1, (r3.2.1.2.2.2.2.2.2.2.2.2.2.1, (r3.2.1.2.2.2.2.2.2.2.2.2.2.2.1, (r3.2.1.2.1, ()))))))))))))), ()), ())
abbrev C_dp : Con := ⟨P_dp, R_dp, F_dp, false⟩
abbrev G_dp : Env := [(58, C_ch), (60, C_ck), (61, C_do)]
theorem g_dp : EnvOk Tryz.prog G_dp := (env_cons s_ch (env_cons s_ck (env_cons s_do env_nil)))
theorem r_dp (x) : runFn T G_dp [] Tryz.f19 P_dp R_dp x = F_dp x := by kernel_rfl
theorem s_dp : CallsOk Tryz.prog 19 C_dp :=
 fn_calls (L := []) hT g_dp Tryz.f19 (by kernel_rfl) (by kernel_rfl) (by kernel_rfl) (plain_ok (by kernel_rfl)) r_dp
/-! impl.DueOf -/
abbrev P_dw : List PK := [.val Y25]
abbrev R_dw : List VK := [.s (.dat Y40)]
def F_dw (x : denP P_dw) : Option (denV R_dw × denQ P_dw) :=
 (F_ah (x.1, ())).bind fun r1 =>
 if (r1.1.1 != (0 : Int)) then
 some (((r1.1.1, ((0 : Int), ())), ()), ())
 else
 (F_at (x.1, ())).bind fun r2 =>
 if (ltI r2.1.1 (0 : Int)) then
  some ((((4 : Int), ((0 : Int), ())), ()), ())
 else
  some ((((0 : Int), (r2.1.1, ())), ()), ())
abbrev C_dw : Con := ⟨P_dw, R_dw, F_dw, false⟩
abbrev G_dw : Env := [(20, C_ah), (67, C_at)]
theorem g_dw : EnvOk Tryz.prog G_dw := (env_cons s_ah (env_cons s_at env_nil))
theorem r_dw (x) : runFn T G_dw [] Tryz.f25 P_dw R_dw x = F_dw x := by kernel_rfl
theorem s_dw : CallsOk Tryz.prog 25 C_dw :=
 fn_calls (L := []) hT g_dw Tryz.f25 (by kernel_rfl) (by kernel_rfl) (by kernel_rfl) (plain_ok (by kernel_rfl)) r_dw
/-! laws.FnFaults -/
abbrev P_dx : List PK := [.val Y22]
abbrev R_dx : List VK := [.s (.dat .bool)]
def F_dx (x : denP P_dx) : Option (denV R_dx × denQ P_dx) :=
 (F_a (x.1, ())).bind fun r1 =>
 if r1.1.1 then
 some ((true, ()), ())
 else
 (F_dr (x.1, ())).bind fun r2 =>
 (F_dt (r2.1.1, r2.1.2.1, r2.1.2.2.1, ())).bind fun r3 =>
 (F_cd (r2.1.1, r2.1.2.1, r2.1.2.2.1, ())).bind fun r4 =>
 if (r4.1.1.1 != (0 : Int)) then
  (F_dv (r2.1.1, r2.1.2.1, r2.1.2.2.1, ())).bind fun r5 =>
  if (r5.1.1.1 == r3.1.1.1) = true then
  (F_dp (r2.1.1, r2.1.2.1, r2.1.2.2.1, ())).bind fun r6 =>
  some (((r6.1.1.1 == r4.1.1.1), ()), ())
  else
  some ((false, ()), ())
 else
  if r2.1.1.2.2.2.1 = false then
  if r2.1.1.2.2.2.2.1 = false then
   (F_dw (r2.1.1, ())).bind fun r7 =>
   if (r7.1.1.1 == (0 : Int)) then
   (F_dp (r2.1.1, r2.1.2.1, r2.1.2.2.1, ())).bind fun r8 =>
   some (((r8.1.1.2.1 == r4.1.1.2.1), ()), ())
   else
   (F_ds (r2.1.1, r2.1.2.1, r2.1.2.2.1, r2.1.1.2.1, (4 : Int), ())).bind fun r9 =>
   if (r9.1.1.1 != (0 : Int)) then
    if (r3.1.1.1 == r9.1.1.1) = true then
    if (r4.1.1.2.1 == (2 : Int)) = true then
     if 0 ≤ (4 : Int) ∧ (4 : Int) < ((r4.1.1.2.2.2.2.2.1.length : Nat) : Int) then
     ((r4.1.1.2.2.2.2.2.1)[((4 : Int)).toNat]?).bind fun y10 =>
     some (((y10 == r2.1.1.2.1), ()), ())
     else none
    else
     some ((false, ()), ())
    else
    some ((false, ()), ())
   else
    if (r3.1.1.1 != (0 : Int)) then
    if (r4.1.1.2.1 == (1 : Int)) = true then
     if 0 ≤ (4 : Int) ∧ (4 : Int) < ((r4.1.1.2.2.2.2.2.1.length : Nat) : Int) then
     ((r4.1.1.2.2.2.2.2.1)[((4 : Int)).toNat]?).bind fun y11 =>
     if 0 ≤ r9.1.1.2.1 then
      ((r2.1.2.2.1)[(r9.1.1.2.1).toNat]?).bind fun y12 =>
      some (((y11 == y12), ()), ())
     else none
     else none
    else
     some ((false, ()), ())
    else
    if (r3.1.1.2.1.1 == (23 : Int)) then
     some (((r4.1.1.2.1 == (5 : Int)), ()), ())
    else
     if (r3.1.1.2.1.1 == (14 : Int)) = false then
     if (r3.1.1.2.1.1 == (15 : Int)) then
      if 0 ≤ r3.1.1.2.1.2.2.1 then
      ((r2.1.1.1)[(r3.1.1.2.1.2.2.1).toNat]?).bind fun y13 =>
      (F_bj (r3.1.1.2.1.2.2.2.1, ())).bind fun r14 =>
      (F_bi (y13, r14.1.1, ())).bind fun r15 =>
      if (r3.1.1.2.1.1 == (15 : Int)) then
       (F_ds (r2.1.1, r2.1.2.1, r2.1.2.2.1, r15.1.1, (2 : Int), ())).bind fun r16 =>
       if ((r16.1.1.1 != (0 : Int)) == (r4.1.1.2.1 == (4 : Int))) = true then
       if (r16.1.1.1 == (0 : Int)) = false then
        if 0 ≤ (4 : Int) ∧ (4 : Int) < ((r4.1.1.2.2.2.2.2.1.length : Nat) : Int) then
        ((r4.1.1.2.2.2.2.2.1)[((4 : Int)).toNat]?).bind fun y17 =>
        some (((y17 == r15.1.1), ()), ())
        else none
       else
        some ((true, ()), ())
       else
       some ((false, ()), ())
      else
       (F_ds (r2.1.1, r2.1.2.1, r2.1.2.2.1, r15.1.1, (1 : Int), ())).bind fun r18 =>
       if ((r18.1.1.1 != (0 : Int)) == (r4.1.1.2.1 == (3 : Int))) = true then
       if (r18.1.1.1 == (0 : Int)) = false then
        if 0 ≤ (4 : Int) ∧ (4 : Int) < ((r4.1.1.2.2.2.2.2.1.length : Nat) : Int) then
        ((r4.1.1.2.2.2.2.2.1)[((4 : Int)).toNat]?).bind fun y19 =>
        some (((y19 == r15.1.1), ()), ())
        else none
       else
        some ((true, ()), ())
       else
       some ((false, ()), ())
      else none
     else
      if (r4.1.1.2.1 == (-1 : Int)) = true then
      if (leI r2.1.1.2.2.2.2.2.2.1 r4.1.1.2.2.2.2.2.2.2.2.2.1) = true then
       let v20 := ((r4.1.1.2.2.2.2.2.2.2.2.2.2.2.2.1.length : Nat) : Int)
       let v21 := ((r2.1.2.2.1.length : Nat) : Int)
       some (((v20 == v21), ()), ())
      else
       some ((false, ()), ())
      else
      some ((false, ()), ())
     else
     if 0 ≤ r3.1.1.2.1.2.2.1 then
      ((r2.1.1.1)[(r3.1.1.2.1.2.2.1).toNat]?).bind fun y22 =>
      (F_bj (r3.1.1.2.1.2.2.2.1, ())).bind fun r23 =>
      (F_bi (y22, r23.1.1, ())).bind fun r24 =>
      if (r3.1.1.2.1.1 == (15 : Int)) then
      (F_ds (r2.1.1, r2.1.2.1, r2.1.2.2.1, r24.1.1, (2 : Int), ())).bind fun r25 =>
      if ((r25.1.1.1 != (0 : Int)) == (r4.1.1.2.1 == (4 : Int))) = true then
       if (r25.1.1.1 == (0 : Int)) = false then
       if 0 ≤ (4 : Int) ∧ (4 : Int) < ((r4.1.1.2.2.2.2.2.1.length : Nat) : Int) then
        ((r4.1.1.2.2.2.2.2.1)[((4 : Int)).toNat]?).bind fun y26 =>
        some (((y26 == r24.1.1), ()), ())
       else none
       else
       some ((true, ()), ())
      else
       some ((false, ()), ())
      else
      (F_ds (r2.1.1, r2.1.2.1, r2.1.2.2.1, r24.1.1, (1 : Int), ())).bind fun r27 =>
      if ((r27.1.1.1 != (0 : Int)) == (r4.1.1.2.1 == (3 : Int))) = true then
       if (r27.1.1.1 == (0 : Int)) = false then
       if 0 ≤ (4 : Int) ∧ (4 : Int) < ((r4.1.1.2.2.2.2.2.1.length : Nat) : Int) then
        ((r4.1.1.2.2.2.2.2.1)[((4 : Int)).toNat]?).bind fun y28 =>
        some (((y28 == r24.1.1), ()), ())
       else none
       else
       some ((true, ()), ())
      else
       some ((false, ()), ())
     else none
  else
   (F_dp (r2.1.1, r2.1.2.1, r2.1.2.2.1, ())).bind fun r29 =>
   some (((r29.1.1.2.1 == r4.1.1.2.1), ()), ())
  else
  (F_dp (r2.1.1, r2.1.2.1, r2.1.2.2.1, ())).bind fun r30 =>
  some (((r30.1.1.2.1 == r4.1.1.2.1), ()), ())
abbrev C_dx : Con := ⟨P_dx, R_dx, F_dx, false⟩
abbrev G_dx : Env := [(11, C_a), (16, C_cd), (19, C_dp), (22, C_dr), (23, C_dt), (24, C_dv), (25, C_dw), (26, C_ds), (27, C_bi), (28, C_bj)]
theorem g_dx : EnvOk Tryz.prog G_dx := (env_cons s_a (env_cons s_cd (env_cons s_dp (env_cons s_dr (env_cons s_dt (env_cons s_dv (env_cons s_dw (env_cons s_ds (env_cons s_bi (env_cons s_bj env_nil))))))))))
theorem r_dx (x) : runFn T G_dx [] Tryz.f5 P_dx R_dx x = F_dx x := by kernel_rfl
theorem s_dx : CallsOk Tryz.prog 5 C_dx :=
 fn_calls (L := []) hT g_dx Tryz.f5 (by kernel_rfl) (by kernel_rfl) (by kernel_rfl) (plain_ok (by kernel_rfl)) r_dx
theorem q_dx : Sound Tryz.prog 5 C_dx :=
 fn_snd (L := []) hT g_dx Tryz.f5 (by kernel_rfl) (by kernel_rfl) (plain_ok (by kernel_rfl)) r_dx
end Go.Proofs.YtajnommlfjfgpaaGreatDoor
