/- The functions of the laws, each as a plain function of data (F), and that the program's text does what F says. Printed by a program (wip/tools/gen.py). -/
import Derived.Test.YtmoninjbahccoaaGreatDoorGa2
namespace Go.Proofs.YtmoninjbahccoaaGreatDoor
open Go Go.RowKit S Go.Proofs
set_option maxRecDepth 100000
set_option linter.unusedVariables false
abbrev P_de : List PK := [.box [.own 2 YI, .dat YI, .own 2 YI, .dat .bool, .dat .bool, .dat .bool, .dat YI, .own 2 YI, .own 2 YI, .dat Y26, .own 2 YI, .dat YI, .dat YI] [.own 2 YI, .dat YI, .own 2 YI, .dat .bool, .dat .bool, .dat .bool, .dat YI, .own 2 YI, .own 2 YI, .dat Y26, .own 2 YI, .dat YI, .dat YI]]
def F_de (x : denP P_de) : FO P_de R_ca :=
 if x.1.2.2.2.1 then
  some ((), ((x.1.1, (x.1.2.1, (x.1.2.2.1, (x.1.2.2.2.1, (x.1.2.2.2.2.1, (x.1.2.2.2.2.2.1, (x.1.2.2.2.2.2.2.1, (x.1.2.2.2.2.2.2.2.1, (x.1.2.2.2.2.2.2.2.2.1, (x.1.2.2.2.2.2.2.2.2.2.1, (x.1.2.2.2.2.2.2.2.2.2.2.1, ((-1 : Int), ((-1 : Int), ()))))))))))))), ()))
 else
  (F_bz ((x.1.1, (x.1.2.1, (x.1.2.2.1, (x.1.2.2.2.1, (x.1.2.2.2.2.1, (x.1.2.2.2.2.2.1, (x.1.2.2.2.2.2.2.1, (x.1.2.2.2.2.2.2.2.1, (x.1.2.2.2.2.2.2.2.2.1, ()))))))))), ())).bind fun r1 =>
  if (leI (0 : Int) r1.1.1) then
   let v2 := (IntKind.i64.wrap ((16 : Int) + r1.1.1))
   (F_cb ((x.1.1, (x.1.2.1, (x.1.2.2.1, (x.1.2.2.2.1, (x.1.2.2.2.2.1, (x.1.2.2.2.2.2.1, (x.1.2.2.2.2.2.2.1, (x.1.2.2.2.2.2.2.2.1, (x.1.2.2.2.2.2.2.2.2.1, (x.1.2.2.2.2.2.2.2.2.2.1, (x.1.2.2.2.2.2.2.2.2.2.2.1, ((-1 : Int), ((-1 : Int), ()))))))))))))), v2, (0 : Int), ())).bind fun r3 =>
   some ((), (r3.2.1, ()))
  else
   if x.1.2.2.2.2.1 then
    (F_bx ((x.1.1, (x.1.2.1, (x.1.2.2.1, (x.1.2.2.2.1, (x.1.2.2.2.2.1, (x.1.2.2.2.2.2.1, (x.1.2.2.2.2.2.2.1, (x.1.2.2.2.2.2.2.2.1, (x.1.2.2.2.2.2.2.2.2.1, ()))))))))), ())).bind fun r4 =>
    if 0 ≤ (7 : Int) ∧ (7 : Int) < ((x.1.2.2.1.length : Nat) : Int) then
     ((x.1.2.2.1)[((7 : Int)).toNat]?).bind fun y5 =>
     let v6 := (iand .i64 r4.1.1 y5)
     if (v6 == (0 : Int)) then
      some ((), ((x.1.1, (x.1.2.1, (x.1.2.2.1, (x.1.2.2.2.1, (x.1.2.2.2.2.1, (x.1.2.2.2.2.2.1, (x.1.2.2.2.2.2.2.1, (x.1.2.2.2.2.2.2.2.1, (x.1.2.2.2.2.2.2.2.2.1, (x.1.2.2.2.2.2.2.2.2.2.1, (x.1.2.2.2.2.2.2.2.2.2.2.1, ((-1 : Int), ((-1 : Int), ()))))))))))))), ()))
     else
      (F_cj ((x.1.1, (x.1.2.1, (x.1.2.2.1, (x.1.2.2.2.1, (false, (x.1.2.2.2.2.2.1, (x.1.2.2.2.2.2.2.1, (x.1.2.2.2.2.2.2.2.1, (x.1.2.2.2.2.2.2.2.2.1, ()))))))))), x.1.2.2.2.2.2.2.2.2.2.1, x.1.2.2.2.2.2.2.2.2.2.2.1, x.1.2.1, (4 : Int), ())).bind fun r7 =>
      if (r7.1.1.1 != (0 : Int)) then
       (F_cb ((x.1.1, (x.1.2.1, (x.1.2.2.1, (x.1.2.2.2.1, (false, (x.1.2.2.2.2.2.1, (x.1.2.2.2.2.2.2.1, (x.1.2.2.2.2.2.2.2.1, (x.1.2.2.2.2.2.2.2.2.1, (x.1.2.2.2.2.2.2.2.2.2.1, (x.1.2.2.2.2.2.2.2.2.2.2.1, ((-1 : Int), ((-1 : Int), ()))))))))))))), (2 : Int), x.1.2.1, ())).bind fun r8 =>
       some ((), (r8.2.1, ()))
      else
       if 0 ≤ r7.1.1.2.1 ∧ r7.1.1.2.1 < ((x.1.2.2.2.2.2.2.2.2.2.2.1.length : Nat) : Int) then
        ((x.1.2.2.2.2.2.2.2.2.2.2.1)[(r7.1.1.2.1).toNat]?).bind fun y9 =>
        (F_cl (y9, ())).bind fun r10 =>
        if (r10.1.1.1 != (0 : Int)) then
         if 0 ≤ r7.1.1.2.1 ∧ r7.1.1.2.1 < ((x.1.2.2.2.2.2.2.2.2.2.2.1.length : Nat) : Int) then
          ((x.1.2.2.2.2.2.2.2.2.2.2.1)[(r7.1.1.2.1).toNat]?).bind fun y11 =>
          (F_cb ((x.1.1, (x.1.2.1, (x.1.2.2.1, (x.1.2.2.2.1, (false, (x.1.2.2.2.2.2.1, (x.1.2.2.2.2.2.2.1, (x.1.2.2.2.2.2.2.2.1, (x.1.2.2.2.2.2.2.2.2.1, (x.1.2.2.2.2.2.2.2.2.2.1, (x.1.2.2.2.2.2.2.2.2.2.2.1, ((-1 : Int), ((-1 : Int), ()))))))))))))), (1 : Int), y11, ())).bind fun r12 =>
          some ((), (r12.2.1, ()))
         else none
        else
         (F_dd ((x.1.1, (x.1.2.1, (x.1.2.2.1, (x.1.2.2.2.1, (false, (x.1.2.2.2.2.2.1, (x.1.2.2.2.2.2.2.1, (x.1.2.2.2.2.2.2.2.1, (x.1.2.2.2.2.2.2.2.2.1, (x.1.2.2.2.2.2.2.2.2.2.1, (x.1.2.2.2.2.2.2.2.2.2.2.1, ((-1 : Int), ((-1 : Int), ()))))))))))))), r10.1.1.2.1, ())).bind fun r13 =>
         some ((), (r13.2.1, ()))
       else none
    else none
   else
    (F_cj ((x.1.1, (x.1.2.1, (x.1.2.2.1, (x.1.2.2.2.1, (x.1.2.2.2.2.1, (x.1.2.2.2.2.2.1, (x.1.2.2.2.2.2.2.1, (x.1.2.2.2.2.2.2.2.1, (x.1.2.2.2.2.2.2.2.2.1, ()))))))))), x.1.2.2.2.2.2.2.2.2.2.1, x.1.2.2.2.2.2.2.2.2.2.2.1, x.1.2.1, (4 : Int), ())).bind fun r14 =>
    if (r14.1.1.1 != (0 : Int)) then
     (F_cb ((x.1.1, (x.1.2.1, (x.1.2.2.1, (x.1.2.2.2.1, (x.1.2.2.2.2.1, (x.1.2.2.2.2.2.1, (x.1.2.2.2.2.2.2.1, (x.1.2.2.2.2.2.2.2.1, (x.1.2.2.2.2.2.2.2.2.1, (x.1.2.2.2.2.2.2.2.2.2.1, (x.1.2.2.2.2.2.2.2.2.2.2.1, ((-1 : Int), ((-1 : Int), ()))))))))))))), (2 : Int), x.1.2.1, ())).bind fun r15 =>
     some ((), (r15.2.1, ()))
    else
     if 0 ≤ r14.1.1.2.1 ∧ r14.1.1.2.1 < ((x.1.2.2.2.2.2.2.2.2.2.2.1.length : Nat) : Int) then
      ((x.1.2.2.2.2.2.2.2.2.2.2.1)[(r14.1.1.2.1).toNat]?).bind fun y16 =>
      (F_cl (y16, ())).bind fun r17 =>
      if (r17.1.1.1 != (0 : Int)) then
       if 0 ≤ r14.1.1.2.1 ∧ r14.1.1.2.1 < ((x.1.2.2.2.2.2.2.2.2.2.2.1.length : Nat) : Int) then
        ((x.1.2.2.2.2.2.2.2.2.2.2.1)[(r14.1.1.2.1).toNat]?).bind fun y18 =>
        (F_cb ((x.1.1, (x.1.2.1, (x.1.2.2.1, (x.1.2.2.2.1, (x.1.2.2.2.2.1, (x.1.2.2.2.2.2.1, (x.1.2.2.2.2.2.2.1, (x.1.2.2.2.2.2.2.2.1, (x.1.2.2.2.2.2.2.2.2.1, (x.1.2.2.2.2.2.2.2.2.2.1, (x.1.2.2.2.2.2.2.2.2.2.2.1, ((-1 : Int), ((-1 : Int), ()))))))))))))), (1 : Int), y18, ())).bind fun r19 =>
        some ((), (r19.2.1, ()))
       else none
      else
       (F_dd ((x.1.1, (x.1.2.1, (x.1.2.2.1, (x.1.2.2.2.1, (x.1.2.2.2.2.1, (x.1.2.2.2.2.2.1, (x.1.2.2.2.2.2.2.1, (x.1.2.2.2.2.2.2.2.1, (x.1.2.2.2.2.2.2.2.2.1, (x.1.2.2.2.2.2.2.2.2.2.1, (x.1.2.2.2.2.2.2.2.2.2.2.1, ((-1 : Int), ((-1 : Int), ()))))))))))))), r17.1.1.2.1, ())).bind fun r20 =>
       some ((), (r20.2.1, ()))
     else none
abbrev C_de : Con := ⟨P_de, R_ca, F_de, false⟩
abbrev G_de : Env := [(117, C_bz), (118, C_cb), (119, C_bx), (120, C_cj), (121, C_cl), (122, C_dd)]
theorem g_de : Qi Tryz.prog G_de := (Qa s_bz (Qa s_cb (Qa s_bx (Qa s_cj (Qa s_cl (Qa s_dd Qd))))))
theorem s_de : Qb Tryz.prog 93 C_de := fnC (L := []) hT g_de Tryz.f93 okP fun _ => by kernel_rfl
abbrev P_df : List PK := [.val Y46, .val Y26, .val Y32, .val YI]
abbrev R_df : List VK := [.g [.dat YI, .dat YI, .dat YI, .own 2 YI, .dat YI, .own 2 YI, .dat .bool, .dat .bool, .dat .bool, .dat YI, .own 2 YI, .own 2 YI, .own 2 YI]]
abbrev i_df_4 : Shp := { slots := [(8, .s (.ptr 8 0)), (9, .s (.ptr 9 0)), (10, .s (.dat YI)), (11, .s (.dat YI)), (18, .s (.dat YI)), (19, .s (.dat YI))], boxes := [(8, [.dat YI, .dat YI, .dat YI, .own 2 YI, .dat YI, .own 2 YI, .dat .bool, .dat .bool, .dat .bool, .dat YI, .own 2 YI, .own 2 YI, .own 2 YI]), (9, [.own 2 YI, .dat YI, .own 2 YI, .dat .bool, .dat .bool, .dat .bool, .dat YI, .own 2 YI, .own 2 YI, .dat Y26, .own 2 YI, .dat YI, .dat YI])], rows := [] }
abbrev o_df_4 : List (Ex × Shp) := [(.exit 0, { slots := [(8, .s (.ptr 8 0)), (9, .s (.ptr 9 0)), (10, .s (.dat YI)), (11, .s (.dat YI))], boxes := [(8, [.dat YI, .dat YI, .dat YI, .own 2 YI, .dat YI, .own 2 YI, .dat .bool, .dat .bool, .dat .bool, .dat YI, .own 2 YI, .own 2 YI, .own 2 YI]), (9, [.own 2 YI, .dat YI, .own 2 YI, .dat .bool, .dat .bool, .dat .bool, .dat YI, .own 2 YI, .own 2 YI, .dat Y26, .own 2 YI, .dat YI, .dat YI])], rows := [] })]
def l_df_4 (rec : i_df_4.den → Option (denO o_df_4)) (u : i_df_4.den) : Option (denO o_df_4) :=
 if (ltI u.1.2.2.2.2.2.1 u.1.2.2.2.2.1) then
  (F_de (u.2.1.2.1, ())).bind fun r4 =>
  if (leI (0 : Int) r4.2.1.2.2.2.2.2.2.2.2.2.2.2.1) then
   if (leI (0 : Int) r4.2.1.2.2.2.2.2.2.2.2.2.2.2.2.1) then
    let v5 := (IntKind.i64.wrap (u.1.2.2.2.2.2.1 + (1 : Int)))
    rec (((), ((), (r4.2.1.2.2.2.2.2.2.2.2.2.2.2.1, (r4.2.1.2.2.2.2.2.2.2.2.2.2.2.2.1, (u.1.2.2.2.2.1, (v5, ())))))), ((u.2.1.1, (r4.2.1, ())), ()))
   else
    let v6 := (IntKind.i64.wrap (u.1.2.2.2.2.2.1 + (1 : Int)))
    rec (((), ((), (r4.2.1.2.2.2.2.2.2.2.2.2.2.2.1, (u.1.2.2.2.1, (u.1.2.2.2.2.1, (v6, ())))))), ((u.2.1.1, (r4.2.1, ())), ()))
  else
   if (leI (0 : Int) r4.2.1.2.2.2.2.2.2.2.2.2.2.2.2.1) then
    let v7 := (IntKind.i64.wrap (u.1.2.2.2.2.2.1 + (1 : Int)))
    rec (((), ((), (u.1.2.2.1, (r4.2.1.2.2.2.2.2.2.2.2.2.2.2.2.1, (u.1.2.2.2.2.1, (v7, ())))))), ((u.2.1.1, (r4.2.1, ())), ()))
   else
    let v8 := (IntKind.i64.wrap (u.1.2.2.2.2.2.1 + (1 : Int)))
    rec (((), ((), (u.1.2.2.1, (u.1.2.2.2.1, (u.1.2.2.2.2.1, (v8, ())))))), ((u.2.1.1, (r4.2.1, ())), ()))
 else
  some (.inl (((), ((), (u.1.2.2.1, (u.1.2.2.2.1, ())))), ((u.2.1.1, (u.2.1.2.1, ())), ())))
def L_df_4 (x : i_df_4.den) : Option (denO o_df_4) := Qc l_df_4 lots x
def F_df (x : denP P_df) : FO P_df R_df :=
 (F_bp (x.1, ())).bind fun r1 =>
 (F_av (x.2.2.1, ())).bind fun r2 =>
 (L_df_4 (((), ((), ((-1 : Int), ((-1 : Int), (x.2.2.2.1, ((0 : Int), ())))))), ((((0 : Int), ((0 : Int), ((0 : Int), (([] : List (den YI)), ((0 : Int), (([] : List (den YI)), (false, (false, (false, ((0 : Int), (([] : List (den YI)), (([] : List (den YI)), (([] : List (den YI)), ()))))))))))))), ((r1.1.1.1, (r1.1.1.2.1, (r1.1.1.2.2.1, (r1.1.1.2.2.2.1, (r1.1.1.2.2.2.2.1, (r1.1.1.2.2.2.2.2.1, (r1.1.1.2.2.2.2.2.2.1, (r1.1.1.2.2.2.2.2.2.2.1, (r1.1.1.2.2.2.2.2.2.2.2.1, (x.2.1, (r2.1.1, ((0 : Int), ((0 : Int), ()))))))))))))), ())), ()))).bind fun z9 =>
 match z9 with
 | .inl x10 =>
  some ((((0 : Int), (x10.1.2.2.1, (x10.1.2.2.2.1, (x10.2.1.2.1.1, (x10.2.1.2.1.2.1, (x10.2.1.2.1.2.2.1, (x10.2.1.2.1.2.2.2.1, (x10.2.1.2.1.2.2.2.2.1, (x10.2.1.2.1.2.2.2.2.2.1, (x10.2.1.2.1.2.2.2.2.2.2.1, (x10.2.1.2.1.2.2.2.2.2.2.2.1, (x10.2.1.2.1.2.2.2.2.2.2.2.2.1, (x10.2.1.2.1.2.2.2.2.2.2.2.2.2.2.1, ()))))))))))))), ()), ())
 | .inr z9_ =>
  none
abbrev C_df : Con := ⟨P_df, R_df, F_df, false⟩
abbrev G_df : Env := [(35, C_bp), (57, C_av), (93, C_de)]
theorem g_df : Qi Tryz.prog G_df := (Qa s_bp (Qa s_av (Qa s_de Qd)))
abbrev c_df_4 : Cut := ⟨i_df_4, o_df_4, fun x => Qc l_df_4 lots x⟩
theorem k_df_4 : QD Tryz.prog 40 (.loop (nav Tryz.f65 [1, 1, 1, 0, 1, 0, 0])) c_df_4 :=
  Qk (L := []) hT g_df (fun _ _ => by kernel_rfl) okP _
theorem r_df (x) : QS T G_df [(4, c_df_4)] Tryz.f65 C_df.ps C_df.rs x = C_df.F x := by kernel_rfl
theorem s_df : Qb Tryz.prog 65 C_df := fnC (L := [(4, c_df_4)]) hT g_df Tryz.f65 (okS okP (okS okP (okS okP (okS (okS okP (okB (okU k_df_4))) okP)))) r_df
abbrev P_dg : List PK := [.box [.dat Y24, .dat Y25, .dat Y26, .dat Y26, .own 2 YI, .own 47 Y46, .dat YI, .dat YI, .dat YI] [.dat Y24, .dat Y25, .dat Y26, .dat Y26, .own 2 YI, .own 47 Y46, .dat YI, .dat YI, .dat YI]]
def F_dg (x : denP P_dg) : FO P_dg R_ca :=
 (F_br (((x.1.1, (x.1.2.1, (x.1.2.2.1, (x.1.2.2.2.1, ())))), (x.1.2.2.2.2.1, (x.1.2.2.2.2.2.1, (x.1.2.2.2.2.2.2.1, (x.1.2.2.2.2.2.2.2.1, (x.1.2.2.2.2.2.2.2.2.1, ())))))), ())).bind fun r1 =>
 if 0 ≤ r1.1.1 ∧ r1.1.1 < ((x.1.2.2.2.2.2.1.length : Nat) : Int) then
  ((x.1.2.2.2.2.2.1)[(r1.1.1).toNat]?).bind fun y2 =>
  (F_bw ((x.1.1, (x.1.2.1, (x.1.2.2.1, (x.1.2.2.2.1, ())))), r1.1.1, ())).bind fun r3 =>
  (F_df (y2, r3.1.1, x.1.2.2.2.2.1, (1 : Int), ())).bind fun r4 =>
  if 0 ≤ r1.1.1 ∧ r1.1.1 < ((x.1.2.2.2.2.2.1.length : Nat) : Int) then
   ((x.1.2.2.2.2.2.1)[(r1.1.1).toNat]?).bind fun y5 =>
   let v6 := (x.1.2.2.2.2.2.1.set (r1.1.1).toNat (r4.1.1.2.2.2.1, (r4.1.1.2.2.2.2.1, (r4.1.1.2.2.2.2.2.1, (r4.1.1.2.2.2.2.2.2.1, (r4.1.1.2.2.2.2.2.2.2.1, (r4.1.1.2.2.2.2.2.2.2.2.1, (r4.1.1.2.2.2.2.2.2.2.2.2.1, (r4.1.1.2.2.2.2.2.2.2.2.2.2.1, (r4.1.1.2.2.2.2.2.2.2.2.2.2.2.1, ()))))))))))
   (F_ao (x.1.2.2.1, (r1.1.1, (r4.1.1.2.2.1, ())), ())).bind fun r7 =>
   if r7.1.1 then
    if 0 ≤ r4.1.1.2.2.1 ∧ r4.1.1.2.2.1 < ((v6.length : Nat) : Int) then
     ((v6)[(r4.1.1.2.2.1).toNat]?).bind fun y8 =>
     let v9 := (v6.set (r4.1.1.2.2.1).toNat (y8.1, (y8.2.1, (y8.2.2.1, (y8.2.2.2.1, (y8.2.2.2.2.1, (true, y8.2.2.2.2.2.2)))))))
     let v10 := (IntKind.i64.wrap (x.1.2.2.2.2.2.2.2.1 - (1 : Int)))
     if (v10 == (0 : Int)) then
      let v11 := (IntKind.i64.wrap (x.1.2.2.2.2.2.2.1 + (1 : Int)))
      let v12 := ((x.1.2.2.2.1.length : Nat) : Int)
      if v12 = 0 then none else
      let v13 := ((v11).tmod v12)
      if 0 ≤ v13 then
       ((x.1.2.2.2.1)[(v13).toNat]?).bind fun y14 =>
       let v15 := (IntKind.i64.wrap (x.1.2.2.2.2.2.2.2.2.1 + (1 : Int)))
       some ((), ((x.1.1, (x.1.2.1, (x.1.2.2.1, (x.1.2.2.2.1, (r4.1.1.2.2.2.2.2.2.2.2.2.2.2.2.1, (v9, (v13, (y14.2.1, (v15, ()))))))))), ()))
      else none
     else
      let v16 := (IntKind.i64.wrap (x.1.2.2.2.2.2.2.2.2.1 + (1 : Int)))
      some ((), ((x.1.1, (x.1.2.1, (x.1.2.2.1, (x.1.2.2.2.1, (r4.1.1.2.2.2.2.2.2.2.2.2.2.2.2.1, (v9, (x.1.2.2.2.2.2.2.1, (v10, (v16, ()))))))))), ()))
    else none
   else
    let v17 := (IntKind.i64.wrap (x.1.2.2.2.2.2.2.2.1 - (1 : Int)))
    if (v17 == (0 : Int)) then
     let v18 := (IntKind.i64.wrap (x.1.2.2.2.2.2.2.1 + (1 : Int)))
     let v19 := ((x.1.2.2.2.1.length : Nat) : Int)
     if v19 = 0 then none else
     let v20 := ((v18).tmod v19)
     if 0 ≤ v20 then
      ((x.1.2.2.2.1)[(v20).toNat]?).bind fun y21 =>
      let v22 := (IntKind.i64.wrap (x.1.2.2.2.2.2.2.2.2.1 + (1 : Int)))
      some ((), ((x.1.1, (x.1.2.1, (x.1.2.2.1, (x.1.2.2.2.1, (r4.1.1.2.2.2.2.2.2.2.2.2.2.2.2.1, (v6, (v20, (y21.2.1, (v22, ()))))))))), ()))
     else none
    else
     let v23 := (IntKind.i64.wrap (x.1.2.2.2.2.2.2.2.2.1 + (1 : Int)))
     some ((), ((x.1.1, (x.1.2.1, (x.1.2.2.1, (x.1.2.2.2.1, (r4.1.1.2.2.2.2.2.2.2.2.2.2.2.2.1, (v6, (x.1.2.2.2.2.2.2.1, (v17, (v23, ()))))))))), ()))
  else none
 else none
abbrev C_dg : Con := ⟨P_dg, R_ca, F_dg, false⟩
abbrev G_dg : Env := [(34, C_bw), (45, C_br), (65, C_df), (66, C_ao)]
theorem g_dg : Qi Tryz.prog G_dg := (Qa s_bw (Qa s_br (Qa s_df (Qa s_ao Qd))))
theorem s_dg : Qb Tryz.prog 29 C_dg := fnC (L := []) hT g_dg Tryz.f29 okP fun _ => by kernel_rfl
abbrev P_dh : List PK := [.val Y34, .val YI]
abbrev R_dh : List VK := [.g [.dat YI, .dat Y24, .dat Y25, .dat Y26, .dat Y26, .own 2 YI, .own 47 Y46, .dat YI, .dat YI, .dat YI]]
abbrev i_dh_8 : Shp := { slots := [(4, .s (.ptr 4 0)), (6, .s (.ptr 6 0)), (26, .s (.dat YI)), (27, .s (.dat YI))], boxes := [(4, [.dat YI, .own 32 Y32, .own 42 Y41, .own 112 Y70, .own 71 Y70, .own 2 YI, .own 47 Y46, .dat YI, .dat YI, .dat YI]), (6, [.dat Y24, .dat Y25, .dat Y26, .dat Y26, .own 2 YI, .own 47 Y46, .dat YI, .dat YI, .dat YI])], rows := [] }
abbrev o_dh_8 : List (Ex × Shp) := [(.exit 0, { slots := [(4, .s (.ptr 4 0)), (6, .s (.ptr 6 0))], boxes := [(4, [.dat YI, .own 32 Y32, .own 42 Y41, .own 112 Y70, .own 71 Y70, .own 2 YI, .own 47 Y46, .dat YI, .dat YI, .dat YI]), (6, [.dat Y24, .dat Y25, .dat Y26, .dat Y26, .own 2 YI, .own 47 Y46, .dat YI, .dat YI, .dat YI])], rows := [] })]
def l_dh_8 (rec : i_dh_8.den → Option (denO o_dh_8)) (u : i_dh_8.den) : Option (denO o_dh_8) :=
 if (ltI u.1.2.2.2.1 u.1.2.2.1) then
  (F_dg (u.2.1.2.1, ())).bind fun r7 =>
  let v8 := (IntKind.i64.wrap (u.1.2.2.2.1 + (1 : Int)))
  rec (((), ((), (u.1.2.2.1, (v8, ())))), ((u.2.1.1, (r7.2.1, ())), ()))
 else
  some (.inl (((), ((), ())), ((u.2.1.1, (u.2.1.2.1, ())), ())))
def L_dh_8 (x : i_dh_8.den) : Option (denO o_dh_8) := Qc l_dh_8 lots x
def F_dh (x : denP P_dh) : FO P_dh R_dh :=
 (F_bn (x.1, ())).bind fun r1 =>
 if (r1.1.1 != (0 : Int)) then
  some (((r1.1.1, (([] : List (den Y32)), (([] : List (den Y41)), (([] : List (den Y70)), (([] : List (den Y70)), (([] : List (den YI)), (([] : List (den Y46)), ((0 : Int), ((0 : Int), ((0 : Int), ())))))))))), ()), ())
 else
  (F_z (x.2.1, (0 : Int), (500 : Int), ())).bind fun r2 =>
  if (!r2.1.1) = false then
   let v3 := (IntKind.i64.wrap (x.1.2.2.2.2.2.1 + x.2.1))
   if (ltI (1000000 : Int) v3) then
    some ((((3 : Int), (([] : List (den Y32)), (([] : List (den Y41)), (([] : List (den Y70)), (([] : List (den Y70)), (([] : List (den YI)), (([] : List (den Y46)), ((0 : Int), ((0 : Int), ((0 : Int), ())))))))))), ()), ())
   else
    (F_bq (x.1, ())).bind fun r4 =>
    (L_dh_8 (((), ((), (x.2.1, ((0 : Int), ())))), ((((0 : Int), (([] : List (den Y32)), (([] : List (den Y41)), (([] : List (den Y70)), (([] : List (den Y70)), (([] : List (den YI)), (([] : List (den Y46)), ((0 : Int), ((0 : Int), ((0 : Int), ())))))))))), (r4.1.1, ())), ()))).bind fun z9 =>
    match z9 with
    | .inl x10 =>
     some ((((0 : Int), x10.2.1.2.1), ()), ())
    | .inr z9_ =>
     none
  else
   some ((((3 : Int), (([] : List (den Y32)), (([] : List (den Y41)), (([] : List (den Y70)), (([] : List (den Y70)), (([] : List (den YI)), (([] : List (den Y46)), ((0 : Int), ((0 : Int), ((0 : Int), ())))))))))), ()), ())
abbrev C_dh : Con := ⟨P_dh, R_dh, F_dh, false⟩
abbrev G_dh : Env := [(26, C_bn), (27, C_z), (28, C_bq), (29, C_dg)]
theorem g_dh : Qi Tryz.prog G_dh := (Qa s_bn (Qa s_z (Qa s_bq (Qa s_dg Qd))))
abbrev c_dh_8 : Cut := ⟨i_dh_8, o_dh_8, fun x => Qc l_dh_8 lots x⟩
theorem k_dh_8 : QD Tryz.prog 33 (.loop (nav Tryz.f9 [1, 1, 1, 1, 0, 1, 0, 0])) c_dh_8 :=
  Qk (L := []) hT g_dh (fun _ _ => by kernel_rfl) okP _
theorem r_dh (x) : QS T G_dh [(8, c_dh_8)] Tryz.f9 C_dh.ps C_dh.rs x = C_dh.F x := by kernel_rfl
theorem s_dh : Qb Tryz.prog 9 C_dh := fnC (L := [(8, c_dh_8)]) hT g_dh Tryz.f9 (okS okP (okS okP (okS okP (okS okP (okS (okS okP (okB (okU k_dh_8))) okP))))) r_dh
abbrev P_di : List PK := [.val Y28, .val Y32, .val YI]
def F_di (x : denP P_di) : FO P_di R_at :=
 (F_ar (x.1, ())).bind fun r1 =>
 if (r1.1.1 != (0 : Int)) then
  some (((r1.1.1, (([] : List (den YI)), ())), ()), ())
 else
  let v2 := ((x.1.2.1.length : Nat) : Int)
  let v3 := (IntKind.i64.wrap (v2 - (1 : Int)))
  (F_z (x.2.2.1, (0 : Int), v3, ())).bind fun r4 =>
  if (!r4.1.1) then
   some ((((4 : Int), (([] : List (den YI)), ())), ()), ())
  else
   (F_bj (x.2.1, ())).bind fun r5 =>
   if (!r5.1.1) then
    some ((((1 : Int), (([] : List (den YI)), ())), ()), ())
   else
    if 0 ≤ x.2.2.1 then
     ((x.1.2.1)[(x.2.2.1).toNat]?).bind fun y6 =>
     (F_cc (x.2.1, y6.2.2.1, ())).bind fun r7 =>
     some ((((0 : Int), (r7.1.1, ())), ()), ())
    else none
abbrev C_di : Con := ⟨P_di, R_at, F_di, false⟩
abbrev G_di : Env := [(27, C_z), (30, C_ar), (31, C_bj), (32, C_cc)]
theorem g_di : Qi Tryz.prog G_di := (Qa s_z (Qa s_ar (Qa s_bj (Qa s_cc Qd))))
theorem s_di : Qb Tryz.prog 11 C_di := fnC (L := []) hT g_di Tryz.f11 okP fun _ => by kernel_rfl
abbrev i_dj_3 : Shp := { slots := [(5, .s (.own 84 Y70)), (11, .s (.dat YI)), (12, .s (.dat YI))], boxes := [], rows := [] }
abbrev o_dj_3 : List (Ex × Shp) := [(.exit 0, { slots := [(5, .s (.own 84 Y70))], boxes := [], rows := [] })]
def l_dj_3 (rec : i_dj_3.den → Option (denO o_dj_3)) (u : i_dj_3.den) : Option (denO o_dj_3) :=
 if (ltI u.1.2.2.1 u.1.2.1) then
  if 0 ≤ u.1.2.2.1 ∧ u.1.2.2.1 < ((u.1.1.length : Nat) : Int) then
   ((u.1.1)[(u.1.2.2.1).toNat]?).bind fun y5 =>
   if (leI (0 : Int) y5.1) then
    if 0 ≤ u.1.2.2.1 ∧ u.1.2.2.1 < ((u.1.1.length : Nat) : Int) then
     ((u.1.1)[(u.1.2.2.1).toNat]?).bind fun y6 =>
     let v7 := (u.1.1.set (u.1.2.2.1).toNat (u.1.2.2.1, y6.2))
     let v8 := (IntKind.i64.wrap (u.1.2.2.1 + (1 : Int)))
     rec ((v7, (u.1.2.1, (v8, ()))), ((), ()))
    else none
   else
    let v9 := (IntKind.i64.wrap (u.1.2.2.1 + (1 : Int)))
    rec ((u.1.1, (u.1.2.1, (v9, ()))), ((), ()))
  else none
 else
  some (.inl ((u.1.1, ()), ((), ())))
def L_dj_3 (x : i_dj_3.den) : Option (denO o_dj_3) := Qc l_dj_3 lots x
def F_dj (x : denP P_h) : FO P_h R_bv :=
 (F_bw (x.1, x.2.1, ())).bind fun r1 =>
 let v2 := ((r1.1.1.length : Nat) : Int)
 (L_dj_3 ((r1.1.1, (v2, ((0 : Int), ()))), ((), ()))).bind fun z10 =>
 match z10 with
 | .inl x11 =>
  some ((x11.1.1, ()), ())
 | .inr z10_ =>
  none
abbrev C_dj : Con := ⟨P_h, R_bv, F_dj, false⟩
abbrev G_dj : Env := [(34, C_bw)]
theorem g_dj : Qi Tryz.prog G_dj := (Qa s_bw Qd)
abbrev c_dj_3 : Cut := ⟨i_dj_3, o_dj_3, fun x => Qc l_dj_3 lots x⟩
theorem k_dj_3 : QD Tryz.prog 28 (.loop (nav Tryz.f36 [1, 1, 0, 1, 0, 0])) c_dj_3 :=
  Qk (L := []) hT g_dj (fun _ _ => by kernel_rfl) okP _
theorem r_dj (x) : QS T G_dj [(3, c_dj_3)] Tryz.f36 C_dj.ps C_dj.rs x = C_dj.F x := by kernel_rfl
theorem s_dj : Qb Tryz.prog 36 C_dj := fnC (L := [(3, c_dj_3)]) hT g_dj Tryz.f36 (okS okP (okS okP (okS (okS okP (okB (okU k_dj_3))) okP))) r_dj
abbrev R_dk : List VK := [.g [.dat YI, .own 2 YI, .dat YI, .own 2 YI, .dat .bool, .dat .bool, .dat .bool, .dat YI, .own 2 YI, .own 2 YI, .own 84 Y70, .own 2 YI]]
abbrev i_dk_8 : Shp := { slots := [(1, .s (.dat YI)), (2, .s (.ptr 2 0)), (4, .s (.ptr 4 0)), (6, .s (.own 2 YI)), (23, .s (.own 84 Y70)), (24, .s (.dat YI)), (25, .s (.dat YI))], boxes := [(2, [.dat Y24, .dat Y25, .dat Y26, .dat Y26, .dat Y32, .dat Y33, .dat YI, .dat YI, .dat YI]), (4, [.dat YI, .own 2 YI, .dat YI, .own 2 YI, .dat .bool, .dat .bool, .dat .bool, .dat YI, .own 2 YI, .own 2 YI, .own 84 Y70, .own 2 YI])], rows := [] }
abbrev o_dk_8 : List (Ex × Shp) := [(.exit 0, { slots := [(1, .s (.dat YI)), (2, .s (.ptr 2 0)), (4, .s (.ptr 4 0)), (6, .s (.own 2 YI))], boxes := [(2, [.dat Y24, .dat Y25, .dat Y26, .dat Y26, .dat Y32, .dat Y33, .dat YI, .dat YI, .dat YI]), (4, [.dat YI, .own 2 YI, .dat YI, .own 2 YI, .dat .bool, .dat .bool, .dat .bool, .dat YI, .own 2 YI, .own 2 YI, .own 84 Y70, .own 2 YI])], rows := [] })]
def l_dk_8 (rec : i_dk_8.den → Option (denO o_dk_8)) (u : i_dk_8.den) : Option (denO o_dk_8) :=
 if (ltI u.1.2.2.2.2.2.2.1 u.1.2.2.2.2.2.1) then
  if 0 ≤ u.1.2.2.2.2.2.2.1 ∧ u.1.2.2.2.2.2.2.1 < ((u.1.2.2.2.2.1.length : Nat) : Int) then
   ((u.1.2.2.2.2.1)[(u.1.2.2.2.2.2.2.1).toNat]?).bind fun y7 =>
   if (leI (0 : Int) y7.1) then
    let v8 := (IntKind.i64.wrap (u.1.2.2.2.2.2.2.1 * (8 : Int)))
    if 0 ≤ v8 ∧ v8 ≤ ((u.1.2.2.2.1.length : Nat) : Int) ∧ ((u.1.2.2.2.1.length : Nat) : Int) ≤ ((u.1.2.2.2.1.length : Nat) : Int) then
     (F_cc (u.2.1.1.2.2.2.2.1, y7.1, ())).bind fun r9 =>
     if 0 < ((((u.1.2.2.2.1.length : Nat) : Int)).toNat - (v8).toNat) ∧ 0 < r9.1.1.length then
      let v10 := (splc u.1.2.2.2.1 r9.1.1 (0 + (v8).toNat) ((((u.1.2.2.2.1.length : Nat) : Int)).toNat - (v8).toNat))
      let v11 := ((min ((((u.1.2.2.2.1.length : Nat) : Int)).toNat - (v8).toNat) r9.1.1.length : Nat) : Int)
      let v12 := (IntKind.i64.wrap (u.1.2.2.2.2.2.2.1 + (1 : Int)))
      rec ((u.1.1, ((), ((), (v10, (u.1.2.2.2.2.1, (u.1.2.2.2.2.2.1, (v12, ()))))))), ((u.2.1.1, (u.2.1.2.1, ())), ()))
     else none
    else none
   else
    let v13 := (IntKind.i64.wrap (u.1.2.2.2.2.2.2.1 + (1 : Int)))
    rec ((u.1.1, ((), ((), (u.1.2.2.2.1, (u.1.2.2.2.2.1, (u.1.2.2.2.2.2.1, (v13, ()))))))), ((u.2.1.1, (u.2.1.2.1, ())), ()))
  else none
 else
  some (.inl ((u.1.1, ((), ((), (u.1.2.2.2.1, ())))), ((u.2.1.1, (u.2.1.2.1, ())), ())))
def L_dk_8 (x : i_dk_8.den) : Option (denO o_dk_8) := Qc l_dk_8 lots x
def F_dk (x : denP P_dh) : FO P_dh R_dk :=
 (F_bn (x.1, ())).bind fun r1 =>
 if (r1.1.1 != (0 : Int)) then
  some (((r1.1.1, (([] : List (den YI)), ((0 : Int), (([] : List (den YI)), (false, (false, (false, ((0 : Int), (([] : List (den YI)), (([] : List (den YI)), (([] : List (den Y70)), (([] : List (den YI)), ())))))))))))), ()), ())
 else
  (F_ab (x.1.1, x.2.1, ())).bind fun r2 =>
  if (!r2.1.1) then
   some ((((4 : Int), (([] : List (den YI)), ((0 : Int), (([] : List (den YI)), (false, (false, (false, ((0 : Int), (([] : List (den YI)), (([] : List (den YI)), (([] : List (den Y70)), (([] : List (den YI)), ())))))))))))), ()), ())
  else
   (F_bw (x.1.1, x.2.1, ())).bind fun r3 =>
   let v4 := ((r3.1.1.length : Nat) : Int)
   (L_dk_8 ((x.2.1, ((), ((), ((List.replicate ((64 : Int)).toNat (QbI YI)), (r3.1.1, (v4, ((0 : Int), ()))))))), (((x.1.1.1, (x.1.1.2.1, (x.1.1.2.2.1, (x.1.1.2.2.2.1, (x.1.2.1, (x.1.2.2.1, (x.1.2.2.2.1, (x.1.2.2.2.2.1, (x.1.2.2.2.2.2.1, ()))))))))), (((0 : Int), (([] : List (den YI)), ((0 : Int), (([] : List (den YI)), (false, (false, (false, ((0 : Int), (([] : List (den YI)), (([] : List (den YI)), (([] : List (den Y70)), (([] : List (den YI)), ())))))))))))), ())), ()))).bind fun z14 =>
   match z14 with
   | .inl x15 =>
    if 0 ≤ x15.1.1 then
     ((x15.2.1.1.2.2.2.2.2.1)[(x15.1.1).toNat]?).bind fun y16 =>
     (F_bp (y16, ())).bind fun r17 =>
     (F_dj ((x15.2.1.1.1, (x15.2.1.1.2.1, (x15.2.1.1.2.2.1, (x15.2.1.1.2.2.2.1, ())))), x15.1.1, ())).bind fun r18 =>
     some ((((0 : Int), (r17.1.1.1, (r17.1.1.2.1, (r17.1.1.2.2.1, (r17.1.1.2.2.2.1, (r17.1.1.2.2.2.2.1, (r17.1.1.2.2.2.2.2.1, (r17.1.1.2.2.2.2.2.2.1, (r17.1.1.2.2.2.2.2.2.2.1, (r17.1.1.2.2.2.2.2.2.2.2.1, (r18.1.1, (x15.1.2.2.2.1, ())))))))))))), ()), ())
    else none
   | .inr z14_ =>
    none
abbrev C_dk : Con := ⟨P_dh, R_dk, F_dk, false⟩
abbrev G_dk : Env := [(26, C_bn), (32, C_cc), (33, C_ab), (34, C_bw), (35, C_bp), (36, C_dj)]
theorem g_dk : Qi Tryz.prog G_dk := (Qa s_bn (Qa s_cc (Qa s_ab (Qa s_bw (Qa s_bp (Qa s_dj Qd))))))
abbrev c_dk_8 : Cut := ⟨i_dk_8, o_dk_8, fun x => Qc l_dk_8 lots x⟩
theorem k_dk_8 : QD Tryz.prog 56 (.loop (nav Tryz.f12 [1, 1, 1, 1, 0, 1, 0, 0])) c_dk_8 :=
  Qk (L := []) hT g_dk (fun _ _ => by kernel_rfl) okP _
theorem r_dk (x) : QS T G_dk [(8, c_dk_8)] Tryz.f12 C_dk.ps C_dk.rs x = C_dk.F x := by kernel_rfl
theorem s_dk : Qb Tryz.prog 12 C_dk := fnC (L := [(8, c_dk_8)]) hT g_dk Tryz.f12 (okS okP (okS okP (okS okP (okS okP (okS (okS okP (okB (okU k_dk_8))) okP))))) r_dk
abbrev i_dl_6 : Shp := { slots := [(1, .s (.dat YI)), (15, .s (.dat Y26)), (16, .s (.dat YI)), (17, .s (.dat YI))], boxes := [], rows := [] }
abbrev o_dl_6 : List (Ex × Shp) := [(.exit 1, { slots := [], boxes := [], rows := [] }), (.ret, { slots := [(4, .s (.dat YI))], boxes := [], rows := [] })]
def l_dl_6 (rec : i_dl_6.den → Option (denO o_dl_6)) (u : i_dl_6.den) : Option (denO o_dl_6) :=
 if (ltI u.1.2.2.2.1 u.1.2.2.1) then
  if 0 ≤ u.1.2.2.2.1 then
   ((u.1.2.1)[(u.1.2.2.2.1).toNat]?).bind fun y7 =>
   let v8 := (IntKind.i64.wrap (u.1.1 - (1 : Int)))
   (F_z (y7.1, (-1 : Int), v8, ())).bind fun r9 =>
   if (!r9.1.1) = false then
    (F_z (y7.2.1, (0 : Int), (7 : Int), ())).bind fun r10 =>
    if (!r10.1.1) then
     some (.inr (.inl (((3 : Int), ()), ((), ()))))
    else
     if (y7.1 == (-1 : Int)) = true then
      if (y7.2.1 != (0 : Int)) then
       some (.inr (.inl (((1 : Int), ()), ((), ()))))
      else
       let v11 := (IntKind.i64.wrap (u.1.2.2.2.1 + (1 : Int)))
       rec ((u.1.1, (u.1.2.1, (u.1.2.2.1, (v11, ())))), ((), ()))
     else
      let v12 := (IntKind.i64.wrap (u.1.2.2.2.1 + (1 : Int)))
      rec ((u.1.1, (u.1.2.1, (u.1.2.2.1, (v12, ())))), ((), ()))
   else
    some (.inr (.inl (((3 : Int), ()), ((), ()))))
  else none
 else
  some (.inl ((), ((), ())))
def L_dl_6 (x : i_dl_6.den) : Option (denO o_dl_6) := Qc l_dl_6 lots x
def F_dl (x : denP P_bv) : FO P_bv R_c :=
 (F_z (x.2.1, (1 : Int), (24 : Int), ())).bind fun r1 =>
 if (!r1.1.1) then
  some (((3 : Int), ()), ())
 else
  let v2 := ((x.1.length : Nat) : Int)
  if (v2 != (8 : Int)) then
   some (((1 : Int), ()), ())
  else
   let v3 := ((x.1.length : Nat) : Int)
   (L_dl_6 ((x.2.1, (x.1, (v3, ((0 : Int), ())))), ((), ()))).bind fun z13 =>
   match z13 with
   | .inl x14 =>
    some (((0 : Int), ()), ())
   | .inr z13_ =>
    match z13_ with
    | .inl x15 =>
     some ((x15.1.1, ()), ())
    | .inr z13__ =>
     none
abbrev C_dl : Con := ⟨P_bv, R_c, F_dl, false⟩
theorem g_dl : Qi Tryz.prog G_aa := (Qa s_z Qd)
abbrev c_dl_6 : Cut := ⟨i_dl_6, o_dl_6, fun x => Qc l_dl_6 lots x⟩
theorem k_dl_6 : QD Tryz.prog 44 (.loop (nav Tryz.f74 [1, 1, 0, 1, 0, 0])) c_dl_6 :=
  Qk (L := []) hT g_dl (fun _ _ => by kernel_rfl) okP _
theorem r_dl (x) : QS T G_aa [(6, c_dl_6)] Tryz.f74 C_dl.ps C_dl.rs x = C_dl.F x := by kernel_rfl
theorem s_dl : Qb Tryz.prog 74 C_dl := fnC (L := [(6, c_dl_6)]) hT g_dl Tryz.f74 (okS okP (okS okP (okS (okS okP (okB (okU k_dl_6))) okP))) r_dl
abbrev i_dm_2 : Shp := { slots := [(5, .s (.dat Y32)), (6, .s (.dat YI)), (7, .s (.dat YI))], boxes := [], rows := [] }
def l_dm_2 (rec : i_dm_2.den → Option (denO o_l_4)) (u : i_dm_2.den) : Option (denO o_l_4) :=
 if (ltI u.1.2.2.1 u.1.2.1) then
  if 0 ≤ u.1.2.2.1 then
   ((u.1.1)[(u.1.2.2.1).toNat]?).bind fun y3 =>
   if (y3 != (0 : Int)) then
    some (.inr (.inl ((y3, ()), ((), ()))))
   else
    let v4 := (IntKind.i64.wrap (u.1.2.2.1 + (1 : Int)))
    rec ((u.1.1, (u.1.2.1, (v4, ()))), ((), ()))
  else none
 else
  some (.inl ((), ((), ())))
def L_dm_2 (x : i_dm_2.den) : Option (denO o_l_4) := Qc l_dm_2 lots x
def F_dm (x : denP P_av) : FO P_av R_c :=
 let v1 := ((x.1.length : Nat) : Int)
 (L_dm_2 ((x.1, (v1, ((0 : Int), ()))), ((), ()))).bind fun z5 =>
 match z5 with
 | .inl x6 =>
  some (((0 : Int), ()), ())
 | .inr z5_ =>
  match z5_ with
  | .inl x7 =>
   some ((x7.1.1, ()), ())
  | .inr z5__ =>
   none
abbrev C_dm : Con := ⟨P_av, R_c, F_dm, false⟩
abbrev c_dm_2 : Cut := ⟨i_dm_2, o_l_4, fun x => Qc l_dm_2 lots x⟩
theorem k_dm_2 : QD Tryz.prog 15 (.loop (nav Tryz.f40 [1, 0, 1, 0, 0])) c_dm_2 :=
  Qk (L := []) hT g_a (fun _ _ => by kernel_rfl) okP _
theorem r_dm (x) : QS T G_a [(2, c_dm_2)] Tryz.f40 C_dm.ps C_dm.rs x = C_dm.F x := by kernel_rfl
theorem s_dm : Qb Tryz.prog 40 C_dm := fnC (L := [(2, c_dm_2)]) hT g_a Tryz.f40 (okS okP (okS (okS okP (okB (okU k_dm_2))) okP)) r_dm
abbrev P_dn : List PK := [.val Y49]
def F_dn (x : denP P_dn) : FO P_dn R_c :=
 (F_bk (x.1.1, ())).bind fun r1 =>
 (F_dl (x.1.2.1, (8 : Int), ())).bind fun r2 =>
 (F_dm ([r1.1.1, r2.1.1], ())).bind fun r3 =>
 if (r3.1.1 != (0 : Int)) then
  some ((r3.1.1, ()), ())
 else
  (F_bi (x.1.2.2.1, ())).bind fun r4 =>
  if (r4.1.1 != (0 : Int)) = false then
   let v5 := ((x.1.2.2.1.length : Nat) : Int)
   if (v5 != (64 : Int)) then
    some (((1 : Int), ()), ())
   else
    some (((0 : Int), ()), ())
  else
   some (((1 : Int), ()), ())
abbrev C_dn : Con := ⟨P_dn, R_c, F_dn, false⟩
abbrev G_dn : Env := [(40, C_dm), (62, C_bk), (71, C_bi), (74, C_dl)]
theorem g_dn : Qi Tryz.prog G_dn := (Qa s_dm (Qa s_bk (Qa s_bi (Qa s_dl Qd))))
theorem s_dn : Qb Tryz.prog 37 C_dn := fnC (L := []) hT g_dn Tryz.f37 okP fun _ => by kernel_rfl
abbrev P_do : List PK := [.val Y49, .val YI]
def F_do (x : denP P_do) : FO P_do R_at :=
 (F_dn (x.1, ())).bind fun r1 =>
 if (r1.1.1 != (0 : Int)) then
  some (((r1.1.1, (([] : List (den YI)), ())), ()), ())
 else
  (F_z (x.2.1, (0 : Int), (7 : Int), ())).bind fun r2 =>
  if (!r2.1.1) then
   some ((((3 : Int), (([] : List (den YI)), ())), ()), ())
  else
   (F_cc (x.1.2.2.1, x.2.1, ())).bind fun r3 =>
   some ((((0 : Int), (r3.1.1, ())), ()), ())
abbrev C_do : Con := ⟨P_do, R_at, F_do, false⟩
abbrev G_do : Env := [(27, C_z), (32, C_cc), (37, C_dn)]
theorem g_do : Qi Tryz.prog G_do := (Qa s_z (Qa s_cc (Qa s_dn Qd)))
theorem s_do : Qb Tryz.prog 14 C_do := fnC (L := []) hT g_do Tryz.f14 okP fun _ => by kernel_rfl
abbrev P_dp : List PK := [.val Y32, .val Y32]
abbrev i_dp_4 : Shp := { slots := [(0, .s (.dat Y32)), (1, .s (.dat Y32)), (5, .s (.dat YI))], boxes := [], rows := [] }
def l_dp_4 (rec : i_dp_4.den → Option (denO o_f_2)) (u : i_dp_4.den) : Option (denO o_f_2) :=
 let v5 := ((u.1.1.length : Nat) : Int)
 if (ltI u.1.2.2.1 v5) then
  if 0 ≤ u.1.2.2.1 then
   ((u.1.1)[(u.1.2.2.1).toNat]?).bind fun y6 =>
   if 0 ≤ u.1.2.2.1 then
    ((u.1.2.1)[(u.1.2.2.1).toNat]?).bind fun y7 =>
    if (y6 != y7) then
     some (.inr (.inl ((false, ()), ((), ()))))
    else
     let v8 := (IntKind.i64.wrap (u.1.2.2.1 + (1 : Int)))
     rec ((u.1.1, (u.1.2.1, (v8, ()))), ((), ()))
   else none
  else none
 else
  some (.inl ((), ((), ())))
def L_dp_4 (x : i_dp_4.den) : Option (denO o_f_2) := Qc l_dp_4 lots x
def F_dp (x : denP P_dp) : FO P_dp R_a :=
 let v1 := ((x.1.length : Nat) : Int)
 let v2 := ((x.2.1.length : Nat) : Int)
 if (v1 != v2) then
  some ((false, ()), ())
 else
  (L_dp_4 ((x.1, (x.2.1, ((0 : Int), ()))), ((), ()))).bind fun z9 =>
  match z9 with
  | .inl x10 =>
   some ((true, ()), ())
  | .inr z9_ =>
   match z9_ with
   | .inl x11 =>
    some ((x11.1.1, ()), ())
   | .inr z9__ =>
    none
abbrev C_dp : Con := ⟨P_dp, R_a, F_dp, false⟩
abbrev c_dp_4 : Cut := ⟨i_dp_4, o_f_2, fun x => Qc l_dp_4 lots x⟩
theorem k_dp_4 : QD Tryz.prog 26 (.loop (nav Tryz.f13 [1, 1, 0, 1, 0, 0])) c_dp_4 :=
  Qk (L := []) hT g_a (fun _ _ => by kernel_rfl) okP _
theorem r_dp (x) : QS T G_a [(4, c_dp_4)] Tryz.f13 C_dp.ps C_dp.rs x = C_dp.F x := by kernel_rfl
theorem s_dp : Qb Tryz.prog 13 C_dp := fnC (L := [(4, c_dp_4)]) hT g_a Tryz.f13 (okS okP (okS okP (okS (okS okP (okB (okU k_dp_4))) okP))) r_dp
abbrev i_dq_9 : Shp := { slots := [(3, .s (.ptr 3 0)), (7, .s (.ptr 7 0)), (8, .s (.dat YI))], boxes := [(3, [.dat Y24, .dat Y25, .dat Y26, .dat Y26]), (7, [.dat YI, .dat Y24, .dat Y25, .dat Y26, .dat Y26, .own 2 YI, .own 47 Y46, .dat YI, .dat YI, .dat YI])], rows := [] }
abbrev o_dq_9 : List (Ex × Shp) := [(.exit 0, { slots := [], boxes := [], rows := [] }), (.ret, { slots := [(2, .s (.dat .bool))], boxes := [], rows := [] })]
def l_dq_9 (rec : i_dq_9.den → Option (denO o_dq_9)) (u : i_dq_9.den) : Option (denO o_dq_9) :=
 let v16 := ((u.2.1.1.2.1.length : Nat) : Int)
 if (ltI u.1.2.2.1 v16) then
  if 0 ≤ u.1.2.2.1 then
   ((u.2.1.1.2.1)[(u.1.2.2.1).toNat]?).bind fun y17 =>
   (F_di (u.2.1.1, u.2.1.2.1.2.2.2.2.2.1, u.1.2.2.1, ())).bind fun r18 =>
   (F_dk (((u.2.1.2.1.2.1, (u.2.1.2.1.2.2.1, (u.2.1.2.1.2.2.2.1, (u.2.1.2.1.2.2.2.2.1, ())))), (u.2.1.2.1.2.2.2.2.2.1, (u.2.1.2.1.2.2.2.2.2.2.1, (u.2.1.2.1.2.2.2.2.2.2.2.1, (u.2.1.2.1.2.2.2.2.2.2.2.2.1, (u.2.1.2.1.2.2.2.2.2.2.2.2.2.1, ())))))), y17.2.1, ())).bind fun r19 =>
   (F_dk (((u.2.1.2.1.2.1, (u.2.1.2.1.2.2.1, (u.2.1.2.1.2.2.2.1, (u.2.1.2.1.2.2.2.2.1, ())))), (u.2.1.2.1.2.2.2.2.2.1, (u.2.1.2.1.2.2.2.2.2.2.1, (u.2.1.2.1.2.2.2.2.2.2.2.1, (u.2.1.2.1.2.2.2.2.2.2.2.2.1, (u.2.1.2.1.2.2.2.2.2.2.2.2.2.1, ())))))), y17.1, ())).bind fun r20 =>
   if (r18.1.1.1 != (0 : Int)) = false then
    (F_do (((r19.1.1.2.1, (r19.1.1.2.2.1, (r19.1.1.2.2.2.1, (r19.1.1.2.2.2.2.1, (r19.1.1.2.2.2.2.2.1, (r19.1.1.2.2.2.2.2.2.1, (r19.1.1.2.2.2.2.2.2.2.1, (r19.1.1.2.2.2.2.2.2.2.2.1, (r19.1.1.2.2.2.2.2.2.2.2.2.1, ()))))))))), (r19.1.1.2.2.2.2.2.2.2.2.2.2.1, (r19.1.1.2.2.2.2.2.2.2.2.2.2.2.1, ()))), y17.2.2.2.2.1, ())).bind fun r21 =>
    (F_dp (r21.1.1.2.1, r18.1.1.2.1, ())).bind fun r22 =>
    if (!r22.1.1) = false then
     (F_do (((r20.1.1.2.1, (r20.1.1.2.2.1, (r20.1.1.2.2.2.1, (r20.1.1.2.2.2.2.1, (r20.1.1.2.2.2.2.2.1, (r20.1.1.2.2.2.2.2.2.1, (r20.1.1.2.2.2.2.2.2.2.1, (r20.1.1.2.2.2.2.2.2.2.2.1, (r20.1.1.2.2.2.2.2.2.2.2.2.1, ()))))))))), (r20.1.1.2.2.2.2.2.2.2.2.2.2.1, (r20.1.1.2.2.2.2.2.2.2.2.2.2.2.1, ()))), y17.2.2.2.1, ())).bind fun r23 =>
     (F_dp (r23.1.1.2.1, r18.1.1.2.1, ())).bind fun r24 =>
     if (!r24.1.1) then
      some (.inr (.inl ((false, ()), ((), ()))))
     else
      let v25 := (IntKind.i64.wrap (u.1.2.2.1 + (1 : Int)))
      rec (((), ((), (v25, ()))), ((u.2.1.1, (u.2.1.2.1, ())), ()))
    else
     some (.inr (.inl ((false, ()), ((), ()))))
   else
    some (.inr (.inl ((false, ()), ((), ()))))
  else none
 else
  some (.inl ((), ((), ())))
def L_dq_9 (x : i_dq_9.den) : Option (denO o_dq_9) := Qc l_dq_9 lots x
def F_dq (x : denP P_a) : FO P_a R_a :=
 (F_a (x.1, ())).bind fun r1 =>
 if r1.1.1 then
  some ((true, ()), ())
 else
  (F_y (x.1, ())).bind fun r2 =>
  (F_bg (r2.1.1, r2.1.2.1, r2.1.2.2.1, ())).bind fun r3 =>
  (F_bh (x.1, (5 : Int), (60 : Int), ())).bind fun r4 =>
  (F_dh (((r3.1.1.2.1, (r3.1.1.2.2.1, (r3.1.1.2.2.2.1, (r3.1.1.2.2.2.2.1, ())))), (r3.1.1.2.2.2.2.2.1, (r3.1.1.2.2.2.2.2.2.1, (r3.1.1.2.2.2.2.2.2.2.1, (r3.1.1.2.2.2.2.2.2.2.2.1, (r3.1.1.2.2.2.2.2.2.2.2.2.1, ())))))), r4.1.1, ())).bind fun r5 =>
  if (r3.1.1.1 != (0 : Int)) = false then
   if (r5.1.1.1 != (0 : Int)) = false then
    let v6 := ((r5.1.1.2.2.2.2.2.2.1.length : Nat) : Int)
    let v7 := ((r2.1.1.1.length : Nat) : Int)
    if (v6 != v7) then
     some ((false, ()), ())
    else
     (L_dq_9 (((), ((), ((0 : Int), ()))), (((r2.1.1.1, (r2.1.1.2.1, (r2.1.1.2.2.1, (r2.1.1.2.2.2.1, ())))), (r5.1.1, ())), ()))).bind fun z26 =>
     match z26 with
     | .inl x27 =>
      some ((true, ()), ())
     | .inr z26_ =>
      match z26_ with
      | .inl x28 =>
       some ((x28.1.1, ()), ())
      | .inr z26__ =>
       none
   else
    some ((false, ()), ())
  else
   some ((false, ()), ())
abbrev C_dq : Con := ⟨P_a, R_a, F_dq, false⟩
abbrev G_dq : Env := [(6, C_a), (7, C_y), (8, C_bg), (9, C_dh), (10, C_bh), (11, C_di), (12, C_dk), (13, C_dp), (14, C_do)]
theorem g_dq : Qi Tryz.prog G_dq := (Qa s_a (Qa s_y (Qa s_bg (Qa s_dh (Qa s_bh (Qa s_di (Qa s_dk (Qa s_dp (Qa s_do Qd)))))))))
abbrev c_dq_9 : Cut := ⟨i_dq_9, o_dq_9, fun x => Qc l_dq_9 lots x⟩
theorem k_dq_9 : QD Tryz.prog 103 (.loop (nav Tryz.f3 [1, 1, 1, 1, 1, 1, 0, 1, 0, 0])) c_dq_9 :=
  Qk (L := []) hT g_dq (fun _ _ => by kernel_rfl) okP _
theorem r_dq (x) : QS T G_dq [(9, c_dq_9)] Tryz.f3 C_dq.ps C_dq.rs x = C_dq.F x := by kernel_rfl
theorem s_dq : Qb Tryz.prog 3 C_dq := fnC (L := [(9, c_dq_9)]) hT g_dq Tryz.f3 (okS okP (okS okP (okS okP (okS okP (okS okP (okS okP (okS (okS okP (okB (okU k_dq_9))) okP))))))) r_dq
theorem q_dq : Qfd Tryz.prog 3 C_dq :=
  QsI (L := [(9, c_dq_9)]) hT g_dq Tryz.f3 (by kernel_rfl) (by kernel_rfl) (okS okP (okS okP (okS okP (okS okP (okS okP (okS okP (okS (okS okP (okB (okU k_dq_9))) okP))))))) r_dq
end Go.Proofs.YtmoninjbahccoaaGreatDoor
