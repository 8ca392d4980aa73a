/- The functions of the laws, each as a plain function of data (F), and that the program's text does what F says. Printed by a program (wip/tools/gen.py). -/
import Derived.Test.YtopmpmbdkieenaaGreatDoorGa2
namespace Go.Proofs.YtopmpmbdkieenaaGreatDoor
open Go Go.RowKit S Go.Proofs
set_option maxRecDepth 100000
set_option linter.unusedVariables false
abbrev i_dr_14 : Shp := { slots := [(1, .s (.ptr 1 0)), (43, .s (.dat Y24)), (44, .s (.dat YI)), (45, .s (.dat YI))], boxes := [(1, [.dat Y22, .dat Y23, .dat Y24, .dat Y24])], rows := [] }
abbrev o_dr_14 : List (Ex × Shp) := [(.exit 2, { slots := [(1, .s (.ptr 1 0))], boxes := [(1, [.dat Y22, .dat Y23, .dat Y24, .dat Y24])], rows := [] }), (.ret, { slots := [(2, .s (.dat YI))], boxes := [], rows := [] })]
def l_dr_14 (rec : i_dr_14.den → Option (denO o_dr_14)) (u : i_dr_14.den) : Option (denO o_dr_14) :=
 if (ltI u.1.2.2.2.1 u.1.2.2.1) then
  if 0 ≤ u.1.2.2.2.1 then
   ((u.1.2.1)[(u.1.2.2.2.1).toNat]?).bind fun y16 =>
   if 0 ≤ (0 : Int) ∧ (0 : Int) ≤ u.1.2.2.2.1 ∧ u.1.2.2.2.1 ≤ ((u.2.1.1.2.2.1.length : Nat) : Int) then
    let v17 := ((u.2.1.1.2.2.1.drop ((0 : Int)).toNat).take ((u.1.2.2.2.1).toNat - ((0 : Int)).toNat))
    (F_dp (u.2.1.1, y16, v17, ())).bind fun r18 =>
    if (r18.1.1 != (0 : Int)) then
     some (.inr (.inl ((r18.1.1, ()), ((), ()))))
    else
     let v19 := (IntKind.i64.wrap (u.1.2.2.2.1 + (1 : Int)))
     rec (((), (u.1.2.1, (u.1.2.2.1, (v19, ())))), ((u.2.1.1, ()), ()))
   else none
  else none
 else
  some (.inl (((), ()), ((u.2.1.1, ()), ())))
def L_dr_14 (x : i_dr_14.den) : Option (denO o_dr_14) := Qc l_dr_14 lots x
abbrev i_dr_7 : Shp := { slots := [(1, .s (.ptr 1 0)), (25, .s (.dat Y23)), (26, .s (.dat YI)), (27, .s (.dat YI))], boxes := [(1, [.dat Y22, .dat Y23, .dat Y24, .dat Y24])], rows := [] }
abbrev o_dr_7 : List (Ex × Shp) := [(.exit 0, { slots := [(1, .s (.ptr 1 0))], boxes := [(1, [.dat Y22, .dat Y23, .dat Y24, .dat Y24])], rows := [] }), (.ret, { slots := [(2, .s (.dat YI))], boxes := [], rows := [] })]
def l_dr_7 (rec : i_dr_7.den → Option (denO o_dr_7)) (u : i_dr_7.den) : Option (denO o_dr_7) :=
 if (ltI u.1.2.2.2.1 u.1.2.2.1) then
  if 0 ≤ u.1.2.2.2.1 then
   ((u.1.2.1)[(u.1.2.2.2.1).toNat]?).bind fun y7 =>
   if 0 ≤ (0 : Int) ∧ (0 : Int) ≤ u.1.2.2.2.1 ∧ u.1.2.2.2.1 ≤ ((u.2.1.1.2.1.length : Nat) : Int) then
    let v8 := ((u.2.1.1.2.1.drop ((0 : Int)).toNat).take ((u.1.2.2.2.1).toNat - ((0 : Int)).toNat))
    (F_dj (u.2.1.1, y7, v8, ())).bind fun r9 =>
    if (r9.1.1 != (0 : Int)) then
     some (.inr (.inl ((r9.1.1, ()), ((), ()))))
    else
     let v10 := (IntKind.i64.wrap (u.1.2.2.2.1 + (1 : Int)))
     rec (((), (u.1.2.1, (u.1.2.2.1, (v10, ())))), ((u.2.1.1, ()), ()))
   else none
  else none
 else
  some (.inl (((), ()), ((u.2.1.1, ()), ())))
def L_dr_7 (x : i_dr_7.den) : Option (denO o_dr_7) := Qc l_dr_7 lots x
def F_dr (x : denP P_t) : FO P_t R_a :=
 (F_da (x.1, ())).bind fun r1 =>
 if (r1.1.1 != (0 : Int)) then
  some ((r1.1.1, ()), ())
 else
  let v2 := ((x.1.2.1.length : Nat) : Int)
  if (ltI (4 : Int) v2) = false then
   let v3 := ((x.1.2.2.1.length : Nat) : Int)
   if (ltI (4 : Int) v3) then
    some (((2 : Int), ()), ())
   else
    let v4 := ((x.1.2.1.length : Nat) : Int)
    (L_dr_7 (((), (x.1.2.1, (v4, ((0 : Int), ())))), (((x.1.1, (x.1.2.1, (x.1.2.2.1, (x.1.2.2.2.1, ())))), ()), ()))).bind fun z11 =>
    match z11 with
    | .inl x12 =>
     let v13 := ((x12.2.1.1.2.2.1.length : Nat) : Int)
     (L_dr_14 (((), (x12.2.1.1.2.2.1, (v13, ((0 : Int), ())))), ((x12.2.1.1, ()), ()))).bind fun z20 =>
     match z20 with
     | .inl x21 =>
      (F_dq (x21.2.1.1, ())).bind fun r22 =>
      some ((r22.1.1, ()), ())
     | .inr z20_ =>
      match z20_ with
      | .inl x23 =>
       some ((x23.1.1, ()), ())
      | .inr z20__ =>
       none
    | .inr z11_ =>
     match z11_ with
     | .inl x24 =>
      some ((x24.1.1, ()), ())
     | .inr z11__ =>
      none
  else
   some (((2 : Int), ()), ())
abbrev C_dr : Con := ⟨P_t, R_a, F_dr, false⟩
abbrev G_dr : Env := [(124, C_da), (125, C_dj), (126, C_dp), (127, C_dq)]
theorem g_dr : Qe Tryz.prog G_dr := (Qa s_da (Qa s_dj (Qa s_dp (Qa s_dq Qd))))
abbrev c_dr_14 : Cut := ⟨i_dr_14, o_dr_14, fun x => Qc l_dr_14 lots x⟩
theorem k_dr_14 : Qo Tryz.prog 61 (.loop (nav Tryz.f78 [1, 1, 1, 1, 0, 1, 0, 0])) c_dr_14 :=
  Qf (L := []) hT g_dr (fun _ _ => by kernel_rfl) okP _
abbrev c_dr_7 : Cut := ⟨i_dr_7, o_dr_7, fun x => Qc l_dr_7 lots x⟩
theorem k_dr_7 : Qo Tryz.prog 61 (.loop (nav Tryz.f78 [1, 1, 1, 0, 1, 0, 0])) c_dr_7 :=
  Qf (L := []) hT g_dr (fun _ _ => by kernel_rfl) okP _
theorem r_dr (x) : Qv T G_dr [(14, c_dr_14), (7, c_dr_7)] Tryz.f78 C_dr.ps C_dr.rs x = C_dr.F x := by kernel_rfl
theorem s_dr : Qb Tryz.prog 78 C_dr := fnC (L := [(14, c_dr_14), (7, c_dr_7)]) hT g_dr Tryz.f78 (okS okP (okS okP (okS okP (okS (okS okP (okB (okU k_dr_7))) (okS (okS okP (okB (okU k_dr_14))) okP))))) r_dr
def F_ds (x : denP P_am) : FO P_am R_aa :=
 (F_cz (x.1, (0 : Int), (4294967295 : Int), ())).bind fun r1 =>
 some ((r1.1.1, ()), ())
abbrev C_ds : Con := ⟨P_am, R_aa, F_ds, false⟩
theorem g_ds : Qe Tryz.prog G_da := (Qa s_cz Qd)
theorem s_ds : Qb Tryz.prog 129 C_ds := fnC (L := []) hT g_ds Tryz.f129 okP fun _ => by kernel_rfl
def F_dt_1 (x : denP P_am) : FO P_am R_aa :=
 (F_ds (x.1, ())).bind fun r1 =>
 some (((!r1.1.1), ()), ())
abbrev C_dt_1 : Con := ⟨P_am, R_aa, F_dt_1, false⟩
abbrev G_dt_1 : Env := [(129, C_ds)]
theorem g_dt_1 : Qe Tryz.prog G_dt_1 := (Qa s_ds Qd)
theorem s_dt_1 : Qb Tryz.prog 170 C_dt_1 := fnC (L := []) hT g_dt_1 Tryz.f170 okP fun _ => by kernel_rfl
abbrev P_du_1 : List PK := [.val Y28, .fn 170 []]
abbrev i_dv_2 : Shp := { slots := [(0, .s (.dat Y28)), (1, .s (.fn 170 [])), (7, .s (.dat YI)), (8, .s (.dat YI))], boxes := [], rows := [] }
def l_dv_2 (rec : i_dv_2.den → Option (denO o_af_2)) (u : i_dv_2.den) : Option (denO o_af_2) :=
 if (ltI u.1.2.2.2.1 u.1.2.2.1) then
  if 0 ≤ u.1.2.2.2.1 then
   ((u.1.1)[(u.1.2.2.2.1).toNat]?).bind fun y4 =>
   (F_dt_1 (y4, ())).bind fun r5 =>
   if r5.1.1 then
    some (.inr (.inl ((u.1.2.2.2.1, ()), ((), ()))))
   else
    let v6 := (IntKind.i64.wrap (u.1.2.2.2.1 + (1 : Int)))
    rec ((u.1.1, ((), (u.1.2.2.1, (v6, ())))), ((), ()))
  else none
 else
  some (.inl ((), ((), ())))
def L_dv_2 (x : i_dv_2.den) : Option (denO o_af_2) := Qc l_dv_2 lots x
def F_du_1 (x : denP P_du_1) : FO P_du_1 R_a :=
 let v1 := ((x.1.length : Nat) : Int)
 (L_dv_2 ((x.1, ((), (v1, ((0 : Int), ())))), ((), ()))).bind fun z7 =>
 match z7 with
 | .inl x8 =>
  some (((-1 : Int), ()), ())
 | .inr z7_ =>
  match z7_ with
  | .inl x9 =>
   some ((x9.1.1, ()), ())
  | .inr z7__ =>
   none
abbrev C_du_1 : Con := ⟨P_du_1, R_a, F_du_1, false⟩
abbrev G_du_1 : Env := [(170, C_dt_1)]
theorem g_du_1 : Qe Tryz.prog G_du_1 := (Qa s_dt_1 Qd)
abbrev c_dv_2 : Cut := ⟨i_dv_2, o_af_2, fun x => Qc l_dv_2 lots x⟩
theorem k_dv_2 : Qo Tryz.prog 19 (.loop (nav Tryz.f194 [1, 0, 1, 0, 0])) c_dv_2 :=
  Qf (L := []) hT g_du_1 (fun _ _ => by kernel_rfl) okP _
theorem r_du_1 (x) : Qv T G_du_1 [(2, c_dv_2)] Tryz.f194 C_du_1.ps C_du_1.rs x = C_du_1.F x := by kernel_rfl
theorem s_du_1 : Qb Tryz.prog 194 C_du_1 := fnC (L := [(2, c_dv_2)]) hT g_du_1 Tryz.f194 (okS okP (okS (okS okP (okB (okU k_dv_2))) okP)) r_du_1
def F_dw_1 (x : denP P_du_1) : FO P_du_1 R_aa :=
 (F_du_1 (x.1, (), ())).bind fun r1 =>
 some (((leI (0 : Int) r1.1.1), ()), ())
abbrev C_dw_1 : Con := ⟨P_du_1, R_aa, F_dw_1, false⟩
abbrev G_dw_1 : Env := [(194, C_du_1)]
theorem g_dw_1 : Qe Tryz.prog G_dw_1 := (Qa s_du_1 Qd)
theorem s_dw_1 : Qb Tryz.prog 169 C_dw_1 := fnC (L := []) hT g_dw_1 Tryz.f169 okP fun _ => by kernel_rfl
def F_dt (x : denP P_l) : FO P_l R_aa :=
 (F_dw_1 (x.1, (), ())).bind fun r1 =>
 some (((!r1.1.1), ()), ())
abbrev C_dt : Con := ⟨P_l, R_aa, F_dt, false⟩
abbrev G_dt : Env := [(169, C_dw_1)]
theorem g_dt : Qe Tryz.prog G_dt := (Qa s_dw_1 Qd)
theorem s_dt : Qb Tryz.prog 128 C_dt := fnC (L := []) hT g_dt Tryz.f128 okP fun _ => by kernel_rfl
def F_dx (x : denP P_l) : FO P_l R_a :=
 let v1 := ((x.1.length : Nat) : Int)
 if (v1 == (0 : Int)) = false then
  let v2 := ((x.1.length : Nat) : Int)
  if (ltI (192 : Int) v2) = false then
   let v3 := ((x.1.length : Nat) : Int)
   let v4 := ((v3).tmod (8 : Int))
   if (v4 != (0 : Int)) then
    some (((1 : Int), ()), ())
   else
    (F_dt (x.1, ())).bind fun r5 =>
    if (!r5.1.1) then
     some (((3 : Int), ()), ())
    else
     some (((0 : Int), ()), ())
  else
   some (((1 : Int), ()), ())
 else
  some (((1 : Int), ()), ())
abbrev C_dx : Con := ⟨P_l, R_a, F_dx, false⟩
abbrev G_dx : Env := [(128, C_dt)]
theorem g_dx : Qe Tryz.prog G_dx := (Qa s_dt Qd)
theorem s_dx : Qb Tryz.prog 84 C_dx := fnC (L := []) hT g_dx Tryz.f84 okP fun _ => by kernel_rfl
def F_dy (x : denP P_l) : FO P_l R_aa :=
 (F_dx (x.1, ())).bind fun r1 =>
 if (r1.1.1 == (0 : Int)) = true then
  let v2 := ((x.1.length : Nat) : Int)
  some (((v2 == (192 : Int)), ()), ())
 else
  some ((false, ()), ())
abbrev C_dy : Con := ⟨P_l, R_aa, F_dy, false⟩
abbrev G_dy : Env := [(84, C_dx)]
theorem g_dy : Qe Tryz.prog G_dy := (Qa s_dx Qd)
theorem s_dy : Qb Tryz.prog 79 C_dy := fnC (L := []) hT g_dy Tryz.f79 okP fun _ => by kernel_rfl
def F_dz (x : denP P_u) : FO P_u R_a :=
 let v1 := ((x.1.1.length : Nat) : Int)
 if (v1 != (16 : Int)) = false then
  let v2 := ((x.1.2.2.1.length : Nat) : Int)
  if (v2 != (11 : Int)) = false then
   ((x.1.1)[((0 : Int)).toNat]?).bind fun y3 =>
   if (y3 != (0 : Int)) then
    some (((1 : Int), ()), ())
   else
    (F_dt (x.1.1, ())).bind fun r4 =>
    if (!r4.1.1) = false then
     (F_ds (x.1.2.1, ())).bind fun r5 =>
     if (!r5.1.1) = false then
      (F_dt (x.1.2.2.1, ())).bind fun r6 =>
      if (!r6.1.1) = false then
       (F_dt (x.1.2.2.2.2.2.2.2.1, ())).bind fun r7 =>
       if (!r7.1.1) = false then
        (F_dt (x.1.2.2.2.2.2.2.2.2.1, ())).bind fun r8 =>
        if (!r8.1.1) then
         some (((3 : Int), ()), ())
        else
         let v9 := ((x.1.2.2.2.2.2.2.2.1.length : Nat) : Int)
         if (ltI (40 : Int) v9) = false then
          let v10 := ((x.1.2.2.2.2.2.2.2.2.1.length : Nat) : Int)
          if (ltI (40 : Int) v10) then
           some (((2 : Int), ()), ())
          else
           (F_cz (x.1.2.2.2.2.2.2.1, (0 : Int), (1000000000 : Int), ())).bind fun r11 =>
           if (!r11.1.1) then
            some (((3 : Int), ()), ())
           else
            ((x.1.2.2.1)[((0 : Int)).toNat]?).bind fun y12 =>
            if (ltI (3 : Int) y12) = false then
             ((x.1.2.2.1)[((7 : Int)).toNat]?).bind fun y13 =>
             if (ltI (7 : Int) y13) = false then
              ((x.1.2.2.1)[((10 : Int)).toNat]?).bind fun y14 =>
              if (ltI (8 : Int) y14) = false then
               ((x.1.2.2.1)[((6 : Int)).toNat]?).bind fun y15 =>
               if (y15 != (0 : Int)) = false then
                ((x.1.2.2.1)[((8 : Int)).toNat]?).bind fun y16 =>
                if (y16 != (0 : Int)) then
                 some (((1 : Int), ()), ())
                else
                 some (((0 : Int), ()), ())
               else
                some (((1 : Int), ()), ())
              else
               some (((1 : Int), ()), ())
             else
              some (((1 : Int), ()), ())
            else
             some (((1 : Int), ()), ())
         else
          some (((2 : Int), ()), ())
       else
        some (((3 : Int), ()), ())
      else
       some (((3 : Int), ()), ())
     else
      some (((3 : Int), ()), ())
    else
     some (((3 : Int), ()), ())
  else
   some (((1 : Int), ()), ())
 else
  some (((1 : Int), ()), ())
abbrev C_dz : Con := ⟨P_u, R_a, F_dz, false⟩
abbrev G_dz : Env := [(81, C_cz), (128, C_dt), (129, C_ds)]
theorem g_dz : Qe Tryz.prog G_dz := (Qa s_cz (Qa s_dt (Qa s_ds Qd)))
theorem s_dz : Qb Tryz.prog 80 C_dz := fnC (L := []) hT g_dz Tryz.f80 okP fun _ => by kernel_rfl
abbrev i_ea_3 : Shp := { slots := [(1, .s (.dat YI)), (5, .s (.dat YI)), (11, .s (.dat Y24)), (12, .s (.dat YI)), (13, .s (.dat YI))], boxes := [], rows := [] }
abbrev o_ea_3 : List (Ex × Shp) := [(.exit 0, { slots := [(5, .s (.dat YI))], boxes := [], rows := [] })]
def l_ea_3 (rec : i_ea_3.den → Option (denO o_ea_3)) (u : i_ea_3.den) : Option (denO o_ea_3) :=
 if (ltI u.1.2.2.2.2.1 u.1.2.2.2.1) then
  if 0 ≤ u.1.2.2.2.2.1 then
   ((u.1.2.2.1)[(u.1.2.2.2.2.1).toNat]?).bind fun y3 =>
   if (ltI u.1.1 (0 : Int)) = false then
    if (y3.1 == u.1.1) then
     let v4 := (IntKind.i64.wrap (u.1.2.1 + y3.2.1))
     let v5 := (IntKind.i64.wrap (u.1.2.2.2.2.1 + (1 : Int)))
     rec ((u.1.1, (v4, (u.1.2.2.1, (u.1.2.2.2.1, (v5, ()))))), ((), ()))
    else
     let v6 := (IntKind.i64.wrap (u.1.2.2.2.2.1 + (1 : Int)))
     rec ((u.1.1, (u.1.2.1, (u.1.2.2.1, (u.1.2.2.2.1, (v6, ()))))), ((), ()))
   else
    let v7 := (IntKind.i64.wrap (u.1.2.1 + y3.2.1))
    let v8 := (IntKind.i64.wrap (u.1.2.2.2.2.1 + (1 : Int)))
    rec ((u.1.1, (v7, (u.1.2.2.1, (u.1.2.2.2.1, (v8, ()))))), ((), ()))
  else none
 else
  some (.inl ((u.1.2.1, ()), ((), ())))
def L_ea_3 (x : i_ea_3.den) : Option (denO o_ea_3) := Qc l_ea_3 lots x
def F_ea (x : denP P_ad) : FO P_ad R_a :=
 let v1 := ((x.1.2.2.2.1.length : Nat) : Int)
 (L_ea_3 ((x.2.1, ((0 : Int), (x.1.2.2.2.1, (v1, ((0 : Int), ()))))), ((), ()))).bind fun z9 =>
 match z9 with
 | .inl x10 =>
  some ((x10.1.1, ()), ())
 | .inr z9_ =>
  none
abbrev C_ea : Con := ⟨P_ad, R_a, F_ea, false⟩
abbrev c_ea_3 : Cut := ⟨i_ea_3, o_ea_3, fun x => Qc l_ea_3 lots x⟩
theorem k_ea_3 : Qo Tryz.prog 31 (.loop (nav Tryz.f130 [1, 1, 0, 1, 0, 0])) c_ea_3 :=
  Qf (L := []) hT g_a (fun _ _ => by kernel_rfl) okP _
theorem r_ea (x) : Qv T G_a [(3, c_ea_3)] Tryz.f130 C_ea.ps C_ea.rs x = C_ea.F x := by kernel_rfl
theorem s_ea : Qb Tryz.prog 130 C_ea := fnC (L := [(3, c_ea_3)]) hT g_a Tryz.f130 (okS okP (okS okP (okS (okS okP (okB (okU k_ea_3))) okP))) r_ea
abbrev i_eb_3 : Shp := { slots := [(0, .s (.pd Y26)), (1, .s (.dat YI)), (6, .s (.dat YI))], boxes := [], rows := [] }
def l_eb_3 (rec : i_eb_3.den → Option (denO o_ap_3)) (u : i_eb_3.den) : Option (denO o_ap_3) :=
 if 0 ≤ u.1.2.2.1 then
  ((u.1.1.2.2.2.1)[(u.1.2.2.1).toNat]?).bind fun y5 =>
  if (leI y5.2.1 u.1.2.1) then
   if 0 ≤ u.1.2.2.1 then
    ((u.1.1.2.2.2.1)[(u.1.2.2.1).toNat]?).bind fun y6 =>
    let v7 := (IntKind.i64.wrap (u.1.2.1 - y6.2.1))
    let v8 := (IntKind.i64.wrap (u.1.2.2.1 + (1 : Int)))
    rec ((u.1.1, (v7, (v8, ()))), ((), ()))
   else none
  else
   some (.inl ((u.1.1, (u.1.2.1, (u.1.2.2.1, ()))), ((), ())))
 else none
def L_eb_3 (x : i_eb_3.den) : Option (denO o_ap_3) := Qc l_eb_3 lots x
def F_eb (x : denP P_ad) : FO P_ad R_ap :=
 (F_ea (x.1, (-1 : Int), ())).bind fun r1 =>
 if r1.1.1 = 0 then none else
 let v2 := ((x.2.1).tmod r1.1.1)
 (L_eb_3 ((x.1, (v2, ((0 : Int), ()))), ((), ()))).bind fun z9 =>
 match z9 with
 | .inl x10 =>
  if 0 ≤ x10.1.2.2.1 then
   ((x10.1.1.2.2.2.1)[(x10.1.2.2.1).toNat]?).bind fun y11 =>
   let v12 := (IntKind.i64.wrap (y11.2.1 - x10.1.2.1))
   some ((x10.1.2.2.1, v12, ()), ())
  else none
 | .inr z9_ =>
  none
abbrev C_eb : Con := ⟨P_ad, R_ap, F_eb, false⟩
abbrev G_eb : Env := [(130, C_ea)]
theorem g_eb : Qe Tryz.prog G_eb := (Qa s_ea Qd)
abbrev c_eb_3 : Cut := ⟨i_eb_3, o_ap_3, fun x => Qc l_eb_3 lots x⟩
theorem k_eb_3 : Qo Tryz.prog 44 (.loop (nav Tryz.f82 [1, 1, 1, 0, 0, 0])) c_eb_3 :=
  Qf (L := []) hT g_eb (fun _ _ => by kernel_rfl) okP _
theorem r_eb (x) : Qv T G_eb [(3, c_eb_3)] Tryz.f82 C_eb.ps C_eb.rs x = C_eb.F x := by kernel_rfl
theorem s_eb : Qb Tryz.prog 82 C_eb := fnC (L := [(3, c_eb_3)]) hT g_eb Tryz.f82 (okS okP (okS okP (okS okP (okS (okB (okU k_eb_3)) okP)))) r_eb
abbrev i_ec_7 : Shp := { slots := [(1, .s (.ptr 1 0)), (30, .s (.dat Y29)), (31, .s (.dat YI)), (32, .s (.dat YI))], boxes := [(1, [.dat Y22, .dat Y23, .dat Y24, .dat Y24, .dat Y28, .dat Y29, .dat YI, .dat YI, .dat YI])], rows := [] }
abbrev o_ec_7 : List (Ex × Shp) := [(.exit 0, { slots := [(1, .s (.ptr 1 0))], boxes := [(1, [.dat Y22, .dat Y23, .dat Y24, .dat Y24, .dat Y28, .dat Y29, .dat YI, .dat YI, .dat YI])], rows := [] }), (.ret, { slots := [(2, .s (.dat YI))], boxes := [], rows := [] })]
def l_ec_7 (rec : i_ec_7.den → Option (denO o_ec_7)) (u : i_ec_7.den) : Option (denO o_ec_7) :=
 if (ltI u.1.2.2.2.1 u.1.2.2.1) then
  if 0 ≤ u.1.2.2.2.1 then
   ((u.1.2.1)[(u.1.2.2.2.1).toNat]?).bind fun y8 =>
   (F_dz (y8, ())).bind fun r9 =>
   if (r9.1.1 != (0 : Int)) then
    some (.inr (.inl ((r9.1.1, ()), ((), ()))))
   else
    let v10 := (IntKind.i64.wrap (u.1.2.2.2.1 + (1 : Int)))
    rec (((), (u.1.2.1, (u.1.2.2.1, (v10, ())))), ((u.2.1.1, ()), ()))
  else none
 else
  some (.inl (((), ()), ((u.2.1.1, ()), ())))
def L_ec_7 (x : i_ec_7.den) : Option (denO o_ec_7) := Qc l_ec_7 lots x
def F_ec (x : denP P_w) : FO P_w R_a :=
 (F_dr (x.1.1, ())).bind fun r1 =>
 if (r1.1.1 != (0 : Int)) then
  some ((r1.1.1, ()), ())
 else
  (F_dy (x.1.2.1, ())).bind fun r2 =>
  if (!r2.1.1) = false then
   let v3 := ((x.1.2.2.1.length : Nat) : Int)
   let v4 := ((x.1.1.1.length : Nat) : Int)
   if (v3 != v4) then
    some (((1 : Int), ()), ())
   else
    let v5 := ((x.1.2.2.1.length : Nat) : Int)
    (L_ec_7 (((), (x.1.2.2.1, (v5, ((0 : Int), ())))), (((x.1.1.1, (x.1.1.2.1, (x.1.1.2.2.1, (x.1.1.2.2.2.1, (x.1.2.1, (x.1.2.2.1, (x.1.2.2.2.1, (x.1.2.2.2.2.1, (x.1.2.2.2.2.2.1, ()))))))))), ()), ()))).bind fun z11 =>
    match z11 with
    | .inl x12 =>
     (F_cz (x12.2.1.1.2.2.2.2.2.2.2.2.1, (0 : Int), (1000000 : Int), ())).bind fun r13 =>
     if (!r13.1.1) then
      some (((3 : Int), ()), ())
     else
      (F_eb ((x12.2.1.1.1, (x12.2.1.1.2.1, (x12.2.1.1.2.2.1, (x12.2.1.1.2.2.2.1, ())))), x12.2.1.1.2.2.2.2.2.2.2.2.1, ())).bind fun r14 =>
      if (x12.2.1.1.2.2.2.2.2.2.1 != r14.1.1) = false then
       if (x12.2.1.1.2.2.2.2.2.2.2.1 != r14.1.2.1) then
        some (((1 : Int), ()), ())
       else
        some (((0 : Int), ()), ())
      else
       some (((1 : Int), ()), ())
    | .inr z11_ =>
     match z11_ with
     | .inl x15 =>
      some ((x15.1.1, ()), ())
     | .inr z11__ =>
      none
  else
   some (((1 : Int), ()), ())
abbrev C_ec : Con := ⟨P_w, R_a, F_ec, false⟩
abbrev G_ec : Env := [(78, C_dr), (79, C_dy), (80, C_dz), (81, C_cz), (82, C_eb)]
theorem g_ec : Qe Tryz.prog G_ec := (Qa s_dr (Qa s_dy (Qa s_dz (Qa s_cz (Qa s_eb Qd)))))
abbrev c_ec_7 : Cut := ⟨i_ec_7, o_ec_7, fun x => Qc l_ec_7 lots x⟩
theorem k_ec_7 : Qo Tryz.prog 63 (.loop (nav Tryz.f36 [1, 1, 1, 0, 1, 0, 0])) c_ec_7 :=
  Qf (L := []) hT g_ec (fun _ _ => by kernel_rfl) okP _
theorem r_ec (x) : Qv T G_ec [(7, c_ec_7)] Tryz.f36 C_ec.ps C_ec.rs x = C_ec.F x := by kernel_rfl
theorem s_ec : Qb Tryz.prog 36 C_ec := fnC (L := [(7, c_ec_7)]) hT g_ec Tryz.f36 (okS okP (okS okP (okS okP (okS (okS okP (okB (okU k_ec_7))) okP)))) r_ec
abbrev i_ed_6 : Shp := { slots := [(1, .s (.dat YI)), (15, .s (.dat Y24)), (16, .s (.dat YI)), (17, .s (.dat YI))], boxes := [], rows := [] }
abbrev o_ed_6 : List (Ex × Shp) := [(.exit 1, { slots := [], boxes := [], rows := [] }), (.ret, { slots := [(4, .s (.dat YI))], boxes := [], rows := [] })]
def l_ed_6 (rec : i_ed_6.den → Option (denO o_ed_6)) (u : i_ed_6.den) : Option (denO o_ed_6) :=
 if (ltI u.1.2.2.2.1 u.1.2.2.1) then
  if 0 ≤ u.1.2.2.2.1 then
   ((u.1.2.1)[(u.1.2.2.2.1).toNat]?).bind fun y7 =>
   let v8 := (IntKind.i64.wrap (u.1.1 - (1 : Int)))
   (F_cz (y7.1, (-1 : Int), v8, ())).bind fun r9 =>
   if (!r9.1.1) = false then
    (F_cz (y7.2.1, (0 : Int), (7 : Int), ())).bind fun r10 =>
    if (!r10.1.1) then
     some (.inr (.inl (((3 : Int), ()), ((), ()))))
    else
     if (y7.1 == (-1 : Int)) = true then
      if (y7.2.1 != (0 : Int)) then
       some (.inr (.inl (((1 : Int), ()), ((), ()))))
      else
       let v11 := (IntKind.i64.wrap (u.1.2.2.2.1 + (1 : Int)))
       rec ((u.1.1, (u.1.2.1, (u.1.2.2.1, (v11, ())))), ((), ()))
     else
      let v12 := (IntKind.i64.wrap (u.1.2.2.2.1 + (1 : Int)))
      rec ((u.1.1, (u.1.2.1, (u.1.2.2.1, (v12, ())))), ((), ()))
   else
    some (.inr (.inl (((3 : Int), ()), ((), ()))))
  else none
 else
  some (.inl ((), ((), ())))
def L_ed_6 (x : i_ed_6.den) : Option (denO o_ed_6) := Qc l_ed_6 lots x
def F_ed (x : denP P_d) : FO P_d R_a :=
 (F_cz (x.2.1, (1 : Int), (24 : Int), ())).bind fun r1 =>
 if (!r1.1.1) then
  some (((3 : Int), ()), ())
 else
  let v2 := ((x.1.length : Nat) : Int)
  if (v2 != (8 : Int)) then
   some (((1 : Int), ()), ())
  else
   let v3 := ((x.1.length : Nat) : Int)
   (L_ed_6 ((x.2.1, (x.1, (v3, ((0 : Int), ())))), ((), ()))).bind fun z13 =>
   match z13 with
   | .inl x14 =>
    some (((0 : Int), ()), ())
   | .inr z13_ =>
    match z13_ with
    | .inl x15 =>
     some ((x15.1.1, ()), ())
    | .inr z13__ =>
     none
abbrev C_ed : Con := ⟨P_d, R_a, F_ed, false⟩
theorem g_ed : Qe Tryz.prog G_da := (Qa s_cz Qd)
abbrev c_ed_6 : Cut := ⟨i_ed_6, o_ed_6, fun x => Qc l_ed_6 lots x⟩
theorem k_ed_6 : Qo Tryz.prog 44 (.loop (nav Tryz.f83 [1, 1, 0, 1, 0, 0])) c_ed_6 :=
  Qf (L := []) hT g_ed (fun _ _ => by kernel_rfl) okP _
theorem r_ed (x) : Qv T G_da [(6, c_ed_6)] Tryz.f83 C_ed.ps C_ed.rs x = C_ed.F x := by kernel_rfl
theorem s_ed : Qb Tryz.prog 83 C_ed := fnC (L := [(6, c_ed_6)]) hT g_ed Tryz.f83 (okS okP (okS okP (okS (okS okP (okB (okU k_ed_6))) okP))) r_ed
abbrev i_ee_2 : Shp := { slots := [(5, .s (.dat Y28)), (6, .s (.dat YI)), (7, .s (.dat YI))], boxes := [], rows := [] }
def l_ee_2 (rec : i_ee_2.den → Option (denO o_ah_4)) (u : i_ee_2.den) : Option (denO o_ah_4) :=
 if (ltI u.1.2.2.1 u.1.2.1) then
  if 0 ≤ u.1.2.2.1 then
   ((u.1.1)[(u.1.2.2.1).toNat]?).bind fun y3 =>
   if (y3 != (0 : Int)) then
    some (.inr (.inl ((y3, ()), ((), ()))))
   else
    let v4 := (IntKind.i64.wrap (u.1.2.2.1 + (1 : Int)))
    rec ((u.1.1, (u.1.2.1, (v4, ()))), ((), ()))
  else none
 else
  some (.inl ((), ((), ())))
def L_ee_2 (x : i_ee_2.den) : Option (denO o_ah_4) := Qc l_ee_2 lots x
def F_ee (x : denP P_l) : FO P_l R_a :=
 let v1 := ((x.1.length : Nat) : Int)
 (L_ee_2 ((x.1, (v1, ((0 : Int), ()))), ((), ()))).bind fun z5 =>
 match z5 with
 | .inl x6 =>
  some (((0 : Int), ()), ())
 | .inr z5_ =>
  match z5_ with
  | .inl x7 =>
   some ((x7.1.1, ()), ())
  | .inr z5__ =>
   none
abbrev C_ee : Con := ⟨P_l, R_a, F_ee, false⟩
abbrev c_ee_2 : Cut := ⟨i_ee_2, o_ah_4, fun x => Qc l_ee_2 lots x⟩
theorem k_ee_2 : Qo Tryz.prog 15 (.loop (nav Tryz.f35 [1, 0, 1, 0, 0])) c_ee_2 :=
  Qf (L := []) hT g_a (fun _ _ => by kernel_rfl) okP _
theorem r_ee (x) : Qv T G_a [(2, c_ee_2)] Tryz.f35 C_ee.ps C_ee.rs x = C_ee.F x := by kernel_rfl
theorem s_ee : Qb Tryz.prog 35 C_ee := fnC (L := [(2, c_ee_2)]) hT g_a Tryz.f35 (okS okP (okS (okS okP (okB (okU k_ee_2))) okP)) r_ee
def F_ef (x : denP P_z) : FO P_z R_a :=
 (F_dz (x.1.1, ())).bind fun r1 =>
 (F_ed (x.1.2.1, (8 : Int), ())).bind fun r2 =>
 (F_ee ([r1.1.1, r2.1.1], ())).bind fun r3 =>
 if (r3.1.1 != (0 : Int)) then
  some ((r3.1.1, ()), ())
 else
  (F_dx (x.1.2.2.1, ())).bind fun r4 =>
  if (r4.1.1 != (0 : Int)) = false then
   let v5 := ((x.1.2.2.1.length : Nat) : Int)
   if (v5 != (64 : Int)) then
    some (((1 : Int), ()), ())
   else
    some (((0 : Int), ()), ())
  else
   some (((1 : Int), ()), ())
abbrev C_ef : Con := ⟨P_z, R_a, F_ef, false⟩
abbrev G_ef : Env := [(35, C_ee), (80, C_dz), (83, C_ed), (84, C_dx)]
theorem g_ef : Qe Tryz.prog G_ef := (Qa s_ee (Qa s_dz (Qa s_ed (Qa s_dx Qd))))
theorem s_ef : Qb Tryz.prog 37 C_ef := fnC (L := []) hT g_ef Tryz.f37 okP fun _ => by kernel_rfl
abbrev P_eg_1 : List PK := [.val Y30, .ptr YI]
def F_eg_1 (x : denP P_eg_1) : FO P_eg_1 R_aa :=
 let v1 := (IntKind.i64.wrap (x.1.2.2.2.2.2.1 + x.2.1))
 some (((ltI (1000000 : Int) v1), ()), ())
abbrev C_eg_1 : Con := ⟨P_eg_1, R_aa, F_eg_1, false⟩
theorem s_eg_1 : Qb Tryz.prog 86 C_eg_1 := fnC (L := []) hT g_a Tryz.f86 okP fun _ => by kernel_rfl
abbrev P_eh_1 : List PK := [.val Y145, .fn 86 [YI]]
abbrev i_ei_2 : Shp := { slots := [(0, .s (.dat Y145)), (1, .s (.fn 86 [YI])), (7, .s (.dat YI)), (8, .s (.dat YI))], boxes := [], rows := [] }
def l_ei_2 (rec : i_ei_2.den → Option (denO o_af_2)) (u : i_ei_2.den) : Option (denO o_af_2) :=
 if (ltI u.1.2.2.2.1 u.1.2.2.1) then
  if 0 ≤ u.1.2.2.2.1 then
   ((u.1.1)[(u.1.2.2.2.1).toNat]?).bind fun y4 =>
   (F_eg_1 (y4, u.1.2.1.1, ())).bind fun r5 =>
   if r5.1.1 then
    some (.inr (.inl ((u.1.2.2.2.1, ()), ((), ()))))
   else
    let v6 := (IntKind.i64.wrap (u.1.2.2.2.1 + (1 : Int)))
    rec ((u.1.1, ((u.1.2.1.1, ()), (u.1.2.2.1, (v6, ())))), ((), ()))
  else none
 else
  some (.inl ((), ((), ())))
def L_ei_2 (x : i_ei_2.den) : Option (denO o_af_2) := Qc l_ei_2 lots x
def F_eh_1 (x : denP P_eh_1) : FO P_eh_1 R_a :=
 let v1 := ((x.1.length : Nat) : Int)
 (L_ei_2 ((x.1, ((x.2.1.1, ()), (v1, ((0 : Int), ())))), ((), ()))).bind fun z7 =>
 match z7 with
 | .inl x8 =>
  some (((-1 : Int), ()), ())
 | .inr z7_ =>
  match z7_ with
  | .inl x9 =>
   some ((x9.1.1, ()), ())
  | .inr z7__ =>
   none
abbrev C_eh_1 : Con := ⟨P_eh_1, R_a, F_eh_1, false⟩
abbrev G_eh_1 : Env := [(86, C_eg_1)]
theorem g_eh_1 : Qe Tryz.prog G_eh_1 := (Qa s_eg_1 Qd)
abbrev c_ei_2 : Cut := ⟨i_ei_2, o_af_2, fun x => Qc l_ei_2 lots x⟩
theorem k_ei_2 : Qo Tryz.prog 19 (.loop (nav Tryz.f131 [1, 0, 1, 0, 0])) c_ei_2 :=
  Qf (L := []) hT g_eh_1 (fun _ _ => by kernel_rfl) okP _
theorem r_eh_1 (x) : Qv T G_eh_1 [(2, c_ei_2)] Tryz.f131 C_eh_1.ps C_eh_1.rs x = C_eh_1.F x := by kernel_rfl
theorem s_eh_1 : Qb Tryz.prog 131 C_eh_1 := fnC (L := [(2, c_ei_2)]) hT g_eh_1 Tryz.f131 (okS okP (okS (okS okP (okB (okU k_ei_2))) okP)) r_eh_1
def F_ej_1 (x : denP P_eh_1) : FO P_eh_1 R_aa :=
 (F_eh_1 (x.1, (x.2.1.1, ()), ())).bind fun r1 =>
 some (((leI (0 : Int) r1.1.1), ()), ())
abbrev C_ej_1 : Con := ⟨P_eh_1, R_aa, F_ej_1, false⟩
abbrev G_ej_1 : Env := [(131, C_eh_1)]
theorem g_ej_1 : Qe Tryz.prog G_ej_1 := (Qa s_eh_1 Qd)
theorem s_ej_1 : Qb Tryz.prog 85 C_ej_1 := fnC (L := []) hT g_ej_1 Tryz.f85 okP fun _ => by kernel_rfl
abbrev P_eg : List PK := [.val YI, .val Y145]
def F_eg (x : denP P_eg) : FO P_eg R_a :=
 (F_cz (x.1, (0 : Int), (200 : Int), ())).bind fun r1 =>
 if (!r1.1.1) = false then
  (F_ej_1 (x.2.1, (x.1, ()), ())).bind fun r2 =>
  if r2.1.1 then
   some (((3 : Int), ()), ())
  else
   some (((0 : Int), ()), ())
 else
  some (((3 : Int), ()), ())
abbrev C_eg : Con := ⟨P_eg, R_a, F_eg, false⟩
abbrev G_eg : Env := [(81, C_cz), (85, C_ej_1)]
theorem g_eg : Qe Tryz.prog G_eg := (Qa s_cz (Qa s_ej_1 Qd))
theorem s_eg : Qb Tryz.prog 39 C_eg := fnC (L := []) hT g_eg Tryz.f39 okP fun _ => by kernel_rfl
abbrev R_ek : List VK := [.s (.own 28 Y28)]
def F_ek (x : denP P_m) : FO P_m R_ek :=
  if (([] : List (den Y28)).length + x.1.length) * 24 ≤ 140737488355328 then some (([] ++ x.1, ()), ()) else none
abbrev C_ek : Con := ⟨P_m, R_ek, F_ek, false⟩
theorem s_ek : Qb Tryz.prog 132 C_ek :=
  Qcb hT (fn := Tryz.f132) (cn := C_ek) (c0 := nav Tryz.f132 [0]) (ca := nav Tryz.f132 [1, 0, 1, 0]) (cb := nav Tryz.f132 [1, 1]) (id := 1) (d := 4) (nm := 1032000) (o1 := Qds Tryz.f132 [1, 0, 0] 0) (o2 := Qds Tryz.f132 [1, 0, 0] 1)
    (t := 22) (t' := 22) (x := .tmp 3) (r := ⟨Y22, [], 28, 24, 3000028⟩) (u := Y28) (by kernel_rfl) (by kernel_rfl) (by kernel_rfl) ⟨by kernel_rfl, by kernel_rfl⟩ (fun y => by kernel_rfl) (by kernel_rfl) (by kernel_rfl) (by kernel_rfl) (by kernel_rfl) (by kernel_rfl) rfl
    (fun y => (st0 Tryz.f132 P_m y).set 2 (.s .nls)) (fun y => ((st0 Tryz.f132 P_m y).set 2 (.s .nls)).set 3 (.s (.d (.slice Y28) y.1))) (fun y => y.1)
    (fun y => by kernel_rfl) (fun y => by kernel_rfl) (fun y => by kernel_rfl) (fun y => Nat.le_of_ble_eq_true (by kernel_rfl)) (fun y => by kernel_rfl) (by kernel_rfl) (by kernel_rfl) (by kernel_rfl) (fun y => by kernel_rfl)
    (fun y h => by obtain ⟨l, v⟩ := y; have h : l = [] := h; subst h; show run _ _ _ _ _ _ = F_ek ([], v); kernel_rfl) (fun y => by kernel_rfl)
def F_el (x : denP P_l) : FO P_l R_l :=
  if (([] : List (den YI)).length + x.1.length) * 8 ≤ 140737488355328 then some (([] ++ x.1, ()), ()) else none
abbrev C_el : Con := ⟨P_l, R_l, F_el, false⟩
theorem s_el : Qb Tryz.prog 88 C_el :=
  Qcb hT (fn := Tryz.f88) (cn := C_el) (c0 := nav Tryz.f88 [0]) (ca := nav Tryz.f88 [1, 0, 1, 0]) (cb := nav Tryz.f88 [1, 1]) (id := 1) (d := 4) (nm := 1032000) (o1 := Qds Tryz.f88 [1, 0, 0] 0) (o2 := Qds Tryz.f88 [1, 0, 0] 1)
    (t := 28) (t' := 28) (x := .tmp 3) (r := ⟨Y28, [], 2, 24, 0⟩) (u := YI) (by kernel_rfl) (by kernel_rfl) (by kernel_rfl) ⟨by kernel_rfl, by kernel_rfl⟩ (fun y => by kernel_rfl) (by kernel_rfl) (by kernel_rfl) (by kernel_rfl) (by kernel_rfl) (by kernel_rfl) rfl
    (fun y => (st0 Tryz.f88 P_l y).set 2 (.s .nls)) (fun y => ((st0 Tryz.f88 P_l y).set 2 (.s .nls)).set 3 (.s (.d (.slice YI) y.1))) (fun y => y.1)
    (fun y => by kernel_rfl) (fun y => by kernel_rfl) (fun y => by kernel_rfl) (fun y => Nat.le_of_ble_eq_true (by kernel_rfl)) (fun y => by kernel_rfl) (by kernel_rfl) (by kernel_rfl) (by kernel_rfl) (fun y => by kernel_rfl)
    (fun y h => by obtain ⟨l, v⟩ := y; have h : l = [] := h; subst h; show run _ _ _ _ _ _ = F_el ([], v); kernel_rfl) (fun y => by kernel_rfl)
def F_em (x : denP P_o) : FO P_o R_o :=
  if (([] : List (den Y78)).length + x.1.length) * 40 ≤ 140737488355328 then some (([] ++ x.1, ()), ()) else none
abbrev C_em : Con := ⟨P_o, R_o, F_em, false⟩
theorem s_em : Qb Tryz.prog 133 C_em :=
  Qcb hT (fn := Tryz.f133) (cn := C_em) (c0 := nav Tryz.f133 [0]) (ca := nav Tryz.f133 [1, 0, 1, 0]) (cb := nav Tryz.f133 [1, 1]) (id := 1) (d := 4) (nm := 1032000) (o1 := Qds Tryz.f133 [1, 0, 0] 0) (o2 := Qds Tryz.f133 [1, 0, 0] 1)
    (t := 42) (t' := 42) (x := .tmp 3) (r := ⟨Y23, [], 79, 24, 0⟩) (u := Y78) (by kernel_rfl) (by kernel_rfl) (by kernel_rfl) ⟨by kernel_rfl, by kernel_rfl⟩ (fun y => by kernel_rfl) (by kernel_rfl) (by kernel_rfl) (by kernel_rfl) (by kernel_rfl) (by kernel_rfl) rfl
    (fun y => (st0 Tryz.f133 P_o y).set 2 (.s .nls)) (fun y => ((st0 Tryz.f133 P_o y).set 2 (.s .nls)).set 3 (.s (.d (.slice Y78) y.1))) (fun y => y.1)
    (fun y => by kernel_rfl) (fun y => by kernel_rfl) (fun y => by kernel_rfl) (fun y => Nat.le_of_ble_eq_true (by kernel_rfl)) (fun y => by kernel_rfl) (by kernel_rfl) (by kernel_rfl) (by kernel_rfl) (fun y => by kernel_rfl)
    (fun y h => by obtain ⟨l, v⟩ := y; have h : l = [] := h; subst h; show run _ _ _ _ _ _ = F_em ([], v); kernel_rfl) (fun y => by kernel_rfl)
def F_en (x : denP P_q) : FO P_q R_q :=
  if (([] : List (den Y76)).length + x.1.length) * 16 ≤ 140737488355328 then some (([] ++ x.1, ()), ()) else none
abbrev C_en : Con := ⟨P_q, R_q, F_en, false⟩
theorem s_en : Qb Tryz.prog 134 C_en :=
  Qcb hT (fn := Tryz.f134) (cn := C_en) (c0 := nav Tryz.f134 [0]) (ca := nav Tryz.f134 [1, 0, 1, 0]) (cb := nav Tryz.f134 [1, 1]) (id := 1) (d := 4) (nm := 1032000) (o1 := Qds Tryz.f134 [1, 0, 0] 0) (o2 := Qds Tryz.f134 [1, 0, 0] 1)
    (t := 43) (t' := 43) (x := .tmp 3) (r := ⟨Y24, [], 160, 24, 0⟩) (u := Y76) (by kernel_rfl) (by kernel_rfl) (by kernel_rfl) ⟨by kernel_rfl, by kernel_rfl⟩ (fun y => by kernel_rfl) (by kernel_rfl) (by kernel_rfl) (by kernel_rfl) (by kernel_rfl) (by kernel_rfl) rfl
    (fun y => (st0 Tryz.f134 P_q y).set 2 (.s .nls)) (fun y => ((st0 Tryz.f134 P_q y).set 2 (.s .nls)).set 3 (.s (.d (.slice Y76) y.1))) (fun y => y.1)
    (fun y => by kernel_rfl) (fun y => by kernel_rfl) (fun y => by kernel_rfl) (fun y => Nat.le_of_ble_eq_true (by kernel_rfl)) (fun y => by kernel_rfl) (by kernel_rfl) (by kernel_rfl) (by kernel_rfl) (fun y => by kernel_rfl)
    (fun y h => by obtain ⟨l, v⟩ := y; have h : l = [] := h; subst h; show run _ _ _ _ _ _ = F_en ([], v); kernel_rfl) (fun y => by kernel_rfl)
def F_eo (x : denP P_q) : FO P_q R_s :=
  if (([] : List (den Y76)).length + x.1.length) * 16 ≤ 140737488355328 then some (([] ++ x.1, ()), ()) else none
abbrev C_eo : Con := ⟨P_q, R_s, F_eo, false⟩
theorem s_eo : Qb Tryz.prog 135 C_eo :=
  Qcb hT (fn := Tryz.f135) (cn := C_eo) (c0 := nav Tryz.f135 [0]) (ca := nav Tryz.f135 [1, 0, 1, 0]) (cb := nav Tryz.f135 [1, 1]) (id := 1) (d := 4) (nm := 1032000) (o1 := Qds Tryz.f135 [1, 0, 0] 0) (o2 := Qds Tryz.f135 [1, 0, 0] 1)
    (t := 44) (t' := 44) (x := .tmp 3) (r := ⟨Y24, [], 77, 24, 0⟩) (u := Y76) (by kernel_rfl) (by kernel_rfl) (by kernel_rfl) ⟨by kernel_rfl, by kernel_rfl⟩ (fun y => by kernel_rfl) (by kernel_rfl) (by kernel_rfl) (by kernel_rfl) (by kernel_rfl) (by kernel_rfl) rfl
    (fun y => (st0 Tryz.f135 P_q y).set 2 (.s .nls)) (fun y => ((st0 Tryz.f135 P_q y).set 2 (.s .nls)).set 3 (.s (.d (.slice Y76) y.1))) (fun y => y.1)
    (fun y => by kernel_rfl) (fun y => by kernel_rfl) (fun y => by kernel_rfl) (fun y => Nat.le_of_ble_eq_true (by kernel_rfl)) (fun y => by kernel_rfl) (by kernel_rfl) (by kernel_rfl) (by kernel_rfl) (fun y => by kernel_rfl)
    (fun y h => by obtain ⟨l, v⟩ := y; have h : l = [] := h; subst h; show run _ _ _ _ _ _ = F_eo ([], v); kernel_rfl) (fun y => by kernel_rfl)
abbrev i_ep_3 : Shp := { slots := [(1, .s (.ptr 1 0)), (2, .s (.ptr 2 0)), (10, .s (.dat YI)), (11, .s (.dat YI))], boxes := [(1, [.own 28 Y28, .dat Y23, .dat Y24, .dat Y24]), (2, [.own 28 Y28, .own 79 Y78, .own 160 Y76, .own 77 Y76])], rows := [] }
abbrev o_ep_3 : List (Ex × Shp) := [(.exit 0, { slots := [(1, .s (.ptr 1 0)), (2, .s (.ptr 2 0))], boxes := [(1, [.own 28 Y28, .dat Y23, .dat Y24, .dat Y24]), (2, [.own 28 Y28, .own 79 Y78, .own 160 Y76, .own 77 Y76])], rows := [] })]
def l_ep_3 (rec : i_ep_3.den → Option (denO o_ep_3)) (u : i_ep_3.den) : Option (denO o_ep_3) :=
 if (ltI u.1.2.2.2.1 u.1.2.2.1) then
  if 0 ≤ u.1.2.2.2.1 ∧ u.1.2.2.2.1 < ((u.2.1.1.1.length : Nat) : Int) then
   ((u.2.1.1.1)[(u.1.2.2.2.1).toNat]?).bind fun y6 =>
   (F_el (y6, ())).bind fun r7 =>
   if 0 ≤ u.1.2.2.2.1 ∧ u.1.2.2.2.1 < ((u.2.1.1.1.length : Nat) : Int) then
    ((u.2.1.1.1)[(u.1.2.2.2.1).toNat]?).bind fun y8 =>
    let v9 := (u.2.1.1.1.set (u.1.2.2.2.1).toNat r7.1.1)
    let v10 := (IntKind.i64.wrap (u.1.2.2.2.1 + (1 : Int)))
    rec (((), ((), (u.1.2.2.1, (v10, ())))), (((v9, (u.2.1.1.2.1, (u.2.1.1.2.2.1, (u.2.1.1.2.2.2.1, ())))), (u.2.1.2.1, ())), ()))
   else none
  else none
 else
  some (.inl (((), ((), ())), ((u.2.1.1, (u.2.1.2.1, ())), ())))
def L_ep_3 (x : i_ep_3.den) : Option (denO o_ep_3) := Qc l_ep_3 lots x
def F_ep (x : denP P_t) : FO P_t R_av :=
 (F_ek (x.1.1, ())).bind fun r1 =>
 let v2 := ((r1.1.1.length : Nat) : Int)
 (L_ep_3 (((), ((), (v2, ((0 : Int), ())))), (((r1.1.1, (x.1.2.1, (x.1.2.2.1, (x.1.2.2.2.1, ())))), ((([] : List (den Y28)), (([] : List (den Y78)), (([] : List (den Y76)), (([] : List (den Y76)), ())))), ())), ()))).bind fun z11 =>
 match z11 with
 | .inl x12 =>
  (F_em (x12.2.1.1.2.1, ())).bind fun r13 =>
  (F_en (x12.2.1.1.2.2.1, ())).bind fun r14 =>
  (F_eo (x12.2.1.1.2.2.2.1, ())).bind fun r15 =>
  some (((x12.2.1.1.1, (r13.1.1, (r14.1.1, (r15.1.1, ())))), ()), ())
 | .inr z11_ =>
  none
abbrev C_ep : Con := ⟨P_t, R_av, F_ep, false⟩
abbrev G_ep : Env := [(88, C_el), (132, C_ek), (133, C_em), (134, C_en), (135, C_eo)]
theorem g_ep : Qe Tryz.prog G_ep := (Qa s_el (Qa s_ek (Qa s_em (Qa s_en (Qa s_eo Qd)))))
abbrev c_ep_3 : Cut := ⟨i_ep_3, o_ep_3, fun x => Qc l_ep_3 lots x⟩
theorem k_ep_3 : Qo Tryz.prog 38 (.loop (nav Tryz.f87 [1, 1, 0, 1, 0, 0])) c_ep_3 :=
  Qf (L := []) hT g_ep (fun _ _ => by kernel_rfl) okP _
theorem r_ep (x) : Qv T G_ep [(3, c_ep_3)] Tryz.f87 C_ep.ps C_ep.rs x = C_ep.F x := by kernel_rfl
theorem s_ep : Qb Tryz.prog 87 C_ep := fnC (L := [(3, c_ep_3)]) hT g_ep Tryz.f87 (okS okP (okS okP (okS (okS okP (okB (okU k_ep_3))) okP))) r_ep
abbrev R_eq : List VK := [.s (.own 51 Y32)]
def F_eq (x : denP P_v) : FO P_v R_eq :=
  if (([] : List (den Y32)).length + x.1.length) * 120 ≤ 140737488355328 then some (([] ++ x.1, ()), ()) else none
abbrev C_eq : Con := ⟨P_v, R_eq, F_eq, false⟩
theorem s_eq : Qb Tryz.prog 89 C_eq :=
  Qcb hT (fn := Tryz.f89) (cn := C_eq) (c0 := nav Tryz.f89 [0]) (ca := nav Tryz.f89 [1, 0, 1, 0]) (cb := nav Tryz.f89 [1, 1]) (id := 1) (d := 4) (nm := 1032000) (o1 := Qds Tryz.f89 [1, 0, 0] 0) (o2 := Qds Tryz.f89 [1, 0, 0] 1)
    (t := 47) (t' := 47) (x := .tmp 3) (r := ⟨Y29, [], 51, 24, 3000051⟩) (u := Y32) (by kernel_rfl) (by kernel_rfl) (by kernel_rfl) ⟨by kernel_rfl, by kernel_rfl⟩ (fun y => by kernel_rfl) (by kernel_rfl) (by kernel_rfl) (by kernel_rfl) (by kernel_rfl) (by kernel_rfl) rfl
    (fun y => (st0 Tryz.f89 P_v y).set 2 (.s .nls)) (fun y => ((st0 Tryz.f89 P_v y).set 2 (.s .nls)).set 3 (.s (.d (.slice Y32) y.1))) (fun y => y.1)
    (fun y => by kernel_rfl) (fun y => by kernel_rfl) (fun y => by kernel_rfl) (fun y => Nat.le_of_ble_eq_true (by kernel_rfl)) (fun y => by kernel_rfl) (by kernel_rfl) (by kernel_rfl) (by kernel_rfl) (fun y => by kernel_rfl)
    (fun y h => by obtain ⟨l, v⟩ := y; have h : l = [] := h; subst h; show run _ _ _ _ _ _ = F_eq ([], v); kernel_rfl) (fun y => by kernel_rfl)
def F_er (x : denP P_u) : FO P_u R_u :=
 (F_el (x.1.1, ())).bind fun r1 =>
 (F_el (x.1.2.2.1, ())).bind fun r2 =>
 (F_el (x.1.2.2.2.2.2.2.2.1, ())).bind fun r3 =>
 (F_el (x.1.2.2.2.2.2.2.2.2.1, ())).bind fun r4 =>
 some (((r1.1.1, (x.1.2.1, (r2.1.1, (x.1.2.2.2.1, (x.1.2.2.2.2.1, (x.1.2.2.2.2.2.1, (x.1.2.2.2.2.2.2.1, (r3.1.1, (r4.1.1, ()))))))))), ()), ())
abbrev C_er : Con := ⟨P_u, R_u, F_er, false⟩
abbrev G_er : Env := [(88, C_el)]
theorem g_er : Qe Tryz.prog G_er := (Qa s_el Qd)
theorem s_er : Qb Tryz.prog 90 C_er := fnC (L := []) hT g_er Tryz.f90 okP fun _ => by kernel_rfl
abbrev i_es_5 : Shp := { slots := [(1, .s (.ptr 1 0)), (2, .s (.ptr 2 0)), (18, .s (.dat YI)), (19, .s (.dat YI))], boxes := [(1, [.own 28 Y28, .own 79 Y78, .own 160 Y76, .own 77 Y76, .own 2 YI, .own 51 Y32, .dat YI, .dat YI, .dat YI]), (2, [.own 28 Y28, .own 79 Y78, .own 160 Y76, .own 77 Y76, .own 2 YI, .own 51 Y32, .dat YI, .dat YI, .dat YI])], rows := [] }
abbrev o_es_5 : List (Ex × Shp) := [(.exit 0, { slots := [(1, .s (.ptr 1 0)), (2, .s (.ptr 2 0))], boxes := [(1, [.own 28 Y28, .own 79 Y78, .own 160 Y76, .own 77 Y76, .own 2 YI, .own 51 Y32, .dat YI, .dat YI, .dat YI]), (2, [.own 28 Y28, .own 79 Y78, .own 160 Y76, .own 77 Y76, .own 2 YI, .own 51 Y32, .dat YI, .dat YI, .dat YI])], rows := [] })]
def l_es_5 (rec : i_es_5.den → Option (denO o_es_5)) (u : i_es_5.den) : Option (denO o_es_5) :=
 if (ltI u.1.2.2.2.1 u.1.2.2.1) then
  if 0 ≤ u.1.2.2.2.1 ∧ u.1.2.2.2.1 < ((u.2.1.1.2.2.2.2.2.1.length : Nat) : Int) then
   ((u.2.1.1.2.2.2.2.2.1)[(u.1.2.2.2.1).toNat]?).bind fun y8 =>
   (F_er (y8, ())).bind fun r9 =>
   if 0 ≤ u.1.2.2.2.1 ∧ u.1.2.2.2.1 < ((u.2.1.1.2.2.2.2.2.1.length : Nat) : Int) then
    ((u.2.1.1.2.2.2.2.2.1)[(u.1.2.2.2.1).toNat]?).bind fun y10 =>
    let v11 := (u.2.1.1.2.2.2.2.2.1.set (u.1.2.2.2.1).toNat r9.1.1)
    let v12 := (IntKind.i64.wrap (u.1.2.2.2.1 + (1 : Int)))
    rec (((), ((), (u.1.2.2.1, (v12, ())))), (((u.2.1.1.1, (u.2.1.1.2.1, (u.2.1.1.2.2.1, (u.2.1.1.2.2.2.1, (u.2.1.1.2.2.2.2.1, (v11, (u.2.1.1.2.2.2.2.2.2.1, (u.2.1.1.2.2.2.2.2.2.2.1, (u.2.1.1.2.2.2.2.2.2.2.2.1, ()))))))))), (u.2.1.2.1, ())), ()))
   else none
  else none
 else
  some (.inl (((), ((), ())), ((u.2.1.1, (u.2.1.2.1, ())), ())))
def L_es_5 (x : i_es_5.den) : Option (denO o_es_5) := Qc l_es_5 lots x
def F_es (x : denP P_w) : FO P_w R_ay :=
 (F_ep (x.1.1, ())).bind fun r1 =>
 (F_el (x.1.2.1, ())).bind fun r2 =>
 (F_eq (x.1.2.2.1, ())).bind fun r3 =>
 let v4 := ((r3.1.1.length : Nat) : Int)
 (L_es_5 (((), ((), (v4, ((0 : Int), ())))), (((r1.1.1.1, (r1.1.1.2.1, (r1.1.1.2.2.1, (r1.1.1.2.2.2.1, (r2.1.1, (r3.1.1, (x.1.2.2.2.1, (x.1.2.2.2.2.1, (x.1.2.2.2.2.2.1, ()))))))))), ((([] : List (den Y28)), (([] : List (den Y78)), (([] : List (den Y76)), (([] : List (den Y76)), (([] : List (den YI)), (([] : List (den Y32)), ((0 : Int), ((0 : Int), ((0 : Int), ()))))))))), ())), ()))).bind fun z13 =>
 match z13 with
 | .inl x14 =>
  some ((x14.2.1.1, ()), ())
 | .inr z13_ =>
  none
abbrev C_es : Con := ⟨P_w, R_ay, F_es, false⟩
abbrev G_es : Env := [(87, C_ep), (88, C_el), (89, C_eq), (90, C_er)]
theorem g_es : Qe Tryz.prog G_es := (Qa s_ep (Qa s_el (Qa s_eq (Qa s_er Qd))))
abbrev c_es_5 : Cut := ⟨i_es_5, o_es_5, fun x => Qc l_es_5 lots x⟩
theorem k_es_5 : Qo Tryz.prog 34 (.loop (nav Tryz.f40 [1, 1, 1, 1, 0, 1, 0, 0])) c_es_5 :=
  Qf (L := []) hT g_es (fun _ _ => by kernel_rfl) okP _
theorem r_es (x) : Qv T G_es [(5, c_es_5)] Tryz.f40 C_es.ps C_es.rs x = C_es.F x := by kernel_rfl
theorem s_es : Qb Tryz.prog 40 C_es := fnC (L := [(5, c_es_5)]) hT g_es Tryz.f40 (okS okP (okS okP (okS okP (okS okP (okS (okS okP (okB (okU k_es_5))) okP))))) r_es
def F_et (x : denP P_a) : FO P_a R_l :=
 let v1 := (IntKind.i64.wrap (x.2.1 * (8 : Int)))
 let v2 := (IntKind.i64.wrap (x.2.1 + (1 : Int)))
 let v3 := (IntKind.i64.wrap (v2 * (8 : Int)))
 if 0 ≤ v1 ∧ v1 ≤ v3 ∧ v3 ≤ ((x.1.length : Nat) : Int) then
  let v4 := ((x.1.drop (v1).toNat).take ((v3).toNat - (v1).toNat))
  (F_el (v4, ())).bind fun r5 =>
  some ((r5.1.1, ()), ())
 else none
abbrev C_et : Con := ⟨P_a, R_l, F_et, false⟩
theorem g_et : Qe Tryz.prog G_er := (Qa s_el Qd)
theorem s_et : Qb Tryz.prog 93 C_et := fnC (L := []) hT g_et Tryz.f93 okP fun _ => by kernel_rfl
abbrev i_eu_3 : Shp := { slots := [(0, .s (.dat Y28)), (5, .s (.own 2 YI)), (9, .s (.dat Y28)), (10, .s (.dat YI)), (11, .s (.dat YI))], boxes := [], rows := [] }
def l_eu_3 (rec : i_eu_3.den → Option (denO o_ba_3)) (u : i_eu_3.den) : Option (denO o_ba_3) :=
 if (ltI u.1.2.2.2.2.1 u.1.2.2.2.1) then
  if 0 ≤ u.1.2.2.2.2.1 then
   ((u.1.2.2.1)[(u.1.2.2.2.2.1).toNat]?).bind fun y4 =>
   (F_et (u.1.1, y4, ())).bind fun r5 =>
   if (u.1.2.1.length + r5.1.1.length) * 8 ≤ 140737488355328 then
    let v6 := (u.1.2.1 ++ r5.1.1)
    let v7 := (IntKind.i64.wrap (u.1.2.2.2.2.1 + (1 : Int)))
    rec ((u.1.1, (v6, (u.1.2.2.1, (u.1.2.2.2.1, (v7, ()))))), ((), ()))
   else none
  else none
 else
  some (.inl ((u.1.2.1, ()), ((), ())))
def L_eu_3 (x : i_eu_3.den) : Option (denO o_ba_3) := Qc l_eu_3 lots x
def F_eu (x : denP P_ba) : FO P_ba R_l :=
 let v1 := ((x.2.1.length : Nat) : Int)
 (L_eu_3 ((x.1, (([] : List (den YI)), (x.2.1, (v1, ((0 : Int), ()))))), ((), ()))).bind fun z8 =>
 match z8 with
 | .inl x9 =>
  some ((x9.1.1, ()), ())
 | .inr z8_ =>
  none
abbrev C_eu : Con := ⟨P_ba, R_l, F_eu, false⟩
abbrev G_eu : Env := [(93, C_et)]
theorem g_eu : Qe Tryz.prog G_eu := (Qa s_et Qd)
abbrev c_eu_3 : Cut := ⟨i_eu_3, o_ba_3, fun x => Qc l_eu_3 lots x⟩
theorem k_eu_3 : Qo Tryz.prog 22 (.loop (nav Tryz.f92 [1, 1, 0, 1, 0, 0])) c_eu_3 :=
  Qf (L := []) hT g_eu (fun _ _ => by kernel_rfl) okP _
theorem r_eu (x) : Qv T G_eu [(3, c_eu_3)] Tryz.f92 C_eu.ps C_eu.rs x = C_eu.F x := by kernel_rfl
theorem s_eu : Qb Tryz.prog 92 C_eu := fnC (L := [(3, c_eu_3)]) hT g_eu Tryz.f92 (okS okP (okS okP (okS (okS okP (okB (okU k_eu_3))) okP))) r_eu
abbrev i_ev_3 : Shp := { slots := [(0, .s (.pd Y30)), (1, .s (.dat YI)), (4, .s (.ptr 4 0)), (5, .s (.ptr 5 0)), (34, .s (.dat Y23)), (35, .s (.dat YI)), (36, .s (.dat YI))], boxes := [(4, [.own 2 YI, .dat YI, .own 2 YI, .dat .bool, .dat .bool, .dat .bool, .dat YI, .own 2 YI, .own 2 YI, .own 2 YI, .own 2 YI]), (5, [.own 2 YI, .dat YI, .own 2 YI, .dat .bool, .dat .bool, .dat .bool, .dat YI, .own 2 YI, .own 2 YI, .own 2 YI, .own 2 YI])], rows := [] }
abbrev o_ev_3 : List (Ex × Shp) := [(.exit 0, { slots := [(4, .s (.ptr 4 0)), (5, .s (.ptr 5 0))], boxes := [(4, [.own 2 YI, .dat YI, .own 2 YI, .dat .bool, .dat .bool, .dat .bool, .dat YI, .own 2 YI, .own 2 YI, .own 2 YI, .own 2 YI]), (5, [.own 2 YI, .dat YI, .own 2 YI, .dat .bool, .dat .bool, .dat .bool, .dat YI, .own 2 YI, .own 2 YI, .own 2 YI, .own 2 YI])], rows := [] })]
def l_ev_3 (rec : i_ev_3.den → Option (denO o_ev_3)) (u : i_ev_3.den) : Option (denO o_ev_3) :=
 if (ltI u.1.2.2.2.2.2.2.1 u.1.2.2.2.2.2.1) then
  if 0 ≤ u.1.2.2.2.2.2.2.1 then
   ((u.1.2.2.2.2.1)[(u.1.2.2.2.2.2.2.1).toNat]?).bind fun y8 =>
   if (y8.1 == u.1.2.1) then
    (F_et (u.1.1.2.1, y8.2.2.1, ())).bind fun r9 =>
    if (u.2.1.2.1.2.2.2.2.2.2.2.2.2.2.1.length + r9.1.1.length) * 8 ≤ 140737488355328 then
     let v10 := (u.2.1.2.1.2.2.2.2.2.2.2.2.2.2.1 ++ r9.1.1)
     let v11 := (IntKind.i64.wrap (u.1.2.2.2.2.2.2.1 + (1 : Int)))
     rec ((u.1.1, (u.1.2.1, ((), ((), (u.1.2.2.2.2.1, (u.1.2.2.2.2.2.1, (v11, ()))))))), ((u.2.1.1, ((u.2.1.2.1.1, (u.2.1.2.1.2.1, (u.2.1.2.1.2.2.1, (u.2.1.2.1.2.2.2.1, (u.2.1.2.1.2.2.2.2.1, (u.2.1.2.1.2.2.2.2.2.1, (u.2.1.2.1.2.2.2.2.2.2.1, (u.2.1.2.1.2.2.2.2.2.2.2.1, (u.2.1.2.1.2.2.2.2.2.2.2.2.1, (u.2.1.2.1.2.2.2.2.2.2.2.2.2.1, (v10, ()))))))))))), ())), ()))
    else none
   else
    let v12 := (IntKind.i64.wrap (u.1.2.2.2.2.2.2.1 + (1 : Int)))
    rec ((u.1.1, (u.1.2.1, ((), ((), (u.1.2.2.2.2.1, (u.1.2.2.2.2.2.1, (v12, ()))))))), ((u.2.1.1, (u.2.1.2.1, ())), ()))
  else none
 else
  some (.inl (((), ((), ())), ((u.2.1.1, (u.2.1.2.1, ())), ())))
def L_ev_3 (x : i_ev_3.den) : Option (denO o_ev_3) := Qc l_ev_3 lots x
def F_ev (x : denP P_au) : FO P_au R_bc :=
 if 0 ≤ x.2.1 then
  ((x.1.2.2.1)[(x.2.1).toNat]?).bind fun y1 =>
  (F_er (y1, ())).bind fun r2 =>
  if 0 ≤ x.2.1 then
   ((x.1.1.1)[(x.2.1).toNat]?).bind fun y3 =>
   (F_eu (x.1.2.1, y3, ())).bind fun r4 =>
   let v5 := ((x.1.1.2.1.length : Nat) : Int)
   (L_ev_3 ((x.1, (x.2.1, ((), ((), (x.1.1.2.1, (v5, ((0 : Int), ()))))))), (((([] : List (den YI)), ((0 : Int), (([] : List (den YI)), (false, (false, (false, ((0 : Int), (([] : List (den YI)), (([] : List (den YI)), (([] : List (den YI)), (([] : List (den YI)), ()))))))))))), ((r2.1.1.1, (r2.1.1.2.1, (r2.1.1.2.2.1, (r2.1.1.2.2.2.1, (r2.1.1.2.2.2.2.1, (r2.1.1.2.2.2.2.2.1, (r2.1.1.2.2.2.2.2.2.1, (r2.1.1.2.2.2.2.2.2.2.1, (r2.1.1.2.2.2.2.2.2.2.2.1, (r4.1.1, (([] : List (den YI)), ()))))))))))), ())), ()))).bind fun z13 =>
   match z13 with
   | .inl x14 =>
    some ((x14.2.1.2.1, ()), ())
   | .inr z13_ =>
    none
  else none
 else none
abbrev C_ev : Con := ⟨P_au, R_bc, F_ev, false⟩
abbrev G_ev : Env := [(90, C_er), (92, C_eu), (93, C_et)]
theorem g_ev : Qe Tryz.prog G_ev := (Qa s_er (Qa s_eu (Qa s_et Qd)))
abbrev c_ev_3 : Cut := ⟨i_ev_3, o_ev_3, fun x => Qc l_ev_3 lots x⟩
theorem k_ev_3 : Qo Tryz.prog 57 (.loop (nav Tryz.f42 [1, 1, 0, 1, 0, 0])) c_ev_3 :=
  Qf (L := []) hT g_ev (fun _ _ => by kernel_rfl) okP _
theorem r_ev (x) : Qv T G_ev [(3, c_ev_3)] Tryz.f42 C_ev.ps C_ev.rs x = C_ev.F x := by kernel_rfl
theorem s_ev : Qb Tryz.prog 42 C_ev := fnC (L := [(3, c_ev_3)]) hT g_ev Tryz.f42 (okS okP (okS okP (okS (okS okP (okB (okU k_ev_3))) okP))) r_ev
abbrev P_ew : List PK := [.val Y35, .ptr Y26, .val YI]
abbrev i_ew_3 : Shp := { slots := [(2, .s (.dat YI)), (3, .s (.ptr 3 0)), (6, .s (.ptr 6 0)), (7, .s (.ptr 7 0)), (30, .s (.dat Y23)), (31, .s (.dat YI)), (32, .s (.dat YI))], boxes := [(3, [.dat Y28, .dat YI, .dat Y28, .dat .bool, .dat .bool, .dat .bool, .dat YI, .dat Y28, .dat Y28, .dat Y24, .dat Y28]), (6, [.own 2 YI, .dat YI, .own 2 YI, .dat .bool, .dat .bool, .dat .bool, .dat YI, .own 2 YI, .own 2 YI, .own 2 YI, .own 2 YI]), (7, [.own 2 YI, .dat YI, .own 2 YI, .dat .bool, .dat .bool, .dat .bool, .dat YI, .own 2 YI, .own 2 YI, .own 2 YI, .own 2 YI])], rows := [] }
abbrev o_ew_3 : List (Ex × Shp) := [(.exit 0, { slots := [(6, .s (.ptr 6 0)), (7, .s (.ptr 7 0))], boxes := [(6, [.own 2 YI, .dat YI, .own 2 YI, .dat .bool, .dat .bool, .dat .bool, .dat YI, .own 2 YI, .own 2 YI, .own 2 YI, .own 2 YI]), (7, [.own 2 YI, .dat YI, .own 2 YI, .dat .bool, .dat .bool, .dat .bool, .dat YI, .own 2 YI, .own 2 YI, .own 2 YI, .own 2 YI])], rows := [] })]
def l_ew_3 (rec : i_ew_3.den → Option (denO o_ew_3)) (u : i_ew_3.den) : Option (denO o_ew_3) :=
 if (ltI u.1.2.2.2.2.2.2.1 u.1.2.2.2.2.2.1) then
  if 0 ≤ u.1.2.2.2.2.2.2.1 then
   ((u.1.2.2.2.2.1)[(u.1.2.2.2.2.2.2.1).toNat]?).bind fun y10 =>
   if (y10.1 == u.1.1) then
    (F_et (u.2.1.1.2.2.2.2.2.2.2.2.2.2.1, y10.2.2.2.1, ())).bind fun r11 =>
    if (u.2.1.2.2.1.2.2.2.2.2.2.2.2.2.2.1.length + r11.1.1.length) * 8 ≤ 140737488355328 then
     let v12 := (u.2.1.2.2.1.2.2.2.2.2.2.2.2.2.2.1 ++ r11.1.1)
     let v13 := (IntKind.i64.wrap (u.1.2.2.2.2.2.2.1 + (1 : Int)))
     rec ((u.1.1, ((), ((), ((), (u.1.2.2.2.2.1, (u.1.2.2.2.2.2.1, (v13, ()))))))), ((u.2.1.1, (u.2.1.2.1, ((u.2.1.2.2.1.1, (u.2.1.2.2.1.2.1, (u.2.1.2.2.1.2.2.1, (u.2.1.2.2.1.2.2.2.1, (u.2.1.2.2.1.2.2.2.2.1, (u.2.1.2.2.1.2.2.2.2.2.1, (u.2.1.2.2.1.2.2.2.2.2.2.1, (u.2.1.2.2.1.2.2.2.2.2.2.2.1, (u.2.1.2.2.1.2.2.2.2.2.2.2.2.1, (u.2.1.2.2.1.2.2.2.2.2.2.2.2.2.1, (v12, ()))))))))))), ()))), ()))
    else none
   else
    let v14 := (IntKind.i64.wrap (u.1.2.2.2.2.2.2.1 + (1 : Int)))
    rec ((u.1.1, ((), ((), ((), (u.1.2.2.2.2.1, (u.1.2.2.2.2.2.1, (v14, ()))))))), ((u.2.1.1, (u.2.1.2.1, (u.2.1.2.2.1, ()))), ()))
  else none
 else
  some (.inl (((), ((), ())), ((u.2.1.2.1, (u.2.1.2.2.1, ())), ())))
def L_ew_3 (x : i_ew_3.den) : Option (denO o_ew_3) := Qc l_ew_3 lots x
def F_ew (x : denP P_ew) : FO P_ew R_bc :=
 (F_er (x.1.1, ())).bind fun r1 =>
 if 0 ≤ x.2.2.1 then
  ((x.2.1.1)[(x.2.2.1).toNat]?).bind fun y2 =>
  let v3 := ((y2.length : Nat) : Int)
  let v4 := (IntKind.i64.wrap (v3 * (8 : Int)))
  if 0 ≤ (0 : Int) ∧ (0 : Int) ≤ v4 ∧ v4 ≤ ((x.1.2.2.1.length : Nat) : Int) then
   let v5 := ((x.1.2.2.1.drop ((0 : Int)).toNat).take ((v4).toNat - ((0 : Int)).toNat))
   (F_el (v5, ())).bind fun r6 =>
   let v7 := ((x.2.1.2.1.length : Nat) : Int)
   (L_ew_3 ((x.2.2.1, ((), ((), ((), (x.2.1.2.1, (v7, ((0 : Int), ()))))))), (((x.1.1.1, (x.1.1.2.1, (x.1.1.2.2.1, (x.1.1.2.2.2.1, (x.1.1.2.2.2.2.1, (x.1.1.2.2.2.2.2.1, (x.1.1.2.2.2.2.2.2.1, (x.1.1.2.2.2.2.2.2.2.1, (x.1.1.2.2.2.2.2.2.2.2.1, (x.1.2.1, (x.1.2.2.1, ()))))))))))), ((([] : List (den YI)), ((0 : Int), (([] : List (den YI)), (false, (false, (false, ((0 : Int), (([] : List (den YI)), (([] : List (den YI)), (([] : List (den YI)), (([] : List (den YI)), ()))))))))))), ((r1.1.1.1, (r1.1.1.2.1, (r1.1.1.2.2.1, (r1.1.1.2.2.2.1, (r1.1.1.2.2.2.2.1, (r1.1.1.2.2.2.2.2.1, (r1.1.1.2.2.2.2.2.2.1, (r1.1.1.2.2.2.2.2.2.2.1, (r1.1.1.2.2.2.2.2.2.2.2.1, (r6.1.1, (([] : List (den YI)), ()))))))))))), ()))), ()))).bind fun z15 =>
   match z15 with
   | .inl x16 =>
    some ((x16.2.1.2.1, ()), ())
   | .inr z15_ =>
    none
  else none
 else none
abbrev C_ew : Con := ⟨P_ew, R_bc, F_ew, false⟩
abbrev G_ew : Env := [(88, C_el), (90, C_er), (93, C_et)]
theorem g_ew : Qe Tryz.prog G_ew := (Qa s_el (Qa s_er (Qa s_et Qd)))
abbrev c_ew_3 : Cut := ⟨i_ew_3, o_ew_3, fun x => Qc l_ew_3 lots x⟩
theorem k_ew_3 : Qo Tryz.prog 51 (.loop (nav Tryz.f43 [1, 1, 0, 1, 0, 0])) c_ew_3 :=
  Qf (L := []) hT g_ew (fun _ _ => by kernel_rfl) okP _
theorem r_ew (x) : Qv T G_ew [(3, c_ew_3)] Tryz.f43 C_ew.ps C_ew.rs x = C_ew.F x := by kernel_rfl
theorem s_ew : Qb Tryz.prog 43 C_ew := fnC (L := [(3, c_ew_3)]) hT g_ew Tryz.f43 (okS okP (okS okP (okS (okS okP (okB (okU k_ew_3))) okP))) r_ew
abbrev i_ex_4 : Shp := { slots := [(0, .s (.dat Y28)), (1, .s (.dat Y28)), (12, .s (.dat YI)), (13, .s (.dat YI))], boxes := [], rows := [] }
def l_ex_4 (rec : i_ex_4.den → Option (denO o_ab_2)) (u : i_ex_4.den) : Option (denO o_ab_2) :=
 if (ltI u.1.2.2.2.1 u.1.2.2.1) then
  if 0 ≤ u.1.2.2.2.1 then
   ((u.1.1)[(u.1.2.2.2.1).toNat]?).bind fun y6 =>
   if 0 ≤ u.1.2.2.2.1 then
    ((u.1.2.1)[(u.1.2.2.2.1).toNat]?).bind fun y7 =>
    if (y6 != y7) then
     some (.inr (.inl ((false, ()), ((), ()))))
    else
     let v8 := (IntKind.i64.wrap (u.1.2.2.2.1 + (1 : Int)))
     rec ((u.1.1, (u.1.2.1, (u.1.2.2.1, (v8, ())))), ((), ()))
   else none
  else none
 else
  some (.inl ((), ((), ())))
def L_ex_4 (x : i_ex_4.den) : Option (denO o_ab_2) := Qc l_ex_4 lots x
def F_ex (x : denP P_ba) : FO P_ba R_aa :=
 let v1 := ((x.1.length : Nat) : Int)
 let v2 := ((x.2.1.length : Nat) : Int)
 if (v1 != v2) then
  some ((false, ()), ())
 else
  let v3 := ((x.1.length : Nat) : Int)
  (L_ex_4 ((x.1, (x.2.1, (v3, ((0 : Int), ())))), ((), ()))).bind fun z9 =>
  match z9 with
  | .inl x10 =>
   some ((true, ()), ())
  | .inr z9_ =>
   match z9_ with
   | .inl x11 =>
    some ((x11.1.1, ()), ())
   | .inr z9__ =>
    none
abbrev C_ex : Con := ⟨P_ba, R_aa, F_ex, false⟩
abbrev c_ex_4 : Cut := ⟨i_ex_4, o_ab_2, fun x => Qc l_ex_4 lots x⟩
theorem k_ex_4 : Qo Tryz.prog 26 (.loop (nav Tryz.f137 [1, 1, 0, 1, 0, 0])) c_ex_4 :=
  Qf (L := []) hT g_a (fun _ _ => by kernel_rfl) okP _
theorem r_ex (x) : Qv T G_a [(4, c_ex_4)] Tryz.f137 C_ex.ps C_ex.rs x = C_ex.F x := by kernel_rfl
theorem s_ex : Qb Tryz.prog 137 C_ex := fnC (L := [(4, c_ex_4)]) hT g_a Tryz.f137 (okS okP (okS okP (okS (okS okP (okB (okU k_ex_4))) okP))) r_ex
abbrev P_ey : List PK := [.val Y32, .val Y32]
def F_ey (x : denP P_ey) : FO P_ey R_aa :=
 (F_ex (x.1.1, x.2.1.1, ())).bind fun r1 =>
 if r1.1.1 = true then
  if (x.1.2.1 == x.2.1.2.1) = true then
   (F_ex (x.1.2.2.1, x.2.1.2.2.1, ())).bind fun r2 =>
   if r2.1.1 = true then
    if (x.1.2.2.2.1 == x.2.1.2.2.2.1) = true then
     if (x.1.2.2.2.2.1 == x.2.1.2.2.2.2.1) = true then
      if (x.1.2.2.2.2.2.1 == x.2.1.2.2.2.2.2.1) = true then
       if (x.1.2.2.2.2.2.2.1 == x.2.1.2.2.2.2.2.2.1) = true then
        (F_ex (x.1.2.2.2.2.2.2.2.1, x.2.1.2.2.2.2.2.2.2.1, ())).bind fun r3 =>
        if r3.1.1 = true then
         (F_ex (x.1.2.2.2.2.2.2.2.2.1, x.2.1.2.2.2.2.2.2.2.2.1, ())).bind fun r4 =>
         some ((r4.1.1, ()), ())
        else
         some ((false, ()), ())
       else
        some ((false, ()), ())
      else
       some ((false, ()), ())
     else
      some ((false, ()), ())
    else
     some ((false, ()), ())
   else
    some ((false, ()), ())
  else
   some ((false, ()), ())
 else
  some ((false, ()), ())
abbrev C_ey : Con := ⟨P_ey, R_aa, F_ey, false⟩
abbrev G_ey : Env := [(137, C_ex)]
theorem g_ey : Qe Tryz.prog G_ey := (Qa s_ex Qd)
theorem s_ey : Qb Tryz.prog 136 C_ey := fnC (L := []) hT g_ey Tryz.f136 okP fun _ => by kernel_rfl
def F_ez (x : denP P_bh) : FO P_bh R_aa :=
 (F_ey (x.1.1, x.2.1.1, ())).bind fun r1 =>
 if r1.1.1 = true then
  (F_ex (x.1.2.1, x.2.1.2.1, ())).bind fun r2 =>
  if r2.1.1 = true then
   (F_ex (x.1.2.2.1, x.2.1.2.2.1, ())).bind fun r3 =>
   some ((r3.1.1, ()), ())
  else
   some ((false, ()), ())
 else
  some ((false, ()), ())
abbrev C_ez : Con := ⟨P_bh, R_aa, F_ez, false⟩
abbrev G_ez : Env := [(136, C_ey), (137, C_ex)]
theorem g_ez : Qe Tryz.prog G_ez := (Qa s_ey (Qa s_ex Qd))
theorem s_ez : Qb Tryz.prog 91 C_ez := fnC (L := []) hT g_ez Tryz.f91 okP fun _ => by kernel_rfl
def F_fa (x : denP P_bh) : FO P_bh R_aa :=
 (F_ez (((x.1.1.1, (x.1.1.2.1, (x.1.1.2.2.1, (x.1.1.2.2.2.1, (x.1.1.2.2.2.2.1, (x.2.1.1.2.2.2.2.2.1, x.1.1.2.2.2.2.2.2)))))), x.1.2), x.2.1, ())).bind fun r1 =>
 some ((r1.1.1, ()), ())
abbrev C_fa : Con := ⟨P_bh, R_aa, F_fa, false⟩
abbrev G_fa : Env := [(91, C_ez)]
theorem g_fa : Qe Tryz.prog G_fa := (Qa s_ez Qd)
theorem s_fa : Qb Tryz.prog 41 C_fa := fnC (L := []) hT g_fa Tryz.f41 okP fun _ => by kernel_rfl
def F_fb (x : denP P_aq) : FO P_aq R_a :=
 if 0 ≤ x.1.2.2.2.1 then
  ((x.1.1.2.2.2.1)[(x.1.2.2.2.1).toNat]?).bind fun y1 =>
  some ((y1.1, ()), ())
 else none
abbrev C_fb : Con := ⟨P_aq, R_a, F_fb, false⟩
theorem s_fb : Qb Tryz.prog 44 C_fb := fnC (L := []) hT g_a Tryz.f44 okP fun _ => by kernel_rfl
def F_fc (x : denP P_q) : FO P_q R_y :=
  if (([] : List (den Y76)).length + x.1.length) * 16 ≤ 140737488355328 then some (([] ++ x.1, ()), ()) else none
abbrev C_fc : Con := ⟨P_q, R_y, F_fc, false⟩
theorem s_fc : Qb Tryz.prog 171 C_fc :=
  Qcb hT (fn := Tryz.f171) (cn := C_fc) (c0 := nav Tryz.f171 [0]) (ca := nav Tryz.f171 [1, 0, 1, 0]) (cb := nav Tryz.f171 [1, 1]) (id := 1) (d := 4) (nm := 1032000) (o1 := Qds Tryz.f171 [1, 0, 0] 0) (o2 := Qds Tryz.f171 [1, 0, 0] 1)
    (t := 52) (t' := 52) (x := .tmp 3) (r := ⟨Y24, [], 139, 24, 0⟩) (u := Y76) (by kernel_rfl) (by kernel_rfl) (by kernel_rfl) ⟨by kernel_rfl, by kernel_rfl⟩ (fun y => by kernel_rfl) (by kernel_rfl) (by kernel_rfl) (by kernel_rfl) (by kernel_rfl) (by kernel_rfl) rfl
    (fun y => (st0 Tryz.f171 P_q y).set 2 (.s .nls)) (fun y => ((st0 Tryz.f171 P_q y).set 2 (.s .nls)).set 3 (.s (.d (.slice Y76) y.1))) (fun y => y.1)
    (fun y => by kernel_rfl) (fun y => by kernel_rfl) (fun y => by kernel_rfl) (fun y => Nat.le_of_ble_eq_true (by kernel_rfl)) (fun y => by kernel_rfl) (by kernel_rfl) (by kernel_rfl) (by kernel_rfl) (fun y => by kernel_rfl)
    (fun y h => by obtain ⟨l, v⟩ := y; have h : l = [] := h; subst h; show run _ _ _ _ _ _ = F_fc ([], v); kernel_rfl) (fun y => by kernel_rfl)
def F_fd (x : denP P_q) : FO P_q R_y :=
 (F_fc (x.1, ())).bind fun r1 =>
 some ((r1.1.1, ()), ())
abbrev C_fd : Con := ⟨P_q, R_y, F_fd, false⟩
abbrev G_fd : Env := [(171, C_fc)]
theorem g_fd : Qe Tryz.prog G_fd := (Qa s_fc Qd)
theorem s_fd : Qb Tryz.prog 138 C_fd := fnC (L := []) hT g_fd Tryz.f138 okP fun _ => by kernel_rfl
abbrev P_fe : List PK := [.val Y35, .val YI, .val Y28]
def F_fe (x : denP P_fe) : FO P_fe R_z :=
 (F_el (x.1.2.2.1, ())).bind fun r1 =>
 let v2 := (IntKind.i64.wrap (x.2.1 * (8 : Int)))
 if 0 ≤ v2 ∧ v2 ≤ ((r1.1.1.length : Nat) : Int) ∧ ((r1.1.1.length : Nat) : Int) ≤ ((r1.1.1.length : Nat) : Int) then
  if 0 < ((((r1.1.1.length : Nat) : Int)).toNat - (v2).toNat) ∧ 0 < x.2.2.1.length then
   let v3 := (splc r1.1.1 x.2.2.1 (0 + (v2).toNat) ((((r1.1.1.length : Nat) : Int)).toNat - (v2).toNat))
   let v4 := ((min ((((r1.1.1.length : Nat) : Int)).toNat - (v2).toNat) x.2.2.1.length : Nat) : Int)
   (F_er (x.1.1, ())).bind fun r5 =>
   (F_fd (x.1.2.1, ())).bind fun r6 =>
   some (((r5.1.1.1, (r5.1.1.2.1, (r5.1.1.2.2.1, (r5.1.1.2.2.2.1, (r5.1.1.2.2.2.2.1, (r5.1.1.2.2.2.2.2.1, (r5.1.1.2.2.2.2.2.2.1, (r5.1.1.2.2.2.2.2.2.2.1, (r5.1.1.2.2.2.2.2.2.2.2.1, (r6.1.1, (v3, ()))))))))))), ()), ())
  else none
 else none
abbrev C_fe : Con := ⟨P_fe, R_z, F_fe, false⟩
abbrev G_fe : Env := [(88, C_el), (90, C_er), (138, C_fd)]
theorem g_fe : Qe Tryz.prog G_fe := (Qa s_el (Qa s_er (Qa s_fd Qd)))
theorem s_fe : Qb Tryz.prog 94 C_fe := fnC (L := []) hT g_fe Tryz.f94 okP fun _ => by kernel_rfl
def F_ff (x : denP P_ao) : FO P_ao R_a :=
 ((x.1.2.2.1)[((9 : Int)).toNat]?).bind fun y1 =>
 if (y1 != (0 : Int)) = true then
  ((x.1.2.2.1)[((9 : Int)).toNat]?).bind fun y2 =>
  if (leI y2 x.1.2.2.2.2.2.2.1) then
   let v3 := (ior .i64 (0 : Int) (1 : Int))
   if x.1.2.2.2.2.2.1 then
    let v4 := (ior .i64 v3 (2 : Int))
    let v5 := ((x.1.2.2.2.2.2.2.2.1.length : Nat) : Int)
    if (ltI (0 : Int) v5) then
     let v6 := (ior .i64 v4 (4 : Int))
     some ((v6, ()), ())
    else
     some ((v4, ()), ())
   else
    let v7 := ((x.1.2.2.2.2.2.2.2.1.length : Nat) : Int)
    if (ltI (0 : Int) v7) then
     let v8 := (ior .i64 v3 (4 : Int))
     some ((v8, ()), ())
    else
     some ((v3, ()), ())
  else
   if x.1.2.2.2.2.2.1 then
    let v9 := (ior .i64 (0 : Int) (2 : Int))
    let v10 := ((x.1.2.2.2.2.2.2.2.1.length : Nat) : Int)
    if (ltI (0 : Int) v10) then
     let v11 := (ior .i64 v9 (4 : Int))
     some ((v11, ()), ())
    else
     some ((v9, ()), ())
   else
    let v12 := ((x.1.2.2.2.2.2.2.2.1.length : Nat) : Int)
    if (ltI (0 : Int) v12) then
     let v13 := (ior .i64 (0 : Int) (4 : Int))
     some ((v13, ()), ())
    else
     some (((0 : Int), ()), ())
 else
  if x.1.2.2.2.2.2.1 then
   let v14 := (ior .i64 (0 : Int) (2 : Int))
   let v15 := ((x.1.2.2.2.2.2.2.2.1.length : Nat) : Int)
   if (ltI (0 : Int) v15) then
    let v16 := (ior .i64 v14 (4 : Int))
    some ((v16, ()), ())
   else
    some ((v14, ()), ())
  else
   let v17 := ((x.1.2.2.2.2.2.2.2.1.length : Nat) : Int)
   if (ltI (0 : Int) v17) then
    let v18 := (ior .i64 (0 : Int) (4 : Int))
    some ((v18, ()), ())
   else
    some (((0 : Int), ()), ())
abbrev C_ff : Con := ⟨P_ao, R_a, F_ff, false⟩
theorem s_ff : Qb Tryz.prog 174 C_ff := fnC (L := []) hT g_a Tryz.f174 okP fun _ => by kernel_rfl
abbrev P_fg : List PK := [.val (.int .u64)]
def tzF (n : Int) : Option Int := if n = 1 ∨ n = 3 ∨ n = 5 ∨ n = 7 then some 0 else if n = 2 ∨ n = 6 then some 1 else if n = 4 then some 2 else none
def F_fg (x : denP P_fg) : FO P_fg R_a := match tzF x.1 with | some z => some ((z, ()), ()) | none => none
abbrev C_fg : Con := ⟨P_fg, R_a, F_fg, false⟩
theorem w_fg (n : Int) (k : Nat) (z : Int) (hn : (n == 0) = false) (w : World) (hr : 0 ≤ IntKind.u64.wrap (bits BinOp.and IntKind.u64 n (IntKind.u64.wrap (-n)) * 285870213051353865) / 288230376151711744 ∧ IntKind.u64.wrap (bits BinOp.and IntKind.u64 n (IntKind.u64.wrap (-n)) * 285870213051353865) / 288230376151711744 < 64)
    (he : (IntKind.u64.wrap (bits BinOp.and IntKind.u64 n (IntKind.u64.wrap (-n)) * 285870213051353865) / 288230376151711744).toNat = k)
    (h : w.cell? { block := 0, off := k } = some (.int .u8 z)) (hz : IntKind.i64.wrap z = z) : Calls Tryz.prog 195 #[.int .u64 n] w fun e' w' => e' = .returned (.int .i64 z) ∧ w' = w := by
  go_enter Tryz.func195, Tryz.ntmps195
  go_wp2
  all_goals first | (go_ret; exact ⟨rfl, rfl⟩) | exact absurd hr ‹¬ _› | simp_all
theorem v_fg {n z : Int} (h : tzF n = some z) {M : Nat → Nat → Prop} {w : World} (hl : Laid M w) : Calls Tryz.prog 195 #[.int .u64 n] w fun e' w' => e' = .returned (.int .i64 z) ∧ w' = w := by
  have hg : ∀ i v, (0, i, v) ∈ GL → w.cell? { block := 0, off := i } = some v := by
    intro i v hm
    obtain ⟨⟨c, e, fz, h1, h2⟩, _⟩ := hl _ hm
    simp only at h1 h2
    simp [World.cell?, h1, h2]
  have g0 := hg 0 (.int .u8 0) (by simp [GL])
  have g1 := hg 1 (.int .u8 1) (by simp [GL])
  have g3 := hg 3 (.int .u8 2) (by simp [GL])
  have key : ((n = 1 ∨ n = 3 ∨ n = 5 ∨ n = 7) ∧ z = 0) ∨ ((n = 2 ∨ n = 6) ∧ z = 1) ∨ (n = 4 ∧ z = 2) := by
    unfold tzF at h
    split at h
    · exact .inl ⟨‹_›, (Osj h).symm⟩
    · split at h
      · exact .inr (.inl ⟨‹_›, (Osj h).symm⟩)
      · split at h
        · exact .inr (.inr ⟨‹_›, (Osj h).symm⟩)
        · cases h
  clear h
  rcases key with ⟨h | h | h | h, rfl⟩ | ⟨h | h, rfl⟩ | ⟨h, rfl⟩ <;> subst h
  all_goals first
    | exact w_fg _ 0 _ (by decide) w (by decide +kernel) (by decide +kernel) g0 (by decide +kernel)
    | exact w_fg _ 1 _ (by decide) w (by decide +kernel) (by decide +kernel) g1 (by decide +kernel)
    | exact w_fg _ 3 _ (by decide) w (by decide +kernel) (by decide +kernel) g3 (by decide +kernel)
theorem u_fg : Qfu Tryz.prog 195 C_fg := by
  intro x y hx w args S Q B M F hp ha _
  obtain ⟨v, vs', rfl, ⟨cs, h1, h2⟩, rfl, rfl⟩ := ha
  have e1 : v = .int .u64 x.1 := by
    have h1 : cs = [v] := h1
    subst h1
    simpa [Rp] using h2
  subst e1
  have hx : F_fg x = some y := hx
  unfold F_fg at hx
  split at hx
  · rename_i z hz
    obtain rfl := Osj hx
    refine (v_fg hz hp.laid).mono fun r w' h => ?_
    obtain ⟨rfl, rfl⟩ := h
    refine ⟨_, rfl, Kept.refl M w', [.int .i64 z], [], [], rfl, ⟨_, [], [], [], rfl, rfl, ⟨⟨[.int .i64 z], rfl, rfl⟩, rfl⟩, rfl, rfl⟩, ⟨_, [], rfl, rfl, rfl⟩, List.nodup_nil, fun b hb => by cases hb⟩
  · cases hx
theorem s_fg : Qb Tryz.prog 195 C_fg := (u_fg).ok (Qgp Tryz.func195 (by decide +kernel) (by kernel_rfl))
def F_fh (x : denP P_ao) : FO P_ao R_a :=
 (F_ff (x.1, ())).bind fun r1 =>
 ((x.1.2.2.1)[((7 : Int)).toNat]?).bind fun y2 =>
 let v3 := (iand .i64 r1.1.1 y2)
 ((x.1.2.2.1)[((0 : Int)).toNat]?).bind fun y4 =>
 let v5 := ((y4).tmod (2 : Int))
 if (v5 == (0 : Int)) = false then
  if (v3 == (0 : Int)) then
   some (((-1 : Int), ()), ())
  else
   let v6 := (IntKind.u64.wrap v3)
   (F_fg (v6, ())).bind fun r7 =>
   some ((r7.1.1, ()), ())
 else
  some (((-1 : Int), ()), ())
abbrev C_fh : Con := ⟨P_ao, R_a, F_fh, false⟩
abbrev G_fh : Env := [(174, C_ff), (195, C_fg)]
theorem g_fh : Qe Tryz.prog G_fh := (Qa s_ff (Qa s_fg Qd))
theorem s_fh : Qb Tryz.prog 172 C_fh := fnC (L := []) hT g_fh Tryz.f172 okP fun _ => by kernel_rfl
abbrev P_fi : List PK := [.box [.own 2 YI, .dat YI, .own 2 YI, .dat .bool, .dat .bool, .dat .bool, .dat YI, .own 2 YI, .own 2 YI] [.own 2 YI, .dat YI, .own 2 YI, .dat .bool, .dat .bool, .dat .bool, .dat YI, .own 2 YI, .own 2 YI], .val YI, .val YI]
def F_fi (x : denP P_fi) : FO P_fi R_bj :=
 if 0 ≤ (2 : Int) ∧ (2 : Int) < ((x.1.2.2.1.length : Nat) : Int) then
  ((x.1.2.2.1)[((2 : Int)).toNat]?).bind fun y1 =>
  let v2 := (x.1.2.2.1.set ((2 : Int)).toNat x.1.2.1)
  if 0 ≤ (3 : Int) ∧ (3 : Int) < ((v2.length : Nat) : Int) then
   ((v2)[((3 : Int)).toNat]?).bind fun y3 =>
   let v4 := (v2.set ((3 : Int)).toNat x.2.1)
   if 0 ≤ (4 : Int) ∧ (4 : Int) < ((v4.length : Nat) : Int) then
    ((v4)[((4 : Int)).toNat]?).bind fun y5 =>
    let v6 := (v4.set ((4 : Int)).toNat x.2.2.1)
    if 0 ≤ (0 : Int) ∧ (0 : Int) < ((v6.length : Nat) : Int) then
     ((v6)[((0 : Int)).toNat]?).bind fun y7 =>
     let v8 := ((y7).tmod (2 : Int))
     let v9 := (IntKind.i64.wrap (v8 * (2 : Int)))
     if 0 ≤ (0 : Int) ∧ (0 : Int) < ((v6.length : Nat) : Int) then
      ((v6)[((0 : Int)).toNat]?).bind fun y10 =>
      let v11 := (v6.set ((0 : Int)).toNat v9)
      if 0 ≤ (1 : Int) ∧ (1 : Int) < ((v11.length : Nat) : Int) then
       ((v11)[((1 : Int)).toNat]?).bind fun y12 =>
       some ((), ((x.1.1, (y12, (v11, (x.1.2.2.2.1, (false, (x.1.2.2.2.2.2.1, (x.1.2.2.2.2.2.2.1, (x.1.2.2.2.2.2.2.2.1, (x.1.2.2.2.2.2.2.2.2.1, ()))))))))), ()))
      else none
     else none
    else none
   else none
  else none
 else none
abbrev C_fi : Con := ⟨P_fi, R_bj, F_fi, false⟩
theorem s_fi : Qb Tryz.prog 196 C_fi := fnC (L := []) hT g_a Tryz.f196 okP fun _ => by kernel_rfl
abbrev P_fj : List PK := [.box [.own 2 YI, .dat YI, .own 2 YI, .dat .bool, .dat .bool, .dat .bool, .dat YI, .own 2 YI, .own 2 YI, .dat Y24, .own 2 YI, .dat YI, .dat YI] [.own 2 YI, .dat YI, .own 2 YI, .dat .bool, .dat .bool, .dat .bool, .dat YI, .own 2 YI, .own 2 YI, .dat Y24, .own 2 YI, .dat YI, .dat YI], .val YI, .val YI]
def F_fj (x : denP P_fj) : FO P_fj R_bj :=
 (F_fi ((x.1.1, (x.1.2.1, (x.1.2.2.1, (x.1.2.2.2.1, (x.1.2.2.2.2.1, (x.1.2.2.2.2.2.1, (x.1.2.2.2.2.2.2.1, (x.1.2.2.2.2.2.2.2.1, (x.1.2.2.2.2.2.2.2.2.1, ()))))))))), x.2.1, x.2.2.1, ())).bind fun r1 =>
 some ((), ((r1.2.1.1, (r1.2.1.2.1, (r1.2.1.2.2.1, (r1.2.1.2.2.2.1, (r1.2.1.2.2.2.2.1, (r1.2.1.2.2.2.2.2.1, (r1.2.1.2.2.2.2.2.2.1, (r1.2.1.2.2.2.2.2.2.2.1, (r1.2.1.2.2.2.2.2.2.2.2.1, (x.1.2.2.2.2.2.2.2.2.2.1, (x.1.2.2.2.2.2.2.2.2.2.2.1, (x.2.1, (x.1.2.2.2.2.2.2.2.2.2.2.2.2.1, ()))))))))))))), ()))
abbrev C_fj : Con := ⟨P_fj, R_bj, F_fj, false⟩
abbrev G_fj : Env := [(196, C_fi)]
theorem g_fj : Qe Tryz.prog G_fj := (Qa s_fi Qd)
theorem s_fj : Qb Tryz.prog 173 C_fj := fnC (L := []) hT g_fj Tryz.f173 okP fun _ => by kernel_rfl
def F_fk (x : denP P_bq) : FO P_bq R_p :=
 some ((((-1 : Int), ((0 : Int), ())), ()), ())
abbrev C_fk : Con := ⟨P_bq, R_p, F_fk, false⟩
theorem s_fk : Qb Tryz.prog 141 C_fk := fnC (L := []) hT g_a Tryz.f141 okP fun _ => by kernel_rfl
def F_fl (x : denP P_am) : FO P_am R_p :=
 let v1 := (IntKind.i64.wrap ((x.1).tdiv (8 : Int)))
 let v2 := ((x.1).tmod (8 : Int))
 if (v2 == (0 : Int)) = false then
  if (leI (8 : Int) v1) then
   (F_fk ()).bind fun r3 =>
   some ((r3.1.1, ()), ())
  else
   some (((v1, (v2, ())), ()), ())
 else
  (F_fk ()).bind fun r4 =>
  some ((r4.1.1, ()), ())
abbrev C_fl : Con := ⟨P_am, R_p, F_fl, false⟩
abbrev G_fl : Env := [(141, C_fk)]
theorem g_fl : Qe Tryz.prog G_fl := (Qa s_fk Qd)
theorem s_fl : Qb Tryz.prog 225 C_fl := fnC (L := []) hT g_fl Tryz.f225 okP fun _ => by kernel_rfl
abbrev i_fm_7 : Shp := { slots := [(2, .s (.ptr 2 0)), (3, .s (.own 139 Y76)), (15, .s (.dat Y28)), (16, .s (.dat YI)), (17, .s (.dat YI))], boxes := [(2, [.dat YI, .own 139 Y76])], rows := [] }
abbrev o_fm_7 : List (Ex × Shp) := [(.exit 0, { slots := [(2, .s (.ptr 2 0)), (3, .s (.own 139 Y76))], boxes := [(2, [.dat YI, .own 139 Y76])], rows := [] })]
def l_fm_7 (rec : i_fm_7.den → Option (denO o_fm_7)) (u : i_fm_7.den) : Option (denO o_fm_7) :=
 if (ltI u.1.2.2.2.2.1 u.1.2.2.2.1) then
  if 0 ≤ u.1.2.2.2.2.1 then
   ((u.1.2.2.1)[(u.1.2.2.2.2.1).toNat]?).bind fun y6 =>
   (F_fl (y6, ())).bind fun r7 =>
   if (u.1.2.1.length + [r7.1.1].length) * 16 ≤ 140737488355328 then
    let v8 := (u.1.2.1 ++ [r7.1.1])
    let v9 := (IntKind.i64.wrap (u.1.2.2.2.2.1 + (1 : Int)))
    rec (((), (v8, (u.1.2.2.1, (u.1.2.2.2.1, (v9, ()))))), ((u.2.1.1, ()), ()))
   else none
  else none
 else
  some (.inl (((), (u.1.2.1, ())), ((u.2.1.1, ()), ())))
def L_fm_7 (x : i_fm_7.den) : Option (denO o_fm_7) := Qc l_fm_7 lots x
def F_fm (x : denP P_l) : FO P_l R_bs :=
 let v1 := ((x.1.length : Nat) : Int)
 if (v1 != (8 : Int)) then
  some ((((1 : Int), (([] : List (den Y76)), ())), ()), ())
 else
  (F_dt (x.1, ())).bind fun r2 =>
  if (!r2.1.1) then
   some ((((3 : Int), (([] : List (den Y76)), ())), ()), ())
  else
   let v3 := ((x.1.length : Nat) : Int)
   (L_fm_7 (((), (([] : List (den Y76)), (x.1, (v3, ((0 : Int), ()))))), ((((0 : Int), (([] : List (den Y76)), ())), ()), ()))).bind fun z10 =>
   match z10 with
   | .inl x11 =>
    some ((((0 : Int), (x11.1.2.1, ())), ()), ())
   | .inr z10_ =>
    none
abbrev C_fm : Con := ⟨P_l, R_bs, F_fm, false⟩
abbrev G_fm : Env := [(128, C_dt), (225, C_fl)]
theorem g_fm : Qe Tryz.prog G_fm := (Qa s_dt (Qa s_fl Qd))
abbrev c_fm_7 : Cut := ⟨i_fm_7, o_fm_7, fun x => Qc l_fm_7 lots x⟩
theorem k_fm_7 : Qo Tryz.prog 29 (.loop (nav Tryz.f214 [1, 1, 1, 1, 0, 1, 0, 0])) c_fm_7 :=
  Qf (L := []) hT g_fm (fun _ _ => by kernel_rfl) okP _
theorem r_fm (x) : Qv T G_fm [(7, c_fm_7)] Tryz.f214 C_fm.ps C_fm.rs x = C_fm.F x := by kernel_rfl
theorem s_fm : Qb Tryz.prog 214 C_fm := fnC (L := [(7, c_fm_7)]) hT g_fm Tryz.f214 (okS okP (okS okP (okS okP (okS okP (okS (okS okP (okB (okU k_fm_7))) okP))))) r_fm
abbrev P_fn : List PK := [.ptr Y32, .val Y24, .val Y28]
abbrev i_fn_5 : Shp := { slots := [(6, .s (.ptr 6 0)), (8, .s (.own 139 Y76)), (20, .s (.dat YI))], boxes := [(6, [.dat YI, .own 139 Y76])], rows := [] }
abbrev o_fn_5 : List (Ex × Shp) := [(.exit 0, { slots := [(6, .s (.ptr 6 0)), (8, .s (.own 139 Y76))], boxes := [(6, [.dat YI, .own 139 Y76])], rows := [] })]
def l_fn_5 (rec : i_fn_5.den → Option (denO o_fn_5)) (u : i_fn_5.den) : Option (denO o_fn_5) :=
 if (ltI u.1.2.2.1 (8 : Int)) then
  if (u.1.2.1.length + [(u.1.2.2.1, ((7 : Int), ()))].length) * 16 ≤ 140737488355328 then
   let v3 := (u.1.2.1 ++ [(u.1.2.2.1, ((7 : Int), ()))])
   let v4 := (IntKind.i64.wrap (u.1.2.2.1 + (1 : Int)))
   rec (((), (v3, (v4, ()))), ((u.2.1.1, ()), ()))
  else none
 else
  some (.inl (((), (u.1.2.1, ())), ((u.2.1.1, ()), ())))
def L_fn_5 (x : i_fn_5.den) : Option (denO o_fn_5) := Qc l_fn_5 lots x
def F_fn (x : denP P_fn) : FO P_fn R_bs :=
 ((x.1.2.2.1)[((10 : Int)).toNat]?).bind fun y1 =>
 let v2 := (IntKind.i64.wrap (y1 - (1 : Int)))
 if (ltI v2 (0 : Int)) then
  (L_fn_5 (((), (([] : List (den Y76)), ((0 : Int), ()))), ((((0 : Int), (([] : List (den Y76)), ())), ()), ()))).bind fun z5 =>
  match z5 with
  | .inl x6 =>
   some ((((0 : Int), (x6.1.2.1, ())), ()), ())
  | .inr z5_ =>
   none
 else
  if 0 ≤ v2 then
   ((x.2.1)[(v2).toNat]?).bind fun y7 =>
   if (ltI y7.1 (0 : Int)) = false then
    if 0 ≤ v2 then
     ((x.2.1)[(v2).toNat]?).bind fun y8 =>
     let v9 := (iand .i64 y8.2.1 (1 : Int))
     if (v9 == (0 : Int)) = false then
      if (v2 == (7 : Int)) then
       some ((((7 : Int), (([] : List (den Y76)), ())), ()), ())
      else
       if 0 ≤ v2 then
        ((x.2.1)[(v2).toNat]?).bind fun y10 =>
        (F_et (x.2.2.1, y10.1, ())).bind fun r11 =>
        (F_fm (r11.1.1, ())).bind fun r12 =>
        some ((r12.1.1, ()), ())
       else none
     else
      some ((((7 : Int), (([] : List (den Y76)), ())), ()), ())
    else none
   else
    some ((((7 : Int), (([] : List (den Y76)), ())), ()), ())
  else none
abbrev C_fn : Con := ⟨P_fn, R_bs, F_fn, false⟩
abbrev G_fn : Env := [(93, C_et), (214, C_fm)]
theorem g_fn : Qe Tryz.prog G_fn := (Qa s_et (Qa s_fm Qd))
abbrev c_fn_5 : Cut := ⟨i_fn_5, o_fn_5, fun x => Qc l_fn_5 lots x⟩
theorem k_fn_5 : Qo Tryz.prog 59 (.loop (nav Tryz.f197 [1, 1, 0, 1, 0, 1, 0, 1, 0, 0])) c_fn_5 :=
  Qf (L := []) hT g_fn (fun _ _ => by kernel_rfl) okP _
theorem r_fn (x) : Qv T G_fn [(5, c_fn_5)] Tryz.f197 C_fn.ps C_fn.rs x = C_fn.F x := by kernel_rfl
theorem s_fn : Qb Tryz.prog 197 C_fn := fnC (L := [(5, c_fn_5)]) hT g_fn Tryz.f197 (okS okP (okS okP (okS (okS okP (okI (okS okP (okS (okS okP (okB (okU k_fn_5))) okP)) okP)) okP))) r_fn
def F_fo (x : denP P_am) : FO P_am R_aa :=
 (F_cz (x.1, (0 : Int), (63 : Int), ())).bind fun r1 =>
 some ((r1.1.1, ()), ())
abbrev C_fo : Con := ⟨P_am, R_aa, F_fo, false⟩
theorem g_fo : Qe Tryz.prog G_da := (Qa s_cz Qd)
theorem s_fo : Qb Tryz.prog 215 C_fo := fnC (L := []) hT g_fo Tryz.f215 okP fun _ => by kernel_rfl
def F_fp (x : denP P_am) : FO P_am R_a :=
 if (x.1 == (1 : Int)) then
  some (((7 : Int), ()), ())
 else
  if (x.1 == (2 : Int)) then
   some (((8 : Int), ()), ())
  else
   if (x.1 == (4 : Int)) then
    some (((9 : Int), ()), ())
   else
    some (((0 : Int), ()), ())
abbrev C_fp : Con := ⟨P_am, R_a, F_fp, false⟩
theorem s_fp : Qb Tryz.prog 216 C_fp := fnC (L := []) hT g_a Tryz.f216 okP fun _ => by kernel_rfl
def F_fq (x : denP P_bp) : FO P_bp R_p :=
 (F_fo (x.2.1, ())).bind fun r1 =>
 if (!r1.1.1) = false then
  let v2 := (IntKind.i64.wrap ((x.2.1).tdiv (8 : Int)))
  if 0 ≤ v2 then
   ((x.1)[(v2).toNat]?).bind fun y3 =>
   if (ltI y3.1 (0 : Int)) = false then
    let v4 := (IntKind.i64.wrap ((x.2.1).tdiv (8 : Int)))
    if 0 ≤ v4 then
     ((x.1)[(v4).toNat]?).bind fun y5 =>
     let v6 := (iand .i64 y5.2.1 x.2.2.1)
     if (v6 == (0 : Int)) then
      (F_fp (x.2.2.1, ())).bind fun r7 =>
      some (((r7.1.1, ((0 : Int), ())), ()), ())
     else
      let v8 := (IntKind.i64.wrap ((x.2.1).tdiv (8 : Int)))
      if 0 ≤ v8 then
       ((x.1)[(v8).toNat]?).bind fun y9 =>
       let v10 := (IntKind.i64.wrap (y9.1 * (8 : Int)))
       let v11 := ((x.2.1).tmod (8 : Int))
       let v12 := (IntKind.i64.wrap (v10 + v11))
       some ((((0 : Int), (v12, ())), ()), ())
      else none
    else none
   else
    (F_fp (x.2.2.1, ())).bind fun r13 =>
    some (((r13.1.1, ((0 : Int), ())), ()), ())
  else none
 else
  (F_fp (x.2.2.1, ())).bind fun r14 =>
  some (((r14.1.1, ((0 : Int), ())), ()), ())
abbrev C_fq : Con := ⟨P_bp, R_p, F_fq, false⟩
abbrev G_fq : Env := [(215, C_fo), (216, C_fp)]
theorem g_fq : Qe Tryz.prog G_fq := (Qa s_fo (Qa s_fp Qd))
theorem s_fq : Qb Tryz.prog 198 C_fq := fnC (L := []) hT g_fq Tryz.f198 okP fun _ => by kernel_rfl
abbrev P_fr : List PK := [.ptr Y32, .val Y24, .val Y28, .val YI, .val YI]
def F_fr (x : denP P_fr) : FO P_fr R_p :=
 (F_fn (x.1, x.2.1, x.2.2.1, ())).bind fun r1 =>
 if (r1.1.1.1 != (0 : Int)) then
  some (((r1.1.1.1, ((0 : Int), ())), ()), ())
 else
  (F_fq (r1.1.1.2.1, x.2.2.2.1, x.2.2.2.2.1, ())).bind fun r2 =>
  if (r2.1.1.1 != (0 : Int)) then
   some ((r2.1.1, ()), ())
  else
   let v3 := (IntKind.i64.wrap ((r2.1.1.2.1).tdiv (8 : Int)))
   if (v3 != (7 : Int)) then
    (F_fq (x.2.1, r2.1.1.2.1, x.2.2.2.2.1, ())).bind fun r4 =>
    some ((r4.1.1, ()), ())
   else
    if (x.2.2.2.2.1 == (4 : Int)) then
     some ((((9 : Int), ((0 : Int), ())), ()), ())
    else
     let v5 := ((r2.1.1.2.1).tmod (8 : Int))
     let v6 := (IntKind.i64.wrap ((1000 : Int) + v5))
     some ((((0 : Int), (v6, ())), ()), ())
abbrev C_fr : Con := ⟨P_fr, R_p, F_fr, false⟩
abbrev G_fr : Env := [(197, C_fn), (198, C_fq)]
theorem g_fr : Qe Tryz.prog G_fr := (Qa s_fn (Qa s_fq Qd))
theorem s_fr : Qb Tryz.prog 175 C_fr := fnC (L := []) hT g_fr Tryz.f175 okP fun _ => by kernel_rfl
def F_fs (x : denP P_bx) : FO P_bx R_a :=
 (F_cz (x.1.1, (1 : Int), (26 : Int), ())).bind fun r1 =>
 if (!r1.1.1) = false then
  (F_cz (x.1.2.1, (0 : Int), (15 : Int), ())).bind fun r2 =>
  if (!r2.1.1) = false then
   (F_cz (x.1.2.2.1, (0 : Int), (15 : Int), ())).bind fun r3 =>
   if (!r3.1.1) = false then
    (F_cz (x.1.2.2.2.1, (0 : Int), (65535 : Int), ())).bind fun r4 =>
    if (!r4.1.1) then
     some (((3 : Int), ()), ())
    else
     if (leI x.1.1 (11 : Int)) then
      if (ltI (15 : Int) x.1.2.2.2.1) then
       some (((1 : Int), ()), ())
      else
       some (((0 : Int), ()), ())
     else
      if (x.1.1 == (13 : Int)) then
       if (x.1.2.2.1 != (0 : Int)) then
        some (((1 : Int), ()), ())
       else
        some (((0 : Int), ()), ())
      else
       if (x.1.1 == (19 : Int)) then
        if (x.1.2.2.1 != (0 : Int)) then
         some (((1 : Int), ()), ())
        else
         some (((0 : Int), ()), ())
       else
        if (x.1.1 == (21 : Int)) then
         if (ltI (10 : Int) x.1.2.2.2.1) = false then
          if (x.1.2.2.1 != (0 : Int)) then
           some (((1 : Int), ()), ())
          else
           some (((0 : Int), ()), ())
         else
          some (((1 : Int), ()), ())
        else
         if (x.1.1 == (22 : Int)) then
          if (ltI (10 : Int) x.1.2.2.2.1) = false then
           if (x.1.2.1 != (0 : Int)) then
            some (((1 : Int), ()), ())
           else
            some (((0 : Int), ()), ())
          else
           some (((1 : Int), ()), ())
         else
          if (leI (23 : Int) x.1.1) then
           if (x.1.2.1 != (0 : Int)) = false then
            if (x.1.2.2.1 != (0 : Int)) = false then
             if (x.1.2.2.2.1 != (0 : Int)) then
              some (((1 : Int), ()), ())
             else
              some (((0 : Int), ()), ())
            else
             some (((1 : Int), ()), ())
           else
            some (((1 : Int), ()), ())
          else
           some (((0 : Int), ()), ())
   else
    some (((3 : Int), ()), ())
  else
   some (((3 : Int), ()), ())
 else
  some (((3 : Int), ()), ())
abbrev C_fs : Con := ⟨P_bx, R_a, F_fs, false⟩
theorem g_fs : Qe Tryz.prog G_da := (Qa s_cz Qd)
theorem s_fs : Qb Tryz.prog 199 C_fs := fnC (L := []) hT g_fs Tryz.f199 okP fun _ => by kernel_rfl
abbrev R_ft : List VK := [.s (.dat Y222)]
def F_ft (x : denP P_am) : FO P_am R_ft :=
 let v1 := ((x.1).fdiv (2 ^ 24))
 let v2 := ((x.1).fdiv (2 ^ 20))
 let v3 := (iand .i64 v2 (15 : Int))
 let v4 := ((x.1).fdiv (2 ^ 16))
 let v5 := (iand .i64 v4 (15 : Int))
 let v6 := (iand .i64 x.1 (65535 : Int))
 (F_fs ((v1, (v3, (v5, (v6, ())))), ())).bind fun r7 =>
 if (r7.1.1 != (0 : Int)) then
  some ((((5 : Int), (((0 : Int), ((0 : Int), ((0 : Int), ((0 : Int), ())))), ())), ()), ())
 else
  some ((((0 : Int), ((v1, (v3, (v5, (v6, ())))), ())), ()), ())
abbrev C_ft : Con := ⟨P_am, R_ft, F_ft, false⟩
abbrev G_ft : Env := [(199, C_fs)]
theorem g_ft : Qe Tryz.prog G_ft := (Qa s_fs Qd)
theorem s_ft : Qb Tryz.prog 176 C_ft := fnC (L := []) hT g_ft Tryz.f176 okP fun _ => by kernel_rfl
def F_fu (x : denP P_am) : FO P_am R_a :=
 let v1 := (iand .i64 x.1 (4294967295 : Int))
 some ((v1, ()), ())
abbrev C_fu : Con := ⟨P_am, R_a, F_fu, false⟩
theorem s_fu : Qb Tryz.prog 217 C_fu := fnC (L := []) hT g_a Tryz.f217 okP fun _ => by kernel_rfl
def F_fv (x : denP P_bz) : FO P_bz R_a :=
 (F_fu (x.1, ())).bind fun r1 =>
 (F_fu (x.2.1, ())).bind fun r2 =>
 let v3 := (IntKind.i64.wrap (r1.1.1 + r2.1.1))
 (F_fu (v3, ())).bind fun r4 =>
 some ((r4.1.1, ()), ())
abbrev C_fv : Con := ⟨P_bz, R_a, F_fv, false⟩
abbrev G_fv : Env := [(217, C_fu)]
theorem g_fv : Qe Tryz.prog G_fv := (Qa s_fu Qd)
theorem s_fv : Qb Tryz.prog 200 C_fv := fnC (L := []) hT g_fv Tryz.f200 okP fun _ => by kernel_rfl
def F_fw (x : denP P_am) : FO P_am R_a :=
 let v1 := (iand .i64 x.1 (65535 : Int))
 if (leI (32768 : Int) v1) then
  let v2 := (IntKind.i64.wrap (v1 - (65536 : Int)))
  some ((v2, ()), ())
 else
  some ((v1, ()), ())
abbrev C_fw : Con := ⟨P_am, R_a, F_fw, false⟩
theorem s_fw : Qb Tryz.prog 201 C_fw := fnC (L := []) hT g_a Tryz.f201 okP fun _ => by kernel_rfl
abbrev P_fx : List PK := [.box [.own 2 YI, .dat YI, .own 2 YI, .dat .bool, .dat .bool, .dat .bool, .dat YI, .own 2 YI, .own 2 YI] [.own 2 YI, .dat YI, .own 2 YI, .dat .bool, .dat .bool, .dat .bool, .dat YI, .own 2 YI, .own 2 YI], .val YI]
def F_fx (x : denP P_fx) : FO P_fx R_a :=
 if (x.2.1 == (1 : Int)) then
  let v1 := ((x.1.2.2.2.2.2.2.2.1.length : Nat) : Int)
  if (ltI (0 : Int) v1) then
   if 0 ≤ (0 : Int) ∧ (0 : Int) < ((x.1.2.2.2.2.2.2.2.1.length : Nat) : Int) then
    ((x.1.2.2.2.2.2.2.2.1)[((0 : Int)).toNat]?).bind fun y2 =>
    if 0 ≤ (1 : Int) ∧ (1 : Int) ≤ ((x.1.2.2.2.2.2.2.2.1.length : Nat) : Int) ∧ ((x.1.2.2.2.2.2.2.2.1.length : Nat) : Int) ≤ ((x.1.2.2.2.2.2.2.2.1.length : Nat) : Int) then
     (F_el (((x.1.2.2.2.2.2.2.2.1.drop (0 + ((1 : Int)).toNat)).take ((((x.1.2.2.2.2.2.2.2.1.length : Nat) : Int)).toNat - ((1 : Int)).toNat)), ())).bind fun r3 =>
     some ((y2, ()), ((x.1.1, (x.1.2.1, (x.1.2.2.1, (x.1.2.2.2.1, (x.1.2.2.2.2.1, (x.1.2.2.2.2.2.1, (x.1.2.2.2.2.2.2.1, (r3.1.1, (x.1.2.2.2.2.2.2.2.2.1, ()))))))))), ()))
    else none
   else none
  else
   some (((0 : Int), ()), (x.1, ()))
 else
  if (x.2.1 == (2 : Int)) then
   some ((x.1.2.2.2.2.2.2.1, ()), (x.1, ()))
  else
   if (x.2.1 == (3 : Int)) then
    if 0 ≤ (9 : Int) ∧ (9 : Int) < ((x.1.2.2.1.length : Nat) : Int) then
     ((x.1.2.2.1)[((9 : Int)).toNat]?).bind fun y4 =>
     some ((y4, ()), (x.1, ()))
    else none
   else
    if (x.2.1 == (4 : Int)) then
     (F_ff (x.1, ())).bind fun r5 =>
     some ((r5.1.1, ()), (x.1, ()))
    else
     if (x.2.1 == (6 : Int)) then
      let v6 := ((x.1.2.2.2.2.2.2.2.1.length : Nat) : Int)
      some ((v6, ()), (x.1, ()))
     else
      some (((0 : Int), ()), (x.1, ()))
abbrev C_fx : Con := ⟨P_fx, R_a, F_fx, false⟩
abbrev G_fx : Env := [(88, C_el), (174, C_ff)]
theorem g_fx : Qe Tryz.prog G_fx := (Qa s_el (Qa s_ff Qd))
theorem s_fx : Qb Tryz.prog 218 C_fx := fnC (L := []) hT g_fx Tryz.f218 okP fun _ => by kernel_rfl
abbrev P_fy : List PK := [.box [.own 2 YI, .dat YI, .own 2 YI, .dat .bool, .dat .bool, .dat .bool, .dat YI, .own 2 YI, .own 2 YI, .dat Y24, .own 2 YI, .dat YI, .dat YI] [.own 2 YI, .dat YI, .own 2 YI, .dat .bool, .dat .bool, .dat .bool, .dat YI, .own 2 YI, .own 2 YI, .dat Y24, .own 2 YI, .dat YI, .dat YI], .val YI]
abbrev R_fy : List VK := [.s (.dat YI), .s (.dat .bool)]
def F_fy (x : denP P_fy) : FO P_fy R_fy :=
 (F_fr ((x.1.1, (x.1.2.1, (x.1.2.2.1, (x.1.2.2.2.1, (x.1.2.2.2.2.1, (x.1.2.2.2.2.2.1, (x.1.2.2.2.2.2.2.1, (x.1.2.2.2.2.2.2.2.1, (x.1.2.2.2.2.2.2.2.2.1, ()))))))))), x.1.2.2.2.2.2.2.2.2.2.1, x.1.2.2.2.2.2.2.2.2.2.2.1, x.2.1, (1 : Int), ())).bind fun r1 =>
 if (r1.1.1.1 != (0 : Int)) then
  (F_fj (x.1, (3 : Int), x.2.1, ())).bind fun r2 =>
  some (((0 : Int), false, ()), (r2.2.1, ()))
 else
  if (leI (1000 : Int) r1.1.1.2.1) then
   let v3 := (IntKind.i64.wrap (r1.1.1.2.1 - (1000 : Int)))
   (F_fx ((x.1.1, (x.1.2.1, (x.1.2.2.1, (x.1.2.2.2.1, (x.1.2.2.2.2.1, (x.1.2.2.2.2.2.1, (x.1.2.2.2.2.2.2.1, (x.1.2.2.2.2.2.2.2.1, (x.1.2.2.2.2.2.2.2.2.1, ()))))))))), v3, ())).bind fun r4 =>
   some ((r4.1.1, true, ()), ((r4.2.1.1, (r4.2.1.2.1, (r4.2.1.2.2.1, (r4.2.1.2.2.2.1, (r4.2.1.2.2.2.2.1, (r4.2.1.2.2.2.2.2.1, (r4.2.1.2.2.2.2.2.2.1, (r4.2.1.2.2.2.2.2.2.2.1, (r4.2.1.2.2.2.2.2.2.2.2.1, (x.1.2.2.2.2.2.2.2.2.2.1, (x.1.2.2.2.2.2.2.2.2.2.2.1, (x.1.2.2.2.2.2.2.2.2.2.2.2.1, (x.1.2.2.2.2.2.2.2.2.2.2.2.2.1, ()))))))))))))), ()))
  else
   if 0 ≤ r1.1.1.2.1 ∧ r1.1.1.2.1 < ((x.1.2.2.2.2.2.2.2.2.2.2.1.length : Nat) : Int) then
    ((x.1.2.2.2.2.2.2.2.2.2.2.1)[(r1.1.1.2.1).toNat]?).bind fun y5 =>
    some ((y5, true, ()), (x.1, ()))
   else none
abbrev C_fy : Con := ⟨P_fy, R_fy, F_fy, false⟩
abbrev G_fy : Env := [(173, C_fj), (175, C_fr), (218, C_fx)]
theorem g_fy : Qe Tryz.prog G_fy := (Qa s_fj (Qa s_fr (Qa s_fx Qd)))
theorem s_fy : Qb Tryz.prog 202 C_fy := fnC (L := []) hT g_fy Tryz.f202 okP fun _ => by kernel_rfl
def F_fz (x : denP P_fi) : FO P_fi R_bj :=
 (F_fu (x.2.2.1, ())).bind fun r1 =>
 if (x.2.1 == (0 : Int)) then
  let v2 := ((r1.1.1).tmod (4 : Int))
  if 0 ≤ x.2.1 ∧ x.2.1 < ((x.1.2.2.1.length : Nat) : Int) then
   ((x.1.2.2.1)[(x.2.1).toNat]?).bind fun y3 =>
   let v4 := (x.1.2.2.1.set (x.2.1).toNat v2)
   some ((), ((x.1.1, (x.1.2.1, (v4, (x.1.2.2.2.1, (x.1.2.2.2.2.1, (x.1.2.2.2.2.2.1, (x.1.2.2.2.2.2.2.1, (x.1.2.2.2.2.2.2.2.1, (x.1.2.2.2.2.2.2.2.2.1, ()))))))))), ()))
  else none
 else
  if (x.2.1 == (7 : Int)) then
   let v5 := ((r1.1.1).tmod (8 : Int))
   if 0 ≤ x.2.1 ∧ x.2.1 < ((x.1.2.2.1.length : Nat) : Int) then
    ((x.1.2.2.1)[(x.2.1).toNat]?).bind fun y6 =>
    let v7 := (x.1.2.2.1.set (x.2.1).toNat v5)
    some ((), ((x.1.1, (x.1.2.1, (v7, (x.1.2.2.2.1, (x.1.2.2.2.2.1, (x.1.2.2.2.2.2.1, (x.1.2.2.2.2.2.2.1, (x.1.2.2.2.2.2.2.2.1, (x.1.2.2.2.2.2.2.2.2.1, ()))))))))), ()))
   else none
  else
   if (x.2.1 == (10 : Int)) then
    if 0 ≤ x.2.1 ∧ x.2.1 < ((x.1.2.2.1.length : Nat) : Int) then
     ((x.1.2.2.1)[(x.2.1).toNat]?).bind fun y8 =>
     let v9 := (x.1.2.2.1.set (x.2.1).toNat (0 : Int))
     if (leI r1.1.1 (8 : Int)) then
      if 0 ≤ x.2.1 ∧ x.2.1 < ((v9.length : Nat) : Int) then
       ((v9)[(x.2.1).toNat]?).bind fun y10 =>
       let v11 := (v9.set (x.2.1).toNat r1.1.1)
       some ((), ((x.1.1, (x.1.2.1, (v11, (x.1.2.2.2.1, (x.1.2.2.2.2.1, (x.1.2.2.2.2.2.1, (x.1.2.2.2.2.2.2.1, (x.1.2.2.2.2.2.2.2.1, (x.1.2.2.2.2.2.2.2.2.1, ()))))))))), ()))
      else none
     else
      some ((), ((x.1.1, (x.1.2.1, (v9, (x.1.2.2.2.1, (x.1.2.2.2.2.1, (x.1.2.2.2.2.2.1, (x.1.2.2.2.2.2.2.1, (x.1.2.2.2.2.2.2.2.1, (x.1.2.2.2.2.2.2.2.2.1, ()))))))))), ()))
    else none
   else
    if (x.2.1 == (6 : Int)) then
     let v12 := ((r1.1.1).tmod (4 : Int))
     if (leI (2 : Int) v12) then
      some ((), ((x.1.1, (x.1.2.1, (x.1.2.2.1, (x.1.2.2.2.1, (x.1.2.2.2.2.1, (false, (x.1.2.2.2.2.2.2.1, (x.1.2.2.2.2.2.2.2.1, (x.1.2.2.2.2.2.2.2.2.1, ()))))))))), ()))
     else
      some ((), (x.1, ()))
    else
     if (x.2.1 == (8 : Int)) then
      some ((), (x.1, ()))
     else
      if 0 ≤ x.2.1 ∧ x.2.1 < ((x.1.2.2.1.length : Nat) : Int) then
       ((x.1.2.2.1)[(x.2.1).toNat]?).bind fun y13 =>
       let v14 := (x.1.2.2.1.set (x.2.1).toNat r1.1.1)
       some ((), ((x.1.1, (x.1.2.1, (v14, (x.1.2.2.2.1, (x.1.2.2.2.2.1, (x.1.2.2.2.2.2.1, (x.1.2.2.2.2.2.2.1, (x.1.2.2.2.2.2.2.2.1, (x.1.2.2.2.2.2.2.2.2.1, ()))))))))), ()))
      else none
abbrev C_fz : Con := ⟨P_fi, R_bj, F_fz, false⟩
theorem g_fz : Qe Tryz.prog G_fv := (Qa s_fu Qd)
theorem s_fz : Qb Tryz.prog 206 C_fz := fnC (L := []) hT g_fz Tryz.f206 okP fun _ => by kernel_rfl
def F_ga (x : denP P_fi) : FO P_fi R_a :=
 (F_fu (x.2.2.1, ())).bind fun r1 =>
 if (x.2.1 == (0 : Int)) then
  let v2 := ((x.1.2.2.2.2.2.2.2.2.1.length : Nat) : Int)
  if (ltI v2 (40 : Int)) then
   (F_el (x.1.2.2.2.2.2.2.2.2.1, ())).bind fun r3 =>
   if (r3.1.1.length + [r1.1.1].length) * 8 ≤ 140737488355328 then
    let v4 := (r3.1.1 ++ [r1.1.1])
    some (((-1 : Int), ()), ((x.1.1, (x.1.2.1, (x.1.2.2.1, (x.1.2.2.2.1, (x.1.2.2.2.2.1, (x.1.2.2.2.2.2.1, (x.1.2.2.2.2.2.2.1, (x.1.2.2.2.2.2.2.2.1, (v4, ()))))))))), ()))
   else none
  else
   some (((-1 : Int), ()), (x.1, ()))
 else
  if (x.2.1 == (3 : Int)) then
   (F_fz (x.1, (9 : Int), r1.1.1, ())).bind fun r5 =>
   some (((-1 : Int), ()), (r5.2.1, ()))
  else
   if (x.2.1 == (4 : Int)) then
    (F_fz (x.1, (6 : Int), r1.1.1, ())).bind fun r6 =>
    some (((-1 : Int), ()), (r6.2.1, ()))
   else
    if (x.2.1 == (5 : Int)) then
     some ((r1.1.1, ()), (x.1, ()))
    else
     some (((-1 : Int), ()), (x.1, ()))
abbrev C_ga : Con := ⟨P_fi, R_a, F_ga, false⟩
abbrev G_ga : Env := [(88, C_el), (206, C_fz), (217, C_fu)]
theorem g_ga : Qe Tryz.prog G_ga := (Qa s_el (Qa s_fz (Qa s_fu Qd)))
theorem s_ga : Qb Tryz.prog 219 C_ga := fnC (L := []) hT g_ga Tryz.f219 okP fun _ => by kernel_rfl
def F_gb (x : denP P_fj) : FO P_fj R_aa :=
 (F_fr ((x.1.1, (x.1.2.1, (x.1.2.2.1, (x.1.2.2.2.1, (x.1.2.2.2.2.1, (x.1.2.2.2.2.2.1, (x.1.2.2.2.2.2.2.1, (x.1.2.2.2.2.2.2.2.1, (x.1.2.2.2.2.2.2.2.2.1, ()))))))))), x.1.2.2.2.2.2.2.2.2.2.1, x.1.2.2.2.2.2.2.2.2.2.2.1, x.2.1, (2 : Int), ())).bind fun r1 =>
 if (r1.1.1.1 != (0 : Int)) then
  (F_fj (x.1, (4 : Int), x.2.1, ())).bind fun r2 =>
  some ((false, ()), (r2.2.1, ()))
 else
  if (leI (1000 : Int) r1.1.1.2.1) then
   let v3 := (IntKind.i64.wrap (r1.1.1.2.1 - (1000 : Int)))
   (F_ga ((x.1.1, (x.1.2.1, (x.1.2.2.1, (x.1.2.2.2.1, (x.1.2.2.2.2.1, (x.1.2.2.2.2.2.1, (x.1.2.2.2.2.2.2.1, (x.1.2.2.2.2.2.2.2.1, (x.1.2.2.2.2.2.2.2.2.1, ()))))))))), v3, x.2.2.1, ())).bind fun r4 =>
   some ((true, ()), ((r4.2.1.1, (r4.2.1.2.1, (r4.2.1.2.2.1, (r4.2.1.2.2.2.1, (r4.2.1.2.2.2.2.1, (r4.2.1.2.2.2.2.2.1, (r4.2.1.2.2.2.2.2.2.1, (r4.2.1.2.2.2.2.2.2.2.1, (r4.2.1.2.2.2.2.2.2.2.2.1, (x.1.2.2.2.2.2.2.2.2.2.1, (x.1.2.2.2.2.2.2.2.2.2.2.1, (x.1.2.2.2.2.2.2.2.2.2.2.2.1, (r4.1.1, ()))))))))))))), ()))
  else
   if 0 ≤ r1.1.1.2.1 ∧ r1.1.1.2.1 < ((x.1.2.2.2.2.2.2.2.2.2.2.1.length : Nat) : Int) then
    ((x.1.2.2.2.2.2.2.2.2.2.2.1)[(r1.1.1.2.1).toNat]?).bind fun y5 =>
    let v6 := (x.1.2.2.2.2.2.2.2.2.2.2.1.set (r1.1.1.2.1).toNat x.2.2.1)
    some ((true, ()), ((x.1.1, (x.1.2.1, (x.1.2.2.1, (x.1.2.2.2.1, (x.1.2.2.2.2.1, (x.1.2.2.2.2.2.1, (x.1.2.2.2.2.2.2.1, (x.1.2.2.2.2.2.2.2.1, (x.1.2.2.2.2.2.2.2.2.1, (x.1.2.2.2.2.2.2.2.2.2.1, (v6, (x.1.2.2.2.2.2.2.2.2.2.2.2.1, (x.1.2.2.2.2.2.2.2.2.2.2.2.2.1, ()))))))))))))), ()))
   else none
abbrev C_gb : Con := ⟨P_fj, R_aa, F_gb, false⟩
abbrev G_gb : Env := [(173, C_fj), (175, C_fr), (219, C_ga)]
theorem g_gb : Qe Tryz.prog G_gb := (Qa s_fj (Qa s_fr (Qa s_ga Qd)))
theorem s_gb : Qb Tryz.prog 203 C_gb := fnC (L := []) hT g_gb Tryz.f203 okP fun _ => by kernel_rfl
def F_gc (x : denP P_am) : FO P_am R_a :=
 (F_fu (x.1, ())).bind fun r1 =>
 if (ltI r1.1.1 (2147483648 : Int)) then
  some ((r1.1.1, ()), ())
 else
  let v2 := (IntKind.i64.wrap (r1.1.1 - (4294967295 : Int)))
  let v3 := (IntKind.i64.wrap (v2 - (1 : Int)))
  some ((v3, ()), ())
abbrev C_gc : Con := ⟨P_am, R_a, F_gc, false⟩
theorem g_gc : Qe Tryz.prog G_fv := (Qa s_fu Qd)
theorem s_gc : Qb Tryz.prog 204 C_gc := fnC (L := []) hT g_gc Tryz.f204 okP fun _ => by kernel_rfl
def F_gd (x : denP P_cj) : FO P_cj R_a :=
 if (x.2.1 == (6 : Int)) then
  (F_ff (x.1, ())).bind fun r1 =>
  some ((r1.1.1, ()), ())
 else
  if (x.2.1 == (8 : Int)) then
   some ((x.1.2.2.2.2.2.2.1, ()), ())
  else
   if 0 ≤ x.2.1 then
    ((x.1.2.2.1)[(x.2.1).toNat]?).bind fun y2 =>
    some ((y2, ()), ())
   else none
abbrev C_gd : Con := ⟨P_cj, R_a, F_gd, false⟩
abbrev G_gd : Env := [(174, C_ff)]
theorem g_gd : Qe Tryz.prog G_gd := (Qa s_ff Qd)
theorem s_gd : Qb Tryz.prog 205 C_gd := fnC (L := []) hT g_gd Tryz.f205 okP fun _ => by kernel_rfl
abbrev P_ge : List PK := [.box [.own 2 YI, .dat YI, .own 2 YI, .dat .bool, .dat .bool, .dat .bool, .dat YI, .own 2 YI, .own 2 YI] [.own 2 YI, .dat YI, .own 2 YI, .dat .bool, .dat .bool, .dat .bool, .dat YI, .own 2 YI, .own 2 YI]]
def F_ge (x : denP P_ge) : FO P_ge R_bj :=
 if 0 ≤ (2 : Int) ∧ (2 : Int) < ((x.1.2.2.1.length : Nat) : Int) then
  ((x.1.2.2.1)[((2 : Int)).toNat]?).bind fun y1 =>
  if 0 ≤ (0 : Int) ∧ (0 : Int) < ((x.1.2.2.1.length : Nat) : Int) then
   ((x.1.2.2.1)[((0 : Int)).toNat]?).bind fun y2 =>
   let v3 := (IntKind.i64.wrap ((y2).tdiv (2 : Int)))
   let v4 := (IntKind.i64.wrap ((2 : Int) + v3))
   if 0 ≤ (0 : Int) ∧ (0 : Int) < ((x.1.2.2.1.length : Nat) : Int) then
    ((x.1.2.2.1)[((0 : Int)).toNat]?).bind fun y5 =>
    let v6 := (x.1.2.2.1.set ((0 : Int)).toNat v4)
    some ((), ((x.1.1, (y1, (v6, (x.1.2.2.2.1, (x.1.2.2.2.2.1, (x.1.2.2.2.2.2.1, (x.1.2.2.2.2.2.2.1, (x.1.2.2.2.2.2.2.2.1, (x.1.2.2.2.2.2.2.2.2.1, ()))))))))), ()))
   else none
  else none
 else none
abbrev C_ge : Con := ⟨P_ge, R_bj, F_ge, false⟩
theorem s_ge : Qb Tryz.prog 207 C_ge := fnC (L := []) hT g_a Tryz.f207 okP fun _ => by kernel_rfl
def F_gf (x : denP P_bz) : FO P_bz R_a :=
 let v1 := (IntKind.u32.wrap x.1)
 let v2 := (IntKind.u32.wrap x.2.1)
 let v3 := (IntKind.u32.wrap (v1 * v2))
 let v4 := (IntKind.i64.wrap v3)
 some ((v4, ()), ())
abbrev C_gf : Con := ⟨P_bz, R_a, F_gf, false⟩
theorem s_gf : Qb Tryz.prog 220 C_gf := fnC (L := []) hT g_a Tryz.f220 okP fun _ => by kernel_rfl
def F_gg (x : denP P_bz) : FO P_bz R_a :=
 (F_gc (x.1, ())).bind fun r1 =>
 (F_gc (x.2.1, ())).bind fun r2 =>
 if (r2.1.1 == (0 : Int)) then
  some (((4294967295 : Int), ()), ())
 else
  if r2.1.1 = 0 then none else
  let v3 := (IntKind.i64.wrap ((r1.1.1).tdiv r2.1.1))
  (F_fu (v3, ())).bind fun r4 =>
  some ((r4.1.1, ()), ())
abbrev C_gg : Con := ⟨P_bz, R_a, F_gg, false⟩
abbrev G_gg : Env := [(204, C_gc), (217, C_fu)]
theorem g_gg : Qe Tryz.prog G_gg := (Qa s_gc (Qa s_fu Qd))
theorem s_gg : Qb Tryz.prog 221 C_gg := fnC (L := []) hT g_gg Tryz.f221 okP fun _ => by kernel_rfl
def F_gh (x : denP P_bz) : FO P_bz R_a :=
 (F_gc (x.1, ())).bind fun r1 =>
 (F_gc (x.2.1, ())).bind fun r2 =>
 if (r2.1.1 == (0 : Int)) then
  (F_fu (x.1, ())).bind fun r3 =>
  some ((r3.1.1, ()), ())
 else
  if r2.1.1 = 0 then none else
  let v4 := ((r1.1.1).tmod r2.1.1)
  (F_fu (v4, ())).bind fun r5 =>
  some ((r5.1.1, ()), ())
abbrev C_gh : Con := ⟨P_bz, R_a, F_gh, false⟩
theorem g_gh : Qe Tryz.prog G_gg := (Qa s_gc (Qa s_fu Qd))
theorem s_gh : Qb Tryz.prog 222 C_gh := fnC (L := []) hT g_gh Tryz.f222 okP fun _ => by kernel_rfl
def F_gi (x : denP P_aa) : FO P_aa R_p :=
 (F_fu (x.2.1, ())).bind fun r1 =>
 (F_fu (x.2.2.1, ())).bind fun r2 =>
 if (x.1 == (1 : Int)) then
  let v3 := (iand .i64 r1.1.1 r2.1.1)
  some ((((0 : Int), (v3, ())), ()), ())
 else
  if (x.1 == (2 : Int)) then
   let v4 := (ior .i64 r1.1.1 r2.1.1)
   some ((((0 : Int), (v4, ())), ()), ())
  else
   if (x.1 == (3 : Int)) then
    let v5 := (ixor .i64 r1.1.1 r2.1.1)
    some ((((0 : Int), (v5, ())), ()), ())
   else
    some ((((3 : Int), ((0 : Int), ())), ()), ())
abbrev C_gi : Con := ⟨P_aa, R_p, F_gi, false⟩
theorem g_gi : Qe Tryz.prog G_fv := (Qa s_fu Qd)
theorem s_gi : Qb Tryz.prog 223 C_gi := fnC (L := []) hT g_gi Tryz.f223 okP fun _ => by kernel_rfl
def F_gj (x : denP P_cp) : FO P_cp R_a :=
 (F_fu (x.1, ())).bind fun r1 =>
 (F_fu (x.2.1, ())).bind fun r2 =>
 let v3 := ((r2.1.1).tmod (32 : Int))
 if x.2.2.1 then
  if v3 < 0 then none else
  let v4 := (IntKind.i64.wrap (r1.1.1 * 2 ^ (min (v3).toNat 64)))
  (F_fu (v4, ())).bind fun r5 =>
  some ((r5.1.1, ()), ())
 else
  if v3 < 0 then none else
  let v6 := ((r1.1.1).fdiv (2 ^ (min (v3).toNat 64)))
  some ((v6, ()), ())
abbrev C_gj : Con := ⟨P_cp, R_a, F_gj, false⟩
theorem g_gj : Qe Tryz.prog G_fv := (Qa s_fu Qd)
theorem s_gj : Qb Tryz.prog 224 C_gj := fnC (L := []) hT g_gj Tryz.f224 okP fun _ => by kernel_rfl
end Go.Proofs.YtopmpmbdkieenaaGreatDoor
