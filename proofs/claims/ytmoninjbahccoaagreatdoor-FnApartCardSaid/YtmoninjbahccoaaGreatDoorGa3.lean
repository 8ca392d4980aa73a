/- The functions of the laws, each as a plain function of data (F), and that the program's text does what F says. Printed by a program (wip/tools/gen.py). -/
import Derived.Test.YtmoninjbahccoaaGreatDoorGa2
namespace Go.Proofs.YtmoninjbahccoaaGreatDoor
open Go Go.RowKit S Go.Proofs
set_option maxRecDepth 100000
set_option linter.unusedVariables false
abbrev R_df : List VK := [.g [.dat YI, .own 84 Y70]]
abbrev i_df_7 : Shp := { slots := [(2, .s (.ptr 2 0)), (3, .s (.own 84 Y70)), (15, .s (.dat Y32)), (16, .s (.dat YI)), (17, .s (.dat YI))], boxes := [(2, [.dat YI, .own 84 Y70])], rows := [] }
abbrev o_df_7 : List (Ex × Shp) := [(.exit 0, { slots := [(2, .s (.ptr 2 0)), (3, .s (.own 84 Y70))], boxes := [(2, [.dat YI, .own 84 Y70])], rows := [] })]
def l_df_7 (rec : i_df_7.den → Option (denO o_df_7)) (u : i_df_7.den) : Option (denO o_df_7) :=
 if (ltI u.1.2.2.2.2.1 u.1.2.2.2.1) then
  if 0 ≤ u.1.2.2.2.2.1 then
   ((u.1.2.2.1)[(u.1.2.2.2.2.1).toNat]?).bind fun y6 =>
   (F_de (y6, ())).bind fun r7 =>
   if (u.1.2.1.length + [r7.1.1].length) * 16 ≤ 140737488355328 then
    let v8 := (u.1.2.1 ++ [r7.1.1])
    let v9 := (IntKind.i64.wrap (u.1.2.2.2.2.1 + (1 : Int)))
    rec (((), (v8, (u.1.2.2.1, (u.1.2.2.2.1, (v9, ()))))), ((u.2.1.1, ()), ()))
   else none
  else none
 else
  some (.inl (((), (u.1.2.1, ())), ((u.2.1.1, ()), ())))
def L_df_7 (x : i_df_7.den) : Option (denO o_df_7) := Qc l_df_7 lots x
def F_df (x : denP P_av) : FO P_av R_df :=
 let v1 := ((x.1.length : Nat) : Int)
 if (v1 != (8 : Int)) then
  some ((((1 : Int), (([] : List (den Y70)), ())), ()), ())
 else
  (F_bb (x.1, ())).bind fun r2 =>
  if (!r2.1.1) then
   some ((((3 : Int), (([] : List (den Y70)), ())), ()), ())
  else
   let v3 := ((x.1.length : Nat) : Int)
   (L_df_7 (((), (([] : List (den Y70)), (x.1, (v3, ((0 : Int), ()))))), ((((0 : Int), (([] : List (den Y70)), ())), ()), ()))).bind fun z10 =>
   match z10 with
   | .inl x11 =>
    some ((((0 : Int), (x11.1.2.1, ())), ()), ())
   | .inr z10_ =>
    none
abbrev C_df : Con := ⟨P_av, R_df, F_df, false⟩
abbrev G_df : Env := [(61, C_bb), (177, C_de)]
theorem g_df : Qh Tryz.prog G_df := (Qa s_bb (Qa s_de Qd))
abbrev c_df_7 : Cut := ⟨i_df_7, o_df_7, fun x => Qc l_df_7 lots x⟩
theorem k_df_7 : Qz Tryz.prog 29 (.loop (nav Tryz.f166 [1, 1, 1, 1, 0, 1, 0, 0])) c_df_7 :=
  Qj (L := []) hT g_df (fun _ _ => by kernel_rfl) okP _
theorem r_df (x) : QL T G_df [(7, c_df_7)] Tryz.f166 C_df.ps C_df.rs x = C_df.F x := by kernel_rfl
theorem s_df : Qb Tryz.prog 166 C_df := fnC (L := [(7, c_df_7)]) hT g_df Tryz.f166 (okS okP (okS okP (okS okP (okS okP (okS (okS okP (okB (okU k_df_7))) okP))))) r_df
abbrev P_dg : List PK := [.ptr Y46, .val Y26, .val Y32]
abbrev i_dg_5 : Shp := { slots := [(6, .s (.ptr 6 0)), (8, .s (.own 84 Y70)), (20, .s (.dat YI))], boxes := [(6, [.dat YI, .own 84 Y70])], rows := [] }
abbrev o_dg_5 : List (Ex × Shp) := [(.exit 0, { slots := [(6, .s (.ptr 6 0)), (8, .s (.own 84 Y70))], boxes := [(6, [.dat YI, .own 84 Y70])], rows := [] })]
def l_dg_5 (rec : i_dg_5.den → Option (denO o_dg_5)) (u : i_dg_5.den) : Option (denO o_dg_5) :=
 if (ltI u.1.2.2.1 (8 : Int)) then
  if (u.1.2.1.length + [(u.1.2.2.1, ((7 : Int), ()))].length) * 16 ≤ 140737488355328 then
   let v3 := (u.1.2.1 ++ [(u.1.2.2.1, ((7 : Int), ()))])
   let v4 := (IntKind.i64.wrap (u.1.2.2.1 + (1 : Int)))
   rec (((), (v3, (v4, ()))), ((u.2.1.1, ()), ()))
  else none
 else
  some (.inl (((), (u.1.2.1, ())), ((u.2.1.1, ()), ())))
def L_dg_5 (x : i_dg_5.den) : Option (denO o_dg_5) := Qc l_dg_5 lots x
def F_dg (x : denP P_dg) : FO P_dg R_df :=
 ((x.1.2.2.1)[((10 : Int)).toNat]?).bind fun y1 =>
 let v2 := (IntKind.i64.wrap (y1 - (1 : Int)))
 if (ltI v2 (0 : Int)) then
  (L_dg_5 (((), (([] : List (den Y70)), ((0 : Int), ()))), ((((0 : Int), (([] : List (den Y70)), ())), ()), ()))).bind fun z5 =>
  match z5 with
  | .inl x6 =>
   some ((((0 : Int), (x6.1.2.1, ())), ()), ())
  | .inr z5_ =>
   none
 else
  if 0 ≤ v2 then
   ((x.2.1)[(v2).toNat]?).bind fun y7 =>
   if (ltI y7.1 (0 : Int)) = false then
    if 0 ≤ v2 then
     ((x.2.1)[(v2).toNat]?).bind fun y8 =>
     let v9 := (iand .i64 y8.2.1 (1 : Int))
     if (v9 == (0 : Int)) = false then
      if (v2 == (7 : Int)) then
       some ((((7 : Int), (([] : List (den Y70)), ())), ()), ())
      else
       if 0 ≤ v2 then
        ((x.2.1)[(v2).toNat]?).bind fun y10 =>
        (F_cn (x.2.2.1, y10.1, ())).bind fun r11 =>
        (F_df (r11.1.1, ())).bind fun r12 =>
        some ((r12.1.1, ()), ())
       else none
     else
      some ((((7 : Int), (([] : List (den Y70)), ())), ()), ())
    else none
   else
    some ((((7 : Int), (([] : List (den Y70)), ())), ()), ())
  else none
abbrev C_dg : Con := ⟨P_dg, R_df, F_dg, false⟩
abbrev G_dg : Env := [(32, C_cn), (166, C_df)]
theorem g_dg : Qh Tryz.prog G_dg := (Qa s_cn (Qa s_df Qd))
abbrev c_dg_5 : Cut := ⟨i_dg_5, o_dg_5, fun x => Qc l_dg_5 lots x⟩
theorem k_dg_5 : Qz Tryz.prog 59 (.loop (nav Tryz.f146 [1, 1, 0, 1, 0, 1, 0, 1, 0, 0])) c_dg_5 :=
  Qj (L := []) hT g_dg (fun _ _ => by kernel_rfl) okP _
theorem r_dg (x) : QL T G_dg [(5, c_dg_5)] Tryz.f146 C_dg.ps C_dg.rs x = C_dg.F x := by kernel_rfl
theorem s_dg : Qb Tryz.prog 146 C_dg := fnC (L := [(5, c_dg_5)]) hT g_dg Tryz.f146 (okS okP (okS okP (okS (okS okP (okI (okS okP (okS (okS okP (okB (okU k_dg_5))) okP)) okP)) okP))) r_dg
def F_dh (x : denP P_o) : FO P_o R_a :=
 (F_z (x.1, (0 : Int), (63 : Int), ())).bind fun r1 =>
 some ((r1.1.1, ()), ())
abbrev C_dh : Con := ⟨P_o, R_a, F_dh, false⟩
theorem g_dh : Qh Tryz.prog G_aa := (Qa s_z Qd)
theorem s_dh : Qb Tryz.prog 167 C_dh := fnC (L := []) hT g_dh Tryz.f167 okP fun _ => by kernel_rfl
def F_di (x : denP P_o) : FO P_o R_c :=
 if (x.1 == (1 : Int)) then
  some (((7 : Int), ()), ())
 else
  if (x.1 == (2 : Int)) then
   some (((8 : Int), ()), ())
  else
   if (x.1 == (4 : Int)) then
    some (((9 : Int), ()), ())
   else
    some (((0 : Int), ()), ())
abbrev C_di : Con := ⟨P_o, R_c, F_di, false⟩
theorem s_di : Qb Tryz.prog 168 C_di := fnC (L := []) hT g_a Tryz.f168 okP fun _ => by kernel_rfl
abbrev P_dj : List PK := [.val Y26, .val YI, .val YI]
def F_dj (x : denP P_dj) : FO P_dj R_s :=
 (F_dh (x.2.1, ())).bind fun r1 =>
 if (!r1.1.1) = false then
  let v2 := (IntKind.i64.wrap ((x.2.1).tdiv (8 : Int)))
  if 0 ≤ v2 then
   ((x.1)[(v2).toNat]?).bind fun y3 =>
   if (ltI y3.1 (0 : Int)) = false then
    let v4 := (IntKind.i64.wrap ((x.2.1).tdiv (8 : Int)))
    if 0 ≤ v4 then
     ((x.1)[(v4).toNat]?).bind fun y5 =>
     let v6 := (iand .i64 y5.2.1 x.2.2.1)
     if (v6 == (0 : Int)) then
      (F_di (x.2.2.1, ())).bind fun r7 =>
      some (((r7.1.1, ((0 : Int), ())), ()), ())
     else
      let v8 := (IntKind.i64.wrap ((x.2.1).tdiv (8 : Int)))
      if 0 ≤ v8 then
       ((x.1)[(v8).toNat]?).bind fun y9 =>
       let v10 := (IntKind.i64.wrap (y9.1 * (8 : Int)))
       let v11 := ((x.2.1).tmod (8 : Int))
       let v12 := (IntKind.i64.wrap (v10 + v11))
       some ((((0 : Int), (v12, ())), ()), ())
      else none
    else none
   else
    (F_di (x.2.2.1, ())).bind fun r13 =>
    some (((r13.1.1, ((0 : Int), ())), ()), ())
  else none
 else
  (F_di (x.2.2.1, ())).bind fun r14 =>
  some (((r14.1.1, ((0 : Int), ())), ()), ())
abbrev C_dj : Con := ⟨P_dj, R_s, F_dj, false⟩
abbrev G_dj : Env := [(167, C_dh), (168, C_di)]
theorem g_dj : Qh Tryz.prog G_dj := (Qa s_dh (Qa s_di Qd))
theorem s_dj : Qb Tryz.prog 147 C_dj := fnC (L := []) hT g_dj Tryz.f147 okP fun _ => by kernel_rfl
abbrev P_dk : List PK := [.ptr Y46, .val Y26, .val Y32, .val YI, .val YI]
def F_dk (x : denP P_dk) : FO P_dk R_s :=
 (F_dg (x.1, x.2.1, x.2.2.1, ())).bind fun r1 =>
 if (r1.1.1.1 != (0 : Int)) then
  some (((r1.1.1.1, ((0 : Int), ())), ()), ())
 else
  (F_dj (r1.1.1.2.1, x.2.2.2.1, x.2.2.2.2.1, ())).bind fun r2 =>
  if (r2.1.1.1 != (0 : Int)) then
   some ((r2.1.1, ()), ())
  else
   let v3 := (IntKind.i64.wrap ((r2.1.1.2.1).tdiv (8 : Int)))
   if (v3 != (7 : Int)) then
    (F_dj (x.2.1, r2.1.1.2.1, x.2.2.2.2.1, ())).bind fun r4 =>
    some ((r4.1.1, ()), ())
   else
    if (x.2.2.2.2.1 == (4 : Int)) then
     some ((((9 : Int), ((0 : Int), ())), ()), ())
    else
     let v5 := ((r2.1.1.2.1).tmod (8 : Int))
     let v6 := (IntKind.i64.wrap ((1000 : Int) + v5))
     some ((((0 : Int), (v6, ())), ()), ())
abbrev C_dk : Con := ⟨P_dk, R_s, F_dk, false⟩
abbrev G_dk : Env := [(146, C_dg), (147, C_dj)]
theorem g_dk : Qh Tryz.prog G_dk := (Qa s_dg (Qa s_dj Qd))
theorem s_dk : Qb Tryz.prog 120 C_dk := fnC (L := []) hT g_dk Tryz.f120 okP fun _ => by kernel_rfl
def F_dl (x : denP P_r) : FO P_r R_c :=
 (F_z (x.1.1, (1 : Int), (26 : Int), ())).bind fun r1 =>
 if (!r1.1.1) = false then
  (F_z (x.1.2.1, (0 : Int), (15 : Int), ())).bind fun r2 =>
  if (!r2.1.1) = false then
   (F_z (x.1.2.2.1, (0 : Int), (15 : Int), ())).bind fun r3 =>
   if (!r3.1.1) = false then
    (F_z (x.1.2.2.2.1, (0 : Int), (65535 : Int), ())).bind fun r4 =>
    if (!r4.1.1) then
     some (((3 : Int), ()), ())
    else
     if (leI x.1.1 (11 : Int)) then
      if (ltI (15 : Int) x.1.2.2.2.1) then
       some (((1 : Int), ()), ())
      else
       some (((0 : Int), ()), ())
     else
      if (x.1.1 == (13 : Int)) then
       if (x.1.2.2.1 != (0 : Int)) then
        some (((1 : Int), ()), ())
       else
        some (((0 : Int), ()), ())
      else
       if (x.1.1 == (19 : Int)) then
        if (x.1.2.2.1 != (0 : Int)) then
         some (((1 : Int), ()), ())
        else
         some (((0 : Int), ()), ())
       else
        if (x.1.1 == (21 : Int)) then
         if (ltI (10 : Int) x.1.2.2.2.1) = false then
          if (x.1.2.2.1 != (0 : Int)) then
           some (((1 : Int), ()), ())
          else
           some (((0 : Int), ()), ())
         else
          some (((1 : Int), ()), ())
        else
         if (x.1.1 == (22 : Int)) then
          if (ltI (10 : Int) x.1.2.2.2.1) = false then
           if (x.1.2.1 != (0 : Int)) then
            some (((1 : Int), ()), ())
           else
            some (((0 : Int), ()), ())
          else
           some (((1 : Int), ()), ())
         else
          if (leI (23 : Int) x.1.1) then
           if (x.1.2.1 != (0 : Int)) = false then
            if (x.1.2.2.1 != (0 : Int)) = false then
             if (x.1.2.2.2.1 != (0 : Int)) then
              some (((1 : Int), ()), ())
             else
              some (((0 : Int), ()), ())
            else
             some (((1 : Int), ()), ())
           else
            some (((1 : Int), ()), ())
          else
           some (((0 : Int), ()), ())
   else
    some (((3 : Int), ()), ())
  else
   some (((3 : Int), ()), ())
 else
  some (((3 : Int), ()), ())
abbrev C_dl : Con := ⟨P_r, R_c, F_dl, false⟩
theorem g_dl : Qh Tryz.prog G_aa := (Qa s_z Qd)
theorem s_dl : Qb Tryz.prog 148 C_dl := fnC (L := []) hT g_dl Tryz.f148 okP fun _ => by kernel_rfl
abbrev R_dm : List VK := [.s (.dat Y174)]
def F_dm (x : denP P_o) : FO P_o R_dm :=
 let v1 := ((x.1).fdiv (2 ^ 24))
 let v2 := ((x.1).fdiv (2 ^ 20))
 let v3 := (iand .i64 v2 (15 : Int))
 let v4 := ((x.1).fdiv (2 ^ 16))
 let v5 := (iand .i64 v4 (15 : Int))
 let v6 := (iand .i64 x.1 (65535 : Int))
 (F_dl ((v1, (v3, (v5, (v6, ())))), ())).bind fun r7 =>
 if (r7.1.1 != (0 : Int)) then
  some ((((5 : Int), (((0 : Int), ((0 : Int), ((0 : Int), ((0 : Int), ())))), ())), ()), ())
 else
  some ((((0 : Int), ((v1, (v3, (v5, (v6, ())))), ())), ()), ())
abbrev C_dm : Con := ⟨P_o, R_dm, F_dm, false⟩
abbrev G_dm : Env := [(148, C_dl)]
theorem g_dm : Qh Tryz.prog G_dm := (Qa s_dl Qd)
theorem s_dm : Qb Tryz.prog 121 C_dm := fnC (L := []) hT g_dm Tryz.f121 okP fun _ => by kernel_rfl
def F_dn (x : denP P_cmp_Less_int64) : FO P_cmp_Less_int64 R_c :=
 (F_as (x.1, ())).bind fun r1 =>
 (F_as (x.2.1, ())).bind fun r2 =>
 let v3 := (IntKind.i64.wrap (r1.1.1 + r2.1.1))
 (F_as (v3, ())).bind fun r4 =>
 some ((r4.1.1, ()), ())
abbrev C_dn : Con := ⟨P_cmp_Less_int64, R_c, F_dn, false⟩
abbrev G_dn : Env := [(39, C_as)]
theorem g_dn : Qh Tryz.prog G_dn := (Qa s_as Qd)
theorem s_dn : Qb Tryz.prog 149 C_dn := fnC (L := []) hT g_dn Tryz.f149 okP fun _ => by kernel_rfl
def F_do (x : denP P_o) : FO P_o R_c :=
 let v1 := (iand .i64 x.1 (65535 : Int))
 if (leI (32768 : Int) v1) then
  let v2 := (IntKind.i64.wrap (v1 - (65536 : Int)))
  some ((v2, ()), ())
 else
  some ((v1, ()), ())
abbrev C_do : Con := ⟨P_o, R_c, F_do, false⟩
theorem s_do : Qb Tryz.prog 150 C_do := fnC (L := []) hT g_a Tryz.f150 okP fun _ => by kernel_rfl
abbrev P_dp : List PK := [.box [.own 2 YI, .dat YI, .own 2 YI, .dat .bool, .dat .bool, .dat .bool, .dat YI, .own 2 YI, .own 2 YI] [.own 2 YI, .dat YI, .own 2 YI, .dat .bool, .dat .bool, .dat .bool, .dat YI, .own 2 YI, .own 2 YI], .val YI]
def F_dp (x : denP P_dp) : FO P_dp R_c :=
 if (x.2.1 == (1 : Int)) then
  let v1 := ((x.1.2.2.2.2.2.2.2.1.length : Nat) : Int)
  if (ltI (0 : Int) v1) then
   if 0 ≤ (0 : Int) ∧ (0 : Int) < ((x.1.2.2.2.2.2.2.2.1.length : Nat) : Int) then
    ((x.1.2.2.2.2.2.2.2.1)[((0 : Int)).toNat]?).bind fun y2 =>
    if 0 ≤ (1 : Int) ∧ (1 : Int) ≤ ((x.1.2.2.2.2.2.2.2.1.length : Nat) : Int) ∧ ((x.1.2.2.2.2.2.2.2.1.length : Nat) : Int) ≤ ((x.1.2.2.2.2.2.2.2.1.length : Nat) : Int) then
     (F_av (((x.1.2.2.2.2.2.2.2.1.drop (0 + ((1 : Int)).toNat)).take ((((x.1.2.2.2.2.2.2.2.1.length : Nat) : Int)).toNat - ((1 : Int)).toNat)), ())).bind fun r3 =>
     some ((y2, ()), ((x.1.1, (x.1.2.1, (x.1.2.2.1, (x.1.2.2.2.1, (x.1.2.2.2.2.1, (x.1.2.2.2.2.2.1, (x.1.2.2.2.2.2.2.1, (r3.1.1, (x.1.2.2.2.2.2.2.2.2.1, ()))))))))), ()))
    else none
   else none
  else
   some (((0 : Int), ()), (x.1, ()))
 else
  if (x.2.1 == (2 : Int)) then
   some ((x.1.2.2.2.2.2.2.1, ()), (x.1, ()))
  else
   if (x.2.1 == (3 : Int)) then
    if 0 ≤ (9 : Int) ∧ (9 : Int) < ((x.1.2.2.1.length : Nat) : Int) then
     ((x.1.2.2.1)[((9 : Int)).toNat]?).bind fun y4 =>
     some ((y4, ()), (x.1, ()))
    else none
   else
    if (x.2.1 == (4 : Int)) then
     (F_cz (x.1, ())).bind fun r5 =>
     some ((r5.1.1, ()), (x.1, ()))
    else
     if (x.2.1 == (6 : Int)) then
      let v6 := ((x.1.2.2.2.2.2.2.2.1.length : Nat) : Int)
      some ((v6, ()), (x.1, ()))
     else
      some (((0 : Int), ()), (x.1, ()))
abbrev C_dp : Con := ⟨P_dp, R_c, F_dp, false⟩
abbrev G_dp : Env := [(57, C_av), (119, C_cz)]
theorem g_dp : Qh Tryz.prog G_dp := (Qa s_av (Qa s_cz Qd))
theorem s_dp : Qb Tryz.prog 169 C_dp := fnC (L := []) hT g_dp Tryz.f169 okP fun _ => by kernel_rfl
abbrev P_dq : List PK := [.box [.own 2 YI, .dat YI, .own 2 YI, .dat .bool, .dat .bool, .dat .bool, .dat YI, .own 2 YI, .own 2 YI, .dat Y26, .own 2 YI, .dat YI, .dat YI] [.own 2 YI, .dat YI, .own 2 YI, .dat .bool, .dat .bool, .dat .bool, .dat YI, .own 2 YI, .own 2 YI, .dat Y26, .own 2 YI, .dat YI, .dat YI], .val YI]
abbrev R_dq : List VK := [.s (.dat YI), .s (.dat .bool)]
def F_dq (x : denP P_dq) : FO P_dq R_dq :=
 (F_dk ((x.1.1, (x.1.2.1, (x.1.2.2.1, (x.1.2.2.2.1, (x.1.2.2.2.2.1, (x.1.2.2.2.2.2.1, (x.1.2.2.2.2.2.2.1, (x.1.2.2.2.2.2.2.2.1, (x.1.2.2.2.2.2.2.2.2.1, ()))))))))), x.1.2.2.2.2.2.2.2.2.2.1, x.1.2.2.2.2.2.2.2.2.2.2.1, x.2.1, (1 : Int), ())).bind fun r1 =>
 if (r1.1.1.1 != (0 : Int)) then
  (F_dd (x.1, (3 : Int), x.2.1, ())).bind fun r2 =>
  some (((0 : Int), false, ()), (r2.2.1, ()))
 else
  if (leI (1000 : Int) r1.1.1.2.1) then
   let v3 := (IntKind.i64.wrap (r1.1.1.2.1 - (1000 : Int)))
   (F_dp ((x.1.1, (x.1.2.1, (x.1.2.2.1, (x.1.2.2.2.1, (x.1.2.2.2.2.1, (x.1.2.2.2.2.2.1, (x.1.2.2.2.2.2.2.1, (x.1.2.2.2.2.2.2.2.1, (x.1.2.2.2.2.2.2.2.2.1, ()))))))))), v3, ())).bind fun r4 =>
   some ((r4.1.1, true, ()), ((r4.2.1.1, (r4.2.1.2.1, (r4.2.1.2.2.1, (r4.2.1.2.2.2.1, (r4.2.1.2.2.2.2.1, (r4.2.1.2.2.2.2.2.1, (r4.2.1.2.2.2.2.2.2.1, (r4.2.1.2.2.2.2.2.2.2.1, (r4.2.1.2.2.2.2.2.2.2.2.1, (x.1.2.2.2.2.2.2.2.2.2.1, (x.1.2.2.2.2.2.2.2.2.2.2.1, (x.1.2.2.2.2.2.2.2.2.2.2.2.1, (x.1.2.2.2.2.2.2.2.2.2.2.2.2.1, ()))))))))))))), ()))
  else
   if 0 ≤ r1.1.1.2.1 ∧ r1.1.1.2.1 < ((x.1.2.2.2.2.2.2.2.2.2.2.1.length : Nat) : Int) then
    ((x.1.2.2.2.2.2.2.2.2.2.2.1)[(r1.1.1.2.1).toNat]?).bind fun y5 =>
    some ((y5, true, ()), (x.1, ()))
   else none
abbrev C_dq : Con := ⟨P_dq, R_dq, F_dq, false⟩
abbrev G_dq : Env := [(118, C_dd), (120, C_dk), (169, C_dp)]
theorem g_dq : Qh Tryz.prog G_dq := (Qa s_dd (Qa s_dk (Qa s_dp Qd)))
theorem s_dq : Qb Tryz.prog 151 C_dq := fnC (L := []) hT g_dq Tryz.f151 okP fun _ => by kernel_rfl
def F_dr (x : denP P_dc) : FO P_dc R_br :=
 (F_as (x.2.2.1, ())).bind fun r1 =>
 if (x.2.1 == (0 : Int)) then
  let v2 := ((r1.1.1).tmod (4 : Int))
  if 0 ≤ x.2.1 ∧ x.2.1 < ((x.1.2.2.1.length : Nat) : Int) then
   ((x.1.2.2.1)[(x.2.1).toNat]?).bind fun y3 =>
   let v4 := (x.1.2.2.1.set (x.2.1).toNat v2)
   some ((), ((x.1.1, (x.1.2.1, (v4, (x.1.2.2.2.1, (x.1.2.2.2.2.1, (x.1.2.2.2.2.2.1, (x.1.2.2.2.2.2.2.1, (x.1.2.2.2.2.2.2.2.1, (x.1.2.2.2.2.2.2.2.2.1, ()))))))))), ()))
  else none
 else
  if (x.2.1 == (7 : Int)) then
   let v5 := ((r1.1.1).tmod (8 : Int))
   if 0 ≤ x.2.1 ∧ x.2.1 < ((x.1.2.2.1.length : Nat) : Int) then
    ((x.1.2.2.1)[(x.2.1).toNat]?).bind fun y6 =>
    let v7 := (x.1.2.2.1.set (x.2.1).toNat v5)
    some ((), ((x.1.1, (x.1.2.1, (v7, (x.1.2.2.2.1, (x.1.2.2.2.2.1, (x.1.2.2.2.2.2.1, (x.1.2.2.2.2.2.2.1, (x.1.2.2.2.2.2.2.2.1, (x.1.2.2.2.2.2.2.2.2.1, ()))))))))), ()))
   else none
  else
   if (x.2.1 == (10 : Int)) then
    if 0 ≤ x.2.1 ∧ x.2.1 < ((x.1.2.2.1.length : Nat) : Int) then
     ((x.1.2.2.1)[(x.2.1).toNat]?).bind fun y8 =>
     let v9 := (x.1.2.2.1.set (x.2.1).toNat (0 : Int))
     if (leI r1.1.1 (8 : Int)) then
      if 0 ≤ x.2.1 ∧ x.2.1 < ((v9.length : Nat) : Int) then
       ((v9)[(x.2.1).toNat]?).bind fun y10 =>
       let v11 := (v9.set (x.2.1).toNat r1.1.1)
       some ((), ((x.1.1, (x.1.2.1, (v11, (x.1.2.2.2.1, (x.1.2.2.2.2.1, (x.1.2.2.2.2.2.1, (x.1.2.2.2.2.2.2.1, (x.1.2.2.2.2.2.2.2.1, (x.1.2.2.2.2.2.2.2.2.1, ()))))))))), ()))
      else none
     else
      some ((), ((x.1.1, (x.1.2.1, (v9, (x.1.2.2.2.1, (x.1.2.2.2.2.1, (x.1.2.2.2.2.2.1, (x.1.2.2.2.2.2.2.1, (x.1.2.2.2.2.2.2.2.1, (x.1.2.2.2.2.2.2.2.2.1, ()))))))))), ()))
    else none
   else
    if (x.2.1 == (6 : Int)) then
     let v12 := ((r1.1.1).tmod (4 : Int))
     if (leI (2 : Int) v12) then
      some ((), ((x.1.1, (x.1.2.1, (x.1.2.2.1, (x.1.2.2.2.1, (x.1.2.2.2.2.1, (false, (x.1.2.2.2.2.2.2.1, (x.1.2.2.2.2.2.2.2.1, (x.1.2.2.2.2.2.2.2.2.1, ()))))))))), ()))
     else
      some ((), (x.1, ()))
    else
     if (x.2.1 == (8 : Int)) then
      some ((), (x.1, ()))
     else
      if 0 ≤ x.2.1 ∧ x.2.1 < ((x.1.2.2.1.length : Nat) : Int) then
       ((x.1.2.2.1)[(x.2.1).toNat]?).bind fun y13 =>
       let v14 := (x.1.2.2.1.set (x.2.1).toNat r1.1.1)
       some ((), ((x.1.1, (x.1.2.1, (v14, (x.1.2.2.2.1, (x.1.2.2.2.2.1, (x.1.2.2.2.2.2.1, (x.1.2.2.2.2.2.2.1, (x.1.2.2.2.2.2.2.2.1, (x.1.2.2.2.2.2.2.2.2.1, ()))))))))), ()))
      else none
abbrev C_dr : Con := ⟨P_dc, R_br, F_dr, false⟩
theorem g_dr : Qh Tryz.prog G_dn := (Qa s_as Qd)
theorem s_dr : Qb Tryz.prog 155 C_dr := fnC (L := []) hT g_dr Tryz.f155 okP fun _ => by kernel_rfl
def F_ds (x : denP P_dc) : FO P_dc R_c :=
 (F_as (x.2.2.1, ())).bind fun r1 =>
 if (x.2.1 == (0 : Int)) then
  let v2 := ((x.1.2.2.2.2.2.2.2.2.1.length : Nat) : Int)
  if (ltI v2 (40 : Int)) then
   (F_av (x.1.2.2.2.2.2.2.2.2.1, ())).bind fun r3 =>
   if (r3.1.1.length + [r1.1.1].length) * 8 ≤ 140737488355328 then
    let v4 := (r3.1.1 ++ [r1.1.1])
    some (((-1 : Int), ()), ((x.1.1, (x.1.2.1, (x.1.2.2.1, (x.1.2.2.2.1, (x.1.2.2.2.2.1, (x.1.2.2.2.2.2.1, (x.1.2.2.2.2.2.2.1, (x.1.2.2.2.2.2.2.2.1, (v4, ()))))))))), ()))
   else none
  else
   some (((-1 : Int), ()), (x.1, ()))
 else
  if (x.2.1 == (3 : Int)) then
   (F_dr (x.1, (9 : Int), r1.1.1, ())).bind fun r5 =>
   some (((-1 : Int), ()), (r5.2.1, ()))
  else
   if (x.2.1 == (4 : Int)) then
    (F_dr (x.1, (6 : Int), r1.1.1, ())).bind fun r6 =>
    some (((-1 : Int), ()), (r6.2.1, ()))
   else
    if (x.2.1 == (5 : Int)) then
     some ((r1.1.1, ()), (x.1, ()))
    else
     some (((-1 : Int), ()), (x.1, ()))
abbrev C_ds : Con := ⟨P_dc, R_c, F_ds, false⟩
abbrev G_ds : Env := [(39, C_as), (57, C_av), (155, C_dr)]
theorem g_ds : Qh Tryz.prog G_ds := (Qa s_as (Qa s_av (Qa s_dr Qd)))
theorem s_ds : Qb Tryz.prog 170 C_ds := fnC (L := []) hT g_ds Tryz.f170 okP fun _ => by kernel_rfl
def F_dt (x : denP P_dd) : FO P_dd R_a :=
 (F_dk ((x.1.1, (x.1.2.1, (x.1.2.2.1, (x.1.2.2.2.1, (x.1.2.2.2.2.1, (x.1.2.2.2.2.2.1, (x.1.2.2.2.2.2.2.1, (x.1.2.2.2.2.2.2.2.1, (x.1.2.2.2.2.2.2.2.2.1, ()))))))))), x.1.2.2.2.2.2.2.2.2.2.1, x.1.2.2.2.2.2.2.2.2.2.2.1, x.2.1, (2 : Int), ())).bind fun r1 =>
 if (r1.1.1.1 != (0 : Int)) then
  (F_dd (x.1, (4 : Int), x.2.1, ())).bind fun r2 =>
  some ((false, ()), (r2.2.1, ()))
 else
  if (leI (1000 : Int) r1.1.1.2.1) then
   let v3 := (IntKind.i64.wrap (r1.1.1.2.1 - (1000 : Int)))
   (F_ds ((x.1.1, (x.1.2.1, (x.1.2.2.1, (x.1.2.2.2.1, (x.1.2.2.2.2.1, (x.1.2.2.2.2.2.1, (x.1.2.2.2.2.2.2.1, (x.1.2.2.2.2.2.2.2.1, (x.1.2.2.2.2.2.2.2.2.1, ()))))))))), v3, x.2.2.1, ())).bind fun r4 =>
   some ((true, ()), ((r4.2.1.1, (r4.2.1.2.1, (r4.2.1.2.2.1, (r4.2.1.2.2.2.1, (r4.2.1.2.2.2.2.1, (r4.2.1.2.2.2.2.2.1, (r4.2.1.2.2.2.2.2.2.1, (r4.2.1.2.2.2.2.2.2.2.1, (r4.2.1.2.2.2.2.2.2.2.2.1, (x.1.2.2.2.2.2.2.2.2.2.1, (x.1.2.2.2.2.2.2.2.2.2.2.1, (x.1.2.2.2.2.2.2.2.2.2.2.2.1, (r4.1.1, ()))))))))))))), ()))
  else
   if 0 ≤ r1.1.1.2.1 ∧ r1.1.1.2.1 < ((x.1.2.2.2.2.2.2.2.2.2.2.1.length : Nat) : Int) then
    ((x.1.2.2.2.2.2.2.2.2.2.2.1)[(r1.1.1.2.1).toNat]?).bind fun y5 =>
    let v6 := (x.1.2.2.2.2.2.2.2.2.2.2.1.set (r1.1.1.2.1).toNat x.2.2.1)
    some ((true, ()), ((x.1.1, (x.1.2.1, (x.1.2.2.1, (x.1.2.2.2.1, (x.1.2.2.2.2.1, (x.1.2.2.2.2.2.1, (x.1.2.2.2.2.2.2.1, (x.1.2.2.2.2.2.2.2.1, (x.1.2.2.2.2.2.2.2.2.1, (x.1.2.2.2.2.2.2.2.2.2.1, (v6, (x.1.2.2.2.2.2.2.2.2.2.2.2.1, (x.1.2.2.2.2.2.2.2.2.2.2.2.2.1, ()))))))))))))), ()))
   else none
abbrev C_dt : Con := ⟨P_dd, R_a, F_dt, false⟩
abbrev G_dt : Env := [(118, C_dd), (120, C_dk), (170, C_ds)]
theorem g_dt : Qh Tryz.prog G_dt := (Qa s_dd (Qa s_dk (Qa s_ds Qd)))
theorem s_dt : Qb Tryz.prog 152 C_dt := fnC (L := []) hT g_dt Tryz.f152 okP fun _ => by kernel_rfl
def F_du (x : denP P_o) : FO P_o R_c :=
 (F_as (x.1, ())).bind fun r1 =>
 if (ltI r1.1.1 (2147483648 : Int)) then
  some ((r1.1.1, ()), ())
 else
  let v2 := (IntKind.i64.wrap (r1.1.1 - (4294967295 : Int)))
  let v3 := (IntKind.i64.wrap (v2 - (1 : Int)))
  some ((v3, ()), ())
abbrev C_du : Con := ⟨P_o, R_c, F_du, false⟩
theorem g_du : Qh Tryz.prog G_dn := (Qa s_as Qd)
theorem s_du : Qb Tryz.prog 153 C_du := fnC (L := []) hT g_du Tryz.f153 okP fun _ => by kernel_rfl
abbrev P_dv : List PK := [.ptr Y46, .val YI]
def F_dv (x : denP P_dv) : FO P_dv R_c :=
 if (x.2.1 == (6 : Int)) then
  (F_cz (x.1, ())).bind fun r1 =>
  some ((r1.1.1, ()), ())
 else
  if (x.2.1 == (8 : Int)) then
   some ((x.1.2.2.2.2.2.2.1, ()), ())
  else
   if 0 ≤ x.2.1 then
    ((x.1.2.2.1)[(x.2.1).toNat]?).bind fun y2 =>
    some ((y2, ()), ())
   else none
abbrev C_dv : Con := ⟨P_dv, R_c, F_dv, false⟩
abbrev G_dv : Env := [(119, C_cz)]
theorem g_dv : Qh Tryz.prog G_dv := (Qa s_cz Qd)
theorem s_dv : Qb Tryz.prog 154 C_dv := fnC (L := []) hT g_dv Tryz.f154 okP fun _ => by kernel_rfl
abbrev P_dw : List PK := [.box [.own 2 YI, .dat YI, .own 2 YI, .dat .bool, .dat .bool, .dat .bool, .dat YI, .own 2 YI, .own 2 YI] [.own 2 YI, .dat YI, .own 2 YI, .dat .bool, .dat .bool, .dat .bool, .dat YI, .own 2 YI, .own 2 YI]]
def F_dw (x : denP P_dw) : FO P_dw R_br :=
 if 0 ≤ (2 : Int) ∧ (2 : Int) < ((x.1.2.2.1.length : Nat) : Int) then
  ((x.1.2.2.1)[((2 : Int)).toNat]?).bind fun y1 =>
  if 0 ≤ (0 : Int) ∧ (0 : Int) < ((x.1.2.2.1.length : Nat) : Int) then
   ((x.1.2.2.1)[((0 : Int)).toNat]?).bind fun y2 =>
   let v3 := (IntKind.i64.wrap ((y2).tdiv (2 : Int)))
   let v4 := (IntKind.i64.wrap ((2 : Int) + v3))
   if 0 ≤ (0 : Int) ∧ (0 : Int) < ((x.1.2.2.1.length : Nat) : Int) then
    ((x.1.2.2.1)[((0 : Int)).toNat]?).bind fun y5 =>
    let v6 := (x.1.2.2.1.set ((0 : Int)).toNat v4)
    some ((), ((x.1.1, (y1, (v6, (x.1.2.2.2.1, (x.1.2.2.2.2.1, (x.1.2.2.2.2.2.1, (x.1.2.2.2.2.2.2.1, (x.1.2.2.2.2.2.2.2.1, (x.1.2.2.2.2.2.2.2.2.1, ()))))))))), ()))
   else none
  else none
 else none
abbrev C_dw : Con := ⟨P_dw, R_br, F_dw, false⟩
theorem s_dw : Qb Tryz.prog 156 C_dw := fnC (L := []) hT g_a Tryz.f156 okP fun _ => by kernel_rfl
def F_dx (x : denP P_cmp_Less_int64) : FO P_cmp_Less_int64 R_c :=
 let v1 := (IntKind.u32.wrap x.1)
 let v2 := (IntKind.u32.wrap x.2.1)
 let v3 := (IntKind.u32.wrap (v1 * v2))
 let v4 := (IntKind.i64.wrap v3)
 some ((v4, ()), ())
abbrev C_dx : Con := ⟨P_cmp_Less_int64, R_c, F_dx, false⟩
theorem s_dx : Qb Tryz.prog 171 C_dx := fnC (L := []) hT g_a Tryz.f171 okP fun _ => by kernel_rfl
def F_dy (x : denP P_cmp_Less_int64) : FO P_cmp_Less_int64 R_c :=
 (F_du (x.1, ())).bind fun r1 =>
 (F_du (x.2.1, ())).bind fun r2 =>
 if (r2.1.1 == (0 : Int)) then
  some (((4294967295 : Int), ()), ())
 else
  if r2.1.1 = 0 then none else
  let v3 := (IntKind.i64.wrap ((r1.1.1).tdiv r2.1.1))
  (F_as (v3, ())).bind fun r4 =>
  some ((r4.1.1, ()), ())
abbrev C_dy : Con := ⟨P_cmp_Less_int64, R_c, F_dy, false⟩
abbrev G_dy : Env := [(39, C_as), (153, C_du)]
theorem g_dy : Qh Tryz.prog G_dy := (Qa s_as (Qa s_du Qd))
theorem s_dy : Qb Tryz.prog 172 C_dy := fnC (L := []) hT g_dy Tryz.f172 okP fun _ => by kernel_rfl
def F_dz (x : denP P_cmp_Less_int64) : FO P_cmp_Less_int64 R_c :=
 (F_du (x.1, ())).bind fun r1 =>
 (F_du (x.2.1, ())).bind fun r2 =>
 if (r2.1.1 == (0 : Int)) then
  (F_as (x.1, ())).bind fun r3 =>
  some ((r3.1.1, ()), ())
 else
  if r2.1.1 = 0 then none else
  let v4 := ((r1.1.1).tmod r2.1.1)
  (F_as (v4, ())).bind fun r5 =>
  some ((r5.1.1, ()), ())
abbrev C_dz : Con := ⟨P_cmp_Less_int64, R_c, F_dz, false⟩
theorem g_dz : Qh Tryz.prog G_dy := (Qa s_as (Qa s_du Qd))
theorem s_dz : Qb Tryz.prog 173 C_dz := fnC (L := []) hT g_dz Tryz.f173 okP fun _ => by kernel_rfl
def F_ea (x : denP P_e) : FO P_e R_s :=
 (F_as (x.2.1, ())).bind fun r1 =>
 (F_as (x.2.2.1, ())).bind fun r2 =>
 if (x.1 == (1 : Int)) then
  let v3 := (iand .i64 r1.1.1 r2.1.1)
  some ((((0 : Int), (v3, ())), ()), ())
 else
  if (x.1 == (2 : Int)) then
   let v4 := (ior .i64 r1.1.1 r2.1.1)
   some ((((0 : Int), (v4, ())), ()), ())
  else
   if (x.1 == (3 : Int)) then
    let v5 := (ixor .i64 r1.1.1 r2.1.1)
    some ((((0 : Int), (v5, ())), ()), ())
   else
    some ((((3 : Int), ((0 : Int), ())), ()), ())
abbrev C_ea : Con := ⟨P_e, R_s, F_ea, false⟩
theorem g_ea : Qh Tryz.prog G_dn := (Qa s_as Qd)
theorem s_ea : Qb Tryz.prog 174 C_ea := fnC (L := []) hT g_ea Tryz.f174 okP fun _ => by kernel_rfl
abbrev P_eb : List PK := [.val YI, .val YI, .val .bool]
def F_eb (x : denP P_eb) : FO P_eb R_c :=
 (F_as (x.1, ())).bind fun r1 =>
 (F_as (x.2.1, ())).bind fun r2 =>
 let v3 := ((r2.1.1).tmod (32 : Int))
 if x.2.2.1 then
  if v3 < 0 then none else
  let v4 := (IntKind.i64.wrap (r1.1.1 * 2 ^ (min (v3).toNat 64)))
  (F_as (v4, ())).bind fun r5 =>
  some ((r5.1.1, ()), ())
 else
  if v3 < 0 then none else
  let v6 := ((r1.1.1).fdiv (2 ^ (min (v3).toNat 64)))
  some ((v6, ()), ())
abbrev C_eb : Con := ⟨P_eb, R_c, F_eb, false⟩
theorem g_eb : Qh Tryz.prog G_dn := (Qa s_as Qd)
theorem s_eb : Qb Tryz.prog 175 C_eb := fnC (L := []) hT g_eb Tryz.f175 okP fun _ => by kernel_rfl
def F_ec (x : denP P_e) : FO P_e R_s :=
 (F_as (x.2.1, ())).bind fun r1 =>
 (F_as (x.2.2.1, ())).bind fun r2 =>
 if (x.1 == (1 : Int)) then
  (F_dn (r1.1.1, r2.1.1, ())).bind fun r3 =>
  some ((((0 : Int), (r3.1.1, ())), ()), ())
 else
  if (x.1 == (2 : Int)) then
   let v4 := (IntKind.i64.wrap (r1.1.1 - r2.1.1))
   (F_as (v4, ())).bind fun r5 =>
   some ((((0 : Int), (r5.1.1, ())), ()), ())
  else
   if (x.1 == (3 : Int)) then
    (F_dx (r1.1.1, r2.1.1, ())).bind fun r6 =>
    some ((((0 : Int), (r6.1.1, ())), ()), ())
   else
    if (x.1 == (4 : Int)) then
     (F_dy (r1.1.1, r2.1.1, ())).bind fun r7 =>
     some ((((0 : Int), (r7.1.1, ())), ()), ())
    else
     if (x.1 == (5 : Int)) then
      (F_dz (r1.1.1, r2.1.1, ())).bind fun r8 =>
      some ((((0 : Int), (r8.1.1, ())), ()), ())
     else
      if (x.1 == (6 : Int)) then
       let v9 := (IntKind.i64.wrap (x.1 - (6 : Int)))
       let v10 := (IntKind.i64.wrap (v9 + (1 : Int)))
       (F_ea (v10, r1.1.1, r2.1.1, ())).bind fun r11 =>
       some ((r11.1.1, ()), ())
      else
       if (x.1 == (7 : Int)) then
        let v12 := (IntKind.i64.wrap (x.1 - (6 : Int)))
        let v13 := (IntKind.i64.wrap (v12 + (1 : Int)))
        (F_ea (v13, r1.1.1, r2.1.1, ())).bind fun r14 =>
        some ((r14.1.1, ()), ())
       else
        if (x.1 == (8 : Int)) then
         let v15 := (IntKind.i64.wrap (x.1 - (6 : Int)))
         let v16 := (IntKind.i64.wrap (v15 + (1 : Int)))
         (F_ea (v16, r1.1.1, r2.1.1, ())).bind fun r17 =>
         some ((r17.1.1, ()), ())
        else
         if (x.1 == (9 : Int)) then
          (F_eb (r1.1.1, r2.1.1, (x.1 == (9 : Int)), ())).bind fun r18 =>
          some ((((0 : Int), (r18.1.1, ())), ()), ())
         else
          if (x.1 == (10 : Int)) then
           (F_eb (r1.1.1, r2.1.1, (x.1 == (9 : Int)), ())).bind fun r19 =>
           some ((((0 : Int), (r19.1.1, ())), ()), ())
          else
           if (x.1 == (11 : Int)) then
            (F_du (r1.1.1, ())).bind fun r20 =>
            (F_du (r2.1.1, ())).bind fun r21 =>
            if (ltI r20.1.1 r21.1.1) then
             some ((((0 : Int), ((1 : Int), ())), ()), ())
            else
             some ((((0 : Int), ((0 : Int), ())), ()), ())
           else
            some ((((3 : Int), ((0 : Int), ())), ()), ())
abbrev C_ec : Con := ⟨P_e, R_s, F_ec, false⟩
abbrev G_ec : Env := [(39, C_as), (149, C_dn), (153, C_du), (171, C_dx), (172, C_dy), (173, C_dz), (174, C_ea), (175, C_eb)]
theorem g_ec : Qh Tryz.prog G_ec := (Qa s_as (Qa s_dn (Qa s_du (Qa s_dx (Qa s_dy (Qa s_dz (Qa s_ea (Qa s_eb Qd))))))))
theorem s_ec : Qb Tryz.prog 157 C_ec := fnC (L := []) hT g_ec Tryz.f157 okP fun _ => by kernel_rfl
def F_ed (x : denP P_o) : FO P_o R_a :=
 (F_z (x.1, (1 : Int), (14 : Int), ())).bind fun r1 =>
 if r1.1.1 = false then
  (F_z (x.1, (19 : Int), (21 : Int), ())).bind fun r2 =>
  some ((r2.1.1, ()), ())
 else
  some ((true, ()), ())
abbrev C_ed : Con := ⟨P_o, R_a, F_ed, false⟩
theorem g_ed : Qh Tryz.prog G_aa := (Qa s_z Qd)
theorem s_ed : Qb Tryz.prog 158 C_ed := fnC (L := []) hT g_ed Tryz.f158 okP fun _ => by kernel_rfl
abbrev P_ee : List PK := [.box [.own 2 YI, .dat YI, .own 2 YI, .dat .bool, .dat .bool, .dat .bool, .dat YI, .own 2 YI, .own 2 YI, .dat Y26, .own 2 YI, .dat YI, .dat YI] [.own 2 YI, .dat YI, .own 2 YI, .dat .bool, .dat .bool, .dat .bool, .dat YI, .own 2 YI, .own 2 YI, .dat Y26, .own 2 YI, .dat YI, .dat YI], .val Y162]
abbrev i_ee_100000 : Shp := { slots := [(0, .s (.ptr 9000000 0)), (3, .s (.ptr 3 0)), (5, .s (.dat YI)), (6, .s (.dat YI)), (7, .s (.dat YI)), (8, .s (.dat YI)), (9, .s (.dat YI)), (10, .s (.dat YI)), (11, .s (.dat YI)), (12, .s (.dat YI)), (56, .s (.dat YI))], boxes := [(3, [.dat YI, .dat YI, .dat YI, .dat YI]), (9000000, [.own 2 YI, .dat YI, .own 2 YI, .dat .bool, .dat .bool, .dat .bool, .dat YI, .own 2 YI, .own 2 YI, .dat Y26, .own 2 YI, .dat YI, .dat YI])], rows := [] }
abbrev o_ee_100000 : List (Ex × Shp) := [(.normal, { slots := [(0, .s (.ptr 9000000 0)), (3, .s (.ptr 3 0)), (6, .s (.dat YI)), (11, .s (.dat YI))], boxes := [(3, [.dat YI, .dat YI, .dat YI, .dat YI]), (9000000, [.own 2 YI, .dat YI, .own 2 YI, .dat .bool, .dat .bool, .dat .bool, .dat YI, .own 2 YI, .own 2 YI, .dat Y26, .own 2 YI, .dat YI, .dat YI])], rows := [] }), (.ret, { slots := [(4, .s (.dat .bool))], boxes := [(9000000, [.own 2 YI, .dat YI, .own 2 YI, .dat .bool, .dat .bool, .dat .bool, .dat YI, .own 2 YI, .own 2 YI, .dat Y26, .own 2 YI, .dat YI, .dat YI])], rows := [] })]
def L_ee_100000 (u100000 : i_ee_100000.den) : Option (denO o_ee_100000) :=
 if (u100000.1.2.2.2.2.2.2.2.2.2.2.1 == (12 : Int)) then
  some (.inl (((), ((), (u100000.1.2.2.2.1, (u100000.1.2.2.2.2.2.2.2.1, ())))), ((u100000.2.1.1, (u100000.2.1.2.1, ())), ())))
 else
  if (u100000.1.2.2.2.2.2.2.2.2.2.2.1 == (13 : Int)) then
   let v40 := (IntKind.i64.wrap (u100000.2.1.1.2.2.2.1 * (65536 : Int)))
   some (.inl (((), ((), (u100000.1.2.2.2.1, (v40, ())))), ((u100000.2.1.1, (u100000.2.1.2.1, ())), ())))
  else
   if (u100000.1.2.2.2.2.2.2.2.2.2.2.1 == (14 : Int)) then
    (F_dq (u100000.2.1.2.1, u100000.1.2.2.2.2.2.2.2.1, ())).bind fun r41 =>
    if (!r41.1.2.1) then
     some (.inr (.inl ((false, ()), ((r41.2.1, ()), ()))))
    else
     some (.inl (((), ((), (u100000.1.2.2.2.1, (r41.1.1, ())))), ((u100000.2.1.1, (r41.2.1, ())), ())))
   else
    if (u100000.1.2.2.2.2.2.2.2.2.2.2.1 == (15 : Int)) then
     (F_dt (u100000.2.1.2.1, u100000.1.2.2.2.2.2.2.2.1, u100000.1.2.2.2.2.2.1, ())).bind fun r42 =>
     if (!r42.1.1) then
      some (.inr (.inl ((false, ()), ((r42.2.1, ()), ()))))
     else
      some (.inl (((), ((), (u100000.1.2.2.2.1, (u100000.1.2.2.2.2.2.2.2.2.1, ())))), ((u100000.2.1.1, (r42.2.1, ())), ())))
    else
     if (u100000.1.2.2.2.2.2.2.2.2.2.2.1 == (16 : Int)) then
      if (u100000.1.2.2.2.2.2.2.2.2.2.1 == (16 : Int)) = true then
       if (u100000.1.2.2.2.2.2.1 == u100000.1.2.2.2.2.2.2.1) = false then
        if (u100000.1.2.2.2.2.2.2.2.2.2.1 == (17 : Int)) = true then
         if (u100000.1.2.2.2.2.2.1 != u100000.1.2.2.2.2.2.2.1) = false then
          if (u100000.1.2.2.2.2.2.2.2.2.2.1 == (18 : Int)) = true then
           (F_du (u100000.1.2.2.2.2.2.1, ())).bind fun r43 =>
           (F_du (u100000.1.2.2.2.2.2.2.1, ())).bind fun r44 =>
           if (ltI r43.1.1 r44.1.1) then
            some (.inl (((), ((), (u100000.1.2.2.2.2.1, (u100000.1.2.2.2.2.2.2.2.2.1, ())))), ((u100000.2.1.1, (u100000.2.1.2.1, ())), ())))
           else
            some (.inl (((), ((), (u100000.1.2.2.2.1, (u100000.1.2.2.2.2.2.2.2.2.1, ())))), ((u100000.2.1.1, (u100000.2.1.2.1, ())), ())))
          else
           some (.inl (((), ((), (u100000.1.2.2.2.1, (u100000.1.2.2.2.2.2.2.2.2.1, ())))), ((u100000.2.1.1, (u100000.2.1.2.1, ())), ())))
         else
          some (.inl (((), ((), (u100000.1.2.2.2.2.1, (u100000.1.2.2.2.2.2.2.2.2.1, ())))), ((u100000.2.1.1, (u100000.2.1.2.1, ())), ())))
        else
         if (u100000.1.2.2.2.2.2.2.2.2.2.1 == (18 : Int)) = true then
          (F_du (u100000.1.2.2.2.2.2.1, ())).bind fun r45 =>
          (F_du (u100000.1.2.2.2.2.2.2.1, ())).bind fun r46 =>
          if (ltI r45.1.1 r46.1.1) then
           some (.inl (((), ((), (u100000.1.2.2.2.2.1, (u100000.1.2.2.2.2.2.2.2.2.1, ())))), ((u100000.2.1.1, (u100000.2.1.2.1, ())), ())))
          else
           some (.inl (((), ((), (u100000.1.2.2.2.1, (u100000.1.2.2.2.2.2.2.2.2.1, ())))), ((u100000.2.1.1, (u100000.2.1.2.1, ())), ())))
         else
          some (.inl (((), ((), (u100000.1.2.2.2.1, (u100000.1.2.2.2.2.2.2.2.2.1, ())))), ((u100000.2.1.1, (u100000.2.1.2.1, ())), ())))
       else
        some (.inl (((), ((), (u100000.1.2.2.2.2.1, (u100000.1.2.2.2.2.2.2.2.2.1, ())))), ((u100000.2.1.1, (u100000.2.1.2.1, ())), ())))
      else
       if (u100000.1.2.2.2.2.2.2.2.2.2.1 == (17 : Int)) = true then
        if (u100000.1.2.2.2.2.2.1 != u100000.1.2.2.2.2.2.2.1) = false then
         if (u100000.1.2.2.2.2.2.2.2.2.2.1 == (18 : Int)) = true then
          (F_du (u100000.1.2.2.2.2.2.1, ())).bind fun r47 =>
          (F_du (u100000.1.2.2.2.2.2.2.1, ())).bind fun r48 =>
          if (ltI r47.1.1 r48.1.1) then
           some (.inl (((), ((), (u100000.1.2.2.2.2.1, (u100000.1.2.2.2.2.2.2.2.2.1, ())))), ((u100000.2.1.1, (u100000.2.1.2.1, ())), ())))
          else
           some (.inl (((), ((), (u100000.1.2.2.2.1, (u100000.1.2.2.2.2.2.2.2.2.1, ())))), ((u100000.2.1.1, (u100000.2.1.2.1, ())), ())))
         else
          some (.inl (((), ((), (u100000.1.2.2.2.1, (u100000.1.2.2.2.2.2.2.2.2.1, ())))), ((u100000.2.1.1, (u100000.2.1.2.1, ())), ())))
        else
         some (.inl (((), ((), (u100000.1.2.2.2.2.1, (u100000.1.2.2.2.2.2.2.2.2.1, ())))), ((u100000.2.1.1, (u100000.2.1.2.1, ())), ())))
       else
        if (u100000.1.2.2.2.2.2.2.2.2.2.1 == (18 : Int)) = true then
         (F_du (u100000.1.2.2.2.2.2.1, ())).bind fun r49 =>
         (F_du (u100000.1.2.2.2.2.2.2.1, ())).bind fun r50 =>
         if (ltI r49.1.1 r50.1.1) then
          some (.inl (((), ((), (u100000.1.2.2.2.2.1, (u100000.1.2.2.2.2.2.2.2.2.1, ())))), ((u100000.2.1.1, (u100000.2.1.2.1, ())), ())))
         else
          some (.inl (((), ((), (u100000.1.2.2.2.1, (u100000.1.2.2.2.2.2.2.2.2.1, ())))), ((u100000.2.1.1, (u100000.2.1.2.1, ())), ())))
        else
         some (.inl (((), ((), (u100000.1.2.2.2.1, (u100000.1.2.2.2.2.2.2.2.2.1, ())))), ((u100000.2.1.1, (u100000.2.1.2.1, ())), ())))
     else
      if (u100000.1.2.2.2.2.2.2.2.2.2.2.1 == (17 : Int)) then
       if (u100000.1.2.2.2.2.2.2.2.2.2.1 == (16 : Int)) = true then
        if (u100000.1.2.2.2.2.2.1 == u100000.1.2.2.2.2.2.2.1) = false then
         if (u100000.1.2.2.2.2.2.2.2.2.2.1 == (17 : Int)) = true then
          if (u100000.1.2.2.2.2.2.1 != u100000.1.2.2.2.2.2.2.1) = false then
           if (u100000.1.2.2.2.2.2.2.2.2.2.1 == (18 : Int)) = true then
            (F_du (u100000.1.2.2.2.2.2.1, ())).bind fun r51 =>
            (F_du (u100000.1.2.2.2.2.2.2.1, ())).bind fun r52 =>
            if (ltI r51.1.1 r52.1.1) then
             some (.inl (((), ((), (u100000.1.2.2.2.2.1, (u100000.1.2.2.2.2.2.2.2.2.1, ())))), ((u100000.2.1.1, (u100000.2.1.2.1, ())), ())))
            else
             some (.inl (((), ((), (u100000.1.2.2.2.1, (u100000.1.2.2.2.2.2.2.2.2.1, ())))), ((u100000.2.1.1, (u100000.2.1.2.1, ())), ())))
           else
            some (.inl (((), ((), (u100000.1.2.2.2.1, (u100000.1.2.2.2.2.2.2.2.2.1, ())))), ((u100000.2.1.1, (u100000.2.1.2.1, ())), ())))
          else
           some (.inl (((), ((), (u100000.1.2.2.2.2.1, (u100000.1.2.2.2.2.2.2.2.2.1, ())))), ((u100000.2.1.1, (u100000.2.1.2.1, ())), ())))
         else
          if (u100000.1.2.2.2.2.2.2.2.2.2.1 == (18 : Int)) = true then
           (F_du (u100000.1.2.2.2.2.2.1, ())).bind fun r53 =>
           (F_du (u100000.1.2.2.2.2.2.2.1, ())).bind fun r54 =>
           if (ltI r53.1.1 r54.1.1) then
            some (.inl (((), ((), (u100000.1.2.2.2.2.1, (u100000.1.2.2.2.2.2.2.2.2.1, ())))), ((u100000.2.1.1, (u100000.2.1.2.1, ())), ())))
           else
            some (.inl (((), ((), (u100000.1.2.2.2.1, (u100000.1.2.2.2.2.2.2.2.2.1, ())))), ((u100000.2.1.1, (u100000.2.1.2.1, ())), ())))
          else
           some (.inl (((), ((), (u100000.1.2.2.2.1, (u100000.1.2.2.2.2.2.2.2.2.1, ())))), ((u100000.2.1.1, (u100000.2.1.2.1, ())), ())))
        else
         some (.inl (((), ((), (u100000.1.2.2.2.2.1, (u100000.1.2.2.2.2.2.2.2.2.1, ())))), ((u100000.2.1.1, (u100000.2.1.2.1, ())), ())))
       else
        if (u100000.1.2.2.2.2.2.2.2.2.2.1 == (17 : Int)) = true then
         if (u100000.1.2.2.2.2.2.1 != u100000.1.2.2.2.2.2.2.1) = false then
          if (u100000.1.2.2.2.2.2.2.2.2.2.1 == (18 : Int)) = true then
           (F_du (u100000.1.2.2.2.2.2.1, ())).bind fun r55 =>
           (F_du (u100000.1.2.2.2.2.2.2.1, ())).bind fun r56 =>
           if (ltI r55.1.1 r56.1.1) then
            some (.inl (((), ((), (u100000.1.2.2.2.2.1, (u100000.1.2.2.2.2.2.2.2.2.1, ())))), ((u100000.2.1.1, (u100000.2.1.2.1, ())), ())))
           else
            some (.inl (((), ((), (u100000.1.2.2.2.1, (u100000.1.2.2.2.2.2.2.2.2.1, ())))), ((u100000.2.1.1, (u100000.2.1.2.1, ())), ())))
          else
           some (.inl (((), ((), (u100000.1.2.2.2.1, (u100000.1.2.2.2.2.2.2.2.2.1, ())))), ((u100000.2.1.1, (u100000.2.1.2.1, ())), ())))
         else
          some (.inl (((), ((), (u100000.1.2.2.2.2.1, (u100000.1.2.2.2.2.2.2.2.2.1, ())))), ((u100000.2.1.1, (u100000.2.1.2.1, ())), ())))
        else
         if (u100000.1.2.2.2.2.2.2.2.2.2.1 == (18 : Int)) = true then
          (F_du (u100000.1.2.2.2.2.2.1, ())).bind fun r57 =>
          (F_du (u100000.1.2.2.2.2.2.2.1, ())).bind fun r58 =>
          if (ltI r57.1.1 r58.1.1) then
           some (.inl (((), ((), (u100000.1.2.2.2.2.1, (u100000.1.2.2.2.2.2.2.2.2.1, ())))), ((u100000.2.1.1, (u100000.2.1.2.1, ())), ())))
          else
           some (.inl (((), ((), (u100000.1.2.2.2.1, (u100000.1.2.2.2.2.2.2.2.2.1, ())))), ((u100000.2.1.1, (u100000.2.1.2.1, ())), ())))
         else
          some (.inl (((), ((), (u100000.1.2.2.2.1, (u100000.1.2.2.2.2.2.2.2.2.1, ())))), ((u100000.2.1.1, (u100000.2.1.2.1, ())), ())))
      else
       if (u100000.1.2.2.2.2.2.2.2.2.2.2.1 == (18 : Int)) then
        if (u100000.1.2.2.2.2.2.2.2.2.2.1 == (16 : Int)) = true then
         if (u100000.1.2.2.2.2.2.1 == u100000.1.2.2.2.2.2.2.1) = false then
          if (u100000.1.2.2.2.2.2.2.2.2.2.1 == (17 : Int)) = true then
           if (u100000.1.2.2.2.2.2.1 != u100000.1.2.2.2.2.2.2.1) = false then
            if (u100000.1.2.2.2.2.2.2.2.2.2.1 == (18 : Int)) = true then
             (F_du (u100000.1.2.2.2.2.2.1, ())).bind fun r59 =>
             (F_du (u100000.1.2.2.2.2.2.2.1, ())).bind fun r60 =>
             if (ltI r59.1.1 r60.1.1) then
              some (.inl (((), ((), (u100000.1.2.2.2.2.1, (u100000.1.2.2.2.2.2.2.2.2.1, ())))), ((u100000.2.1.1, (u100000.2.1.2.1, ())), ())))
             else
              some (.inl (((), ((), (u100000.1.2.2.2.1, (u100000.1.2.2.2.2.2.2.2.2.1, ())))), ((u100000.2.1.1, (u100000.2.1.2.1, ())), ())))
            else
             some (.inl (((), ((), (u100000.1.2.2.2.1, (u100000.1.2.2.2.2.2.2.2.2.1, ())))), ((u100000.2.1.1, (u100000.2.1.2.1, ())), ())))
           else
            some (.inl (((), ((), (u100000.1.2.2.2.2.1, (u100000.1.2.2.2.2.2.2.2.2.1, ())))), ((u100000.2.1.1, (u100000.2.1.2.1, ())), ())))
          else
           if (u100000.1.2.2.2.2.2.2.2.2.2.1 == (18 : Int)) = true then
            (F_du (u100000.1.2.2.2.2.2.1, ())).bind fun r61 =>
            (F_du (u100000.1.2.2.2.2.2.2.1, ())).bind fun r62 =>
            if (ltI r61.1.1 r62.1.1) then
             some (.inl (((), ((), (u100000.1.2.2.2.2.1, (u100000.1.2.2.2.2.2.2.2.2.1, ())))), ((u100000.2.1.1, (u100000.2.1.2.1, ())), ())))
            else
             some (.inl (((), ((), (u100000.1.2.2.2.1, (u100000.1.2.2.2.2.2.2.2.2.1, ())))), ((u100000.2.1.1, (u100000.2.1.2.1, ())), ())))
           else
            some (.inl (((), ((), (u100000.1.2.2.2.1, (u100000.1.2.2.2.2.2.2.2.2.1, ())))), ((u100000.2.1.1, (u100000.2.1.2.1, ())), ())))
         else
          some (.inl (((), ((), (u100000.1.2.2.2.2.1, (u100000.1.2.2.2.2.2.2.2.2.1, ())))), ((u100000.2.1.1, (u100000.2.1.2.1, ())), ())))
        else
         if (u100000.1.2.2.2.2.2.2.2.2.2.1 == (17 : Int)) = true then
          if (u100000.1.2.2.2.2.2.1 != u100000.1.2.2.2.2.2.2.1) = false then
           if (u100000.1.2.2.2.2.2.2.2.2.2.1 == (18 : Int)) = true then
            (F_du (u100000.1.2.2.2.2.2.1, ())).bind fun r63 =>
            (F_du (u100000.1.2.2.2.2.2.2.1, ())).bind fun r64 =>
            if (ltI r63.1.1 r64.1.1) then
             some (.inl (((), ((), (u100000.1.2.2.2.2.1, (u100000.1.2.2.2.2.2.2.2.2.1, ())))), ((u100000.2.1.1, (u100000.2.1.2.1, ())), ())))
            else
             some (.inl (((), ((), (u100000.1.2.2.2.1, (u100000.1.2.2.2.2.2.2.2.2.1, ())))), ((u100000.2.1.1, (u100000.2.1.2.1, ())), ())))
           else
            some (.inl (((), ((), (u100000.1.2.2.2.1, (u100000.1.2.2.2.2.2.2.2.2.1, ())))), ((u100000.2.1.1, (u100000.2.1.2.1, ())), ())))
          else
           some (.inl (((), ((), (u100000.1.2.2.2.2.1, (u100000.1.2.2.2.2.2.2.2.2.1, ())))), ((u100000.2.1.1, (u100000.2.1.2.1, ())), ())))
         else
          if (u100000.1.2.2.2.2.2.2.2.2.2.1 == (18 : Int)) = true then
           (F_du (u100000.1.2.2.2.2.2.1, ())).bind fun r65 =>
           (F_du (u100000.1.2.2.2.2.2.2.1, ())).bind fun r66 =>
           if (ltI r65.1.1 r66.1.1) then
            some (.inl (((), ((), (u100000.1.2.2.2.2.1, (u100000.1.2.2.2.2.2.2.2.2.1, ())))), ((u100000.2.1.1, (u100000.2.1.2.1, ())), ())))
           else
            some (.inl (((), ((), (u100000.1.2.2.2.1, (u100000.1.2.2.2.2.2.2.2.2.1, ())))), ((u100000.2.1.1, (u100000.2.1.2.1, ())), ())))
          else
           some (.inl (((), ((), (u100000.1.2.2.2.1, (u100000.1.2.2.2.2.2.2.2.2.1, ())))), ((u100000.2.1.1, (u100000.2.1.2.1, ())), ())))
       else
        if (u100000.1.2.2.2.2.2.2.2.2.2.2.1 == (19 : Int)) then
         some (.inl (((), ((), (u100000.1.2.2.2.2.1, (u100000.1.2.2.2.1, ())))), ((u100000.2.1.1, (u100000.2.1.2.1, ())), ())))
        else
         if (u100000.1.2.2.2.2.2.2.2.2.2.2.1 == (20 : Int)) then
          some (.inl (((), ((), (u100000.1.2.2.2.2.2.2.2.1, (u100000.1.2.2.2.1, ())))), ((u100000.2.1.1, (u100000.2.1.2.1, ())), ())))
         else
          if (u100000.1.2.2.2.2.2.2.2.2.2.2.1 == (21 : Int)) then
           (F_dv ((u100000.2.1.2.1.1, (u100000.2.1.2.1.2.1, (u100000.2.1.2.1.2.2.1, (u100000.2.1.2.1.2.2.2.1, (u100000.2.1.2.1.2.2.2.2.1, (u100000.2.1.2.1.2.2.2.2.2.1, (u100000.2.1.2.1.2.2.2.2.2.2.1, (u100000.2.1.2.1.2.2.2.2.2.2.2.1, (u100000.2.1.2.1.2.2.2.2.2.2.2.2.1, ()))))))))), u100000.2.1.1.2.2.2.1, ())).bind fun r67 =>
           some (.inl (((), ((), (u100000.1.2.2.2.1, (r67.1.1, ())))), ((u100000.2.1.1, (u100000.2.1.2.1, ())), ())))
          else
           if (u100000.1.2.2.2.2.2.2.2.2.2.2.1 == (22 : Int)) then
            (F_dr ((u100000.2.1.2.1.1, (u100000.2.1.2.1.2.1, (u100000.2.1.2.1.2.2.1, (u100000.2.1.2.1.2.2.2.1, (u100000.2.1.2.1.2.2.2.2.1, (u100000.2.1.2.1.2.2.2.2.2.1, (u100000.2.1.2.1.2.2.2.2.2.2.1, (u100000.2.1.2.1.2.2.2.2.2.2.2.1, (u100000.2.1.2.1.2.2.2.2.2.2.2.2.1, ()))))))))), u100000.2.1.1.2.2.2.1, u100000.1.2.2.2.2.2.2.1, ())).bind fun r68 =>
            some (.inl (((), ((), (u100000.1.2.2.2.1, (u100000.1.2.2.2.2.2.2.2.2.1, ())))), ((u100000.2.1.1, ((r68.2.1.1, (r68.2.1.2.1, (r68.2.1.2.2.1, (r68.2.1.2.2.2.1, (r68.2.1.2.2.2.2.1, (r68.2.1.2.2.2.2.2.1, (r68.2.1.2.2.2.2.2.2.1, (r68.2.1.2.2.2.2.2.2.2.1, (r68.2.1.2.2.2.2.2.2.2.2.1, (u100000.2.1.2.1.2.2.2.2.2.2.2.2.2.1, (u100000.2.1.2.1.2.2.2.2.2.2.2.2.2.2.1, (u100000.2.1.2.1.2.2.2.2.2.2.2.2.2.2.2.1, (u100000.2.1.2.1.2.2.2.2.2.2.2.2.2.2.2.2.1, ()))))))))))))), ())), ())))
           else
            if (u100000.1.2.2.2.2.2.2.2.2.2.2.1 == (23 : Int)) then
             (F_dd (u100000.2.1.2.1, (5 : Int), (0 : Int), ())).bind fun r69 =>
             some (.inr (.inl ((false, ()), ((r69.2.1, ()), ()))))
            else
             if (u100000.1.2.2.2.2.2.2.2.2.2.2.1 == (24 : Int)) then
              (F_dw ((u100000.2.1.2.1.1, (u100000.2.1.2.1.2.1, (u100000.2.1.2.1.2.2.1, (u100000.2.1.2.1.2.2.2.1, (u100000.2.1.2.1.2.2.2.2.1, (u100000.2.1.2.1.2.2.2.2.2.1, (u100000.2.1.2.1.2.2.2.2.2.2.1, (u100000.2.1.2.1.2.2.2.2.2.2.2.1, (u100000.2.1.2.1.2.2.2.2.2.2.2.2.1, ()))))))))), ())).bind fun r70 =>
              some (.inl (((), ((), (r70.2.1.2.1, (u100000.1.2.2.2.2.2.2.2.2.1, ())))), ((u100000.2.1.1, ((r70.2.1.1, (r70.2.1.2.1, (r70.2.1.2.2.1, (r70.2.1.2.2.2.1, (r70.2.1.2.2.2.2.1, (r70.2.1.2.2.2.2.2.1, (r70.2.1.2.2.2.2.2.2.1, (r70.2.1.2.2.2.2.2.2.2.1, (r70.2.1.2.2.2.2.2.2.2.2.1, (u100000.2.1.2.1.2.2.2.2.2.2.2.2.2.1, (u100000.2.1.2.1.2.2.2.2.2.2.2.2.2.2.1, (u100000.2.1.2.1.2.2.2.2.2.2.2.2.2.2.2.1, (u100000.2.1.2.1.2.2.2.2.2.2.2.2.2.2.2.2.1, ()))))))))))))), ())), ())))
             else
              if (u100000.1.2.2.2.2.2.2.2.2.2.2.1 == (25 : Int)) then
               some (.inl (((), ((), (u100000.1.2.2.2.1, (u100000.1.2.2.2.2.2.2.2.2.1, ())))), ((u100000.2.1.1, ((u100000.2.1.2.1.1, (u100000.2.1.2.1.2.1, (u100000.2.1.2.1.2.2.1, (u100000.2.1.2.1.2.2.2.1, (true, (u100000.2.1.2.1.2.2.2.2.2.1, (u100000.2.1.2.1.2.2.2.2.2.2.1, (u100000.2.1.2.1.2.2.2.2.2.2.2.1, (u100000.2.1.2.1.2.2.2.2.2.2.2.2.1, (u100000.2.1.2.1.2.2.2.2.2.2.2.2.2.1, (u100000.2.1.2.1.2.2.2.2.2.2.2.2.2.2.1, (u100000.2.1.2.1.2.2.2.2.2.2.2.2.2.2.2.1, (u100000.2.1.2.1.2.2.2.2.2.2.2.2.2.2.2.2.1, ()))))))))))))), ())), ())))
              else
               if (u100000.1.2.2.2.2.2.2.2.2.2.2.1 == (26 : Int)) then
                some (.inl (((), ((), (u100000.1.2.2.1, (u100000.1.2.2.2.2.2.2.2.2.1, ())))), ((u100000.2.1.1, ((u100000.2.1.2.1.1, (u100000.2.1.2.1.2.1, (u100000.2.1.2.1.2.2.1, (true, (u100000.2.1.2.1.2.2.2.2.1, (u100000.2.1.2.1.2.2.2.2.2.1, (u100000.2.1.2.1.2.2.2.2.2.2.1, (u100000.2.1.2.1.2.2.2.2.2.2.2.1, (u100000.2.1.2.1.2.2.2.2.2.2.2.2.1, (u100000.2.1.2.1.2.2.2.2.2.2.2.2.2.1, (u100000.2.1.2.1.2.2.2.2.2.2.2.2.2.2.1, (u100000.2.1.2.1.2.2.2.2.2.2.2.2.2.2.2.1, (u100000.2.1.2.1.2.2.2.2.2.2.2.2.2.2.2.2.1, ()))))))))))))), ())), ())))
               else
                if 0 ≤ u100000.2.1.1.2.2.2.1 ∧ u100000.2.1.1.2.2.2.1 < ((u100000.2.1.2.1.1.length : Nat) : Int) then
                 ((u100000.2.1.2.1.1)[(u100000.2.1.1.2.2.2.1).toNat]?).bind fun y71 =>
                 (F_ec (u100000.1.2.2.2.2.2.2.2.2.2.1, u100000.1.2.2.2.2.2.2.1, y71, ())).bind fun r72 =>
                 some (.inl (((), ((), (u100000.1.2.2.2.1, (r72.1.1.2.1, ())))), ((u100000.2.1.1, (u100000.2.1.2.1, ())), ())))
                else none
def F_ee (x : denP P_ee) : FO P_ee R_a :=
 (F_dn (x.1.2.1, (1 : Int), ())).bind fun r1 =>
 (F_do (x.2.1.2.2.2.1, ())).bind fun r2 =>
 (F_dn (x.1.2.1, r2.1.1, ())).bind fun r3 =>
 if 0 ≤ x.2.1.2.1 ∧ x.2.1.2.1 < ((x.1.1.length : Nat) : Int) then
  ((x.1.1)[(x.2.1.2.1).toNat]?).bind fun y4 =>
  if 0 ≤ x.2.1.2.2.1 ∧ x.2.1.2.2.1 < ((x.1.1.length : Nat) : Int) then
   ((x.1.1)[(x.2.1.2.2.1).toNat]?).bind fun y5 =>
   (F_do (x.2.1.2.2.2.1, ())).bind fun r6 =>
   (F_dn (y5, r6.1.1, ())).bind fun r7 =>
   (L_ee_100000 (((), ((), (x.1.2.1, (r1.1.1, (r3.1.1, (y4, (y5, (r7.1.1, ((0 : Int), (x.2.1.1, (x.2.1.1, ()))))))))))), (((x.2.1.1, (x.2.1.2.1, (x.2.1.2.2.1, (x.2.1.2.2.2.1, ())))), (x.1, ())), ()))).bind fun z73 =>
   match z73 with
   | .inl x74 =>
    (F_ed (x74.2.1.1.1, ())).bind fun r75 =>
    if r75.1.1 = true then
     if (ltI (0 : Int) x74.2.1.1.2.1) then
      if 0 ≤ x74.2.1.1.2.1 ∧ x74.2.1.1.2.1 < ((x74.2.1.2.1.1.length : Nat) : Int) then
       ((x74.2.1.2.1.1)[(x74.2.1.1.2.1).toNat]?).bind fun y76 =>
       let v77 := (x74.2.1.2.1.1.set (x74.2.1.1.2.1).toNat x74.1.2.2.2.1)
       let v78 := (IntKind.i64.wrap (x74.2.1.2.1.2.2.2.2.2.2.1 + (1 : Int)))
       let v79 := (if (1000000000 : Int) < v78 then (1000000000 : Int) else v78)
       some ((true, ()), ((v77, (x74.1.2.2.1, (x74.2.1.2.1.2.2.1, (x74.2.1.2.1.2.2.2.1, (x74.2.1.2.1.2.2.2.2.1, (x74.2.1.2.1.2.2.2.2.2.1, (v79, (x74.2.1.2.1.2.2.2.2.2.2.2.1, (x74.2.1.2.1.2.2.2.2.2.2.2.2.1, (x74.2.1.2.1.2.2.2.2.2.2.2.2.2.1, (x74.2.1.2.1.2.2.2.2.2.2.2.2.2.2.1, (x74.2.1.2.1.2.2.2.2.2.2.2.2.2.2.2.1, (x74.2.1.2.1.2.2.2.2.2.2.2.2.2.2.2.2.1, ()))))))))))))), ()))
      else none
     else
      let v80 := (IntKind.i64.wrap (x74.2.1.2.1.2.2.2.2.2.2.1 + (1 : Int)))
      let v81 := (if (1000000000 : Int) < v80 then (1000000000 : Int) else v80)
      some ((true, ()), ((x74.2.1.2.1.1, (x74.1.2.2.1, (x74.2.1.2.1.2.2.1, (x74.2.1.2.1.2.2.2.1, (x74.2.1.2.1.2.2.2.2.1, (x74.2.1.2.1.2.2.2.2.2.1, (v81, (x74.2.1.2.1.2.2.2.2.2.2.2.1, (x74.2.1.2.1.2.2.2.2.2.2.2.2.1, (x74.2.1.2.1.2.2.2.2.2.2.2.2.2.1, (x74.2.1.2.1.2.2.2.2.2.2.2.2.2.2.1, (x74.2.1.2.1.2.2.2.2.2.2.2.2.2.2.2.1, (x74.2.1.2.1.2.2.2.2.2.2.2.2.2.2.2.2.1, ()))))))))))))), ()))
    else
     let v82 := (IntKind.i64.wrap (x74.2.1.2.1.2.2.2.2.2.2.1 + (1 : Int)))
     let v83 := (if (1000000000 : Int) < v82 then (1000000000 : Int) else v82)
     some ((true, ()), ((x74.2.1.2.1.1, (x74.1.2.2.1, (x74.2.1.2.1.2.2.1, (x74.2.1.2.1.2.2.2.1, (x74.2.1.2.1.2.2.2.2.1, (x74.2.1.2.1.2.2.2.2.2.1, (v83, (x74.2.1.2.1.2.2.2.2.2.2.2.1, (x74.2.1.2.1.2.2.2.2.2.2.2.2.1, (x74.2.1.2.1.2.2.2.2.2.2.2.2.2.1, (x74.2.1.2.1.2.2.2.2.2.2.2.2.2.2.1, (x74.2.1.2.1.2.2.2.2.2.2.2.2.2.2.2.1, (x74.2.1.2.1.2.2.2.2.2.2.2.2.2.2.2.2.1, ()))))))))))))), ()))
   | .inr z73_ =>
    match z73_ with
    | .inl x84 =>
     some ((x84.1.1, ()), (x84.2.1.1, ()))
    | .inr z73__ =>
     none
  else none
 else none
abbrev C_ee : Con := ⟨P_ee, R_a, F_ee, false⟩
abbrev G_ee : Env := [(118, C_dd), (149, C_dn), (150, C_do), (151, C_dq), (152, C_dt), (153, C_du), (154, C_dv), (155, C_dr), (156, C_dw), (157, C_ec), (158, C_ed)]
theorem g_ee : Qh Tryz.prog G_ee := (Qa s_dd (Qa s_dn (Qa s_do (Qa s_dq (Qa s_dt (Qa s_du (Qa s_dv (Qa s_dr (Qa s_dw (Qa s_ec (Qa s_ed Qd)))))))))))
abbrev c_ee_100000 : Cut := ⟨i_ee_100000, o_ee_100000, L_ee_100000⟩
theorem t_ee_100000 (x) : run T G_ee [] (nav Tryz.f122 [1, 1, 1, 1, 1, 1, 0, 1, 1, 0]) (mk 214 i_ee_100000 x) (QnH 0 o_ee_100000) = L_ee_100000 x := by kernel_rfl
theorem k_ee_100000 : Qz Tryz.prog 214 (.block 0 (nav Tryz.f122 [1, 1, 1, 1, 1, 1, 0, 1, 1, 0])) c_ee_100000 :=
  QpQ (L := []) hT g_ee t_ee_100000 okP
theorem r_ee (x) : QL T G_ee [(100000, c_ee_100000)] Tryz.f122 C_ee.ps C_ee.rs x = C_ee.F x := by kernel_rfl
theorem s_ee : Qb Tryz.prog 122 C_ee := fnC (L := [(100000, c_ee_100000)]) hT g_ee Tryz.f122 (okS okP (okS okP (okS okP (okS okP (okS okP (okS okP (okS (okS okP (okS okP (okX k_ee_100000))) okP))))))) r_ee
abbrev P_ef : List PK := [.box [.own 2 YI, .dat YI, .own 2 YI, .dat .bool, .dat .bool, .dat .bool, .dat YI, .own 2 YI, .own 2 YI, .dat Y26, .own 2 YI, .dat YI, .dat YI] [.own 2 YI, .dat YI, .own 2 YI, .dat .bool, .dat .bool, .dat .bool, .dat YI, .own 2 YI, .own 2 YI, .dat Y26, .own 2 YI, .dat YI, .dat YI]]
def F_ef (x : denP P_ef) : FO P_ef R_br :=
 if x.1.2.2.2.1 then
  some ((), ((x.1.1, (x.1.2.1, (x.1.2.2.1, (x.1.2.2.2.1, (x.1.2.2.2.2.1, (x.1.2.2.2.2.2.1, (x.1.2.2.2.2.2.2.1, (x.1.2.2.2.2.2.2.2.1, (x.1.2.2.2.2.2.2.2.2.1, (x.1.2.2.2.2.2.2.2.2.2.1, (x.1.2.2.2.2.2.2.2.2.2.2.1, ((-1 : Int), ((-1 : Int), ()))))))))))))), ()))
 else
  (F_db ((x.1.1, (x.1.2.1, (x.1.2.2.1, (x.1.2.2.2.1, (x.1.2.2.2.2.1, (x.1.2.2.2.2.2.1, (x.1.2.2.2.2.2.2.1, (x.1.2.2.2.2.2.2.2.1, (x.1.2.2.2.2.2.2.2.2.1, ()))))))))), ())).bind fun r1 =>
  if (leI (0 : Int) r1.1.1) then
   let v2 := (IntKind.i64.wrap ((16 : Int) + r1.1.1))
   (F_dd ((x.1.1, (x.1.2.1, (x.1.2.2.1, (x.1.2.2.2.1, (x.1.2.2.2.2.1, (x.1.2.2.2.2.2.1, (x.1.2.2.2.2.2.2.1, (x.1.2.2.2.2.2.2.2.1, (x.1.2.2.2.2.2.2.2.2.1, (x.1.2.2.2.2.2.2.2.2.2.1, (x.1.2.2.2.2.2.2.2.2.2.2.1, ((-1 : Int), ((-1 : Int), ()))))))))))))), v2, (0 : Int), ())).bind fun r3 =>
   some ((), (r3.2.1, ()))
  else
   if x.1.2.2.2.2.1 then
    (F_cz ((x.1.1, (x.1.2.1, (x.1.2.2.1, (x.1.2.2.2.1, (x.1.2.2.2.2.1, (x.1.2.2.2.2.2.1, (x.1.2.2.2.2.2.2.1, (x.1.2.2.2.2.2.2.2.1, (x.1.2.2.2.2.2.2.2.2.1, ()))))))))), ())).bind fun r4 =>
    if 0 ≤ (7 : Int) ∧ (7 : Int) < ((x.1.2.2.1.length : Nat) : Int) then
     ((x.1.2.2.1)[((7 : Int)).toNat]?).bind fun y5 =>
     let v6 := (iand .i64 r4.1.1 y5)
     if (v6 == (0 : Int)) then
      some ((), ((x.1.1, (x.1.2.1, (x.1.2.2.1, (x.1.2.2.2.1, (x.1.2.2.2.2.1, (x.1.2.2.2.2.2.1, (x.1.2.2.2.2.2.2.1, (x.1.2.2.2.2.2.2.2.1, (x.1.2.2.2.2.2.2.2.2.1, (x.1.2.2.2.2.2.2.2.2.2.1, (x.1.2.2.2.2.2.2.2.2.2.2.1, ((-1 : Int), ((-1 : Int), ()))))))))))))), ()))
     else
      (F_dk ((x.1.1, (x.1.2.1, (x.1.2.2.1, (x.1.2.2.2.1, (false, (x.1.2.2.2.2.2.1, (x.1.2.2.2.2.2.2.1, (x.1.2.2.2.2.2.2.2.1, (x.1.2.2.2.2.2.2.2.2.1, ()))))))))), x.1.2.2.2.2.2.2.2.2.2.1, x.1.2.2.2.2.2.2.2.2.2.2.1, x.1.2.1, (4 : Int), ())).bind fun r7 =>
      if (r7.1.1.1 != (0 : Int)) then
       (F_dd ((x.1.1, (x.1.2.1, (x.1.2.2.1, (x.1.2.2.2.1, (false, (x.1.2.2.2.2.2.1, (x.1.2.2.2.2.2.2.1, (x.1.2.2.2.2.2.2.2.1, (x.1.2.2.2.2.2.2.2.2.1, (x.1.2.2.2.2.2.2.2.2.2.1, (x.1.2.2.2.2.2.2.2.2.2.2.1, ((-1 : Int), ((-1 : Int), ()))))))))))))), (2 : Int), x.1.2.1, ())).bind fun r8 =>
       some ((), (r8.2.1, ()))
      else
       if 0 ≤ r7.1.1.2.1 ∧ r7.1.1.2.1 < ((x.1.2.2.2.2.2.2.2.2.2.2.1.length : Nat) : Int) then
        ((x.1.2.2.2.2.2.2.2.2.2.2.1)[(r7.1.1.2.1).toNat]?).bind fun y9 =>
        (F_dm (y9, ())).bind fun r10 =>
        if (r10.1.1.1 != (0 : Int)) then
         if 0 ≤ r7.1.1.2.1 ∧ r7.1.1.2.1 < ((x.1.2.2.2.2.2.2.2.2.2.2.1.length : Nat) : Int) then
          ((x.1.2.2.2.2.2.2.2.2.2.2.1)[(r7.1.1.2.1).toNat]?).bind fun y11 =>
          (F_dd ((x.1.1, (x.1.2.1, (x.1.2.2.1, (x.1.2.2.2.1, (false, (x.1.2.2.2.2.2.1, (x.1.2.2.2.2.2.2.1, (x.1.2.2.2.2.2.2.2.1, (x.1.2.2.2.2.2.2.2.2.1, (x.1.2.2.2.2.2.2.2.2.2.1, (x.1.2.2.2.2.2.2.2.2.2.2.1, ((-1 : Int), ((-1 : Int), ()))))))))))))), (1 : Int), y11, ())).bind fun r12 =>
          some ((), (r12.2.1, ()))
         else none
        else
         (F_ee ((x.1.1, (x.1.2.1, (x.1.2.2.1, (x.1.2.2.2.1, (false, (x.1.2.2.2.2.2.1, (x.1.2.2.2.2.2.2.1, (x.1.2.2.2.2.2.2.2.1, (x.1.2.2.2.2.2.2.2.2.1, (x.1.2.2.2.2.2.2.2.2.2.1, (x.1.2.2.2.2.2.2.2.2.2.2.1, ((-1 : Int), ((-1 : Int), ()))))))))))))), r10.1.1.2.1, ())).bind fun r13 =>
         some ((), (r13.2.1, ()))
       else none
    else none
   else
    (F_dk ((x.1.1, (x.1.2.1, (x.1.2.2.1, (x.1.2.2.2.1, (x.1.2.2.2.2.1, (x.1.2.2.2.2.2.1, (x.1.2.2.2.2.2.2.1, (x.1.2.2.2.2.2.2.2.1, (x.1.2.2.2.2.2.2.2.2.1, ()))))))))), x.1.2.2.2.2.2.2.2.2.2.1, x.1.2.2.2.2.2.2.2.2.2.2.1, x.1.2.1, (4 : Int), ())).bind fun r14 =>
    if (r14.1.1.1 != (0 : Int)) then
     (F_dd ((x.1.1, (x.1.2.1, (x.1.2.2.1, (x.1.2.2.2.1, (x.1.2.2.2.2.1, (x.1.2.2.2.2.2.1, (x.1.2.2.2.2.2.2.1, (x.1.2.2.2.2.2.2.2.1, (x.1.2.2.2.2.2.2.2.2.1, (x.1.2.2.2.2.2.2.2.2.2.1, (x.1.2.2.2.2.2.2.2.2.2.2.1, ((-1 : Int), ((-1 : Int), ()))))))))))))), (2 : Int), x.1.2.1, ())).bind fun r15 =>
     some ((), (r15.2.1, ()))
    else
     if 0 ≤ r14.1.1.2.1 ∧ r14.1.1.2.1 < ((x.1.2.2.2.2.2.2.2.2.2.2.1.length : Nat) : Int) then
      ((x.1.2.2.2.2.2.2.2.2.2.2.1)[(r14.1.1.2.1).toNat]?).bind fun y16 =>
      (F_dm (y16, ())).bind fun r17 =>
      if (r17.1.1.1 != (0 : Int)) then
       if 0 ≤ r14.1.1.2.1 ∧ r14.1.1.2.1 < ((x.1.2.2.2.2.2.2.2.2.2.2.1.length : Nat) : Int) then
        ((x.1.2.2.2.2.2.2.2.2.2.2.1)[(r14.1.1.2.1).toNat]?).bind fun y18 =>
        (F_dd ((x.1.1, (x.1.2.1, (x.1.2.2.1, (x.1.2.2.2.1, (x.1.2.2.2.2.1, (x.1.2.2.2.2.2.1, (x.1.2.2.2.2.2.2.1, (x.1.2.2.2.2.2.2.2.1, (x.1.2.2.2.2.2.2.2.2.1, (x.1.2.2.2.2.2.2.2.2.2.1, (x.1.2.2.2.2.2.2.2.2.2.2.1, ((-1 : Int), ((-1 : Int), ()))))))))))))), (1 : Int), y18, ())).bind fun r19 =>
        some ((), (r19.2.1, ()))
       else none
      else
       (F_ee ((x.1.1, (x.1.2.1, (x.1.2.2.1, (x.1.2.2.2.1, (x.1.2.2.2.2.1, (x.1.2.2.2.2.2.1, (x.1.2.2.2.2.2.2.1, (x.1.2.2.2.2.2.2.2.1, (x.1.2.2.2.2.2.2.2.2.1, (x.1.2.2.2.2.2.2.2.2.2.1, (x.1.2.2.2.2.2.2.2.2.2.2.1, ((-1 : Int), ((-1 : Int), ()))))))))))))), r17.1.1.2.1, ())).bind fun r20 =>
       some ((), (r20.2.1, ()))
     else none
abbrev C_ef : Con := ⟨P_ef, R_br, F_ef, false⟩
abbrev G_ef : Env := [(117, C_db), (118, C_dd), (119, C_cz), (120, C_dk), (121, C_dm), (122, C_ee)]
theorem g_ef : Qh Tryz.prog G_ef := (Qa s_db (Qa s_dd (Qa s_cz (Qa s_dk (Qa s_dm (Qa s_ee Qd))))))
theorem s_ef : Qb Tryz.prog 93 C_ef := fnC (L := []) hT g_ef Tryz.f93 okP fun _ => by kernel_rfl
abbrev P_eg : List PK := [.val Y46, .val Y26, .val Y32, .val YI]
abbrev R_eg : List VK := [.g [.dat YI, .dat YI, .dat YI, .own 2 YI, .dat YI, .own 2 YI, .dat .bool, .dat .bool, .dat .bool, .dat YI, .own 2 YI, .own 2 YI, .own 2 YI]]
abbrev i_eg_4 : Shp := { slots := [(8, .s (.ptr 8 0)), (9, .s (.ptr 9 0)), (10, .s (.dat YI)), (11, .s (.dat YI)), (18, .s (.dat YI)), (19, .s (.dat YI))], boxes := [(8, [.dat YI, .dat YI, .dat YI, .own 2 YI, .dat YI, .own 2 YI, .dat .bool, .dat .bool, .dat .bool, .dat YI, .own 2 YI, .own 2 YI, .own 2 YI]), (9, [.own 2 YI, .dat YI, .own 2 YI, .dat .bool, .dat .bool, .dat .bool, .dat YI, .own 2 YI, .own 2 YI, .dat Y26, .own 2 YI, .dat YI, .dat YI])], rows := [] }
abbrev o_eg_4 : List (Ex × Shp) := [(.exit 0, { slots := [(8, .s (.ptr 8 0)), (9, .s (.ptr 9 0)), (10, .s (.dat YI)), (11, .s (.dat YI))], boxes := [(8, [.dat YI, .dat YI, .dat YI, .own 2 YI, .dat YI, .own 2 YI, .dat .bool, .dat .bool, .dat .bool, .dat YI, .own 2 YI, .own 2 YI, .own 2 YI]), (9, [.own 2 YI, .dat YI, .own 2 YI, .dat .bool, .dat .bool, .dat .bool, .dat YI, .own 2 YI, .own 2 YI, .dat Y26, .own 2 YI, .dat YI, .dat YI])], rows := [] })]
def l_eg_4 (rec : i_eg_4.den → Option (denO o_eg_4)) (u : i_eg_4.den) : Option (denO o_eg_4) :=
 if (ltI u.1.2.2.2.2.2.1 u.1.2.2.2.2.1) then
  (F_ef (u.2.1.2.1, ())).bind fun r4 =>
  if (leI (0 : Int) r4.2.1.2.2.2.2.2.2.2.2.2.2.2.1) then
   if (leI (0 : Int) r4.2.1.2.2.2.2.2.2.2.2.2.2.2.2.1) then
    let v5 := (IntKind.i64.wrap (u.1.2.2.2.2.2.1 + (1 : Int)))
    rec (((), ((), (r4.2.1.2.2.2.2.2.2.2.2.2.2.2.1, (r4.2.1.2.2.2.2.2.2.2.2.2.2.2.2.1, (u.1.2.2.2.2.1, (v5, ())))))), ((u.2.1.1, (r4.2.1, ())), ()))
   else
    let v6 := (IntKind.i64.wrap (u.1.2.2.2.2.2.1 + (1 : Int)))
    rec (((), ((), (r4.2.1.2.2.2.2.2.2.2.2.2.2.2.1, (u.1.2.2.2.1, (u.1.2.2.2.2.1, (v6, ())))))), ((u.2.1.1, (r4.2.1, ())), ()))
  else
   if (leI (0 : Int) r4.2.1.2.2.2.2.2.2.2.2.2.2.2.2.1) then
    let v7 := (IntKind.i64.wrap (u.1.2.2.2.2.2.1 + (1 : Int)))
    rec (((), ((), (u.1.2.2.1, (r4.2.1.2.2.2.2.2.2.2.2.2.2.2.2.1, (u.1.2.2.2.2.1, (v7, ())))))), ((u.2.1.1, (r4.2.1, ())), ()))
   else
    let v8 := (IntKind.i64.wrap (u.1.2.2.2.2.2.1 + (1 : Int)))
    rec (((), ((), (u.1.2.2.1, (u.1.2.2.2.1, (u.1.2.2.2.2.1, (v8, ())))))), ((u.2.1.1, (r4.2.1, ())), ()))
 else
  some (.inl (((), ((), (u.1.2.2.1, (u.1.2.2.2.1, ())))), ((u.2.1.1, (u.2.1.2.1, ())), ())))
def L_eg_4 (x : i_eg_4.den) : Option (denO o_eg_4) := Qc l_eg_4 lots x
def F_eg (x : denP P_eg) : FO P_eg R_eg :=
 (F_cl (x.1, ())).bind fun r1 =>
 (F_av (x.2.2.1, ())).bind fun r2 =>
 (L_eg_4 (((), ((), ((-1 : Int), ((-1 : Int), (x.2.2.2.1, ((0 : Int), ())))))), ((((0 : Int), ((0 : Int), ((0 : Int), (([] : List (den YI)), ((0 : Int), (([] : List (den YI)), (false, (false, (false, ((0 : Int), (([] : List (den YI)), (([] : List (den YI)), (([] : List (den YI)), ()))))))))))))), ((r1.1.1.1, (r1.1.1.2.1, (r1.1.1.2.2.1, (r1.1.1.2.2.2.1, (r1.1.1.2.2.2.2.1, (r1.1.1.2.2.2.2.2.1, (r1.1.1.2.2.2.2.2.2.1, (r1.1.1.2.2.2.2.2.2.2.1, (r1.1.1.2.2.2.2.2.2.2.2.1, (x.2.1, (r2.1.1, ((0 : Int), ((0 : Int), ()))))))))))))), ())), ()))).bind fun z9 =>
 match z9 with
 | .inl x10 =>
  some ((((0 : Int), (x10.1.2.2.1, (x10.1.2.2.2.1, (x10.2.1.2.1.1, (x10.2.1.2.1.2.1, (x10.2.1.2.1.2.2.1, (x10.2.1.2.1.2.2.2.1, (x10.2.1.2.1.2.2.2.2.1, (x10.2.1.2.1.2.2.2.2.2.1, (x10.2.1.2.1.2.2.2.2.2.2.1, (x10.2.1.2.1.2.2.2.2.2.2.2.1, (x10.2.1.2.1.2.2.2.2.2.2.2.2.1, (x10.2.1.2.1.2.2.2.2.2.2.2.2.2.2.1, ()))))))))))))), ()), ())
 | .inr z9_ =>
  none
abbrev C_eg : Con := ⟨P_eg, R_eg, F_eg, false⟩
abbrev G_eg : Env := [(35, C_cl), (57, C_av), (93, C_ef)]
theorem g_eg : Qh Tryz.prog G_eg := (Qa s_cl (Qa s_av (Qa s_ef Qd)))
abbrev c_eg_4 : Cut := ⟨i_eg_4, o_eg_4, fun x => Qc l_eg_4 lots x⟩
theorem k_eg_4 : Qz Tryz.prog 40 (.loop (nav Tryz.f65 [1, 1, 1, 0, 1, 0, 0])) c_eg_4 :=
  Qj (L := []) hT g_eg (fun _ _ => by kernel_rfl) okP _
theorem r_eg (x) : QL T G_eg [(4, c_eg_4)] Tryz.f65 C_eg.ps C_eg.rs x = C_eg.F x := by kernel_rfl
theorem s_eg : Qb Tryz.prog 65 C_eg := fnC (L := [(4, c_eg_4)]) hT g_eg Tryz.f65 (okS okP (okS okP (okS okP (okS (okS okP (okB (okU k_eg_4))) okP)))) r_eg
abbrev P_eh : List PK := [.box [.dat Y24, .dat Y25, .dat Y26, .dat Y26, .own 2 YI, .own 47 Y46, .dat YI, .dat YI, .dat YI] [.dat Y24, .dat Y25, .dat Y26, .dat Y26, .own 2 YI, .own 47 Y46, .dat YI, .dat YI, .dat YI]]
def F_eh (x : denP P_eh) : FO P_eh R_br :=
 (F_ct (((x.1.1, (x.1.2.1, (x.1.2.2.1, (x.1.2.2.2.1, ())))), (x.1.2.2.2.2.1, (x.1.2.2.2.2.2.1, (x.1.2.2.2.2.2.2.1, (x.1.2.2.2.2.2.2.2.1, (x.1.2.2.2.2.2.2.2.2.1, ())))))), ())).bind fun r1 =>
 if 0 ≤ r1.1.1 ∧ r1.1.1 < ((x.1.2.2.2.2.2.1.length : Nat) : Int) then
  ((x.1.2.2.2.2.2.1)[(r1.1.1).toNat]?).bind fun y2 =>
  (F_cy ((x.1.1, (x.1.2.1, (x.1.2.2.1, (x.1.2.2.2.1, ())))), r1.1.1, ())).bind fun r3 =>
  (F_eg (y2, r3.1.1, x.1.2.2.2.2.1, (1 : Int), ())).bind fun r4 =>
  if 0 ≤ r1.1.1 ∧ r1.1.1 < ((x.1.2.2.2.2.2.1.length : Nat) : Int) then
   ((x.1.2.2.2.2.2.1)[(r1.1.1).toNat]?).bind fun y5 =>
   let v6 := (x.1.2.2.2.2.2.1.set (r1.1.1).toNat (r4.1.1.2.2.2.1, (r4.1.1.2.2.2.2.1, (r4.1.1.2.2.2.2.2.1, (r4.1.1.2.2.2.2.2.2.1, (r4.1.1.2.2.2.2.2.2.2.1, (r4.1.1.2.2.2.2.2.2.2.2.1, (r4.1.1.2.2.2.2.2.2.2.2.2.1, (r4.1.1.2.2.2.2.2.2.2.2.2.2.1, (r4.1.1.2.2.2.2.2.2.2.2.2.2.2.1, ()))))))))))
   (F_ao (x.1.2.2.1, (r1.1.1, (r4.1.1.2.2.1, ())), ())).bind fun r7 =>
   if r7.1.1 then
    if 0 ≤ r4.1.1.2.2.1 ∧ r4.1.1.2.2.1 < ((v6.length : Nat) : Int) then
     ((v6)[(r4.1.1.2.2.1).toNat]?).bind fun y8 =>
     let v9 := (v6.set (r4.1.1.2.2.1).toNat (y8.1, (y8.2.1, (y8.2.2.1, (y8.2.2.2.1, (y8.2.2.2.2.1, (true, y8.2.2.2.2.2.2)))))))
     let v10 := (IntKind.i64.wrap (x.1.2.2.2.2.2.2.2.1 - (1 : Int)))
     if (v10 == (0 : Int)) then
      let v11 := (IntKind.i64.wrap (x.1.2.2.2.2.2.2.1 + (1 : Int)))
      let v12 := ((x.1.2.2.2.1.length : Nat) : Int)
      if v12 = 0 then none else
      let v13 := ((v11).tmod v12)
      if 0 ≤ v13 then
       ((x.1.2.2.2.1)[(v13).toNat]?).bind fun y14 =>
       let v15 := (IntKind.i64.wrap (x.1.2.2.2.2.2.2.2.2.1 + (1 : Int)))
       some ((), ((x.1.1, (x.1.2.1, (x.1.2.2.1, (x.1.2.2.2.1, (r4.1.1.2.2.2.2.2.2.2.2.2.2.2.2.1, (v9, (v13, (y14.2.1, (v15, ()))))))))), ()))
      else none
     else
      let v16 := (IntKind.i64.wrap (x.1.2.2.2.2.2.2.2.2.1 + (1 : Int)))
      some ((), ((x.1.1, (x.1.2.1, (x.1.2.2.1, (x.1.2.2.2.1, (r4.1.1.2.2.2.2.2.2.2.2.2.2.2.2.1, (v9, (x.1.2.2.2.2.2.2.1, (v10, (v16, ()))))))))), ()))
    else none
   else
    let v17 := (IntKind.i64.wrap (x.1.2.2.2.2.2.2.2.1 - (1 : Int)))
    if (v17 == (0 : Int)) then
     let v18 := (IntKind.i64.wrap (x.1.2.2.2.2.2.2.1 + (1 : Int)))
     let v19 := ((x.1.2.2.2.1.length : Nat) : Int)
     if v19 = 0 then none else
     let v20 := ((v18).tmod v19)
     if 0 ≤ v20 then
      ((x.1.2.2.2.1)[(v20).toNat]?).bind fun y21 =>
      let v22 := (IntKind.i64.wrap (x.1.2.2.2.2.2.2.2.2.1 + (1 : Int)))
      some ((), ((x.1.1, (x.1.2.1, (x.1.2.2.1, (x.1.2.2.2.1, (r4.1.1.2.2.2.2.2.2.2.2.2.2.2.2.1, (v6, (v20, (y21.2.1, (v22, ()))))))))), ()))
     else none
    else
     let v23 := (IntKind.i64.wrap (x.1.2.2.2.2.2.2.2.2.1 + (1 : Int)))
     some ((), ((x.1.1, (x.1.2.1, (x.1.2.2.1, (x.1.2.2.2.1, (r4.1.1.2.2.2.2.2.2.2.2.2.2.2.2.1, (v6, (x.1.2.2.2.2.2.2.1, (v17, (v23, ()))))))))), ()))
  else none
 else none
abbrev C_eh : Con := ⟨P_eh, R_br, F_eh, false⟩
abbrev G_eh : Env := [(34, C_cy), (45, C_ct), (65, C_eg), (66, C_ao)]
theorem g_eh : Qh Tryz.prog G_eh := (Qa s_cy (Qa s_ct (Qa s_eg (Qa s_ao Qd))))
theorem s_eh : Qb Tryz.prog 29 C_eh := fnC (L := []) hT g_eh Tryz.f29 okP fun _ => by kernel_rfl
abbrev P_ei : List PK := [.val Y34, .val Y34, .val YI, .val YI]
abbrev R_ei : List VK := [.s (.dat Y57)]
abbrev i_ei_10 : Shp := { slots := [(2, .s (.dat YI)), (3, .s (.dat YI)), (8, .s (.ptr 8 0)), (10, .s (.ptr 10 0)), (11, .s (.ptr 11 0)), (12, .s (.dat YI))], boxes := [(8, [.dat YI, .dat YI, .dat .bool]), (10, [.dat Y24, .dat Y25, .dat Y26, .dat Y26, .own 2 YI, .own 47 Y46, .dat YI, .dat YI, .dat YI]), (11, [.dat Y24, .dat Y25, .dat Y26, .dat Y26, .own 2 YI, .own 47 Y46, .dat YI, .dat YI, .dat YI])], rows := [] }
abbrev o_ei_10 : List (Ex × Shp) := [(.ret, { slots := [(8, .s (.ptr 8 0))], boxes := [(8, [.dat YI, .dat YI, .dat .bool])], rows := [] })]
def l_ei_10 (rec : i_ei_10.den → Option (denO o_ei_10)) (u : i_ei_10.den) : Option (denO o_ei_10) :=
 (F_cp (((u.2.1.2.1.1, (u.2.1.2.1.2.1, (u.2.1.2.1.2.2.1, (u.2.1.2.1.2.2.2.1, ())))), (u.2.1.2.1.2.2.2.2.1, (u.2.1.2.1.2.2.2.2.2.1, (u.2.1.2.1.2.2.2.2.2.2.1, (u.2.1.2.1.2.2.2.2.2.2.2.1, (u.2.1.2.1.2.2.2.2.2.2.2.2.1, ())))))), u.1.1, ())).bind fun r20 =>
 (F_cp (((u.2.1.2.2.1.1, (u.2.1.2.2.1.2.1, (u.2.1.2.2.1.2.2.1, (u.2.1.2.2.1.2.2.2.1, ())))), (u.2.1.2.2.1.2.2.2.2.1, (u.2.1.2.2.1.2.2.2.2.2.1, (u.2.1.2.2.1.2.2.2.2.2.2.1, (u.2.1.2.2.1.2.2.2.2.2.2.2.1, (u.2.1.2.2.1.2.2.2.2.2.2.2.2.1, ())))))), u.1.1, ())).bind fun r21 =>
 (F_cs (((r20.1.1.1, (r20.1.1.2.1, (r20.1.1.2.2.1, (r20.1.1.2.2.2.1, (r20.1.1.2.2.2.2.1, (r20.1.1.2.2.2.2.2.1, (r20.1.1.2.2.2.2.2.2.1, (r20.1.1.2.2.2.2.2.2.2.1, (r20.1.1.2.2.2.2.2.2.2.2.1, ()))))))))), (r20.1.1.2.2.2.2.2.2.2.2.2.1, (r20.1.1.2.2.2.2.2.2.2.2.2.2.1, ()))), ((r21.1.1.1, (r21.1.1.2.1, (r21.1.1.2.2.1, (r21.1.1.2.2.2.1, (r21.1.1.2.2.2.2.1, (r21.1.1.2.2.2.2.2.1, (r21.1.1.2.2.2.2.2.2.1, (r21.1.1.2.2.2.2.2.2.2.1, (r21.1.1.2.2.2.2.2.2.2.2.1, ()))))))))), (r21.1.1.2.2.2.2.2.2.2.2.2.1, (r21.1.1.2.2.2.2.2.2.2.2.2.2.1, ()))), ())).bind fun r22 =>
 if (!r22.1.1) then
  some (.inl (((), ()), ((((0 : Int), (u.1.2.2.2.2.2.1, (false, ()))), ()), ())))
 else
  if (u.1.2.2.2.2.2.1 == u.1.2.1) then
   some (.inl (((), ()), ((((0 : Int), ((0 : Int), (true, ()))), ()), ())))
  else
   (F_eh (u.2.1.2.1, ())).bind fun r23 =>
   (F_eh (u.2.1.2.2.1, ())).bind fun r24 =>
   let v25 := (IntKind.i64.wrap (u.1.2.2.2.2.2.1 + (1 : Int)))
   rec ((u.1.1, (u.1.2.1, ((), ((), ((), (v25, ())))))), ((u.2.1.1, (r23.2.1, (r24.2.1, ()))), ()))
def L_ei_10 (x : i_ei_10.den) : Option (denO o_ei_10) := Qc l_ei_10 lots x
def F_ei (x : denP P_ei) : FO P_ei R_ei :=
 (F_ce (x.1, ())).bind fun r1 =>
 (F_ce (x.2.1, ())).bind fun r2 =>
 (F_cf ([r1.1.1, r2.1.1], ())).bind fun r3 =>
 if (r3.1.1 == (0 : Int)) = true then
  (F_ab (x.1.1, x.2.2.1, ())).bind fun r4 =>
  if r4.1.1 = true then
   (F_ab (x.2.1.1, x.2.2.1, ())).bind fun r5 =>
   if (!r5.1.1) then
    (F_cg (x.2.2.2.1, [x.1, x.2.1], ())).bind fun r6 =>
    (F_cf ([(4 : Int), r6.1.1], ())).bind fun r7 =>
    if (r7.1.1 != (0 : Int)) then
     some (((r7.1.1, ((0 : Int), (false, ()))), ()), ())
    else
     (F_cm (x.1, ())).bind fun r8 =>
     (F_cm (x.2.1, ())).bind fun r9 =>
     (L_ei_10 ((x.2.2.1, (x.2.2.2.1, ((), ((), ((), ((0 : Int), ())))))), ((((0 : Int), ((0 : Int), (false, ()))), (r8.1.1, (r9.1.1, ()))), ()))).bind fun z26 =>
     match z26 with
     | .inl x27 =>
      some ((x27.2.1.1, ()), ())
     | .inr z26_ =>
      none
   else
    (F_cg (x.2.2.2.1, [x.1, x.2.1], ())).bind fun r28 =>
    (F_cf ([r3.1.1, r28.1.1], ())).bind fun r29 =>
    if (r29.1.1 != (0 : Int)) then
     some (((r29.1.1, ((0 : Int), (false, ()))), ()), ())
    else
     (F_cm (x.1, ())).bind fun r30 =>
     (F_cm (x.2.1, ())).bind fun r31 =>
     (L_ei_10 ((x.2.2.1, (x.2.2.2.1, ((), ((), ((), ((0 : Int), ())))))), ((((0 : Int), ((0 : Int), (false, ()))), (r30.1.1, (r31.1.1, ()))), ()))).bind fun z32 =>
     match z32 with
     | .inl x33 =>
      some ((x33.2.1.1, ()), ())
     | .inr z32_ =>
      none
  else
   (F_cg (x.2.2.2.1, [x.1, x.2.1], ())).bind fun r34 =>
   (F_cf ([(4 : Int), r34.1.1], ())).bind fun r35 =>
   if (r35.1.1 != (0 : Int)) then
    some (((r35.1.1, ((0 : Int), (false, ()))), ()), ())
   else
    (F_cm (x.1, ())).bind fun r36 =>
    (F_cm (x.2.1, ())).bind fun r37 =>
    (L_ei_10 ((x.2.2.1, (x.2.2.2.1, ((), ((), ((), ((0 : Int), ())))))), ((((0 : Int), ((0 : Int), (false, ()))), (r36.1.1, (r37.1.1, ()))), ()))).bind fun z38 =>
    match z38 with
    | .inl x39 =>
     some ((x39.2.1.1, ()), ())
    | .inr z38_ =>
     none
 else
  (F_cg (x.2.2.2.1, [x.1, x.2.1], ())).bind fun r40 =>
  (F_cf ([r3.1.1, r40.1.1], ())).bind fun r41 =>
  if (r41.1.1 != (0 : Int)) then
   some (((r41.1.1, ((0 : Int), (false, ()))), ()), ())
  else
   (F_cm (x.1, ())).bind fun r42 =>
   (F_cm (x.2.1, ())).bind fun r43 =>
   (L_ei_10 ((x.2.2.1, (x.2.2.2.1, ((), ((), ((), ((0 : Int), ())))))), ((((0 : Int), ((0 : Int), (false, ()))), (r42.1.1, (r43.1.1, ()))), ()))).bind fun z44 =>
   match z44 with
   | .inl x45 =>
    some ((x45.2.1.1, ()), ())
   | .inr z44_ =>
    none
abbrev C_ei : Con := ⟨P_ei, R_ei, F_ei, false⟩
abbrev G_ei : Env := [(26, C_ce), (28, C_cm), (29, C_eh), (33, C_ab), (40, C_cf), (41, C_cg), (43, C_cp), (55, C_cs)]
theorem g_ei : Qh Tryz.prog G_ei := (Qa s_ce (Qa s_cm (Qa s_eh (Qa s_ab (Qa s_cf (Qa s_cg (Qa s_cp (Qa s_cs Qd))))))))
abbrev c_ei_10 : Cut := ⟨i_ei_10, o_ei_10, fun x => Qc l_ei_10 lots x⟩
theorem k_ei_10 : Qz Tryz.prog 64 (.loop (nav Tryz.f20 [1, 1, 1, 1, 1, 1, 0, 0])) c_ei_10 :=
  Qj (L := []) hT g_ei (fun _ _ => by kernel_rfl) okP _
theorem r_ei (x) : QL T G_ei [(10, c_ei_10)] Tryz.f20 C_ei.ps C_ei.rs x = C_ei.F x := by kernel_rfl
theorem s_ei : Qb Tryz.prog 20 C_ei := fnC (L := [(10, c_ei_10)]) hT g_ei Tryz.f20 (okS okP (okS okP (okS okP (okS okP (okS okP (okS okP (okB (okU k_ei_10)))))))) r_ei
def F_ej (x : denP P_bh) : FO P_bh R_at :=
 (F_bh (x.1, x.2.1, ())).bind fun r1 =>
 if (r1.1.1 != (0 : Int)) then
  some (((r1.1.1, (([] : List (den YI)), ())), ()), ())
 else
  (F_bu (x.1, x.2.1, ())).bind fun r2 =>
  some ((((0 : Int), (r2.1.1, ())), ()), ())
abbrev C_ej : Con := ⟨P_bh, R_at, F_ej, false⟩
abbrev G_ej : Env := [(38, C_bh), (47, C_bu)]
theorem g_ej : Qh Tryz.prog G_ej := (Qa s_bh (Qa s_bu Qd))
theorem s_ej : Qb Tryz.prog 21 C_ej := fnC (L := []) hT g_ej Tryz.f21 okP fun _ => by kernel_rfl
abbrev i_ek_14 : Shp := { slots := [(0, .s (.dat Y22)), (3, .s (.ptr 3 0)), (4, .s (.dat Y24)), (5, .s (.dat Y24)), (6, .s (.ptr 6 0)), (7, .s (.dat YI)), (8, .s (.ptr 8 0)), (9, .s (.dat YI))], boxes := [(3, [.dat Y24, .dat Y25, .dat Y26, .dat Y26]), (6, [.dat YI, .own 32 Y32, .own 42 Y41, .own 112 Y70, .own 71 Y70, .own 2 YI, .own 47 Y46, .dat YI, .dat YI, .dat YI]), (8, [.dat YI, .own 2 YI])], rows := [] }
abbrev o_ek_14 : List (Ex × Shp) := [(.exit 2, { slots := [(0, .s (.dat Y22)), (3, .s (.ptr 3 0)), (4, .s (.dat Y24)), (5, .s (.dat Y24)), (6, .s (.ptr 6 0)), (7, .s (.dat YI))], boxes := [(3, [.dat Y24, .dat Y25, .dat Y26, .dat Y26]), (6, [.dat YI, .own 32 Y32, .own 42 Y41, .own 112 Y70, .own 71 Y70, .own 2 YI, .own 47 Y46, .dat YI, .dat YI, .dat YI])], rows := [] }), (.ret, { slots := [(2, .s (.dat .bool))], boxes := [], rows := [] })]
def l_ek_14 (rec : i_ek_14.den → Option (denO o_ek_14)) (u : i_ek_14.den) : Option (denO o_ek_14) :=
 let v23 := ((u.2.1.2.2.1.2.1.length : Nat) : Int)
 if (ltI u.1.2.2.2.2.2.2.2.1 v23) then
  let v24 := (IntKind.u8.wrap u.1.2.2.2.2.2.2.2.1)
  if ([v24].length + u.1.1.length) * 1 ≤ 140737488355328 then
   let v25 := ([v24] ++ u.1.1)
   (F_x (v25, u.2.1.1, ())).bind fun r26 =>
   if 0 ≤ u.1.2.2.2.2.2.2.2.1 ∧ u.1.2.2.2.2.2.2.2.1 < ((u.2.1.2.2.1.2.1.length : Nat) : Int) then
    ((u.2.1.2.2.1.2.1)[(u.1.2.2.2.2.2.2.2.1).toNat]?).bind fun y27 =>
    if 0 ≤ u.1.2.2.2.2.2.2.2.1 ∧ u.1.2.2.2.2.2.2.2.1 < ((u.2.1.2.2.1.2.1.length : Nat) : Int) then
     ((u.2.1.2.2.1.2.1)[(u.1.2.2.2.2.2.2.2.1).toNat]?).bind fun y28 =>
     if 0 ≤ y28 ∧ y28 < ((r26.1.1.length : Nat) : Int) then
      ((r26.1.1)[(y28).toNat]?).bind fun y29 =>
      (F_by (u.2.1.1, u.1.2.2.1, u.1.2.2.2.1, y27, y29, [(9 : Int), (9 : Int)], ())).bind fun r30 =>
      (F_ei (((u.2.1.2.1.2.1, (u.2.1.2.1.2.2.1, (u.2.1.2.1.2.2.2.1, (u.2.1.2.1.2.2.2.2.1, ())))), (u.2.1.2.1.2.2.2.2.2.1, (u.2.1.2.1.2.2.2.2.2.2.1, (u.2.1.2.1.2.2.2.2.2.2.2.1, (u.2.1.2.1.2.2.2.2.2.2.2.2.1, (u.2.1.2.1.2.2.2.2.2.2.2.2.2.1, ())))))), ((r30.1.1.2.1, (r30.1.1.2.2.1, (r30.1.1.2.2.2.1, (r30.1.1.2.2.2.2.1, ())))), (r30.1.1.2.2.2.2.2.1, (r30.1.1.2.2.2.2.2.2.1, (r30.1.1.2.2.2.2.2.2.2.1, (r30.1.1.2.2.2.2.2.2.2.2.1, (r30.1.1.2.2.2.2.2.2.2.2.2.1, ())))))), u.1.2.2.2.2.2.1, (60 : Int), ())).bind fun r31 =>
      if (r30.1.1.1 != (0 : Int)) = false then
       if (r31.1.1.1 != (0 : Int)) = false then
        if (!r31.1.1.2.2.1) then
         some (.inr (.inl ((false, ()), ((), ()))))
        else
         let v32 := (IntKind.i64.wrap (u.1.2.2.2.2.2.2.2.1 + (1 : Int)))
         rec ((u.1.1, ((), (u.1.2.2.1, (u.1.2.2.2.1, ((), (u.1.2.2.2.2.2.1, ((), (v32, ())))))))), ((u.2.1.1, (u.2.1.2.1, (u.2.1.2.2.1, ()))), ()))
       else
        some (.inr (.inl ((false, ()), ((), ()))))
      else
       some (.inr (.inl ((false, ()), ((), ()))))
     else none
    else none
   else none
  else none
 else
  some (.inl ((u.1.1, ((), (u.1.2.2.1, (u.1.2.2.2.1, ((), (u.1.2.2.2.2.2.1, ())))))), ((u.2.1.1, (u.2.1.2.1, ())), ())))
def L_ek_14 (x : i_ek_14.den) : Option (denO o_ek_14) := Qc l_ek_14 lots x
abbrev i_ek_8 : Shp := { slots := [(0, .s (.dat Y22)), (3, .s (.ptr 3 0)), (4, .s (.dat Y24)), (5, .s (.dat Y24)), (6, .s (.ptr 6 0)), (7, .s (.dat YI))], boxes := [(3, [.dat Y24, .dat Y25, .dat Y26, .dat Y26]), (6, [.dat YI, .own 32 Y32, .own 42 Y41, .own 112 Y70, .own 71 Y70, .own 2 YI, .own 47 Y46, .dat YI, .dat YI, .dat YI])], rows := [] }
abbrev o_ek_8 : List (Ex × Shp) := [(.exit 0, { slots := [(3, .s (.ptr 3 0))], boxes := [(3, [.dat Y24, .dat Y25, .dat Y26, .dat Y26])], rows := [] }), (.ret, { slots := [(2, .s (.dat .bool))], boxes := [], rows := [] })]
def l_ek_8 (rec : i_ek_8.den → Option (denO o_ek_8)) (u : i_ek_8.den) : Option (denO o_ek_8) :=
 let v15 := ((u.2.1.1.1.length : Nat) : Int)
 if (ltI u.1.2.2.2.2.2.1 v15) then
  (F_bv (u.2.1.1, u.1.2.2.2.2.2.1, ())).bind fun r16 =>
  if (r16.1.1.1 != (0 : Int)) then
   some (.inr (.inl ((false, ()), ((), ()))))
  else
   (L_ek_14 ((u.1.1, ((), (u.1.2.2.1, (u.1.2.2.2.1, ((), (u.1.2.2.2.2.2.1, ((), ((0 : Int), ())))))))), ((u.2.1.1, (u.2.1.2.1, (r16.1.1, ()))), ()))).bind fun z33 =>
   match z33 with
   | .inl x34 =>
    let v35 := (IntKind.i64.wrap (x34.1.2.2.2.2.2.1 + (1 : Int)))
    rec ((x34.1.1, ((), (x34.1.2.2.1, (x34.1.2.2.2.1, ((), (v35, ())))))), ((x34.2.1.1, (x34.2.1.2.1, ())), ()))
   | .inr z33_ =>
    match z33_ with
    | .inl x36 =>
     some (.inr (.inl ((x36.1.1, ()), ((), ()))))
    | .inr z33__ =>
     none
 else
  some (.inl (((), ()), ((u.2.1.1, ()), ())))
def L_ek_8 (x : i_ek_8.den) : Option (denO o_ek_8) := Qc l_ek_8 lots x
def F_ek (x : denP P_a) : FO P_a R_a :=
 (F_a (x.1, ())).bind fun r1 =>
 if r1.1.1 then
  some ((true, ()), ())
 else
  (F_y (x.1, ())).bind fun r2 =>
  (F_bg (r2.1.1, r2.1.2.1, r2.1.2.2.1, ())).bind fun r3 =>
  if (r3.1.1.1 != (0 : Int)) = false then
   let v4 := ((r3.1.1.2.2.2.2.2.2.1.length : Nat) : Int)
   if (v4 == (0 : Int)) then
    some ((false, ()), ())
   else
    (L_ek_8 ((x.1, ((), (r2.1.2.1, (r2.1.2.2.1, ((), ((0 : Int), ())))))), (((r2.1.1.1, (r2.1.1.2.1, (r2.1.1.2.2.1, (r2.1.1.2.2.2.1, ())))), (r3.1.1, ())), ()))).bind fun z37 =>
    match z37 with
    | .inl x38 =>
     (F_ej (x38.2.1.1, (0 : Int), ())).bind fun r39 =>
     let v40 := ((r39.1.1.2.1.length : Nat) : Int)
     (F_bv (x38.2.1.1, (0 : Int), ())).bind fun r41 =>
     let v42 := ((r41.1.1.2.1.length : Nat) : Int)
     let v43 := (IntKind.i64.wrap (v40 + v42))
     let v44 := ((x38.2.1.1.1.length : Nat) : Int)
     let v45 := (IntKind.i64.wrap (v44 - (1 : Int)))
     some (((leI v45 v43), ()), ())
    | .inr z37_ =>
     match z37_ with
     | .inl x46 =>
      some ((x46.1.1, ()), ())
     | .inr z37__ =>
      none
  else
   some ((false, ()), ())
abbrev C_ek : Con := ⟨P_a, R_a, F_ek, false⟩
abbrev G_ek : Env := [(6, C_a), (7, C_y), (8, C_bg), (17, C_bv), (18, C_x), (19, C_by), (20, C_ei), (21, C_ej)]
theorem g_ek : Qh Tryz.prog G_ek := (Qa s_a (Qa s_y (Qa s_bg (Qa s_bv (Qa s_x (Qa s_by (Qa s_ei (Qa s_ej Qd))))))))
abbrev c_ek_14 : Cut := ⟨i_ek_14, o_ek_14, fun x => Qc l_ek_14 lots x⟩
theorem k_ek_14 : Qz Tryz.prog 117 (.loop (nav Tryz.f5 [1, 1, 1, 1, 1, 0, 1, 0, 0, 1, 0, 0, 1, 1, 1, 0, 0])) c_ek_14 :=
  Qj (L := []) hT g_ek (fun _ _ => by kernel_rfl) okP _
abbrev c_ek_8 : Cut := ⟨i_ek_8, o_ek_8, fun x => Qc l_ek_8 lots x⟩
theorem t_ek_8 (rec x) : run T G_ek [(14, c_ek_14)] (nav Tryz.f5 [1, 1, 1, 1, 1, 0, 1, 0, 0]) (mk 117 i_ek_8 x) (QeL i_ek_8 o_ek_8 rec) = l_ek_8 rec x := by kernel_rfl
theorem k_ek_8 : Qz Tryz.prog 117 (.loop (nav Tryz.f5 [1, 1, 1, 1, 1, 0, 1, 0, 0])) c_ek_8 :=
  Qj (L := [(14, c_ek_14)]) hT g_ek t_ek_8 (okS okP (okS (okB (okS okP (okS okP (okS okP (okB (okU k_ek_14)))))) okP)) _
theorem r_ek (x) : QL T G_ek [(14, c_ek_14), (8, c_ek_8)] Tryz.f5 C_ek.ps C_ek.rs x = C_ek.F x := by kernel_rfl
theorem s_ek : Qb Tryz.prog 5 C_ek := fnC (L := [(14, c_ek_14), (8, c_ek_8)]) hT g_ek Tryz.f5 (okS okP (okS okP (okS okP (okS okP (okS okP (okS (okS okP (okB (okU k_ek_8))) okP)))))) r_ek
theorem q_ek : Qfx Tryz.prog 5 C_ek :=
  Qul (L := [(14, c_ek_14), (8, c_ek_8)]) hT g_ek Tryz.f5 (by kernel_rfl) (by kernel_rfl) (okS okP (okS okP (okS okP (okS okP (okS okP (okS (okS okP (okB (okU k_ek_8))) okP)))))) r_ek
end Go.Proofs.YtmoninjbahccoaaGreatDoor
