/- The functions of the laws, each as a plain function of data (F), and that the program's text does what F says. Printed by a program (wip/tools/gen.py). -/
import Derived.Test.YtajnommlfjfgpaaGreatDoorGt
namespace Go.Proofs.YtajnommlfjfgpaaGreatDoor
open Go Go.RowKit S Go.Proofs
set_option maxRecDepth 100000
set_option linter.unusedVariables false
abbrev P_dy : List PK := [.val Y24, .val YI]
abbrev R_dy : List VK := [.s (.dat YI)]
def F_dy (x : denP P_dy) : Option (denV R_dy × denQ P_dy) :=
 let v1 := ((x.1.length : Nat) : Int)
 let v2 := (IntKind.i64.wrap (x.2.1 - v1))
 if (ltI v2 (0 : Int)) then
  some (((-1 : Int), ()), ())
 else
  some ((v2, ()), ())
abbrev C_dy : Con := ⟨P_dy, R_dy, F_dy, false⟩
abbrev G_dy : Env := []
theorem g_dy : Qe Tryz.prog G_dy := Qc
theorem r_dy (x) : Qf T G_dy [] Tryz.f102 C_dy.ps C_dy.rs x = C_dy.F x := by kernel_rfl
theorem s_dy : Qb Tryz.prog 102 C_dy := fnC (L := []) hT g_dy Tryz.f102 okP r_dy
abbrev P_dz : List PK := [.val Y53, .val YI]
abbrev R_dz : List VK := [.s (.dat YI)]
abbrev i_dz_5 : Shp := { slots := [(0, .s (.dat Y53)), (1, .s (.dat YI)), (5, .s (.dat YI))], boxes := [], rows := [] }
abbrev o_dz_5 : List (Ex × Shp) := [(.exit 0, { slots := [(1, .s (.dat YI))], boxes := [], rows := [] }), (.ret, { slots := [(4, .s (.dat YI))], boxes := [], rows := [] })]
def l_dz_5 (rec : i_dz_5.den → Option (denO o_dz_5)) (u5 : i_dz_5.den) : Option (denO o_dz_5) :=
 let v5 := ((u5.1.1.length : Nat) : Int)
 if (ltI u5.1.2.2.1 v5) then
  if 0 ≤ u5.1.2.2.1 then
   ((u5.1.1)[(u5.1.2.2.1).toNat]?).bind fun y6 =>
   (F_dy (y6, u5.1.2.1, ())).bind fun r7 =>
   if (ltI r7.1.1 (0 : Int)) then
    some (.inr (.inl (((-1 : Int), ()), ((), ()))))
   else
    let v8 := (IntKind.i64.wrap (u5.1.2.2.1 + (1 : Int)))
    rec ((u5.1.1, (r7.1.1, (v8, ()))), ((), ()))
  else none
 else
  some (.inl ((u5.1.2.1, ()), ((), ())))
def L_dz_5 (x : i_dz_5.den) : Option (denO o_dz_5) := Qd l_dz_5 lots x
def F_dz (x : denP P_dz) : Option (denV R_dz × denQ P_dz) :=
 let v1 := ((x.1.length : Nat) : Int)
 let v2 := (IntKind.i64.wrap (x.2.1 - v1))
 if (ltI v2 (0 : Int)) then
  some (((-1 : Int), ()), ())
 else
  (L_dz_5 ((x.1, (v2, ((0 : Int), ()))), ((), ()))).bind fun z9 =>
  match z9 with
  | .inl x10 =>
   some ((x10.1.1, ()), ())
  | .inr z9_ =>
   match z9_ with
   | .inl x11 =>
    some ((x11.1.1, ()), ())
   | .inr z9__ =>
    none
abbrev C_dz : Con := ⟨P_dz, R_dz, F_dz, false⟩
abbrev G_dz : Env := [(102, C_dy)]
theorem g_dz : Qe Tryz.prog G_dz := (Qa s_dy Qc)
abbrev c_dz_5 : Cut := ⟨i_dz_5, o_dz_5, fun x => Qd l_dz_5 lots x⟩
theorem t_dz_5 (rec x) : run T G_dz [] (nav Tryz.f185 [1, 1, 1, 0, 1, 0, 0]) (mk 27 i_dz_5 x) (Qx i_dz_5 o_dz_5 rec) = l_dz_5 rec x := by kernel_rfl
theorem k_dz_5 : Qu Tryz.prog 27 (.loop (nav Tryz.f185 [1, 1, 1, 0, 1, 0, 0])) c_dz_5 :=
  Qh (L := []) hT g_dz t_dz_5 okP _
theorem r_dz (x) : Qf T G_dz [(5, c_dz_5)] Tryz.f185 C_dz.ps C_dz.rs x = C_dz.F x := by kernel_rfl
theorem s_dz : Qb Tryz.prog 185 C_dz := fnC (L := [(5, c_dz_5)]) hT g_dz Tryz.f185 (okS okP (okS okP (okS okP (okS (okS okP (okB (okU k_dz_5))) okP)))) r_dz
abbrev P_ea : List PK := [.val Y54, .val YI]
abbrev R_ea : List VK := [.s (.dat YI)]
def F_ea (x : denP P_ea) : Option (denV R_ea × denQ P_ea) :=
 let v1 := ((x.1.length : Nat) : Int)
 let v2 := (IntKind.i64.wrap (x.2.1 - v1))
 if (ltI v2 (0 : Int)) then
  some (((-1 : Int), ()), ())
 else
  some ((v2, ()), ())
abbrev C_ea : Con := ⟨P_ea, R_ea, F_ea, false⟩
abbrev G_ea : Env := []
theorem g_ea : Qe Tryz.prog G_ea := Qc
theorem r_ea (x) : Qf T G_ea [] Tryz.f186 C_ea.ps C_ea.rs x = C_ea.F x := by kernel_rfl
theorem s_ea : Qb Tryz.prog 186 C_ea := fnC (L := []) hT g_ea Tryz.f186 okP r_ea
abbrev P_eb : List PK := [.val Y27, .val YI]
abbrev R_eb : List VK := [.s (.dat YI)]
def F_eb (x : denP P_eb) : Option (denV R_eb × denQ P_eb) :=
 let v1 := ((x.1.length : Nat) : Int)
 let v2 := (IntKind.i64.wrap (x.2.1 - v1))
 if (ltI v2 (0 : Int)) then
  some (((-1 : Int), ()), ())
 else
  some ((v2, ()), ())
abbrev C_eb : Con := ⟨P_eb, R_eb, F_eb, false⟩
abbrev G_eb : Env := []
theorem g_eb : Qe Tryz.prog G_eb := Qc
theorem r_eb (x) : Qf T G_eb [] Tryz.f187 C_eb.ps C_eb.rs x = C_eb.F x := by kernel_rfl
theorem s_eb : Qb Tryz.prog 187 C_eb := fnC (L := []) hT g_eb Tryz.f187 okP r_eb
abbrev P_ec : List PK := [.val Y27, .val YI]
abbrev R_ec : List VK := [.s (.dat YI)]
def F_ec (x : denP P_ec) : Option (denV R_ec × denQ P_ec) :=
 let v1 := ((x.1.length : Nat) : Int)
 let v2 := (IntKind.i64.wrap (x.2.1 - v1))
 if (ltI v2 (0 : Int)) then
  some (((-1 : Int), ()), ())
 else
  some ((v2, ()), ())
abbrev C_ec : Con := ⟨P_ec, R_ec, F_ec, false⟩
abbrev G_ec : Env := []
theorem g_ec : Qe Tryz.prog G_ec := Qc
theorem r_ec (x) : Qf T G_ec [] Tryz.f188 C_ec.ps C_ec.rs x = C_ec.F x := by kernel_rfl
theorem s_ec : Qb Tryz.prog 188 C_ec := fnC (L := []) hT g_ec Tryz.f188 okP r_ec
abbrev P_ed : List PK := [.val Y57, .val YI]
abbrev R_ed : List VK := [.s (.dat YI)]
def F_ed (x : denP P_ed) : Option (denV R_ed × denQ P_ed) :=
 (F_dz (x.1.1, x.2.1, ())).bind fun r1 =>
 if (ltI r1.1.1 (0 : Int)) then
  some (((-1 : Int), ()), ())
 else
  (F_ea (x.1.2.1, r1.1.1, ())).bind fun r2 =>
  if (ltI r2.1.1 (0 : Int)) then
   some (((-1 : Int), ()), ())
  else
   (F_eb (x.1.2.2.1, r2.1.1, ())).bind fun r3 =>
   if (ltI r3.1.1 (0 : Int)) then
    some (((-1 : Int), ()), ())
   else
    (F_ec (x.1.2.2.2.1, r3.1.1, ())).bind fun r4 =>
    if (ltI r4.1.1 (0 : Int)) then
     some (((-1 : Int), ()), ())
    else
     some ((r4.1.1, ()), ())
abbrev C_ed : Con := ⟨P_ed, R_ed, F_ed, false⟩
abbrev G_ed : Env := [(185, C_dz), (186, C_ea), (187, C_eb), (188, C_ec)]
theorem g_ed : Qe Tryz.prog G_ed := (Qa s_dz (Qa s_ea (Qa s_eb (Qa s_ec Qc))))
theorem r_ed (x) : Qf T G_ed [] Tryz.f101 C_ed.ps C_ed.rs x = C_ed.F x := by kernel_rfl
theorem s_ed : Qb Tryz.prog 101 C_ed := fnC (L := []) hT g_ed Tryz.f101 okP r_ed
abbrev P_ee : List PK := [.val Y25, .val YI]
abbrev R_ee : List VK := [.s (.dat YI)]
def F_ee (x : denP P_ee) : Option (denV R_ee × denQ P_ee) :=
 (F_dy (x.1.1, x.2.1, ())).bind fun r1 =>
 if (ltI r1.1.1 (0 : Int)) then
  some (((-1 : Int), ()), ())
 else
  (F_dy (x.1.2.2.1, r1.1.1, ())).bind fun r2 =>
  if (ltI r2.1.1 (0 : Int)) then
   some (((-1 : Int), ()), ())
  else
   (F_dy (x.1.2.2.2.2.2.2.2.1, r2.1.1, ())).bind fun r3 =>
   if (ltI r3.1.1 (0 : Int)) then
    some (((-1 : Int), ()), ())
   else
    (F_dy (x.1.2.2.2.2.2.2.2.2.1, r3.1.1, ())).bind fun r4 =>
    if (ltI r4.1.1 (0 : Int)) then
     some (((-1 : Int), ()), ())
    else
     some ((r4.1.1, ()), ())
abbrev C_ee : Con := ⟨P_ee, R_ee, F_ee, false⟩
abbrev G_ee : Env := [(102, C_dy)]
theorem g_ee : Qe Tryz.prog G_ee := (Qa s_dy Qc)
theorem r_ee (x) : Qf T G_ee [] Tryz.f118 C_ee.ps C_ee.rs x = C_ee.F x := by kernel_rfl
theorem s_ee : Qb Tryz.prog 118 C_ee := fnC (L := []) hT g_ee Tryz.f118 okP r_ee
abbrev P_ef : List PK := [.val Y61, .val YI]
abbrev R_ef : List VK := [.s (.dat YI)]
abbrev i_ef_5 : Shp := { slots := [(0, .s (.dat Y61)), (1, .s (.dat YI)), (5, .s (.dat YI))], boxes := [], rows := [] }
abbrev o_ef_5 : List (Ex × Shp) := [(.exit 0, { slots := [(1, .s (.dat YI))], boxes := [], rows := [] }), (.ret, { slots := [(4, .s (.dat YI))], boxes := [], rows := [] })]
def l_ef_5 (rec : i_ef_5.den → Option (denO o_ef_5)) (u5 : i_ef_5.den) : Option (denO o_ef_5) :=
 let v5 := ((u5.1.1.length : Nat) : Int)
 if (ltI u5.1.2.2.1 v5) then
  if 0 ≤ u5.1.2.2.1 then
   ((u5.1.1)[(u5.1.2.2.1).toNat]?).bind fun y6 =>
   (F_ee (y6, u5.1.2.1, ())).bind fun r7 =>
   if (ltI r7.1.1 (0 : Int)) then
    some (.inr (.inl (((-1 : Int), ()), ((), ()))))
   else
    let v8 := (IntKind.i64.wrap (u5.1.2.2.1 + (1 : Int)))
    rec ((u5.1.1, (r7.1.1, (v8, ()))), ((), ()))
  else none
 else
  some (.inl ((u5.1.2.1, ()), ((), ())))
def L_ef_5 (x : i_ef_5.den) : Option (denO o_ef_5) := Qd l_ef_5 lots x
def F_ef (x : denP P_ef) : Option (denV R_ef × denQ P_ef) :=
 let v1 := ((x.1.length : Nat) : Int)
 let v2 := (IntKind.i64.wrap (x.2.1 - v1))
 if (ltI v2 (0 : Int)) then
  some (((-1 : Int), ()), ())
 else
  (L_ef_5 ((x.1, (v2, ((0 : Int), ()))), ((), ()))).bind fun z9 =>
  match z9 with
  | .inl x10 =>
   some ((x10.1.1, ()), ())
  | .inr z9_ =>
   match z9_ with
   | .inl x11 =>
    some ((x11.1.1, ()), ())
   | .inr z9__ =>
    none
abbrev C_ef : Con := ⟨P_ef, R_ef, F_ef, false⟩
abbrev G_ef : Env := [(118, C_ee)]
theorem g_ef : Qe Tryz.prog G_ef := (Qa s_ee Qc)
abbrev c_ef_5 : Cut := ⟨i_ef_5, o_ef_5, fun x => Qd l_ef_5 lots x⟩
theorem t_ef_5 (rec x) : run T G_ef [] (nav Tryz.f103 [1, 1, 1, 0, 1, 0, 0]) (mk 27 i_ef_5 x) (Qx i_ef_5 o_ef_5 rec) = l_ef_5 rec x := by kernel_rfl
theorem k_ef_5 : Qu Tryz.prog 27 (.loop (nav Tryz.f103 [1, 1, 1, 0, 1, 0, 0])) c_ef_5 :=
  Qh (L := []) hT g_ef t_ef_5 okP _
theorem r_ef (x) : Qf T G_ef [(5, c_ef_5)] Tryz.f103 C_ef.ps C_ef.rs x = C_ef.F x := by kernel_rfl
theorem s_ef : Qb Tryz.prog 103 C_ef := fnC (L := [(5, c_ef_5)]) hT g_ef Tryz.f103 (okS okP (okS okP (okS okP (okS (okS okP (okB (okU k_ef_5))) okP)))) r_ef
abbrev P_eg : List PK := [.val Y62, .val YI]
abbrev R_eg : List VK := [.s (.dat YI)]
def F_eg (x : denP P_eg) : Option (denV R_eg × denQ P_eg) :=
 (F_ed (x.1.1, x.2.1, ())).bind fun r1 =>
 if (ltI r1.1.1 (0 : Int)) then
  some (((-1 : Int), ()), ())
 else
  (F_dy (x.1.2.1, r1.1.1, ())).bind fun r2 =>
  if (ltI r2.1.1 (0 : Int)) then
   some (((-1 : Int), ()), ())
  else
   (F_ef (x.1.2.2.1, r2.1.1, ())).bind fun r3 =>
   if (ltI r3.1.1 (0 : Int)) then
    some (((-1 : Int), ()), ())
   else
    some ((r3.1.1, ()), ())
abbrev C_eg : Con := ⟨P_eg, R_eg, F_eg, false⟩
abbrev G_eg : Env := [(101, C_ed), (102, C_dy), (103, C_ef)]
theorem g_eg : Qe Tryz.prog G_eg := (Qa s_ed (Qa s_dy (Qa s_ef Qc)))
theorem r_eg (x) : Qf T G_eg [] Tryz.f42 C_eg.ps C_eg.rs x = C_eg.F x := by kernel_rfl
theorem s_eg : Qb Tryz.prog 42 C_eg := fnC (L := []) hT g_eg Tryz.f42 okP r_eg
abbrev P_eh : List PK := [.val Y24]
abbrev R_eh : List VK := [.s (.own 2 YI)]
abbrev i_eh_3 : Shp := { slots := [(0, .s (.dat Y24)), (3, .s (.own 2 YI)), (4, .s (.dat YI))], boxes := [], rows := [] }
abbrev o_eh_3 : List (Ex × Shp) := [(.exit 0, { slots := [(3, .s (.own 2 YI))], boxes := [], rows := [] })]
def l_eh_3 (rec : i_eh_3.den → Option (denO o_eh_3)) (u3 : i_eh_3.den) : Option (denO o_eh_3) :=
 let v4 := ((u3.1.1.length : Nat) : Int)
 if (ltI u3.1.2.2.1 v4) then
  if 0 ≤ u3.1.2.2.1 then
   ((u3.1.1)[(u3.1.2.2.1).toNat]?).bind fun y5 =>
   if 0 ≤ u3.1.2.2.1 ∧ u3.1.2.2.1 < ((u3.1.2.1.length : Nat) : Int) then
    ((u3.1.2.1)[(u3.1.2.2.1).toNat]?).bind fun y6 =>
    let v7 := (u3.1.2.1.set (u3.1.2.2.1).toNat y5)
    let v8 := (IntKind.i64.wrap (u3.1.2.2.1 + (1 : Int)))
    rec ((u3.1.1, (v7, (v8, ()))), ((), ()))
   else none
  else none
 else
  some (.inl ((u3.1.2.1, ()), ((), ())))
def L_eh_3 (x : i_eh_3.den) : Option (denO o_eh_3) := Qd l_eh_3 lots x
def F_eh (x : denP P_eh) : Option (denV R_eh × denQ P_eh) :=
 let v1 := ((x.1.length : Nat) : Int)
 if v1 = v1 ∧ 0 ≤ v1 ∧ v1 * 8 ≤ 140737488355328 ∧ v1 ≤ 9223372036854775807 then
  (L_eh_3 ((x.1, ((List.replicate (v1).toNat (QbG YI)), ((0 : Int), ()))), ((), ()))).bind fun z9 =>
  match z9 with
  | .inl x10 =>
   some ((x10.1.1, ()), ())
  | .inr z9_ =>
   none
 else none
abbrev C_eh : Con := ⟨P_eh, R_eh, F_eh, false⟩
abbrev G_eh : Env := []
theorem g_eh : Qe Tryz.prog G_eh := Qc
abbrev c_eh_3 : Cut := ⟨i_eh_3, o_eh_3, fun x => Qd l_eh_3 lots x⟩
theorem t_eh_3 (rec x) : run T G_eh [] (nav Tryz.f113 [1, 1, 0, 1, 0, 0]) (mk 22 i_eh_3 x) (Qx i_eh_3 o_eh_3 rec) = l_eh_3 rec x := by kernel_rfl
theorem k_eh_3 : Qu Tryz.prog 22 (.loop (nav Tryz.f113 [1, 1, 0, 1, 0, 0])) c_eh_3 :=
  Qh (L := []) hT g_eh t_eh_3 okP _
theorem r_eh (x) : Qf T G_eh [(3, c_eh_3)] Tryz.f113 C_eh.ps C_eh.rs x = C_eh.F x := by kernel_rfl
theorem s_eh : Qb Tryz.prog 113 C_eh := fnC (L := [(3, c_eh_3)]) hT g_eh Tryz.f113 (okS okP (okS okP (okS (okS okP (okB (okU k_eh_3))) okP))) r_eh
abbrev P_ei : List PK := [.val Y53]
abbrev R_ei : List VK := [.s (.own 3000024 Y24)]
abbrev i_ei_3 : Shp := { slots := [(0, .s (.dat Y53)), (3, .s (.own 3000024 Y24)), (4, .s (.dat YI))], boxes := [], rows := [] }
abbrev o_ei_3 : List (Ex × Shp) := [(.exit 0, { slots := [(3, .s (.own 3000024 Y24))], boxes := [], rows := [] })]
def l_ei_3 (rec : i_ei_3.den → Option (denO o_ei_3)) (u3 : i_ei_3.den) : Option (denO o_ei_3) :=
 let v5 := ((u3.1.1.length : Nat) : Int)
 if (ltI u3.1.2.2.1 v5) then
  if 0 ≤ u3.1.2.2.1 then
   ((u3.1.1)[(u3.1.2.2.1).toNat]?).bind fun y6 =>
   (F_eh (y6, ())).bind fun r7 =>
   if 0 ≤ u3.1.2.2.1 ∧ u3.1.2.2.1 < ((u3.1.2.1.length : Nat) : Int) then
    ((u3.1.2.1)[(u3.1.2.2.1).toNat]?).bind fun y8 =>
    let v9 := (u3.1.2.1.set (u3.1.2.2.1).toNat r7.1.1)
    let v10 := (IntKind.i64.wrap (u3.1.2.2.1 + (1 : Int)))
    rec ((u3.1.1, (v9, (v10, ()))), ((), ()))
   else none
  else none
 else
  some (.inl ((u3.1.2.1, ()), ((), ())))
def L_ei_3 (x : i_ei_3.den) : Option (denO o_ei_3) := Qd l_ei_3 lots x
def F_ei (x : denP P_ei) : Option (denV R_ei × denQ P_ei) :=
 let v1 := ((x.1.length : Nat) : Int)
 if v1 = v1 ∧ 0 ≤ v1 ∧ v1 * 24 ≤ 140737488355328 ∧ v1 ≤ 9223372036854775807 then
  (L_ei_3 ((x.1, ((List.replicate (v1).toNat (QbG Y24)), ((0 : Int), ()))), ((), ()))).bind fun z11 =>
  match z11 with
  | .inl x12 =>
   some ((x12.1.1, ()), ())
  | .inr z11_ =>
   none
 else none
abbrev C_ei : Con := ⟨P_ei, R_ei, F_ei, false⟩
abbrev G_ei : Env := [(113, C_eh)]
theorem g_ei : Qe Tryz.prog G_ei := (Qa s_eh Qc)
abbrev c_ei_3 : Cut := ⟨i_ei_3, o_ei_3, fun x => Qd l_ei_3 lots x⟩
theorem t_ei_3 (rec x) : run T G_ei [] (nav Tryz.f198 [1, 1, 0, 1, 0, 0]) (mk 23 i_ei_3 x) (Qx i_ei_3 o_ei_3 rec) = l_ei_3 rec x := by kernel_rfl
theorem k_ei_3 : Qu Tryz.prog 23 (.loop (nav Tryz.f198 [1, 1, 0, 1, 0, 0])) c_ei_3 :=
  Qh (L := []) hT g_ei t_ei_3 okP _
theorem r_ei (x) : Qf T G_ei [(3, c_ei_3)] Tryz.f198 C_ei.ps C_ei.rs x = C_ei.F x := by kernel_rfl
theorem s_ei : Qb Tryz.prog 198 C_ei := fnC (L := [(3, c_ei_3)]) hT g_ei Tryz.f198 (okS okP (okS okP (okS (okS okP (okB (okU k_ei_3))) okP))) r_ei
abbrev P_ej : List PK := [.val Y68]
abbrev R_ej : List VK := [.s (.dat Y68)]
def F_ej (x : denP P_ej) : Option (denV R_ej × denQ P_ej) :=
 some ((x.1, ()), ())
abbrev C_ej : Con := ⟨P_ej, R_ej, F_ej, false⟩
abbrev G_ej : Env := []
theorem g_ej : Qe Tryz.prog G_ej := Qc
theorem r_ej (x) : Qf T G_ej [] Tryz.f252 C_ej.ps C_ej.rs x = C_ej.F x := by kernel_rfl
theorem s_ej : Qb Tryz.prog 252 C_ej := fnC (L := []) hT g_ej Tryz.f252 okP r_ej
abbrev P_ek : List PK := [.val Y54]
abbrev R_ek : List VK := [.s (.own 69 Y68)]
abbrev i_ek_3 : Shp := { slots := [(0, .s (.dat Y54)), (3, .s (.own 69 Y68)), (4, .s (.dat YI))], boxes := [], rows := [] }
abbrev o_ek_3 : List (Ex × Shp) := [(.exit 0, { slots := [(3, .s (.own 69 Y68))], boxes := [], rows := [] })]
def l_ek_3 (rec : i_ek_3.den → Option (denO o_ek_3)) (u3 : i_ek_3.den) : Option (denO o_ek_3) :=
 let v5 := ((u3.1.1.length : Nat) : Int)
 if (ltI u3.1.2.2.1 v5) then
  if 0 ≤ u3.1.2.2.1 then
   ((u3.1.1)[(u3.1.2.2.1).toNat]?).bind fun y6 =>
   (F_ej (y6, ())).bind fun r7 =>
   if 0 ≤ u3.1.2.2.1 ∧ u3.1.2.2.1 < ((u3.1.2.1.length : Nat) : Int) then
    ((u3.1.2.1)[(u3.1.2.2.1).toNat]?).bind fun y8 =>
    let v9 := (u3.1.2.1.set (u3.1.2.2.1).toNat r7.1.1)
    let v10 := (IntKind.i64.wrap (u3.1.2.2.1 + (1 : Int)))
    rec ((u3.1.1, (v9, (v10, ()))), ((), ()))
   else none
  else none
 else
  some (.inl ((u3.1.2.1, ()), ((), ())))
def L_ek_3 (x : i_ek_3.den) : Option (denO o_ek_3) := Qd l_ek_3 lots x
def F_ek (x : denP P_ek) : Option (denV R_ek × denQ P_ek) :=
 let v1 := ((x.1.length : Nat) : Int)
 if v1 = v1 ∧ 0 ≤ v1 ∧ v1 * 40 ≤ 140737488355328 ∧ v1 ≤ 9223372036854775807 then
  (L_ek_3 ((x.1, ((List.replicate (v1).toNat (QbG Y68)), ((0 : Int), ()))), ((), ()))).bind fun z11 =>
  match z11 with
  | .inl x12 =>
   some ((x12.1.1, ()), ())
  | .inr z11_ =>
   none
 else none
abbrev C_ek : Con := ⟨P_ek, R_ek, F_ek, false⟩
abbrev G_ek : Env := [(252, C_ej)]
theorem g_ek : Qe Tryz.prog G_ek := (Qa s_ej Qc)
abbrev c_ek_3 : Cut := ⟨i_ek_3, o_ek_3, fun x => Qd l_ek_3 lots x⟩
theorem t_ek_3 (rec x) : run T G_ek [] (nav Tryz.f199 [1, 1, 0, 1, 0, 0]) (mk 23 i_ek_3 x) (Qx i_ek_3 o_ek_3 rec) = l_ek_3 rec x := by kernel_rfl
theorem k_ek_3 : Qu Tryz.prog 23 (.loop (nav Tryz.f199 [1, 1, 0, 1, 0, 0])) c_ek_3 :=
  Qh (L := []) hT g_ek t_ek_3 okP _
theorem r_ek (x) : Qf T G_ek [(3, c_ek_3)] Tryz.f199 C_ek.ps C_ek.rs x = C_ek.F x := by kernel_rfl
theorem s_ek : Qb Tryz.prog 199 C_ek := fnC (L := [(3, c_ek_3)]) hT g_ek Tryz.f199 (okS okP (okS okP (okS (okS okP (okB (okU k_ek_3))) okP))) r_ek
abbrev P_el : List PK := [.val Y40]
abbrev R_el : List VK := [.s (.dat Y40)]
def F_el (x : denP P_el) : Option (denV R_el × denQ P_el) :=
 some ((x.1, ()), ())
abbrev C_el : Con := ⟨P_el, R_el, F_el, false⟩
abbrev G_el : Env := []
theorem g_el : Qe Tryz.prog G_el := Qc
theorem r_el (x) : Qf T G_el [] Tryz.f253 C_el.ps C_el.rs x = C_el.F x := by kernel_rfl
theorem s_el : Qb Tryz.prog 253 C_el := fnC (L := []) hT g_el Tryz.f253 okP r_el
abbrev P_em : List PK := [.val Y27]
abbrev R_em : List VK := [.s (.own 225 Y40)]
abbrev i_em_3 : Shp := { slots := [(0, .s (.dat Y27)), (3, .s (.own 225 Y40)), (4, .s (.dat YI))], boxes := [], rows := [] }
abbrev o_em_3 : List (Ex × Shp) := [(.exit 0, { slots := [(3, .s (.own 225 Y40))], boxes := [], rows := [] })]
def l_em_3 (rec : i_em_3.den → Option (denO o_em_3)) (u3 : i_em_3.den) : Option (denO o_em_3) :=
 let v5 := ((u3.1.1.length : Nat) : Int)
 if (ltI u3.1.2.2.1 v5) then
  if 0 ≤ u3.1.2.2.1 then
   ((u3.1.1)[(u3.1.2.2.1).toNat]?).bind fun y6 =>
   (F_el (y6, ())).bind fun r7 =>
   if 0 ≤ u3.1.2.2.1 ∧ u3.1.2.2.1 < ((u3.1.2.1.length : Nat) : Int) then
    ((u3.1.2.1)[(u3.1.2.2.1).toNat]?).bind fun y8 =>
    let v9 := (u3.1.2.1.set (u3.1.2.2.1).toNat r7.1.1)
    let v10 := (IntKind.i64.wrap (u3.1.2.2.1 + (1 : Int)))
    rec ((u3.1.1, (v9, (v10, ()))), ((), ()))
   else none
  else none
 else
  some (.inl ((u3.1.2.1, ()), ((), ())))
def L_em_3 (x : i_em_3.den) : Option (denO o_em_3) := Qd l_em_3 lots x
def F_em (x : denP P_em) : Option (denV R_em × denQ P_em) :=
 let v1 := ((x.1.length : Nat) : Int)
 if v1 = v1 ∧ 0 ≤ v1 ∧ v1 * 16 ≤ 140737488355328 ∧ v1 ≤ 9223372036854775807 then
  (L_em_3 ((x.1, ((List.replicate (v1).toNat (QbG Y40)), ((0 : Int), ()))), ((), ()))).bind fun z11 =>
  match z11 with
  | .inl x12 =>
   some ((x12.1.1, ()), ())
  | .inr z11_ =>
   none
 else none
abbrev C_em : Con := ⟨P_em, R_em, F_em, false⟩
abbrev G_em : Env := [(253, C_el)]
theorem g_em : Qe Tryz.prog G_em := (Qa s_el Qc)
abbrev c_em_3 : Cut := ⟨i_em_3, o_em_3, fun x => Qd l_em_3 lots x⟩
theorem t_em_3 (rec x) : run T G_em [] (nav Tryz.f200 [1, 1, 0, 1, 0, 0]) (mk 23 i_em_3 x) (Qx i_em_3 o_em_3 rec) = l_em_3 rec x := by kernel_rfl
theorem k_em_3 : Qu Tryz.prog 23 (.loop (nav Tryz.f200 [1, 1, 0, 1, 0, 0])) c_em_3 :=
  Qh (L := []) hT g_em t_em_3 okP _
theorem r_em (x) : Qf T G_em [(3, c_em_3)] Tryz.f200 C_em.ps C_em.rs x = C_em.F x := by kernel_rfl
theorem s_em : Qb Tryz.prog 200 C_em := fnC (L := [(3, c_em_3)]) hT g_em Tryz.f200 (okS okP (okS okP (okS (okS okP (okB (okU k_em_3))) okP))) r_em
abbrev P_en : List PK := [.val Y40]
abbrev R_en : List VK := [.s (.dat Y40)]
def F_en (x : denP P_en) : Option (denV R_en × denQ P_en) :=
 some ((x.1, ()), ())
abbrev C_en : Con := ⟨P_en, R_en, F_en, false⟩
abbrev G_en : Env := []
theorem g_en : Qe Tryz.prog G_en := Qc
theorem r_en (x) : Qf T G_en [] Tryz.f254 C_en.ps C_en.rs x = C_en.F x := by kernel_rfl
theorem s_en : Qb Tryz.prog 254 C_en := fnC (L := []) hT g_en Tryz.f254 okP r_en
abbrev P_eo : List PK := [.val Y27]
abbrev R_eo : List VK := [.s (.own 136 Y40)]
abbrev i_eo_3 : Shp := { slots := [(0, .s (.dat Y27)), (3, .s (.own 136 Y40)), (4, .s (.dat YI))], boxes := [], rows := [] }
abbrev o_eo_3 : List (Ex × Shp) := [(.exit 0, { slots := [(3, .s (.own 136 Y40))], boxes := [], rows := [] })]
def l_eo_3 (rec : i_eo_3.den → Option (denO o_eo_3)) (u3 : i_eo_3.den) : Option (denO o_eo_3) :=
 let v5 := ((u3.1.1.length : Nat) : Int)
 if (ltI u3.1.2.2.1 v5) then
  if 0 ≤ u3.1.2.2.1 then
   ((u3.1.1)[(u3.1.2.2.1).toNat]?).bind fun y6 =>
   (F_en (y6, ())).bind fun r7 =>
   if 0 ≤ u3.1.2.2.1 ∧ u3.1.2.2.1 < ((u3.1.2.1.length : Nat) : Int) then
    ((u3.1.2.1)[(u3.1.2.2.1).toNat]?).bind fun y8 =>
    let v9 := (u3.1.2.1.set (u3.1.2.2.1).toNat r7.1.1)
    let v10 := (IntKind.i64.wrap (u3.1.2.2.1 + (1 : Int)))
    rec ((u3.1.1, (v9, (v10, ()))), ((), ()))
   else none
  else none
 else
  some (.inl ((u3.1.2.1, ()), ((), ())))
def L_eo_3 (x : i_eo_3.den) : Option (denO o_eo_3) := Qd l_eo_3 lots x
def F_eo (x : denP P_eo) : Option (denV R_eo × denQ P_eo) :=
 let v1 := ((x.1.length : Nat) : Int)
 if v1 = v1 ∧ 0 ≤ v1 ∧ v1 * 16 ≤ 140737488355328 ∧ v1 ≤ 9223372036854775807 then
  (L_eo_3 ((x.1, ((List.replicate (v1).toNat (QbG Y40)), ((0 : Int), ()))), ((), ()))).bind fun z11 =>
  match z11 with
  | .inl x12 =>
   some ((x12.1.1, ()), ())
  | .inr z11_ =>
   none
 else none
abbrev C_eo : Con := ⟨P_eo, R_eo, F_eo, false⟩
abbrev G_eo : Env := [(254, C_en)]
theorem g_eo : Qe Tryz.prog G_eo := (Qa s_en Qc)
abbrev c_eo_3 : Cut := ⟨i_eo_3, o_eo_3, fun x => Qd l_eo_3 lots x⟩
theorem t_eo_3 (rec x) : run T G_eo [] (nav Tryz.f201 [1, 1, 0, 1, 0, 0]) (mk 23 i_eo_3 x) (Qx i_eo_3 o_eo_3 rec) = l_eo_3 rec x := by kernel_rfl
theorem k_eo_3 : Qu Tryz.prog 23 (.loop (nav Tryz.f201 [1, 1, 0, 1, 0, 0])) c_eo_3 :=
  Qh (L := []) hT g_eo t_eo_3 okP _
theorem r_eo (x) : Qf T G_eo [(3, c_eo_3)] Tryz.f201 C_eo.ps C_eo.rs x = C_eo.F x := by kernel_rfl
theorem s_eo : Qb Tryz.prog 201 C_eo := fnC (L := [(3, c_eo_3)]) hT g_eo Tryz.f201 (okS okP (okS okP (okS (okS okP (okB (okU k_eo_3))) okP))) r_eo
abbrev P_ep : List PK := [.val Y57]
abbrev R_ep : List VK := [.g [.own 3000024 Y24, .own 69 Y68, .own 225 Y40, .own 136 Y40]]
def F_ep (x : denP P_ep) : Option (denV R_ep × denQ P_ep) :=
 (F_ei (x.1.1, ())).bind fun r1 =>
 (F_ek (x.1.2.1, ())).bind fun r2 =>
 (F_em (x.1.2.2.1, ())).bind fun r3 =>
 (F_eo (x.1.2.2.2.1, ())).bind fun r4 =>
 some (((r1.1.1, (r2.1.1, (r3.1.1, (r4.1.1, ())))), ()), ())
abbrev C_ep : Con := ⟨P_ep, R_ep, F_ep, false⟩
abbrev G_ep : Env := [(198, C_ei), (199, C_ek), (200, C_em), (201, C_eo)]
theorem g_ep : Qe Tryz.prog G_ep := (Qa s_ei (Qa s_ek (Qa s_em (Qa s_eo Qc))))
theorem r_ep (x) : Qf T G_ep [] Tryz.f112 C_ep.ps C_ep.rs x = C_ep.F x := by kernel_rfl
theorem s_ep : Qb Tryz.prog 112 C_ep := fnC (L := []) hT g_ep Tryz.f112 okP r_ep
abbrev P_eq : List PK := [.val Y25]
abbrev R_eq : List VK := [.g [.own 2 YI, .dat YI, .own 2 YI, .dat .bool, .dat .bool, .dat .bool, .dat YI, .own 2 YI, .own 2 YI]]
def F_eq (x : denP P_eq) : Option (denV R_eq × denQ P_eq) :=
 (F_eh (x.1.1, ())).bind fun r1 =>
 (F_eh (x.1.2.2.1, ())).bind fun r2 =>
 (F_eh (x.1.2.2.2.2.2.2.2.1, ())).bind fun r3 =>
 (F_eh (x.1.2.2.2.2.2.2.2.2.1, ())).bind fun r4 =>
 some (((r1.1.1, (x.1.2.1, (r2.1.1, (x.1.2.2.2.1, (x.1.2.2.2.2.1, (x.1.2.2.2.2.2.1, (x.1.2.2.2.2.2.2.1, (r3.1.1, (r4.1.1, ()))))))))), ()), ())
abbrev C_eq : Con := ⟨P_eq, R_eq, F_eq, false⟩
abbrev G_eq : Env := [(113, C_eh)]
theorem g_eq : Qe Tryz.prog G_eq := (Qa s_eh Qc)
theorem r_eq (x) : Qf T G_eq [] Tryz.f126 C_eq.ps C_eq.rs x = C_eq.F x := by kernel_rfl
theorem s_eq : Qb Tryz.prog 126 C_eq := fnC (L := []) hT g_eq Tryz.f126 okP r_eq
abbrev P_er : List PK := [.val Y61]
abbrev R_er : List VK := [.s (.own 3000026 Y25)]
abbrev i_er_3 : Shp := { slots := [(0, .s (.dat Y61)), (3, .s (.own 3000026 Y25)), (4, .s (.dat YI))], boxes := [], rows := [] }
abbrev o_er_3 : List (Ex × Shp) := [(.exit 0, { slots := [(3, .s (.own 3000026 Y25))], boxes := [], rows := [] })]
def l_er_3 (rec : i_er_3.den → Option (denO o_er_3)) (u3 : i_er_3.den) : Option (denO o_er_3) :=
 let v5 := ((u3.1.1.length : Nat) : Int)
 if (ltI u3.1.2.2.1 v5) then
  if 0 ≤ u3.1.2.2.1 then
   ((u3.1.1)[(u3.1.2.2.1).toNat]?).bind fun y6 =>
   (F_eq (y6, ())).bind fun r7 =>
   if 0 ≤ u3.1.2.2.1 ∧ u3.1.2.2.1 < ((u3.1.2.1.length : Nat) : Int) then
    ((u3.1.2.1)[(u3.1.2.2.1).toNat]?).bind fun y8 =>
    let v9 := (u3.1.2.1.set (u3.1.2.2.1).toNat r7.1.1)
    let v10 := (IntKind.i64.wrap (u3.1.2.2.1 + (1 : Int)))
    rec ((u3.1.1, (v9, (v10, ()))), ((), ()))
   else none
  else none
 else
  some (.inl ((u3.1.2.1, ()), ((), ())))
def L_er_3 (x : i_er_3.den) : Option (denO o_er_3) := Qd l_er_3 lots x
def F_er (x : denP P_er) : Option (denV R_er × denQ P_er) :=
 let v1 := ((x.1.length : Nat) : Int)
 if v1 = v1 ∧ 0 ≤ v1 ∧ v1 * 120 ≤ 140737488355328 ∧ v1 ≤ 9223372036854775807 then
  (L_er_3 ((x.1, ((List.replicate (v1).toNat (QbG Y25)), ((0 : Int), ()))), ((), ()))).bind fun z11 =>
  match z11 with
  | .inl x12 =>
   some ((x12.1.1, ()), ())
  | .inr z11_ =>
   none
 else none
abbrev C_er : Con := ⟨P_er, R_er, F_er, false⟩
abbrev G_er : Env := [(126, C_eq)]
theorem g_er : Qe Tryz.prog G_er := (Qa s_eq Qc)
abbrev c_er_3 : Cut := ⟨i_er_3, o_er_3, fun x => Qd l_er_3 lots x⟩
theorem t_er_3 (rec x) : run T G_er [] (nav Tryz.f114 [1, 1, 0, 1, 0, 0]) (mk 23 i_er_3 x) (Qx i_er_3 o_er_3 rec) = l_er_3 rec x := by kernel_rfl
theorem k_er_3 : Qu Tryz.prog 23 (.loop (nav Tryz.f114 [1, 1, 0, 1, 0, 0])) c_er_3 :=
  Qh (L := []) hT g_er t_er_3 okP _
theorem r_er (x) : Qf T G_er [(3, c_er_3)] Tryz.f114 C_er.ps C_er.rs x = C_er.F x := by kernel_rfl
theorem s_er : Qb Tryz.prog 114 C_er := fnC (L := [(3, c_er_3)]) hT g_er Tryz.f114 (okS okP (okS okP (okS (okS okP (okB (okU k_er_3))) okP))) r_er
abbrev P_es : List PK := [.val Y62]
abbrev R_es : List VK := [.g [.own 3000024 Y24, .own 69 Y68, .own 225 Y40, .own 136 Y40, .own 2 YI, .own 3000026 Y25, .dat YI, .dat YI, .dat YI]]
def F_es (x : denP P_es) : Option (denV R_es × denQ P_es) :=
 (F_ep (x.1.1, ())).bind fun r1 =>
 (F_eh (x.1.2.1, ())).bind fun r2 =>
 (F_er (x.1.2.2.1, ())).bind fun r3 =>
 some (((r1.1.1.1, (r1.1.1.2.1, (r1.1.1.2.2.1, (r1.1.1.2.2.2.1, (r2.1.1, (r3.1.1, (x.1.2.2.2.1, (x.1.2.2.2.2.1, (x.1.2.2.2.2.2.1, ()))))))))), ()), ())
abbrev C_es : Con := ⟨P_es, R_es, F_es, false⟩
abbrev G_es : Env := [(112, C_ep), (113, C_eh), (114, C_er)]
theorem g_es : Qe Tryz.prog G_es := (Qa s_ep (Qa s_eh (Qa s_er Qc)))
theorem r_es (x) : Qf T G_es [] Tryz.f44 C_es.ps C_es.rs x = C_es.F x := by kernel_rfl
theorem s_es : Qb Tryz.prog 44 C_es := fnC (L := []) hT g_es Tryz.f44 okP r_es
abbrev P_d : List PK := [.val YI, .val YI, .val YI]
abbrev R_d : List VK := [.s (.dat .bool)]
def F_d (x : denP P_d) : Option (denV R_d × denQ P_d) :=
 if (leI x.2.1 x.1) = true then
  some (((leI x.1 x.2.2.1), ()), ())
 else
  some ((false, ()), ())
abbrev C_d : Con := ⟨P_d, R_d, F_d, false⟩
abbrev G_d : Env := []
theorem g_d : Qe Tryz.prog G_d := Qc
theorem r_d (x) : Qf T G_d [] Tryz.f59 C_d.ps C_d.rs x = C_d.F x := by kernel_rfl
theorem s_d : Qb Tryz.prog 59 C_d := fnC (L := []) hT g_d Tryz.f59 okP r_d
abbrev P_et : List PK := [.val Y24, .val YI]
abbrev R_et : List VK := [.s (.dat .bool)]
abbrev i_et_2 : Shp := { slots := [(0, .s (.dat Y24)), (1, .s (.dat YI)), (5, .s (.dat YI))], boxes := [], rows := [] }
abbrev o_et_2 : List (Ex × Shp) := [(.exit 0, { slots := [], boxes := [], rows := [] }), (.ret, { slots := [(4, .s (.dat .bool))], boxes := [], rows := [] })]
def l_et_2 (rec : i_et_2.den → Option (denO o_et_2)) (u2 : i_et_2.den) : Option (denO o_et_2) :=
 let v2 := ((u2.1.1.length : Nat) : Int)
 if (ltI u2.1.2.2.1 v2) then
  if 0 ≤ u2.1.2.2.1 then
   ((u2.1.1)[(u2.1.2.2.1).toNat]?).bind fun y3 =>
   if (y3 == u2.1.2.1) then
    some (.inr (.inl ((true, ()), ((), ()))))
   else
    let v4 := (IntKind.i64.wrap (u2.1.2.2.1 + (1 : Int)))
    rec ((u2.1.1, (u2.1.2.1, (v4, ()))), ((), ()))
  else none
 else
  some (.inl ((), ((), ())))
def L_et_2 (x : i_et_2.den) : Option (denO o_et_2) := Qd l_et_2 lots x
def F_et (x : denP P_et) : Option (denV R_et × denQ P_et) :=
 (L_et_2 ((x.1, (x.2.1, ((0 : Int), ()))), ((), ()))).bind fun z5 =>
 match z5 with
 | .inl x6 =>
  some ((false, ()), ())
 | .inr z5_ =>
  match z5_ with
  | .inl x7 =>
   some ((x7.1.1, ()), ())
  | .inr z5__ =>
   none
abbrev C_et : Con := ⟨P_et, R_et, F_et, false⟩
abbrev G_et : Env := []
theorem g_et : Qe Tryz.prog G_et := Qc
abbrev c_et_2 : Cut := ⟨i_et_2, o_et_2, fun x => Qd l_et_2 lots x⟩
theorem t_et_2 (rec x) : run T G_et [] (nav Tryz.f282 [1, 0, 1, 0, 0]) (mk 18 i_et_2 x) (Qx i_et_2 o_et_2 rec) = l_et_2 rec x := by kernel_rfl
theorem k_et_2 : Qu Tryz.prog 18 (.loop (nav Tryz.f282 [1, 0, 1, 0, 0])) c_et_2 :=
  Qh (L := []) hT g_et t_et_2 okP _
theorem r_et (x) : Qf T G_et [(2, c_et_2)] Tryz.f282 C_et.ps C_et.rs x = C_et.F x := by kernel_rfl
theorem s_et : Qb Tryz.prog 282 C_et := fnC (L := [(2, c_et_2)]) hT g_et Tryz.f282 (okS okP (okS (okS okP (okB (okU k_et_2))) okP)) r_et
abbrev P_eu : List PK := [.ptr Y57]
abbrev R_eu : List VK := [.s (.dat YI)]
abbrev i_eu_18 : Shp := { slots := [(0, .s (.pd Y57)), (5, .s (.own 2 YI)), (6, .s (.dat YI)), (7, .s (.dat YI))], boxes := [], rows := [] }
abbrev o_eu_18 : List (Ex × Shp) := [(.exit 6, { slots := [(0, .s (.pd Y57)), (5, .s (.own 2 YI)), (6, .s (.dat YI))], boxes := [], rows := [] }), (.ret, { slots := [(2, .s (.dat YI))], boxes := [], rows := [] })]
def l_eu_18 (rec : i_eu_18.den → Option (denO o_eu_18)) (u18 : i_eu_18.den) : Option (denO o_eu_18) :=
 if 0 ≤ u18.1.2.2.1 then
  ((u18.1.1.1)[(u18.1.2.2.1).toNat]?).bind fun y49 =>
  let v50 := ((y49.length : Nat) : Int)
  if (ltI u18.1.2.2.2.1 v50) then
   if 0 ≤ u18.1.2.2.1 then
    ((u18.1.1.1)[(u18.1.2.2.1).toNat]?).bind fun y51 =>
    if 0 ≤ u18.1.2.2.2.1 then
     ((y51)[(u18.1.2.2.2.1).toNat]?).bind fun y52 =>
     (F_et (u18.1.2.1, y52, ())).bind fun r53 =>
     if r53.1.1 then
      some (.inr (.inl (((6 : Int), ()), ((), ()))))
     else
      if 0 ≤ u18.1.2.2.1 then
       ((u18.1.1.1)[(u18.1.2.2.1).toNat]?).bind fun y54 =>
       if 0 ≤ u18.1.2.2.2.1 then
        ((y54)[(u18.1.2.2.2.1).toNat]?).bind fun y55 =>
        if (u18.1.2.1.length + [y55].length) * 8 ≤ 140737488355328 then
         let v56 := (u18.1.2.1 ++ [y55])
         let v57 := (IntKind.i64.wrap (u18.1.2.2.2.1 + (1 : Int)))
         rec ((u18.1.1, (v56, (u18.1.2.2.1, (v57, ())))), ((), ()))
        else none
       else none
      else none
    else none
   else none
  else
   some (.inl ((u18.1.1, (u18.1.2.1, (u18.1.2.2.1, ()))), ((), ())))
 else none
def L_eu_18 (x : i_eu_18.den) : Option (denO o_eu_18) := Qd l_eu_18 lots x
abbrev i_eu_9 : Shp := { slots := [(0, .s (.pd Y57)), (3, .s (.dat YI)), (4, .s (.dat YI)), (41, .s (.pd Y57)), (42, .s (.pd Y57)), (43, .s (.pd Y53)), (44, .s (.dat Y53)), (45, .s (.dat YI)), (46, .s (.pd Y24)), (47, .s (.dat Y24)), (48, .s (.dat YI)), (49, .s (.dat .bool))], boxes := [], rows := [] }
abbrev o_eu_9 : List (Ex × Shp) := [(.exit 2, { slots := [(0, .s (.pd Y57)), (3, .s (.dat YI)), (41, .s (.pd Y57)), (42, .s (.pd Y57)), (43, .s (.pd Y53)), (44, .s (.dat Y53)), (45, .s (.dat YI)), (46, .s (.pd Y24)), (47, .s (.dat Y24)), (48, .s (.dat YI)), (49, .s (.dat .bool))], boxes := [], rows := [] }), (.ret, { slots := [(2, .s (.dat YI))], boxes := [], rows := [] })]
def l_eu_9 (rec : i_eu_9.den → Option (denO o_eu_9)) (u9 : i_eu_9.den) : Option (denO o_eu_9) :=
 if 0 ≤ u9.1.2.1 then
  ((u9.1.1.1)[(u9.1.2.1).toNat]?).bind fun y21 =>
  let v22 := ((y21.length : Nat) : Int)
  if (ltI u9.1.2.2.1 v22) then
   if 0 ≤ u9.1.2.1 then
    ((u9.1.1.1)[(u9.1.2.1).toNat]?).bind fun y23 =>
    if 0 ≤ u9.1.2.2.1 then
     ((y23)[(u9.1.2.2.1).toNat]?).bind fun y24 =>
     (F_d (y24, (0 : Int), (23 : Int), ())).bind fun r25 =>
     if (!r25.1.1) then
      some (.inr (.inl (((3 : Int), ()), ((), ()))))
     else
      let v26 := (IntKind.i64.wrap (u9.1.2.2.1 + (1 : Int)))
      rec ((u9.1.1, (u9.1.2.1, (v26, (u9.1.2.2.2.1, (u9.1.2.2.2.2.1, (u9.1.2.2.2.2.2.1, (u9.1.2.2.2.2.2.2.1, (u9.1.2.2.2.2.2.2.2.1, (u9.1.2.2.2.2.2.2.2.2.1, (u9.1.2.2.2.2.2.2.2.2.2.1, (u9.1.2.2.2.2.2.2.2.2.2.2.1, (u9.1.2.2.2.2.2.2.2.2.2.2.2.1, ())))))))))))), ((), ()))
    else none
   else none
  else
   some (.inl ((u9.1.1, (u9.1.2.1, (u9.1.2.2.2.1, (u9.1.2.2.2.2.1, (u9.1.2.2.2.2.2.1, (u9.1.2.2.2.2.2.2.1, (u9.1.2.2.2.2.2.2.2.1, (u9.1.2.2.2.2.2.2.2.2.1, (u9.1.2.2.2.2.2.2.2.2.2.1, (u9.1.2.2.2.2.2.2.2.2.2.2.1, (u9.1.2.2.2.2.2.2.2.2.2.2.2.1, ()))))))))))), ((), ())))
 else none
def L_eu_9 (x : i_eu_9.den) : Option (denO o_eu_9) := Qd l_eu_9 lots x
abbrev i_eu_15 : Shp := { slots := [(0, .s (.pd Y57)), (5, .s (.own 2 YI)), (6, .s (.dat YI))], boxes := [], rows := [] }
abbrev o_eu_15 : List (Ex × Shp) := [(.exit 4, { slots := [], boxes := [], rows := [] }), (.ret, { slots := [(2, .s (.dat YI))], boxes := [], rows := [] })]
def l_eu_15 (rec : i_eu_15.den → Option (denO o_eu_15)) (u15 : i_eu_15.den) : Option (denO o_eu_15) :=
 let v42 := ((u15.1.1.1.length : Nat) : Int)
 if (ltI u15.1.2.2.1 v42) then
  (L_eu_18 ((u15.1.1, (u15.1.2.1, (u15.1.2.2.1, ((0 : Int), ())))), ((), ()))).bind fun z58 =>
  match z58 with
  | .inl x59 =>
   let v60 := (IntKind.i64.wrap (x59.1.2.2.1 + (1 : Int)))
   rec ((x59.1.1, (x59.1.2.1, (v60, ()))), ((), ()))
  | .inr z58_ =>
   match z58_ with
   | .inl x61 =>
    some (.inr (.inl ((x61.1.1, ()), ((), ()))))
   | .inr z58__ =>
    none
 else
  some (.inl ((), ((), ())))
def L_eu_15 (x : i_eu_15.den) : Option (denO o_eu_15) := Qd l_eu_15 lots x
abbrev i_eu_4 : Shp := { slots := [(0, .s (.pd Y57)), (3, .s (.dat YI))], boxes := [], rows := [] }
abbrev o_eu_4 : List (Ex × Shp) := [(.exit 0, { slots := [(0, .s (.pd Y57))], boxes := [], rows := [] }), (.ret, { slots := [(2, .s (.dat YI))], boxes := [], rows := [] })]
def l_eu_4 (rec : i_eu_4.den → Option (denO o_eu_4)) (u4 : i_eu_4.den) : Option (denO o_eu_4) :=
 let v12 := ((u4.1.1.1.length : Nat) : Int)
 if (ltI u4.1.2.1 v12) then
  if 0 ≤ u4.1.2.1 then
   ((u4.1.1.1)[(u4.1.2.1).toNat]?).bind fun y13 =>
   let v14 := ((y13.length : Nat) : Int)
   if (ltI v14 (1 : Int)) = false then
    if 0 ≤ u4.1.2.1 then
     ((u4.1.1.1)[(u4.1.2.1).toNat]?).bind fun y15 =>
     let v16 := ((y15.length : Nat) : Int)
     if (ltI (5 : Int) v16) then
      some (.inr (.inl (((2 : Int), ()), ((), ()))))
     else
      (L_eu_9 ((u4.1.1, (u4.1.2.1, ((0 : Int), (u4.1.1, (u4.1.1, (u4.1.1.1, (u4.1.1.1, (u4.1.2.1, (y15, (y15, (v16, ((ltI (5 : Int) v16), ())))))))))))), ((), ()))).bind fun z27 =>
      match z27 with
      | .inl x28 =>
       let v29 := (IntKind.i64.wrap (x28.1.2.1 + (1 : Int)))
       rec ((x28.1.1, (v29, ())), ((), ()))
      | .inr z27_ =>
       match z27_ with
       | .inl x30 =>
        some (.inr (.inl ((x30.1.1, ()), ((), ()))))
       | .inr z27__ =>
        none
    else none
   else
    some (.inr (.inl (((2 : Int), ()), ((), ()))))
  else none
 else
  some (.inl ((u4.1.1, ()), ((), ())))
def L_eu_4 (x : i_eu_4.den) : Option (denO o_eu_4) := Qd l_eu_4 lots x
def F_eu (x : denP P_eu) : Option (denV R_eu × denQ P_eu) :=
 let v1 := ((x.1.1.length : Nat) : Int)
 if (ltI v1 (1 : Int)) = false then
  let v2 := ((x.1.1.length : Nat) : Int)
  if (ltI (3 : Int) v2) then
   some (((2 : Int), ()), ())
  else
   (L_eu_4 ((x.1, ((0 : Int), ())), ((), ()))).bind fun z31 =>
   match z31 with
   | .inl x32 =>
    (L_eu_15 ((x32.1.1, (([] : List (den YI)), ((0 : Int), ()))), ((), ()))).bind fun z62 =>
    match z62 with
    | .inl x63 =>
     some (((0 : Int), ()), ())
    | .inr z62_ =>
     match z62_ with
     | .inl x64 =>
      some ((x64.1.1, ()), ())
     | .inr z62__ =>
      none
   | .inr z31_ =>
    match z31_ with
    | .inl x65 =>
     some ((x65.1.1, ()), ())
    | .inr z31__ =>
     none
 else
  some (((2 : Int), ()), ())
abbrev C_eu : Con := ⟨P_eu, R_eu, F_eu, false⟩
abbrev G_eu : Env := [(59, C_d), (282, C_et)]
theorem g_eu : Qe Tryz.prog G_eu := (Qa s_d (Qa s_et Qc))
abbrev c_eu_18 : Cut := ⟨i_eu_18, o_eu_18, fun x => Qd l_eu_18 lots x⟩
theorem t_eu_18 (rec x) : run T G_eu [] (nav Tryz.f234 [1, 1, 1, 1, 0, 1, 0, 0, 1, 0, 0, 1, 0, 0]) (mk 122 i_eu_18 x) (Qx i_eu_18 o_eu_18 rec) = l_eu_18 rec x := by kernel_rfl
theorem k_eu_18 : Qu Tryz.prog 122 (.loop (nav Tryz.f234 [1, 1, 1, 1, 0, 1, 0, 0, 1, 0, 0, 1, 0, 0])) c_eu_18 :=
  Qh (L := []) hT g_eu t_eu_18 okP _
abbrev c_eu_9 : Cut := ⟨i_eu_9, o_eu_9, fun x => Qd l_eu_9 lots x⟩
theorem t_eu_9 (rec x) : run T G_eu [] (nav Tryz.f234 [1, 1, 0, 1, 0, 0, 1, 0, 0, 1, 1, 0, 0]) (mk 122 i_eu_9 x) (Qx i_eu_9 o_eu_9 rec) = l_eu_9 rec x := by kernel_rfl
theorem k_eu_9 : Qu Tryz.prog 122 (.loop (nav Tryz.f234 [1, 1, 0, 1, 0, 0, 1, 0, 0, 1, 1, 0, 0])) c_eu_9 :=
  Qh (L := []) hT g_eu t_eu_9 okP _
abbrev c_eu_15 : Cut := ⟨i_eu_15, o_eu_15, fun x => Qd l_eu_15 lots x⟩
theorem t_eu_15 (rec x) : run T G_eu [(18, c_eu_18)] (nav Tryz.f234 [1, 1, 1, 1, 0, 1, 0, 0]) (mk 122 i_eu_15 x) (Qx i_eu_15 o_eu_15 rec) = l_eu_15 rec x := by kernel_rfl
theorem k_eu_15 : Qu Tryz.prog 122 (.loop (nav Tryz.f234 [1, 1, 1, 1, 0, 1, 0, 0])) c_eu_15 :=
  Qh (L := [(18, c_eu_18)]) hT g_eu t_eu_15 (okS okP (okS (okB (okS okP (okB (okU k_eu_18)))) okP)) _
abbrev c_eu_4 : Cut := ⟨i_eu_4, o_eu_4, fun x => Qd l_eu_4 lots x⟩
theorem t_eu_4 (rec x) : run T G_eu [(9, c_eu_9)] (nav Tryz.f234 [1, 1, 0, 1, 0, 0]) (mk 122 i_eu_4 x) (Qx i_eu_4 o_eu_4 rec) = l_eu_4 rec x := by kernel_rfl
theorem k_eu_4 : Qu Tryz.prog 122 (.loop (nav Tryz.f234 [1, 1, 0, 1, 0, 0])) c_eu_4 :=
  Qh (L := [(9, c_eu_9)]) hT g_eu t_eu_4 (okS okP (okS (okB (okS okP (okS okP (okB (okU k_eu_9))))) okP)) _
theorem r_eu (x) : Qf T G_eu [(18, c_eu_18), (9, c_eu_9), (15, c_eu_15), (4, c_eu_4)] Tryz.f234 C_eu.ps C_eu.rs x = C_eu.F x := by kernel_rfl
theorem s_eu : Qb Tryz.prog 234 C_eu := fnC (L := [(18, c_eu_18), (9, c_eu_9), (15, c_eu_15), (4, c_eu_4)]) hT g_eu Tryz.f234 (okS okP (okS okP (okS (okS okP (okB (okU k_eu_4))) (okS okP (okS (okS okP (okB (okU k_eu_15))) okP))))) r_eu
abbrev P_ev : List PK := [.ptr Y57, .val YI]
abbrev R_ev : List VK := [.s (.dat .bool)]
def F_ev (x : denP P_ev) : Option (denV R_ev × denQ P_ev) :=
 let v1 := ((x.1.1.length : Nat) : Int)
 let v2 := (IntKind.i64.wrap (v1 - (1 : Int)))
 (F_d (x.2.1, (0 : Int), v2, ())).bind fun r3 =>
 some ((r3.1.1, ()), ())
abbrev C_ev : Con := ⟨P_ev, R_ev, F_ev, false⟩
abbrev G_ev : Env := [(59, C_d)]
theorem g_ev : Qe Tryz.prog G_ev := (Qa s_d Qc)
theorem r_ev (x) : Qf T G_ev [] Tryz.f106 C_ev.ps C_ev.rs x = C_ev.F x := by kernel_rfl
theorem s_ev : Qb Tryz.prog 106 C_ev := fnC (L := []) hT g_ev Tryz.f106 okP r_ev
abbrev P_ew : List PK := [.ptr Y57, .val YI, .val YI]
abbrev R_ew : List VK := [.s (.dat YI)]
def F_ew (x : denP P_ew) : Option (denV R_ew × denQ P_ew) :=
 (F_ev (x.1, x.2.1, ())).bind fun r1 =>
 if (!r1.1.1) = false then
  (F_ev (x.1, x.2.2.1, ())).bind fun r2 =>
  if (!r2.1.1) then
   some (((4 : Int), ()), ())
  else
   if (x.2.1 == x.2.2.1) then
    some (((1 : Int), ()), ())
   else
    some (((0 : Int), ()), ())
 else
  some (((4 : Int), ()), ())
abbrev C_ew : Con := ⟨P_ew, R_ew, F_ew, false⟩
abbrev G_ew : Env := [(106, C_ev)]
theorem g_ew : Qe Tryz.prog G_ew := (Qa s_ev Qc)
theorem r_ew (x) : Qf T G_ew [] Tryz.f283 C_ew.ps C_ew.rs x = C_ew.F x := by kernel_rfl
theorem s_ew : Qb Tryz.prog 283 C_ew := fnC (L := []) hT g_ew Tryz.f283 okP r_ew
abbrev P_ex : List PK := [.ptr Y57, .val YI]
abbrev R_ex : List VK := [.s (.dat YI)]
abbrev i_ex_2 : Shp := { slots := [(0, .s (.pd Y57)), (1, .s (.dat YI)), (5, .s (.dat YI))], boxes := [], rows := [] }
abbrev o_ex_2 : List (Ex × Shp) := [(.exit 0, { slots := [], boxes := [], rows := [] }), (.ret, { slots := [(4, .s (.dat YI))], boxes := [], rows := [] })]
def l_ex_2 (rec : i_ex_2.den → Option (denO o_ex_2)) (u2 : i_ex_2.den) : Option (denO o_ex_2) :=
 let v3 := ((u2.1.1.1.length : Nat) : Int)
 if (ltI u2.1.2.2.1 v3) then
  if 0 ≤ u2.1.2.2.1 then
   ((u2.1.1.1)[(u2.1.2.2.1).toNat]?).bind fun y4 =>
   (F_et (y4, u2.1.2.1, ())).bind fun r5 =>
   if r5.1.1 then
    some (.inr (.inl ((u2.1.2.2.1, ()), ((), ()))))
   else
    let v6 := (IntKind.i64.wrap (u2.1.2.2.1 + (1 : Int)))
    rec ((u2.1.1, (u2.1.2.1, (v6, ()))), ((), ()))
  else none
 else
  some (.inl ((), ((), ())))
def L_ex_2 (x : i_ex_2.den) : Option (denO o_ex_2) := Qd l_ex_2 lots x
def F_ex (x : denP P_ex) : Option (denV R_ex × denQ P_ex) :=
 (L_ex_2 ((x.1, (x.2.1, ((0 : Int), ()))), ((), ()))).bind fun z7 =>
 match z7 with
 | .inl x8 =>
  some (((-1 : Int), ()), ())
 | .inr z7_ =>
  match z7_ with
  | .inl x9 =>
   some ((x9.1.1, ()), ())
  | .inr z7__ =>
   none
abbrev C_ex : Con := ⟨P_ex, R_ex, F_ex, false⟩
abbrev G_ex : Env := [(282, C_et)]
theorem g_ex : Qe Tryz.prog G_ex := (Qa s_et Qc)
abbrev c_ex_2 : Cut := ⟨i_ex_2, o_ex_2, fun x => Qd l_ex_2 lots x⟩
theorem t_ex_2 (rec x) : run T G_ex [] (nav Tryz.f284 [1, 0, 1, 0, 0]) (mk 25 i_ex_2 x) (Qx i_ex_2 o_ex_2 rec) = l_ex_2 rec x := by kernel_rfl
theorem k_ex_2 : Qu Tryz.prog 25 (.loop (nav Tryz.f284 [1, 0, 1, 0, 0])) c_ex_2 :=
  Qh (L := []) hT g_ex t_ex_2 okP _
theorem r_ex (x) : Qf T G_ex [(2, c_ex_2)] Tryz.f284 C_ex.ps C_ex.rs x = C_ex.F x := by kernel_rfl
theorem s_ex : Qb Tryz.prog 284 C_ex := fnC (L := [(2, c_ex_2)]) hT g_ex Tryz.f284 (okS okP (okS (okS okP (okB (okU k_ex_2))) okP)) r_ex
abbrev P_ey : List PK := [.val Y68, .val YI, .val YI]
abbrev R_ey : List VK := [.s (.dat .bool)]
def F_ey (x : denP P_ey) : Option (denV R_ey × denQ P_ey) :=
 if (x.1.1 == x.2.1) = true then
  if (x.1.2.2.2.1 == x.2.2.1) = false then
   if (x.1.2.1 == x.2.1) = true then
    some (((x.1.2.2.2.2.1 == x.2.2.1), ()), ())
   else
    some ((false, ()), ())
  else
   some ((true, ()), ())
 else
  if (x.1.2.1 == x.2.1) = true then
   some (((x.1.2.2.2.2.1 == x.2.2.1), ()), ())
  else
   some ((false, ()), ())
abbrev C_ey : Con := ⟨P_ey, R_ey, F_ey, false⟩
abbrev G_ey : Env := []
theorem g_ey : Qe Tryz.prog G_ey := Qc
theorem r_ey (x) : Qf T G_ey [] Tryz.f285 C_ey.ps C_ey.rs x = C_ey.F x := by kernel_rfl
theorem s_ey : Qb Tryz.prog 285 C_ey := fnC (L := []) hT g_ey Tryz.f285 okP r_ey
abbrev P_ez : List PK := [.ptr Y57]
abbrev R_ez : List VK := [.s (.dat YI)]
abbrev i_ez_15 : Shp := { slots := [(0, .s (.pd Y57)), (3, .s (.dat YI)), (4, .s (.ptr 4 0)), (6, .s (.dat YI)), (52, .s (.ptr 4 3)), (53, .s (.dat YI)), (54, .s (.dat .bool)), (55, .s (.dat .bool)), (58, .s (.ptr 4 4)), (59, .s (.dat YI)), (60, .s (.dat .bool)), (61, .s (.dat .bool))], boxes := [(4, [.dat YI, .dat YI, .dat YI, .dat YI, .dat YI])], rows := [] }
abbrev o_ez_15 : List (Ex × Shp) := [(.exit 2, { slots := [(0, .s (.pd Y57)), (3, .s (.dat YI)), (52, .s (.ptr 4 3)), (53, .s (.dat YI)), (54, .s (.dat .bool)), (55, .s (.dat .bool)), (58, .s (.ptr 4 4)), (59, .s (.dat YI)), (60, .s (.dat .bool)), (61, .s (.dat .bool))], boxes := [(4, [.dat YI, .dat YI, .dat YI, .dat YI, .dat YI])], rows := [] }), (.ret, { slots := [(2, .s (.dat YI))], boxes := [], rows := [] })]
def l_ez_15 (rec : i_ez_15.den → Option (denO o_ez_15)) (u15 : i_ez_15.den) : Option (denO o_ez_15) :=
 if (ltI u15.1.2.2.2.1 u15.1.2.1) then
  if 0 ≤ u15.1.2.2.2.1 then
   ((u15.1.1.2.1)[(u15.1.2.2.2.1).toNat]?).bind fun y25 =>
   if (y25.2.2.1 == u15.2.1.1.2.2.1) = false then
    (F_ey (y25, u15.2.1.1.1, u15.2.1.1.2.2.2.1, ())).bind fun r26 =>
    if r26.1.1 = false then
     (F_ey (y25, u15.2.1.1.2.1, u15.2.1.1.2.2.2.2.1, ())).bind fun r27 =>
     if r27.1.1 then
      some (.inr (.inl (((6 : Int), ()), ((), ()))))
     else
      let v28 := (IntKind.i64.wrap (u15.1.2.2.2.1 + (1 : Int)))
      rec ((u15.1.1, (u15.1.2.1, ((), (v28, ((), (u15.1.2.2.2.2.2.1, (u15.1.2.2.2.2.2.2.1, (u15.1.2.2.2.2.2.2.2.1, ((), (u15.1.2.2.2.2.2.2.2.2.2.1, (u15.1.2.2.2.2.2.2.2.2.2.2.1, (u15.1.2.2.2.2.2.2.2.2.2.2.2.1, ())))))))))))), ((u15.2.1.1, ()), ()))
    else
     some (.inr (.inl (((6 : Int), ()), ((), ()))))
   else
    some (.inr (.inl (((6 : Int), ()), ((), ()))))
  else none
 else
  some (.inl ((u15.1.1, (u15.1.2.1, ((), (u15.1.2.2.2.2.2.1, (u15.1.2.2.2.2.2.2.1, (u15.1.2.2.2.2.2.2.2.1, ((), (u15.1.2.2.2.2.2.2.2.2.2.1, (u15.1.2.2.2.2.2.2.2.2.2.2.1, (u15.1.2.2.2.2.2.2.2.2.2.2.2.1, ())))))))))), ((u15.2.1.1, ()), ())))
def L_ez_15 (x : i_ez_15.den) : Option (denO o_ez_15) := Qd l_ez_15 lots x
abbrev i_ez_4 : Shp := { slots := [(0, .s (.pd Y57)), (3, .s (.dat YI))], boxes := [], rows := [] }
abbrev o_ez_4 : List (Ex × Shp) := [(.exit 0, { slots := [], boxes := [], rows := [] }), (.ret, { slots := [(2, .s (.dat YI))], boxes := [], rows := [] })]
def l_ez_4 (rec : i_ez_4.den → Option (denO o_ez_4)) (u4 : i_ez_4.den) : Option (denO o_ez_4) :=
 let v15 := ((u4.1.1.2.1.length : Nat) : Int)
 if (ltI u4.1.2.1 v15) then
  if 0 ≤ u4.1.2.1 then
   ((u4.1.1.2.1)[(u4.1.2.1).toNat]?).bind fun y16 =>
   (F_ew (u4.1.1, y16.1, y16.2.1, ())).bind fun r17 =>
   if (r17.1.1 != (0 : Int)) then
    some (.inr (.inl ((r17.1.1, ()), ((), ()))))
   else
    (F_d (y16.2.2.1, (0 : Int), (23 : Int), ())).bind fun r18 =>
    if (!r18.1.1) = false then
     (F_d (y16.2.2.2.1, (5 : Int), (6 : Int), ())).bind fun r19 =>
     if (!r19.1.1) = false then
      (F_d (y16.2.2.2.2.1, (5 : Int), (6 : Int), ())).bind fun r20 =>
      if (!r20.1.1) then
       some (.inr (.inl (((3 : Int), ()), ((), ()))))
      else
       (F_ex (u4.1.1, y16.2.2.1, ())).bind fun r21 =>
       if (leI (0 : Int) r21.1.1) then
        some (.inr (.inl (((6 : Int), ()), ((), ()))))
       else
        (L_ez_15 ((u4.1.1, (u4.1.2.1, ((), ((0 : Int), ((), (y16.2.2.2.1, (r19.1.1, ((!r19.1.1), ((), (y16.2.2.2.2.1, (r20.1.1, ((!r20.1.1), ())))))))))))), (((y16.1, (y16.2.1, (y16.2.2.1, (y16.2.2.2.1, (y16.2.2.2.2.1, ()))))), ()), ()))).bind fun z29 =>
        match z29 with
        | .inl x30 =>
         let v31 := (IntKind.i64.wrap (x30.1.2.1 + (1 : Int)))
         rec ((x30.1.1, (v31, ())), ((), ()))
        | .inr z29_ =>
         match z29_ with
         | .inl x32 =>
          some (.inr (.inl ((x32.1.1, ()), ((), ()))))
         | .inr z29__ =>
          none
     else
      some (.inr (.inl (((3 : Int), ()), ((), ()))))
    else
     some (.inr (.inl (((3 : Int), ()), ((), ()))))
  else none
 else
  some (.inl ((), ((), ())))
def L_ez_4 (x : i_ez_4.den) : Option (denO o_ez_4) := Qd l_ez_4 lots x
def F_ez (x : denP P_ez) : Option (denV R_ez × denQ P_ez) :=
 let v1 := ((x.1.2.1.length : Nat) : Int)
 if (ltI (4 : Int) v1) = false then
  let v2 := ((x.1.2.2.1.length : Nat) : Int)
  if (ltI (4 : Int) v2) then
   some (((2 : Int), ()), ())
  else
   (L_ez_4 ((x.1, ((0 : Int), ())), ((), ()))).bind fun z33 =>
   match z33 with
   | .inl x34 =>
    some (((0 : Int), ()), ())
   | .inr z33_ =>
    match z33_ with
    | .inl x35 =>
     some ((x35.1.1, ()), ())
    | .inr z33__ =>
     none
 else
  some (((2 : Int), ()), ())
abbrev C_ez : Con := ⟨P_ez, R_ez, F_ez, false⟩
abbrev G_ez : Env := [(59, C_d), (283, C_ew), (284, C_ex), (285, C_ey)]
theorem g_ez : Qe Tryz.prog G_ez := (Qa s_d (Qa s_ew (Qa s_ex (Qa s_ey Qc))))
abbrev c_ez_15 : Cut := ⟨i_ez_15, o_ez_15, fun x => Qd l_ez_15 lots x⟩
theorem t_ez_15 (rec x) : run T G_ez [] (nav Tryz.f235 [1, 1, 0, 1, 0, 0, 1, 0, 0, 1, 1, 1, 1, 1, 0, 0]) (mk 101 i_ez_15 x) (Qx i_ez_15 o_ez_15 rec) = l_ez_15 rec x := by kernel_rfl
theorem k_ez_15 : Qu Tryz.prog 101 (.loop (nav Tryz.f235 [1, 1, 0, 1, 0, 0, 1, 0, 0, 1, 1, 1, 1, 1, 0, 0])) c_ez_15 :=
  Qh (L := []) hT g_ez t_ez_15 okP _
abbrev c_ez_4 : Cut := ⟨i_ez_4, o_ez_4, fun x => Qd l_ez_4 lots x⟩
theorem t_ez_4 (rec x) : run T G_ez [(15, c_ez_15)] (nav Tryz.f235 [1, 1, 0, 1, 0, 0]) (mk 101 i_ez_4 x) (Qx i_ez_4 o_ez_4 rec) = l_ez_4 rec x := by kernel_rfl
theorem k_ez_4 : Qu Tryz.prog 101 (.loop (nav Tryz.f235 [1, 1, 0, 1, 0, 0])) c_ez_4 :=
  Qh (L := [(15, c_ez_15)]) hT g_ez t_ez_4 (okS okP (okS (okB (okS okP (okS okP (okS okP (okS okP (okS okP (okB (okU k_ez_15)))))))) okP)) _
theorem r_ez (x) : Qf T G_ez [(15, c_ez_15), (4, c_ez_4)] Tryz.f235 C_ez.ps C_ez.rs x = C_ez.F x := by kernel_rfl
theorem s_ez : Qb Tryz.prog 235 C_ez := fnC (L := [(15, c_ez_15), (4, c_ez_4)]) hT g_ez Tryz.f235 (okS okP (okS okP (okS (okS okP (okB (okU k_ez_4))) okP))) r_ez
abbrev P_fa : List PK := [.ptr Y57]
abbrev R_fa : List VK := [.s (.dat YI)]
abbrev i_fa_9 : Shp := { slots := [(0, .s (.pd Y57)), (3, .s (.dat YI)), (4, .s (.ptr 4 0)), (6, .s (.dat YI))], boxes := [(4, [.dat YI, .dat YI])], rows := [] }
abbrev o_fa_9 : List (Ex × Shp) := [(.exit 2, { slots := [(0, .s (.pd Y57)), (3, .s (.dat YI))], boxes := [], rows := [] }), (.ret, { slots := [(2, .s (.dat YI))], boxes := [], rows := [] })]
def l_fa_9 (rec : i_fa_9.den → Option (denO o_fa_9)) (u9 : i_fa_9.den) : Option (denO o_fa_9) :=
 if (ltI u9.1.2.2.2.1 u9.1.2.1) then
  if 0 ≤ u9.1.2.2.2.1 then
   ((u9.1.1.2.2.1)[(u9.1.2.2.2.1).toNat]?).bind fun y11 =>
   if ((y11.1 == u9.2.1.1.1) && ((y11.2.1 == u9.2.1.1.2.1) && true)) then
    some (.inr (.inl (((6 : Int), ()), ((), ()))))
   else
    let v12 := (IntKind.i64.wrap (u9.1.2.2.2.1 + (1 : Int)))
    rec ((u9.1.1, (u9.1.2.1, ((), (v12, ())))), ((u9.2.1.1, ()), ()))
  else none
 else
  some (.inl ((u9.1.1, (u9.1.2.1, ())), ((), ())))
def L_fa_9 (x : i_fa_9.den) : Option (denO o_fa_9) := Qd l_fa_9 lots x
abbrev i_fa_16 : Shp := { slots := [(0, .s (.pd Y57)), (7, .s (.dat YI))], boxes := [], rows := [] }
abbrev o_fa_16 : List (Ex × Shp) := [(.exit 4, { slots := [], boxes := [], rows := [] }), (.ret, { slots := [(2, .s (.dat YI))], boxes := [], rows := [] })]
def l_fa_16 (rec : i_fa_16.den → Option (denO o_fa_16)) (u16 : i_fa_16.den) : Option (denO o_fa_16) :=
 let v25 := ((u16.1.1.2.2.2.1.length : Nat) : Int)
 if (ltI u16.1.2.1 v25) then
  if 0 ≤ u16.1.2.1 then
   ((u16.1.1.2.2.2.1)[(u16.1.2.1).toNat]?).bind fun y26 =>
   (F_ev (u16.1.1, y26.1, ())).bind fun r27 =>
   if (!r27.1.1) then
    some (.inr (.inl (((4 : Int), ()), ((), ()))))
   else
    if 0 ≤ u16.1.2.1 then
     ((u16.1.1.2.2.2.1)[(u16.1.2.1).toNat]?).bind fun y28 =>
     (F_d (y28.2.1, (1 : Int), (50 : Int), ())).bind fun r29 =>
     if (!r29.1.1) then
      some (.inr (.inl (((3 : Int), ()), ((), ()))))
     else
      let v30 := (IntKind.i64.wrap (u16.1.2.1 + (1 : Int)))
      rec ((u16.1.1, (v30, ())), ((), ()))
    else none
  else none
 else
  some (.inl ((), ((), ())))
def L_fa_16 (x : i_fa_16.den) : Option (denO o_fa_16) := Qd l_fa_16 lots x
abbrev i_fa_2 : Shp := { slots := [(0, .s (.pd Y57)), (3, .s (.dat YI))], boxes := [], rows := [] }
abbrev o_fa_2 : List (Ex × Shp) := [(.exit 0, { slots := [(0, .s (.pd Y57))], boxes := [], rows := [] }), (.ret, { slots := [(2, .s (.dat YI))], boxes := [], rows := [] })]
def l_fa_2 (rec : i_fa_2.den → Option (denO o_fa_2)) (u2 : i_fa_2.den) : Option (denO o_fa_2) :=
 let v7 := ((u2.1.1.2.2.1.length : Nat) : Int)
 if (ltI u2.1.2.1 v7) then
  if 0 ≤ u2.1.2.1 then
   ((u2.1.1.2.2.1)[(u2.1.2.1).toNat]?).bind fun y8 =>
   (F_ew (u2.1.1, y8.1, y8.2.1, ())).bind fun r9 =>
   if (r9.1.1 != (0 : Int)) then
    some (.inr (.inl ((r9.1.1, ()), ((), ()))))
   else
    (L_fa_9 ((u2.1.1, (u2.1.2.1, ((), ((0 : Int), ())))), (((y8.1, (y8.2.1, ())), ()), ()))).bind fun z13 =>
    match z13 with
    | .inl x14 =>
     let v15 := (IntKind.i64.wrap (x14.1.2.1 + (1 : Int)))
     rec ((x14.1.1, (v15, ())), ((), ()))
    | .inr z13_ =>
     match z13_ with
     | .inl x16 =>
      some (.inr (.inl ((x16.1.1, ()), ((), ()))))
     | .inr z13__ =>
      none
  else none
 else
  some (.inl ((u2.1.1, ()), ((), ())))
def L_fa_2 (x : i_fa_2.den) : Option (denO o_fa_2) := Qd l_fa_2 lots x
def F_fa (x : denP P_fa) : Option (denV R_fa × denQ P_fa) :=
 (L_fa_2 ((x.1, ((0 : Int), ())), ((), ()))).bind fun z17 =>
 match z17 with
 | .inl x18 =>
  let v19 := ((x18.1.1.2.2.2.1.length : Nat) : Int)
  if (ltI v19 (1 : Int)) = false then
   let v20 := ((x18.1.1.2.2.2.1.length : Nat) : Int)
   if (ltI (8 : Int) v20) then
    some (((2 : Int), ()), ())
   else
    (L_fa_16 ((x18.1.1, ((0 : Int), ())), ((), ()))).bind fun z31 =>
    match z31 with
    | .inl x32 =>
     some (((0 : Int), ()), ())
    | .inr z31_ =>
     match z31_ with
     | .inl x33 =>
      some ((x33.1.1, ()), ())
     | .inr z31__ =>
      none
  else
   some (((2 : Int), ()), ())
 | .inr z17_ =>
  match z17_ with
  | .inl x34 =>
   some ((x34.1.1, ()), ())
  | .inr z17__ =>
   none
abbrev C_fa : Con := ⟨P_fa, R_fa, F_fa, false⟩
abbrev G_fa : Env := [(59, C_d), (106, C_ev), (283, C_ew)]
theorem g_fa : Qe Tryz.prog G_fa := (Qa s_d (Qa s_ev (Qa s_ew Qc)))
abbrev c_fa_9 : Cut := ⟨i_fa_9, o_fa_9, fun x => Qd l_fa_9 lots x⟩
theorem t_fa_9 (rec x) : run T G_fa [] (nav Tryz.f250 [1, 0, 1, 0, 0, 1, 0, 0, 1, 1, 1, 0, 0]) (mk 91 i_fa_9 x) (Qx i_fa_9 o_fa_9 rec) = l_fa_9 rec x := by kernel_rfl
theorem k_fa_9 : Qu Tryz.prog 91 (.loop (nav Tryz.f250 [1, 0, 1, 0, 0, 1, 0, 0, 1, 1, 1, 0, 0])) c_fa_9 :=
  Qh (L := []) hT g_fa t_fa_9 okP _
abbrev c_fa_16 : Cut := ⟨i_fa_16, o_fa_16, fun x => Qd l_fa_16 lots x⟩
theorem t_fa_16 (rec x) : run T G_fa [] (nav Tryz.f250 [1, 1, 1, 0, 1, 0, 0]) (mk 91 i_fa_16 x) (Qx i_fa_16 o_fa_16 rec) = l_fa_16 rec x := by kernel_rfl
theorem k_fa_16 : Qu Tryz.prog 91 (.loop (nav Tryz.f250 [1, 1, 1, 0, 1, 0, 0])) c_fa_16 :=
  Qh (L := []) hT g_fa t_fa_16 okP _
abbrev c_fa_2 : Cut := ⟨i_fa_2, o_fa_2, fun x => Qd l_fa_2 lots x⟩
theorem t_fa_2 (rec x) : run T G_fa [(9, c_fa_9)] (nav Tryz.f250 [1, 0, 1, 0, 0]) (mk 91 i_fa_2 x) (Qx i_fa_2 o_fa_2 rec) = l_fa_2 rec x := by kernel_rfl
theorem k_fa_2 : Qu Tryz.prog 91 (.loop (nav Tryz.f250 [1, 0, 1, 0, 0])) c_fa_2 :=
  Qh (L := [(9, c_fa_9)]) hT g_fa t_fa_2 (okS okP (okS (okB (okS okP (okS okP (okS okP (okB (okU k_fa_9)))))) okP)) _
theorem r_fa (x) : Qf T G_fa [(9, c_fa_9), (16, c_fa_16), (2, c_fa_2)] Tryz.f250 C_fa.ps C_fa.rs x = C_fa.F x := by kernel_rfl
theorem s_fa : Qb Tryz.prog 250 C_fa := fnC (L := [(9, c_fa_9), (16, c_fa_16), (2, c_fa_2)]) hT g_fa Tryz.f250 (okS okP (okS (okS okP (okB (okU k_fa_2))) (okS okP (okS (okS okP (okB (okU k_fa_16))) okP)))) r_fa
abbrev P_fb : List PK := [.ptr Y57]
abbrev R_fb : List VK := [.s (.dat YI)]
def F_fb (x : denP P_fb) : Option (denV R_fb × denQ P_fb) :=
 (F_eu (x.1, ())).bind fun r1 =>
 if (r1.1.1 != (0 : Int)) then
  some ((r1.1.1, ()), ())
 else
  (F_ez (x.1, ())).bind fun r2 =>
  if (r2.1.1 != (0 : Int)) then
   some ((r2.1.1, ()), ())
  else
   (F_fa (x.1, ())).bind fun r3 =>
   some ((r3.1.1, ()), ())
abbrev C_fb : Con := ⟨P_fb, R_fb, F_fb, false⟩
abbrev G_fb : Env := [(234, C_eu), (235, C_ez), (250, C_fa)]
theorem g_fb : Qe Tryz.prog G_fb := (Qa s_eu (Qa s_ez (Qa s_fa Qc)))
theorem r_fb (x) : Qf T G_fb [] Tryz.f189 C_fb.ps C_fb.rs x = C_fb.F x := by kernel_rfl
theorem s_fb : Qb Tryz.prog 189 C_fb := fnC (L := []) hT g_fb Tryz.f189 okP r_fb
abbrev P_cg : List PK := [.val Y24]
abbrev R_cg : List VK := [.s (.dat YI)]
abbrev i_cg_4 : Shp := { slots := [(0, .s (.dat Y24)), (3, .s (.dat YI))], boxes := [], rows := [] }
abbrev o_cg_4 : List (Ex × Shp) := [(.exit 0, { slots := [], boxes := [], rows := [] }), (.ret, { slots := [(2, .s (.dat YI))], boxes := [], rows := [] })]
def l_cg_4 (rec : i_cg_4.den → Option (denO o_cg_4)) (u4 : i_cg_4.den) : Option (denO o_cg_4) :=
 let v7 := ((u4.1.1.length : Nat) : Int)
 if (ltI u4.1.2.1 v7) then
  if 0 ≤ u4.1.2.1 then
   ((u4.1.1)[(u4.1.2.1).toNat]?).bind fun y8 =>
   (F_d (y8, (0 : Int), (4294967295 : Int), ())).bind fun r9 =>
   if (!r9.1.1) then
    some (.inr (.inl (((3 : Int), ()), ((), ()))))
   else
    let v10 := (IntKind.i64.wrap (u4.1.2.1 + (1 : Int)))
    rec ((u4.1.1, (v10, ())), ((), ()))
  else none
 else
  some (.inl ((), ((), ())))
def L_cg_4 (x : i_cg_4.den) : Option (denO o_cg_4) := Qd l_cg_4 lots x
def F_cg (x : denP P_cg) : Option (denV R_cg × denQ P_cg) :=
 let v1 := ((x.1.length : Nat) : Int)
 let v2 := ((v1).tmod (8 : Int))
 if (v2 != (0 : Int)) = false then
  let v3 := ((x.1.length : Nat) : Int)
  if (ltI v3 (8 : Int)) = false then
   let v4 := ((x.1.length : Nat) : Int)
   if (ltI (192 : Int) v4) then
    some (((1 : Int), ()), ())
   else
    (L_cg_4 ((x.1, ((0 : Int), ())), ((), ()))).bind fun z11 =>
    match z11 with
    | .inl x12 =>
     some (((0 : Int), ()), ())
    | .inr z11_ =>
     match z11_ with
     | .inl x13 =>
      some ((x13.1.1, ()), ())
     | .inr z11__ =>
      none
  else
   some (((1 : Int), ()), ())
 else
  some (((1 : Int), ()), ())
abbrev C_cg : Con := ⟨P_cg, R_cg, F_cg, false⟩
abbrev G_cg : Env := [(59, C_d)]
theorem g_cg : Qe Tryz.prog G_cg := (Qa s_d Qc)
abbrev c_cg_4 : Cut := ⟨i_cg_4, o_cg_4, fun x => Qd l_cg_4 lots x⟩
theorem t_cg_4 (rec x) : run T G_cg [] (nav Tryz.f143 [1, 1, 0, 1, 0, 0]) (mk 30 i_cg_4 x) (Qx i_cg_4 o_cg_4 rec) = l_cg_4 rec x := by kernel_rfl
theorem k_cg_4 : Qu Tryz.prog 30 (.loop (nav Tryz.f143 [1, 1, 0, 1, 0, 0])) c_cg_4 :=
  Qh (L := []) hT g_cg t_cg_4 okP _
theorem r_cg (x) : Qf T G_cg [(4, c_cg_4)] Tryz.f143 C_cg.ps C_cg.rs x = C_cg.F x := by kernel_rfl
theorem s_cg : Qb Tryz.prog 143 C_cg := fnC (L := [(4, c_cg_4)]) hT g_cg Tryz.f143 (okS okP (okS okP (okS (okS okP (okB (okU k_cg_4))) okP))) r_cg
abbrev P_fc : List PK := [.val Y24]
abbrev R_fc : List VK := [.s (.dat .bool)]
def F_fc (x : denP P_fc) : Option (denV R_fc × denQ P_fc) :=
 (F_cg (x.1, ())).bind fun r1 =>
 if (r1.1.1 == (0 : Int)) = true then
  let v2 := ((x.1.length : Nat) : Int)
  some (((v2 == (192 : Int)), ()), ())
 else
  some ((false, ()), ())
abbrev C_fc : Con := ⟨P_fc, R_fc, F_fc, false⟩
abbrev G_fc : Env := [(143, C_cg)]
theorem g_fc : Qe Tryz.prog G_fc := (Qa s_cg Qc)
theorem r_fc (x) : Qf T G_fc [] Tryz.f190 C_fc.ps C_fc.rs x = C_fc.F x := by kernel_rfl
theorem s_fc : Qb Tryz.prog 190 C_fc := fnC (L := []) hT g_fc Tryz.f190 okP r_fc
abbrev P_e : List PK := [.val YI]
abbrev R_e : List VK := [.s (.dat .bool)]
def F_e (x : denP P_e) : Option (denV R_e × denQ P_e) :=
 (F_d (x.1, (0 : Int), (4294967295 : Int), ())).bind fun r1 =>
 some ((r1.1.1, ()), ())
abbrev C_e : Con := ⟨P_e, R_e, F_e, false⟩
abbrev G_e : Env := [(59, C_d)]
theorem g_e : Qe Tryz.prog G_e := (Qa s_d Qc)
theorem r_e (x) : Qf T G_e [] Tryz.f218 C_e.ps C_e.rs x = C_e.F x := by kernel_rfl
theorem s_e : Qb Tryz.prog 218 C_e := fnC (L := []) hT g_e Tryz.f218 okP r_e
abbrev P_f : List PK := [.val Y24]
abbrev R_f : List VK := [.s (.dat .bool)]
abbrev i_f_2 : Shp := { slots := [(0, .s (.dat Y24)), (3, .s (.dat YI))], boxes := [], rows := [] }
abbrev o_f_2 : List (Ex × Shp) := [(.exit 0, { slots := [], boxes := [], rows := [] }), (.ret, { slots := [(2, .s (.dat .bool))], boxes := [], rows := [] })]
def l_f_2 (rec : i_f_2.den → Option (denO o_f_2)) (u2 : i_f_2.den) : Option (denO o_f_2) :=
 let v3 := ((u2.1.1.length : Nat) : Int)
 if (ltI u2.1.2.1 v3) then
  if 0 ≤ u2.1.2.1 then
   ((u2.1.1)[(u2.1.2.1).toNat]?).bind fun y4 =>
   (F_e (y4, ())).bind fun r5 =>
   if (!r5.1.1) then
    some (.inr (.inl ((false, ()), ((), ()))))
   else
    let v6 := (IntKind.i64.wrap (u2.1.2.1 + (1 : Int)))
    rec ((u2.1.1, (v6, ())), ((), ()))
  else none
 else
  some (.inl ((), ((), ())))
def L_f_2 (x : i_f_2.den) : Option (denO o_f_2) := Qd l_f_2 lots x
def F_f (x : denP P_f) : Option (denV R_f × denQ P_f) :=
 (L_f_2 ((x.1, ((0 : Int), ())), ((), ()))).bind fun z7 =>
 match z7 with
 | .inl x8 =>
  some ((true, ()), ())
 | .inr z7_ =>
  match z7_ with
  | .inl x9 =>
   some ((x9.1.1, ()), ())
  | .inr z7__ =>
   none
abbrev C_f : Con := ⟨P_f, R_f, F_f, false⟩
abbrev G_f : Env := [(218, C_e)]
theorem g_f : Qe Tryz.prog G_f := (Qa s_e Qc)
abbrev c_f_2 : Cut := ⟨i_f_2, o_f_2, fun x => Qd l_f_2 lots x⟩
theorem t_f_2 (rec x) : run T G_f [] (nav Tryz.f217 [1, 0, 1, 0, 0]) (mk 16 i_f_2 x) (Qx i_f_2 o_f_2 rec) = l_f_2 rec x := by kernel_rfl
theorem k_f_2 : Qu Tryz.prog 16 (.loop (nav Tryz.f217 [1, 0, 1, 0, 0])) c_f_2 :=
  Qh (L := []) hT g_f t_f_2 okP _
theorem r_f (x) : Qf T G_f [(2, c_f_2)] Tryz.f217 C_f.ps C_f.rs x = C_f.F x := by kernel_rfl
theorem s_f : Qb Tryz.prog 217 C_f := fnC (L := [(2, c_f_2)]) hT g_f Tryz.f217 (okS okP (okS (okS okP (okB (okU k_f_2))) okP)) r_f
abbrev P_ce : List PK := [.ptr Y25]
abbrev R_ce : List VK := [.s (.dat YI)]
def F_ce (x : denP P_ce) : Option (denV R_ce × denQ P_ce) :=
 let v1 := ((x.1.1.length : Nat) : Int)
 if (v1 != (16 : Int)) = false then
  let v2 := ((x.1.2.2.1.length : Nat) : Int)
  if (v2 != (11 : Int)) = false then
   ((x.1.1)[((0 : Int)).toNat]?).bind fun y3 =>
   if (y3 != (0 : Int)) then
    some (((1 : Int), ()), ())
   else
    (F_f (x.1.1, ())).bind fun r4 =>
    if (!r4.1.1) = false then
     (F_e (x.1.2.1, ())).bind fun r5 =>
     if (!r5.1.1) = false then
      (F_f (x.1.2.2.1, ())).bind fun r6 =>
      if (!r6.1.1) = false then
       (F_f (x.1.2.2.2.2.2.2.2.1, ())).bind fun r7 =>
       if (!r7.1.1) = false then
        (F_f (x.1.2.2.2.2.2.2.2.2.1, ())).bind fun r8 =>
        if (!r8.1.1) then
         some (((3 : Int), ()), ())
        else
         let v9 := ((x.1.2.2.2.2.2.2.2.1.length : Nat) : Int)
         if (ltI (40 : Int) v9) = false then
          let v10 := ((x.1.2.2.2.2.2.2.2.2.1.length : Nat) : Int)
          if (ltI (40 : Int) v10) then
           some (((2 : Int), ()), ())
          else
           (F_d (x.1.2.2.2.2.2.2.1, (0 : Int), (1000000000 : Int), ())).bind fun r11 =>
           if (!r11.1.1) then
            some (((3 : Int), ()), ())
           else
            ((x.1.2.2.1)[((0 : Int)).toNat]?).bind fun y12 =>
            if (ltI (3 : Int) y12) = false then
             ((x.1.2.2.1)[((7 : Int)).toNat]?).bind fun y13 =>
             if (ltI (7 : Int) y13) = false then
              ((x.1.2.2.1)[((10 : Int)).toNat]?).bind fun y14 =>
              if (ltI (8 : Int) y14) = false then
               ((x.1.2.2.1)[((6 : Int)).toNat]?).bind fun y15 =>
               if (y15 != (0 : Int)) = false then
                ((x.1.2.2.1)[((8 : Int)).toNat]?).bind fun y16 =>
                if (y16 != (0 : Int)) then
                 some (((1 : Int), ()), ())
                else
                 some (((0 : Int), ()), ())
               else
                some (((1 : Int), ()), ())
              else
               some (((1 : Int), ()), ())
             else
              some (((1 : Int), ()), ())
            else
             some (((1 : Int), ()), ())
         else
          some (((2 : Int), ()), ())
       else
        some (((3 : Int), ()), ())
      else
       some (((3 : Int), ()), ())
     else
      some (((3 : Int), ()), ())
    else
     some (((3 : Int), ()), ())
  else
   some (((1 : Int), ()), ())
 else
  some (((1 : Int), ()), ())
abbrev C_ce : Con := ⟨P_ce, R_ce, F_ce, false⟩
abbrev G_ce : Env := [(59, C_d), (217, C_f), (218, C_e)]
theorem g_ce : Qe Tryz.prog G_ce := (Qa s_d (Qa s_f (Qa s_e Qc)))
theorem r_ce (x) : Qf T G_ce [] Tryz.f141 C_ce.ps C_ce.rs x = C_ce.F x := by kernel_rfl
theorem s_ce : Qb Tryz.prog 141 C_ce := fnC (L := []) hT g_ce Tryz.f141 okP r_ce
abbrev P_fd : List PK := [.ptr Y57, .val YI]
abbrev R_fd : List VK := [.s (.dat YI), .s (.dat YI)]
abbrev i_fd_8 : Shp := { slots := [(0, .s (.pd Y57)), (8, .s (.dat YI)), (9, .s (.dat YI))], boxes := [], rows := [] }
abbrev o_fd_8 : List (Ex × Shp) := [(.exit 2, { slots := [(0, .s (.pd Y57)), (8, .s (.dat YI)), (9, .s (.dat YI))], boxes := [], rows := [] })]
def l_fd_8 (rec : i_fd_8.den → Option (denO o_fd_8)) (u8 : i_fd_8.den) : Option (denO o_fd_8) :=
 if 0 ≤ u8.1.2.2.1 then
  ((u8.1.1.2.2.2.1)[(u8.1.2.2.1).toNat]?).bind fun y11 =>
  if (leI y11.2.1 u8.1.2.1) then
   if 0 ≤ u8.1.2.2.1 then
    ((u8.1.1.2.2.2.1)[(u8.1.2.2.1).toNat]?).bind fun y12 =>
    let v13 := (IntKind.i64.wrap (u8.1.2.1 - y12.2.1))
    let v14 := (IntKind.i64.wrap (u8.1.2.2.1 + (1 : Int)))
    rec ((u8.1.1, (v13, (v14, ()))), ((), ()))
   else none
  else
   some (.inl ((u8.1.1, (u8.1.2.1, (u8.1.2.2.1, ()))), ((), ())))
 else none
def L_fd_8 (x : i_fd_8.den) : Option (denO o_fd_8) := Qd l_fd_8 lots x
abbrev i_fd_3 : Shp := { slots := [(0, .s (.pd Y57)), (1, .s (.dat YI)), (6, .s (.dat YI)), (7, .s (.dat YI))], boxes := [], rows := [] }
abbrev o_fd_3 : List (Ex × Shp) := [(.exit 0, { slots := [(0, .s (.pd Y57)), (1, .s (.dat YI)), (6, .s (.dat YI))], boxes := [], rows := [] })]
def l_fd_3 (rec : i_fd_3.den → Option (denO o_fd_3)) (u3 : i_fd_3.den) : Option (denO o_fd_3) :=
 let v2 := ((u3.1.1.2.2.2.1.length : Nat) : Int)
 if (ltI u3.1.2.2.2.1 v2) then
  if 0 ≤ u3.1.2.2.2.1 then
   ((u3.1.1.2.2.2.1)[(u3.1.2.2.2.1).toNat]?).bind fun y3 =>
   let v4 := (IntKind.i64.wrap (u3.1.2.2.1 + y3.2.1))
   let v5 := (IntKind.i64.wrap (u3.1.2.2.2.1 + (1 : Int)))
   rec ((u3.1.1, (u3.1.2.1, (v4, (v5, ())))), ((), ()))
  else none
 else
  some (.inl ((u3.1.1, (u3.1.2.1, (u3.1.2.2.1, ()))), ((), ())))
def L_fd_3 (x : i_fd_3.den) : Option (denO o_fd_3) := Qd l_fd_3 lots x
def F_fd (x : denP P_fd) : Option (denV R_fd × denQ P_fd) :=
 (L_fd_3 ((x.1, (x.2.1, ((0 : Int), ((0 : Int), ())))), ((), ()))).bind fun z6 =>
 match z6 with
 | .inl x7 =>
  if x7.1.2.2.1 = 0 then none else
  let v8 := ((x7.1.2.1).tmod x7.1.2.2.1)
  (L_fd_8 ((x7.1.1, (v8, ((0 : Int), ()))), ((), ()))).bind fun z15 =>
  match z15 with
  | .inl x16 =>
   if 0 ≤ x16.1.2.2.1 then
    ((x16.1.1.2.2.2.1)[(x16.1.2.2.1).toNat]?).bind fun y17 =>
    let v18 := (IntKind.i64.wrap (y17.2.1 - x16.1.2.1))
    some ((x16.1.2.2.1, v18, ()), ())
   else none
  | .inr z15_ =>
   none
 | .inr z6_ =>
  none
abbrev C_fd : Con := ⟨P_fd, R_fd, F_fd, false⟩
abbrev G_fd : Env := []
theorem g_fd : Qe Tryz.prog G_fd := Qc
abbrev c_fd_8 : Cut := ⟨i_fd_8, o_fd_8, fun x => Qd l_fd_8 lots x⟩
theorem t_fd_8 (rec x) : run T G_fd [] (nav Tryz.f191 [1, 1, 1, 1, 1, 0, 0, 0]) (mk 65 i_fd_8 x) (Qx i_fd_8 o_fd_8 rec) = l_fd_8 rec x := by kernel_rfl
theorem k_fd_8 : Qu Tryz.prog 65 (.loop (nav Tryz.f191 [1, 1, 1, 1, 1, 0, 0, 0])) c_fd_8 :=
  Qh (L := []) hT g_fd t_fd_8 okP _
abbrev c_fd_3 : Cut := ⟨i_fd_3, o_fd_3, fun x => Qd l_fd_3 lots x⟩
theorem t_fd_3 (rec x) : run T G_fd [] (nav Tryz.f191 [1, 1, 0, 1, 0, 0]) (mk 65 i_fd_3 x) (Qx i_fd_3 o_fd_3 rec) = l_fd_3 rec x := by kernel_rfl
theorem k_fd_3 : Qu Tryz.prog 65 (.loop (nav Tryz.f191 [1, 1, 0, 1, 0, 0])) c_fd_3 :=
  Qh (L := []) hT g_fd t_fd_3 okP _
theorem r_fd (x) : Qf T G_fd [(8, c_fd_8), (3, c_fd_3)] Tryz.f191 C_fd.ps C_fd.rs x = C_fd.F x := by kernel_rfl
theorem s_fd : Qb Tryz.prog 191 C_fd := fnC (L := [(8, c_fd_8), (3, c_fd_3)]) hT g_fd Tryz.f191 (okS okP (okS okP (okS (okS okP (okB (okU k_fd_3))) (okS okP (okS okP (okS (okB (okU k_fd_8)) okP)))))) r_fd
abbrev P_fe : List PK := [.ptr Y62]
abbrev R_fe : List VK := [.s (.dat YI)]
abbrev i_fe_7 : Shp := { slots := [(0, .s (.pd Y62)), (4, .s (.dat YI))], boxes := [], rows := [] }
abbrev o_fe_7 : List (Ex × Shp) := [(.exit 0, { slots := [(0, .s (.pd Y62))], boxes := [], rows := [] }), (.ret, { slots := [(2, .s (.dat YI))], boxes := [], rows := [] })]
def l_fe_7 (rec : i_fe_7.den → Option (denO o_fe_7)) (u7 : i_fe_7.den) : Option (denO o_fe_7) :=
 let v7 := ((u7.1.1.2.2.1.length : Nat) : Int)
 if (ltI u7.1.2.1 v7) then
  if 0 ≤ u7.1.2.1 then
   ((u7.1.1.2.2.1)[(u7.1.2.1).toNat]?).bind fun y8 =>
   (F_ce (y8, ())).bind fun r9 =>
   if (r9.1.1 != (0 : Int)) then
    some (.inr (.inl ((r9.1.1, ()), ((), ()))))
   else
    let v10 := (IntKind.i64.wrap (u7.1.2.1 + (1 : Int)))
    rec ((u7.1.1, (v10, ())), ((), ()))
  else none
 else
  some (.inl ((u7.1.1, ()), ((), ())))
def L_fe_7 (x : i_fe_7.den) : Option (denO o_fe_7) := Qd l_fe_7 lots x
def F_fe (x : denP P_fe) : Option (denV R_fe × denQ P_fe) :=
 (F_fb (x.1.1, ())).bind fun r1 =>
 if (r1.1.1 != (0 : Int)) then
  some ((r1.1.1, ()), ())
 else
  (F_fc (x.1.2.1, ())).bind fun r2 =>
  if (!r2.1.1) = false then
   let v3 := ((x.1.2.2.1.length : Nat) : Int)
   let v4 := ((x.1.1.1.length : Nat) : Int)
   if (v3 != v4) then
    some (((1 : Int), ()), ())
   else
    (L_fe_7 ((x.1, ((0 : Int), ())), ((), ()))).bind fun z11 =>
    match z11 with
    | .inl x12 =>
     (F_d (x12.1.1.2.2.2.2.2.1, (0 : Int), (1000000 : Int), ())).bind fun r13 =>
     if (!r13.1.1) then
      some (((3 : Int), ()), ())
     else
      (F_fd (x12.1.1.1, x12.1.1.2.2.2.2.2.1, ())).bind fun r14 =>
      if (x12.1.1.2.2.2.1 != r14.1.1) = false then
       if (x12.1.1.2.2.2.2.1 != r14.1.2.1) then
        some (((1 : Int), ()), ())
       else
        some (((0 : Int), ()), ())
      else
       some (((1 : Int), ()), ())
    | .inr z11_ =>
     match z11_ with
     | .inl x15 =>
      some ((x15.1.1, ()), ())
     | .inr z11__ =>
      none
  else
   some (((1 : Int), ()), ())
abbrev C_fe : Con := ⟨P_fe, R_fe, F_fe, false⟩
abbrev G_fe : Env := [(59, C_d), (141, C_ce), (189, C_fb), (190, C_fc), (191, C_fd)]
theorem g_fe : Qe Tryz.prog G_fe := (Qa s_d (Qa s_ce (Qa s_fb (Qa s_fc (Qa s_fd Qc)))))
abbrev c_fe_7 : Cut := ⟨i_fe_7, o_fe_7, fun x => Qd l_fe_7 lots x⟩
theorem t_fe_7 (rec x) : run T G_fe [] (nav Tryz.f104 [1, 1, 1, 0, 1, 0, 0]) (mk 85 i_fe_7 x) (Qx i_fe_7 o_fe_7 rec) = l_fe_7 rec x := by kernel_rfl
theorem k_fe_7 : Qu Tryz.prog 85 (.loop (nav Tryz.f104 [1, 1, 1, 0, 1, 0, 0])) c_fe_7 :=
  Qh (L := []) hT g_fe t_fe_7 okP _
theorem r_fe (x) : Qf T G_fe [(7, c_fe_7)] Tryz.f104 C_fe.ps C_fe.rs x = C_fe.F x := by kernel_rfl
theorem s_fe : Qb Tryz.prog 104 C_fe := fnC (L := [(7, c_fe_7)]) hT g_fe Tryz.f104 (okS okP (okS okP (okS okP (okS (okS okP (okB (okU k_fe_7))) okP)))) r_fe
abbrev P_ff : List PK := [.val YI]
abbrev R_ff : List VK := [.s (.dat Y80)]
def F_ff (x : denP P_ff) : Option (denV R_ff × denQ P_ff) :=
 some (((x.1, ((0 : Int), (false, ()))), ()), ())
abbrev C_ff : Con := ⟨P_ff, R_ff, F_ff, false⟩
abbrev G_ff : Env := []
theorem g_ff : Qe Tryz.prog G_ff := Qc
theorem r_ff (x) : Qf T G_ff [] Tryz.f105 C_ff.ps C_ff.rs x = C_ff.F x := by kernel_rfl
theorem s_ff : Qb Tryz.prog 105 C_ff := fnC (L := []) hT g_ff Tryz.f105 okP r_ff
abbrev P_fg : List PK := [.ptr Y62, .val YI]
abbrev R_fg : List VK := [.s (.dat .bool)]
def F_fg (x : denP P_fg) : Option (denV R_fg × denQ P_fg) :=
 (F_d (x.2.1, (0 : Int), (200 : Int), ())).bind fun r1 =>
 if r1.1.1 = true then
  let v2 := (IntKind.i64.wrap (x.1.2.2.2.2.2.1 + x.2.1))
  some (((leI v2 (1000000 : Int)), ()), ())
 else
  some ((false, ()), ())
abbrev C_fg : Con := ⟨P_fg, R_fg, F_fg, false⟩
abbrev G_fg : Env := [(59, C_d)]
theorem g_fg : Qe Tryz.prog G_fg := (Qa s_d Qc)
theorem r_fg (x) : Qf T G_fg [] Tryz.f107 C_fg.ps C_fg.rs x = C_fg.F x := by kernel_rfl
theorem s_fg : Qb Tryz.prog 107 C_fg := fnC (L := []) hT g_fg Tryz.f107 okP r_fg
abbrev P_fh : List PK := [.val Y57]
abbrev R_fh : List VK := [.g [.own 24 Y24, .own 69 Y68, .own 225 Y40, .own 136 Y40]]
abbrev i_fh_3 : Shp := { slots := [(1, .s (.ptr 1 0)), (2, .s (.ptr 2 0)), (3, .s (.ptr 3 0)), (4, .s (.dat YI))], boxes := [(1, [.dat Y53, .dat Y54, .dat Y27, .dat Y27]), (2, [.own 24 Y24, .own 69 Y68, .own 225 Y40, .own 136 Y40]), (3, [.own 24 Y24, .own 69 Y68, .own 225 Y40, .own 136 Y40])], rows := [] }
abbrev o_fh_3 : List (Ex × Shp) := [(.exit 0, { slots := [(2, .s (.ptr 2 0)), (3, .s (.ptr 3 0))], boxes := [(2, [.own 24 Y24, .own 69 Y68, .own 225 Y40, .own 136 Y40]), (3, [.own 24 Y24, .own 69 Y68, .own 225 Y40, .own 136 Y40])], rows := [] })]
def l_fh_3 (rec : i_fh_3.den → Option (denO o_fh_3)) (u3 : i_fh_3.den) : Option (denO o_fh_3) :=
 let v5 := ((u3.2.1.1.1.length : Nat) : Int)
 if (ltI u3.1.2.2.2.1 v5) then
  if 0 ≤ u3.1.2.2.2.1 then
   ((u3.2.1.1.1)[(u3.1.2.2.2.1).toNat]?).bind fun y6 =>
   if (([] : List (den YI)).length + y6.length) * 8 ≤ 140737488355328 then
    let v7 := (([] : List (den YI)) ++ y6)
    if (u3.2.1.2.2.1.1.length + [v7].length) * 24 ≤ 140737488355328 then
     let v8 := (u3.2.1.2.2.1.1 ++ [v7])
     let v9 := (IntKind.i64.wrap (u3.1.2.2.2.1 + (1 : Int)))
     rec (((), ((), ((), (v9, ())))), ((u3.2.1.1, (u3.2.1.2.1, ((v8, (u3.2.1.2.2.1.2.1, (u3.2.1.2.2.1.2.2.1, (u3.2.1.2.2.1.2.2.2.1, ())))), ()))), ()))
    else none
   else none
  else none
 else
  some (.inl (((), ((), ())), ((u3.2.1.2.1, (u3.2.1.2.2.1, ())), ())))
def L_fh_3 (x : i_fh_3.den) : Option (denO o_fh_3) := Qd l_fh_3 lots x
def F_fh (x : denP P_fh) : Option (denV R_fh × denQ P_fh) :=
 if (([] : List (den Y68)).length + x.1.2.1.length) * 40 ≤ 140737488355328 then
  let v1 := (([] : List (den Y68)) ++ x.1.2.1)
  if (([] : List (den Y40)).length + x.1.2.2.1.length) * 16 ≤ 140737488355328 then
   let v2 := (([] : List (den Y40)) ++ x.1.2.2.1)
   if (([] : List (den Y40)).length + x.1.2.2.2.1.length) * 16 ≤ 140737488355328 then
    let v3 := (([] : List (den Y40)) ++ x.1.2.2.2.1)
    (L_fh_3 (((), ((), ((), ((0 : Int), ())))), (((x.1.1, (x.1.2.1, (x.1.2.2.1, (x.1.2.2.2.1, ())))), ((([] : List (den Y24)), (([] : List (den Y68)), (([] : List (den Y40)), (([] : List (den Y40)), ())))), ((([] : List (den Y24)), (v1, (v2, (v3, ())))), ()))), ()))).bind fun z10 =>
    match z10 with
    | .inl x11 =>
     some ((x11.2.1.2.1, ()), ())
    | .inr z10_ =>
     none
   else none
  else none
 else none
abbrev C_fh : Con := ⟨P_fh, R_fh, F_fh, false⟩
abbrev G_fh : Env := []
theorem g_fh : Qe Tryz.prog G_fh := Qc
abbrev c_fh_3 : Cut := ⟨i_fh_3, o_fh_3, fun x => Qd l_fh_3 lots x⟩
theorem t_fh_3 (rec x) : run T G_fh [] (nav Tryz.f192 [1, 1, 0, 1, 0, 0]) (mk 38 i_fh_3 x) (Qx i_fh_3 o_fh_3 rec) = l_fh_3 rec x := by kernel_rfl
theorem k_fh_3 : Qu Tryz.prog 38 (.loop (nav Tryz.f192 [1, 1, 0, 1, 0, 0])) c_fh_3 :=
  Qh (L := []) hT g_fh t_fh_3 okP _
theorem r_fh (x) : Qf T G_fh [(3, c_fh_3)] Tryz.f192 C_fh.ps C_fh.rs x = C_fh.F x := by kernel_rfl
theorem s_fh : Qb Tryz.prog 192 C_fh := fnC (L := [(3, c_fh_3)]) hT g_fh Tryz.f192 (okS okP (okS okP (okS (okS okP (okB (okU k_fh_3))) okP))) r_fh
abbrev P_ci : List PK := [.val Y24]
abbrev R_ci : List VK := [.s (.own 2 YI)]
def F_ci (x : denP P_ci) : Option (denV R_ci × denQ P_ci) :=
 if (([] : List (den YI)).length + x.1.length) * 8 ≤ 140737488355328 then
  let v1 := (([] : List (den YI)) ++ x.1)
  some ((v1, ()), ())
 else none
abbrev C_ci : Con := ⟨P_ci, R_ci, F_ci, false⟩
abbrev G_ci : Env := []
theorem g_ci : Qe Tryz.prog G_ci := Qc
theorem r_ci (x) : Qf T G_ci [] Tryz.f144 C_ci.ps C_ci.rs x = C_ci.F x := by kernel_rfl
theorem s_ci : Qb Tryz.prog 144 C_ci := fnC (L := []) hT g_ci Tryz.f144 okP r_ci
abbrev P_cj : List PK := [.val Y25]
abbrev R_cj : List VK := [.g [.own 2 YI, .dat YI, .own 2 YI, .dat .bool, .dat .bool, .dat .bool, .dat YI, .own 2 YI, .own 2 YI]]
def F_cj (x : denP P_cj) : Option (denV R_cj × denQ P_cj) :=
 if (([] : List (den YI)).length + x.1.1.length) * 8 ≤ 140737488355328 then
  let v1 := (([] : List (den YI)) ++ x.1.1)
  if (([] : List (den YI)).length + x.1.2.2.1.length) * 8 ≤ 140737488355328 then
   let v2 := (([] : List (den YI)) ++ x.1.2.2.1)
   if (([] : List (den YI)).length + x.1.2.2.2.2.2.2.2.1.length) * 8 ≤ 140737488355328 then
    let v3 := (([] : List (den YI)) ++ x.1.2.2.2.2.2.2.2.1)
    if (([] : List (den YI)).length + x.1.2.2.2.2.2.2.2.2.1.length) * 8 ≤ 140737488355328 then
     let v4 := (([] : List (den YI)) ++ x.1.2.2.2.2.2.2.2.2.1)
     some (((v1, (x.1.2.1, (v2, (x.1.2.2.2.1, (x.1.2.2.2.2.1, (x.1.2.2.2.2.2.1, (x.1.2.2.2.2.2.2.1, (v3, (v4, ()))))))))), ()), ())
    else none
   else none
  else none
 else none
abbrev C_cj : Con := ⟨P_cj, R_cj, F_cj, false⟩
abbrev G_cj : Env := []
theorem g_cj : Qe Tryz.prog G_cj := Qc
theorem r_cj (x) : Qf T G_cj [] Tryz.f145 C_cj.ps C_cj.rs x = C_cj.F x := by kernel_rfl
theorem s_cj : Qb Tryz.prog 145 C_cj := fnC (L := []) hT g_cj Tryz.f145 okP r_cj
abbrev P_fi : List PK := [.val Y62]
abbrev R_fi : List VK := [.g [.own 24 Y24, .own 69 Y68, .own 225 Y40, .own 136 Y40, .own 2 YI, .own 26 Y25, .dat YI, .dat YI, .dat YI]]
abbrev i_fi_3 : Shp := { slots := [(1, .s (.ptr 1 0)), (2, .s (.ptr 2 0)), (3, .s (.ptr 3 0)), (4, .s (.dat YI))], boxes := [(1, [.dat Y53, .dat Y54, .dat Y27, .dat Y27, .dat Y24, .dat Y61, .dat YI, .dat YI, .dat YI]), (2, [.own 24 Y24, .own 69 Y68, .own 225 Y40, .own 136 Y40, .own 2 YI, .own 26 Y25, .dat YI, .dat YI, .dat YI]), (3, [.own 24 Y24, .own 69 Y68, .own 225 Y40, .own 136 Y40, .own 2 YI, .own 26 Y25, .dat YI, .dat YI, .dat YI])], rows := [] }
abbrev o_fi_3 : List (Ex × Shp) := [(.exit 0, { slots := [(2, .s (.ptr 2 0)), (3, .s (.ptr 3 0))], boxes := [(2, [.own 24 Y24, .own 69 Y68, .own 225 Y40, .own 136 Y40, .own 2 YI, .own 26 Y25, .dat YI, .dat YI, .dat YI]), (3, [.own 24 Y24, .own 69 Y68, .own 225 Y40, .own 136 Y40, .own 2 YI, .own 26 Y25, .dat YI, .dat YI, .dat YI])], rows := [] })]
def l_fi_3 (rec : i_fi_3.den → Option (denO o_fi_3)) (u3 : i_fi_3.den) : Option (denO o_fi_3) :=
 let v5 := ((u3.2.1.1.2.2.2.2.2.1.length : Nat) : Int)
 if (ltI u3.1.2.2.2.1 v5) then
  if 0 ≤ u3.1.2.2.2.1 then
   ((u3.2.1.1.2.2.2.2.2.1)[(u3.1.2.2.2.1).toNat]?).bind fun y6 =>
   (F_cj (y6, ())).bind fun r7 =>
   if (u3.2.1.2.2.1.2.2.2.2.2.1.length + [r7.1.1].length) * 120 ≤ 140737488355328 then
    let v8 := (u3.2.1.2.2.1.2.2.2.2.2.1 ++ [r7.1.1])
    let v9 := (IntKind.i64.wrap (u3.1.2.2.2.1 + (1 : Int)))
    rec (((), ((), ((), (v9, ())))), ((u3.2.1.1, (u3.2.1.2.1, ((u3.2.1.2.2.1.1, (u3.2.1.2.2.1.2.1, (u3.2.1.2.2.1.2.2.1, (u3.2.1.2.2.1.2.2.2.1, (u3.2.1.2.2.1.2.2.2.2.1, (v8, (u3.2.1.2.2.1.2.2.2.2.2.2.1, (u3.2.1.2.2.1.2.2.2.2.2.2.2.1, (u3.2.1.2.2.1.2.2.2.2.2.2.2.2.1, ()))))))))), ()))), ()))
   else none
  else none
 else
  some (.inl (((), ((), ())), ((u3.2.1.2.1, (u3.2.1.2.2.1, ())), ())))
def L_fi_3 (x : i_fi_3.den) : Option (denO o_fi_3) := Qd l_fi_3 lots x
def F_fi (x : denP P_fi) : Option (denV R_fi × denQ P_fi) :=
 (F_fh (x.1.1, ())).bind fun r1 =>
 (F_ci (x.1.2.1, ())).bind fun r2 =>
 (L_fi_3 (((), ((), ((), ((0 : Int), ())))), (((x.1.1.1, (x.1.1.2.1, (x.1.1.2.2.1, (x.1.1.2.2.2.1, (x.1.2.1, (x.1.2.2.1, (x.1.2.2.2.1, (x.1.2.2.2.2.1, (x.1.2.2.2.2.2.1, ()))))))))), ((([] : List (den Y24)), (([] : List (den Y68)), (([] : List (den Y40)), (([] : List (den Y40)), (([] : List (den YI)), (([] : List (den Y25)), ((0 : Int), ((0 : Int), ((0 : Int), ()))))))))), ((r1.1.1.1, (r1.1.1.2.1, (r1.1.1.2.2.1, (r1.1.1.2.2.2.1, (r2.1.1, (([] : List (den Y25)), (x.1.2.2.2.1, (x.1.2.2.2.2.1, (x.1.2.2.2.2.2.1, ()))))))))), ()))), ()))).bind fun z10 =>
 match z10 with
 | .inl x11 =>
  some ((x11.2.1.2.1, ()), ())
 | .inr z10_ =>
  none
abbrev C_fi : Con := ⟨P_fi, R_fi, F_fi, false⟩
abbrev G_fi : Env := [(144, C_ci), (145, C_cj), (192, C_fh)]
theorem g_fi : Qe Tryz.prog G_fi := (Qa s_ci (Qa s_cj (Qa s_fh Qc)))
abbrev c_fi_3 : Cut := ⟨i_fi_3, o_fi_3, fun x => Qd l_fi_3 lots x⟩
theorem t_fi_3 (rec x) : run T G_fi [] (nav Tryz.f108 [1, 1, 0, 1, 0, 0]) (mk 37 i_fi_3 x) (Qx i_fi_3 o_fi_3 rec) = l_fi_3 rec x := by kernel_rfl
theorem k_fi_3 : Qu Tryz.prog 37 (.loop (nav Tryz.f108 [1, 1, 0, 1, 0, 0])) c_fi_3 :=
  Qh (L := []) hT g_fi t_fi_3 okP _
theorem r_fi (x) : Qf T G_fi [(3, c_fi_3)] Tryz.f108 C_fi.ps C_fi.rs x = C_fi.F x := by kernel_rfl
theorem s_fi : Qb Tryz.prog 108 C_fi := fnC (L := [(3, c_fi_3)]) hT g_fi Tryz.f108 (okS okP (okS okP (okS (okS okP (okB (okU k_fi_3))) okP))) r_fi
abbrev P_fj : List PK := [.val Y24, .val Y24]
abbrev R_fj : List VK := [.s (.own 2 YI)]
abbrev i_fj_3 : Shp := { slots := [(0, .s (.dat Y24)), (1, .s (.dat Y24)), (5, .s (.own 2 YI)), (6, .s (.dat YI))], boxes := [], rows := [] }
abbrev o_fj_3 : List (Ex × Shp) := [(.exit 0, { slots := [(5, .s (.own 2 YI))], boxes := [], rows := [] })]
def l_fj_3 (rec : i_fj_3.den → Option (denO o_fj_3)) (u3 : i_fj_3.den) : Option (denO o_fj_3) :=
 let v3 := ((u3.1.2.1.length : Nat) : Int)
 if (ltI u3.1.2.2.2.1 v3) then
  if 0 ≤ u3.1.2.2.2.1 then
   ((u3.1.2.1)[(u3.1.2.2.2.1).toNat]?).bind fun y4 =>
   let v5 := (IntKind.i64.wrap (y4 * (8 : Int)))
   if 0 ≤ u3.1.2.2.2.1 then
    ((u3.1.2.1)[(u3.1.2.2.2.1).toNat]?).bind fun y6 =>
    let v7 := (IntKind.i64.wrap (y6 + (1 : Int)))
    let v8 := (IntKind.i64.wrap (v7 * (8 : Int)))
    if 0 ≤ v5 ∧ v5 ≤ v8 ∧ v8 ≤ ((u3.1.1.length : Nat) : Int) then
     let v9 := ((u3.1.1.drop (v5).toNat).take ((v8).toNat - (v5).toNat))
     if (u3.1.2.2.1.length + v9.length) * 8 ≤ 140737488355328 then
      let v10 := (u3.1.2.2.1 ++ v9)
      let v11 := (IntKind.i64.wrap (u3.1.2.2.2.1 + (1 : Int)))
      rec ((u3.1.1, (u3.1.2.1, (v10, (v11, ())))), ((), ()))
     else none
    else none
   else none
  else none
 else
  some (.inl ((u3.1.2.2.1, ()), ((), ())))
def L_fj_3 (x : i_fj_3.den) : Option (denO o_fj_3) := Qd l_fj_3 lots x
def F_fj (x : denP P_fj) : Option (denV R_fj × denQ P_fj) :=
 (L_fj_3 ((x.1, (x.2.1, (([] : List (den YI)), ((0 : Int), ())))), ((), ()))).bind fun z12 =>
 match z12 with
 | .inl x13 =>
  some ((x13.1.1, ()), ())
 | .inr z12_ =>
  none
abbrev C_fj : Con := ⟨P_fj, R_fj, F_fj, false⟩
abbrev G_fj : Env := []
theorem g_fj : Qe Tryz.prog G_fj := Qc
abbrev c_fj_3 : Cut := ⟨i_fj_3, o_fj_3, fun x => Qd l_fj_3 lots x⟩
theorem t_fj_3 (rec x) : run T G_fj [] (nav Tryz.f124 [1, 1, 0, 1, 0, 0]) (mk 30 i_fj_3 x) (Qx i_fj_3 o_fj_3 rec) = l_fj_3 rec x := by kernel_rfl
theorem k_fj_3 : Qu Tryz.prog 30 (.loop (nav Tryz.f124 [1, 1, 0, 1, 0, 0])) c_fj_3 :=
  Qh (L := []) hT g_fj t_fj_3 okP _
theorem r_fj (x) : Qf T G_fj [(3, c_fj_3)] Tryz.f124 C_fj.ps C_fj.rs x = C_fj.F x := by kernel_rfl
theorem s_fj : Qb Tryz.prog 124 C_fj := fnC (L := [(3, c_fj_3)]) hT g_fj Tryz.f124 (okS okP (okS okP (okS (okS okP (okB (okU k_fj_3))) okP))) r_fj
abbrev P_fk : List PK := [.ptr Y57, .val YI, .val .bool]
abbrev R_fk : List VK := [.s (.own 2 YI)]
abbrev i_fk_3 : Shp := { slots := [(0, .s (.pd Y57)), (1, .s (.dat YI)), (2, .s (.dat .bool)), (7, .s (.own 2 YI)), (8, .s (.dat YI))], boxes := [], rows := [] }
abbrev o_fk_3 : List (Ex × Shp) := [(.exit 0, { slots := [(7, .s (.own 2 YI))], boxes := [], rows := [] })]
def l_fk_3 (rec : i_fk_3.den → Option (denO o_fk_3)) (u3 : i_fk_3.den) : Option (denO o_fk_3) :=
 let v4 := ((u3.1.1.2.1.length : Nat) : Int)
 if (ltI u3.1.2.2.2.2.1 v4) then
  if 0 ≤ u3.1.2.2.2.2.1 then
   ((u3.1.1.2.1)[(u3.1.2.2.2.2.1).toNat]?).bind fun y5 =>
   if (y5.1 != u3.1.2.1) then
    let v6 := (IntKind.i64.wrap (u3.1.2.2.2.2.1 + (1 : Int)))
    rec ((u3.1.1, (u3.1.2.1, (u3.1.2.2.1, (u3.1.2.2.2.1, (v6, ()))))), ((), ()))
   else
    if u3.1.2.2.1 then
     if 0 ≤ u3.1.2.2.2.2.1 then
      ((u3.1.1.2.1)[(u3.1.2.2.2.2.1).toNat]?).bind fun y7 =>
      if (u3.1.2.2.2.1.length + [y7.2.2.1].length) * 8 ≤ 140737488355328 then
       let v8 := (u3.1.2.2.2.1 ++ [y7.2.2.1])
       let v9 := (IntKind.i64.wrap (u3.1.2.2.2.2.1 + (1 : Int)))
       rec ((u3.1.1, (u3.1.2.1, (u3.1.2.2.1, (v8, (v9, ()))))), ((), ()))
      else none
     else none
    else
     if 0 ≤ u3.1.2.2.2.2.1 then
      ((u3.1.1.2.1)[(u3.1.2.2.2.2.1).toNat]?).bind fun y10 =>
      if (u3.1.2.2.2.1.length + [y10.2.2.2.1].length) * 8 ≤ 140737488355328 then
       let v11 := (u3.1.2.2.2.1 ++ [y10.2.2.2.1])
       let v12 := (IntKind.i64.wrap (u3.1.2.2.2.2.1 + (1 : Int)))
       rec ((u3.1.1, (u3.1.2.1, (u3.1.2.2.1, (v11, (v12, ()))))), ((), ()))
      else none
     else none
  else none
 else
  some (.inl ((u3.1.2.2.2.1, ()), ((), ())))
def L_fk_3 (x : i_fk_3.den) : Option (denO o_fk_3) := Qd l_fk_3 lots x
def F_fk (x : denP P_fk) : Option (denV R_fk × denQ P_fk) :=
 (L_fk_3 ((x.1, (x.2.1, (x.2.2.1, (([] : List (den YI)), ((0 : Int), ()))))), ((), ()))).bind fun z13 =>
 match z13 with
 | .inl x14 =>
  some ((x14.1.1, ()), ())
 | .inr z13_ =>
  none
abbrev C_fk : Con := ⟨P_fk, R_fk, F_fk, false⟩
abbrev G_fk : Env := []
theorem g_fk : Qe Tryz.prog G_fk := Qc
abbrev c_fk_3 : Cut := ⟨i_fk_3, o_fk_3, fun x => Qd l_fk_3 lots x⟩
theorem t_fk_3 (rec x) : run T G_fk [] (nav Tryz.f195 [1, 1, 0, 1, 0, 0]) (mk 53 i_fk_3 x) (Qx i_fk_3 o_fk_3 rec) = l_fk_3 rec x := by kernel_rfl
theorem k_fk_3 : Qu Tryz.prog 53 (.loop (nav Tryz.f195 [1, 1, 0, 1, 0, 0])) c_fk_3 :=
  Qh (L := []) hT g_fk t_fk_3 okP _
theorem r_fk (x) : Qf T G_fk [(3, c_fk_3)] Tryz.f195 C_fk.ps C_fk.rs x = C_fk.F x := by kernel_rfl
theorem s_fk : Qb Tryz.prog 195 C_fk := fnC (L := [(3, c_fk_3)]) hT g_fk Tryz.f195 (okS okP (okS okP (okS (okS okP (okB (okU k_fk_3))) okP))) r_fk
abbrev P_fl : List PK := [.ptr Y62, .val YI]
abbrev R_fl : List VK := [.g [.own 2 YI, .dat YI, .own 2 YI, .dat .bool, .dat .bool, .dat .bool, .dat YI, .own 2 YI, .own 2 YI, .own 2 YI, .own 2 YI]]
def F_fl (x : denP P_fl) : Option (denV R_fl × denQ P_fl) :=
 if 0 ≤ x.2.1 then
  ((x.1.2.2.1)[(x.2.1).toNat]?).bind fun y1 =>
  (F_cj (y1, ())).bind fun r2 =>
  if 0 ≤ x.2.1 then
   ((x.1.1.1)[(x.2.1).toNat]?).bind fun y3 =>
   (F_fj (x.1.2.1, y3, ())).bind fun r4 =>
   (F_fk (x.1.1, x.2.1, true, ())).bind fun r5 =>
   (F_fj (x.1.2.1, r5.1.1, ())).bind fun r6 =>
   some (((r2.1.1.1, (r2.1.1.2.1, (r2.1.1.2.2.1, (r2.1.1.2.2.2.1, (r2.1.1.2.2.2.2.1, (r2.1.1.2.2.2.2.2.1, (r2.1.1.2.2.2.2.2.2.1, (r2.1.1.2.2.2.2.2.2.2.1, (r2.1.1.2.2.2.2.2.2.2.2.1, (r4.1.1, (r6.1.1, ()))))))))))), ()), ())
  else none
 else none
abbrev C_fl : Con := ⟨P_fl, R_fl, F_fl, false⟩
abbrev G_fl : Env := [(124, C_fj), (145, C_cj), (195, C_fk)]
theorem g_fl : Qe Tryz.prog G_fl := (Qa s_fj (Qa s_cj (Qa s_fk Qc)))
theorem r_fl (x) : Qf T G_fl [] Tryz.f110 C_fl.ps C_fl.rs x = C_fl.F x := by kernel_rfl
theorem s_fl : Qb Tryz.prog 110 C_fl := fnC (L := []) hT g_fl Tryz.f110 okP r_fl
abbrev P_fm : List PK := [.val Y24, .val Y24]
abbrev R_fm : List VK := [.s (.dat .bool)]
abbrev i_fm_4 : Shp := { slots := [(0, .s (.dat Y24)), (1, .s (.dat Y24)), (5, .s (.dat YI))], boxes := [], rows := [] }
abbrev o_fm_4 : List (Ex × Shp) := [(.exit 0, { slots := [], boxes := [], rows := [] }), (.ret, { slots := [(4, .s (.dat .bool))], boxes := [], rows := [] })]
def l_fm_4 (rec : i_fm_4.den → Option (denO o_fm_4)) (u4 : i_fm_4.den) : Option (denO o_fm_4) :=
 let v5 := ((u4.1.1.length : Nat) : Int)
 if (ltI u4.1.2.2.1 v5) then
  if 0 ≤ u4.1.2.2.1 then
   ((u4.1.1)[(u4.1.2.2.1).toNat]?).bind fun y6 =>
   if 0 ≤ u4.1.2.2.1 then
    ((u4.1.2.1)[(u4.1.2.2.1).toNat]?).bind fun y7 =>
    if (y6 != y7) then
     some (.inr (.inl ((false, ()), ((), ()))))
    else
     let v8 := (IntKind.i64.wrap (u4.1.2.2.1 + (1 : Int)))
     rec ((u4.1.1, (u4.1.2.1, (v8, ()))), ((), ()))
   else none
  else none
 else
  some (.inl ((), ((), ())))
def L_fm_4 (x : i_fm_4.den) : Option (denO o_fm_4) := Qd l_fm_4 lots x
def F_fm (x : denP P_fm) : Option (denV R_fm × denQ P_fm) :=
 let v1 := ((x.1.length : Nat) : Int)
 let v2 := ((x.2.1.length : Nat) : Int)
 if (v1 != v2) then
  some ((false, ()), ())
 else
  (L_fm_4 ((x.1, (x.2.1, ((0 : Int), ()))), ((), ()))).bind fun z9 =>
  match z9 with
  | .inl x10 =>
   some ((true, ()), ())
  | .inr z9_ =>
   match z9_ with
   | .inl x11 =>
    some ((x11.1.1, ()), ())
   | .inr z9__ =>
    none
abbrev C_fm : Con := ⟨P_fm, R_fm, F_fm, false⟩
abbrev G_fm : Env := []
theorem g_fm : Qe Tryz.prog G_fm := Qc
abbrev c_fm_4 : Cut := ⟨i_fm_4, o_fm_4, fun x => Qd l_fm_4 lots x⟩
theorem t_fm_4 (rec x) : run T G_fm [] (nav Tryz.f194 [1, 1, 0, 1, 0, 0]) (mk 26 i_fm_4 x) (Qx i_fm_4 o_fm_4 rec) = l_fm_4 rec x := by kernel_rfl
theorem k_fm_4 : Qu Tryz.prog 26 (.loop (nav Tryz.f194 [1, 1, 0, 1, 0, 0])) c_fm_4 :=
  Qh (L := []) hT g_fm t_fm_4 okP _
theorem r_fm (x) : Qf T G_fm [(4, c_fm_4)] Tryz.f194 C_fm.ps C_fm.rs x = C_fm.F x := by kernel_rfl
theorem s_fm : Qb Tryz.prog 194 C_fm := fnC (L := [(4, c_fm_4)]) hT g_fm Tryz.f194 (okS okP (okS okP (okS (okS okP (okB (okU k_fm_4))) okP))) r_fm
abbrev P_fn : List PK := [.ptr Y25, .ptr Y25]
abbrev R_fn : List VK := [.s (.dat .bool)]
def F_fn (x : denP P_fn) : Option (denV R_fn × denQ P_fn) :=
 (F_fm (x.1.1, x.2.1.1, ())).bind fun r1 =>
 if r1.1.1 = true then
  if (x.1.2.1 == x.2.1.2.1) = true then
   (F_fm (x.1.2.2.1, x.2.1.2.2.1, ())).bind fun r2 =>
   if r2.1.1 = true then
    if (x.1.2.2.2.1 == x.2.1.2.2.2.1) = true then
     if (x.1.2.2.2.2.1 == x.2.1.2.2.2.2.1) = true then
      if (x.1.2.2.2.2.2.1 == x.2.1.2.2.2.2.2.1) = true then
       if (x.1.2.2.2.2.2.2.1 == x.2.1.2.2.2.2.2.2.1) = true then
        (F_fm (x.1.2.2.2.2.2.2.2.1, x.2.1.2.2.2.2.2.2.2.1, ())).bind fun r3 =>
        if r3.1.1 = true then
         (F_fm (x.1.2.2.2.2.2.2.2.2.1, x.2.1.2.2.2.2.2.2.2.2.1, ())).bind fun r4 =>
         some ((r4.1.1, ()), ())
        else
         some ((false, ()), ())
       else
        some ((false, ()), ())
      else
       some ((false, ()), ())
     else
      some ((false, ()), ())
    else
     some ((false, ()), ())
   else
    some ((false, ()), ())
  else
   some ((false, ()), ())
 else
  some ((false, ()), ())
abbrev C_fn : Con := ⟨P_fn, R_fn, F_fn, false⟩
abbrev G_fn : Env := [(194, C_fm)]
theorem g_fn : Qe Tryz.prog G_fn := (Qa s_fm Qc)
theorem r_fn (x) : Qf T G_fn [] Tryz.f193 C_fn.ps C_fn.rs x = C_fn.F x := by kernel_rfl
theorem s_fn : Qb Tryz.prog 193 C_fn := fnC (L := []) hT g_fn Tryz.f193 okP r_fn
abbrev P_fo : List PK := [.val Y151, .val Y151]
abbrev R_fo : List VK := [.s (.dat .bool)]
def F_fo (x : denP P_fo) : Option (denV R_fo × denQ P_fo) :=
 (F_fn (x.1.1, x.2.1.1, ())).bind fun r1 =>
 if r1.1.1 = true then
  (F_fm (x.1.2.1, x.2.1.2.1, ())).bind fun r2 =>
  if r2.1.1 = true then
   (F_fm (x.1.2.2.1, x.2.1.2.2.1, ())).bind fun r3 =>
   some ((r3.1.1, ()), ())
  else
   some ((false, ()), ())
 else
  some ((false, ()), ())
abbrev C_fo : Con := ⟨P_fo, R_fo, F_fo, false⟩
abbrev G_fo : Env := [(193, C_fn), (194, C_fm)]
theorem g_fo : Qe Tryz.prog G_fo := (Qa s_fn (Qa s_fm Qc))
theorem r_fo (x) : Qf T G_fo [] Tryz.f109 C_fo.ps C_fo.rs x = C_fo.F x := by kernel_rfl
theorem s_fo : Qb Tryz.prog 109 C_fo := fnC (L := []) hT g_fo Tryz.f109 okP r_fo
abbrev P_o : List PK := []
abbrev R_o : List VK := [.s (.dat Y40)]
def F_o (x : denP P_o) : Option (denV R_o × denQ P_o) :=
 some ((((-1 : Int), ((0 : Int), ())), ()), ())
abbrev C_o : Con := ⟨P_o, R_o, F_o, false⟩
abbrev G_o : Env := []
theorem g_o : Qe Tryz.prog G_o := Qc
theorem r_o (x) : Qf T G_o [] Tryz.f251 C_o.ps C_o.rs x = C_o.F x := by kernel_rfl
theorem s_o : Qb Tryz.prog 251 C_o := fnC (L := []) hT g_o Tryz.f251 okP r_o
abbrev P_fp : List PK := [.ptr Y57, .val YI]
abbrev R_fp : List VK := [.s (.own 41 Y40)]
abbrev i_fp_11 : Shp := { slots := [(0, .s (.pd Y57)), (1, .s (.dat YI)), (5, .s (.own 41 Y40)), (8, .s (.dat YI))], boxes := [], rows := [] }
abbrev o_fp_11 : List (Ex × Shp) := [(.exit 4, { slots := [(5, .s (.own 41 Y40))], boxes := [], rows := [] })]
def l_fp_11 (rec : i_fp_11.den → Option (denO o_fp_11)) (u11 : i_fp_11.den) : Option (denO o_fp_11) :=
 let v24 := ((u11.1.1.2.1.length : Nat) : Int)
 if (ltI u11.1.2.2.2.1 v24) then
  if 0 ≤ u11.1.2.2.2.1 then
   ((u11.1.1.2.1)[(u11.1.2.2.2.1).toNat]?).bind fun y25 =>
   if (y25.1 == u11.1.2.1) then
    if 0 ≤ y25.2.2.2.1 ∧ y25.2.2.2.1 < ((u11.1.2.2.1.length : Nat) : Int) then
     ((u11.1.2.2.1)[(y25.2.2.2.1).toNat]?).bind fun y26 =>
     let v27 := (u11.1.2.2.1.set (y25.2.2.2.1).toNat (y25.2.2.1, ((3 : Int), ())))
     if (y25.2.1 == u11.1.2.1) then
      if 0 ≤ y25.2.2.2.2.1 ∧ y25.2.2.2.2.1 < ((v27.length : Nat) : Int) then
       ((v27)[(y25.2.2.2.2.1).toNat]?).bind fun y28 =>
       let v29 := (v27.set (y25.2.2.2.2.1).toNat (y25.2.2.1, ((1 : Int), ())))
       let v30 := (IntKind.i64.wrap (u11.1.2.2.2.1 + (1 : Int)))
       rec ((u11.1.1, (u11.1.2.1, (v29, (v30, ())))), ((), ()))
      else none
     else
      let v31 := (IntKind.i64.wrap (u11.1.2.2.2.1 + (1 : Int)))
      rec ((u11.1.1, (u11.1.2.1, (v27, (v31, ())))), ((), ()))
    else none
   else
    if (y25.2.1 == u11.1.2.1) then
     if 0 ≤ y25.2.2.2.2.1 ∧ y25.2.2.2.2.1 < ((u11.1.2.2.1.length : Nat) : Int) then
      ((u11.1.2.2.1)[(y25.2.2.2.2.1).toNat]?).bind fun y32 =>
      let v33 := (u11.1.2.2.1.set (y25.2.2.2.2.1).toNat (y25.2.2.1, ((1 : Int), ())))
      let v34 := (IntKind.i64.wrap (u11.1.2.2.2.1 + (1 : Int)))
      rec ((u11.1.1, (u11.1.2.1, (v33, (v34, ())))), ((), ()))
     else none
    else
     let v35 := (IntKind.i64.wrap (u11.1.2.2.2.1 + (1 : Int)))
     rec ((u11.1.1, (u11.1.2.1, (u11.1.2.2.1, (v35, ())))), ((), ()))
  else none
 else
  some (.inl ((u11.1.2.2.1, ()), ((), ())))
def L_fp_11 (x : i_fp_11.den) : Option (denO o_fp_11) := Qd l_fp_11 lots x
abbrev i_fp_7 : Shp := { slots := [(0, .s (.pd Y57)), (1, .s (.dat YI)), (5, .s (.own 41 Y40)), (7, .s (.dat YI))], boxes := [], rows := [] }
abbrev o_fp_7 : List (Ex × Shp) := [(.exit 2, { slots := [(0, .s (.pd Y57)), (1, .s (.dat YI)), (5, .s (.own 41 Y40))], boxes := [], rows := [] })]
def l_fp_7 (rec : i_fp_7.den → Option (denO o_fp_7)) (u7 : i_fp_7.den) : Option (denO o_fp_7) :=
 if 0 ≤ u7.1.2.1 then
  ((u7.1.1.1)[(u7.1.2.1).toNat]?).bind fun y11 =>
  let v12 := ((y11.length : Nat) : Int)
  if (ltI u7.1.2.2.2.1 v12) then
   if 0 ≤ u7.1.2.1 then
    ((u7.1.1.1)[(u7.1.2.1).toNat]?).bind fun y13 =>
    if 0 ≤ u7.1.2.2.2.1 then
     ((y13)[(u7.1.2.2.2.1).toNat]?).bind fun y14 =>
     if 0 ≤ u7.1.2.2.2.1 ∧ u7.1.2.2.2.1 < ((u7.1.2.2.1.length : Nat) : Int) then
      ((u7.1.2.2.1)[(u7.1.2.2.2.1).toNat]?).bind fun y15 =>
      let v16 := (u7.1.2.2.1.set (u7.1.2.2.2.1).toNat (y14, ((7 : Int), ())))
      let v17 := (IntKind.i64.wrap (u7.1.2.2.2.1 + (1 : Int)))
      rec ((u7.1.1, (u7.1.2.1, (v16, (v17, ())))), ((), ()))
     else none
    else none
   else none
  else
   some (.inl ((u7.1.1, (u7.1.2.1, (u7.1.2.2.1, ()))), ((), ())))
 else none
def L_fp_7 (x : i_fp_7.den) : Option (denO o_fp_7) := Qd l_fp_7 lots x
abbrev i_fp_3 : Shp := { slots := [(0, .s (.pd Y57)), (1, .s (.dat YI)), (5, .s (.own 41 Y40)), (6, .s (.dat YI))], boxes := [], rows := [] }
abbrev o_fp_3 : List (Ex × Shp) := [(.exit 0, { slots := [(0, .s (.pd Y57)), (1, .s (.dat YI)), (5, .s (.own 41 Y40))], boxes := [], rows := [] })]
def l_fp_3 (rec : i_fp_3.den → Option (denO o_fp_3)) (u3 : i_fp_3.den) : Option (denO o_fp_3) :=
 if (ltI u3.1.2.2.2.1 (8 : Int)) then
  (F_o ()).bind fun r2 =>
  if (u3.1.2.2.1.length + [r2.1.1].length) * 16 ≤ 140737488355328 then
   let v3 := (u3.1.2.2.1 ++ [r2.1.1])
   let v4 := (IntKind.i64.wrap (u3.1.2.2.2.1 + (1 : Int)))
   rec ((u3.1.1, (u3.1.2.1, (v3, (v4, ())))), ((), ()))
  else none
 else
  some (.inl ((u3.1.1, (u3.1.2.1, (u3.1.2.2.1, ()))), ((), ())))
def L_fp_3 (x : i_fp_3.den) : Option (denO o_fp_3) := Qd l_fp_3 lots x
def F_fp (x : denP P_fp) : Option (denV R_fp × denQ P_fp) :=
 (L_fp_3 ((x.1, (x.2.1, (([] : List (den Y40)), ((0 : Int), ())))), ((), ()))).bind fun z5 =>
 match z5 with
 | .inl x6 =>
  (L_fp_7 ((x6.1.1, (x6.1.2.1, (x6.1.2.2.1, ((0 : Int), ())))), ((), ()))).bind fun z18 =>
  match z18 with
  | .inl x19 =>
   (L_fp_11 ((x19.1.1, (x19.1.2.1, (x19.1.2.2.1, ((0 : Int), ())))), ((), ()))).bind fun z36 =>
   match z36 with
   | .inl x37 =>
    some ((x37.1.1, ()), ())
   | .inr z36_ =>
    none
  | .inr z18_ =>
   none
 | .inr z5_ =>
  none
abbrev C_fp : Con := ⟨P_fp, R_fp, F_fp, false⟩
abbrev G_fp : Env := [(251, C_o)]
theorem g_fp : Qe Tryz.prog G_fp := (Qa s_o Qc)
abbrev c_fp_11 : Cut := ⟨i_fp_11, o_fp_11, fun x => Qd l_fp_11 lots x⟩
theorem t_fp_11 (rec x) : run T G_fp [] (nav Tryz.f196 [1, 1, 1, 1, 0, 1, 0, 0]) (mk 84 i_fp_11 x) (Qx i_fp_11 o_fp_11 rec) = l_fp_11 rec x := by kernel_rfl
theorem k_fp_11 : Qu Tryz.prog 84 (.loop (nav Tryz.f196 [1, 1, 1, 1, 0, 1, 0, 0])) c_fp_11 :=
  Qh (L := []) hT g_fp t_fp_11 okP _
abbrev c_fp_7 : Cut := ⟨i_fp_7, o_fp_7, fun x => Qd l_fp_7 lots x⟩
theorem t_fp_7 (rec x) : run T G_fp [] (nav Tryz.f196 [1, 1, 1, 0, 1, 0, 0]) (mk 84 i_fp_7 x) (Qx i_fp_7 o_fp_7 rec) = l_fp_7 rec x := by kernel_rfl
theorem k_fp_7 : Qu Tryz.prog 84 (.loop (nav Tryz.f196 [1, 1, 1, 0, 1, 0, 0])) c_fp_7 :=
  Qh (L := []) hT g_fp t_fp_7 okP _
abbrev c_fp_3 : Cut := ⟨i_fp_3, o_fp_3, fun x => Qd l_fp_3 lots x⟩
theorem t_fp_3 (rec x) : run T G_fp [] (nav Tryz.f196 [1, 1, 0, 1, 0, 0]) (mk 84 i_fp_3 x) (Qx i_fp_3 o_fp_3 rec) = l_fp_3 rec x := by kernel_rfl
theorem k_fp_3 : Qu Tryz.prog 84 (.loop (nav Tryz.f196 [1, 1, 0, 1, 0, 0])) c_fp_3 :=
  Qh (L := []) hT g_fp t_fp_3 okP _
theorem r_fp (x) : Qf T G_fp [(11, c_fp_11), (7, c_fp_7), (3, c_fp_3)] Tryz.f196 C_fp.ps C_fp.rs x = C_fp.F x := by kernel_rfl
theorem s_fp : Qb Tryz.prog 196 C_fp := fnC (L := [(11, c_fp_11), (7, c_fp_7), (3, c_fp_3)]) hT g_fp Tryz.f196 (okS okP (okS okP (okS (okS okP (okB (okU k_fp_3))) (okS (okS okP (okB (okU k_fp_7))) (okS (okS okP (okB (okU k_fp_11))) okP))))) r_fp
abbrev P_ck : List PK := [.val Y25, .val Y27, .val Y24]
abbrev R_ck : List VK := [.b [.dat Y27, .own 2 YI, .dat YI, .own 2 YI, .dat YI, .own 2 YI, .dat .bool, .dat .bool, .dat .bool, .dat YI, .dat Y24, .own 2 YI, .dat YI]]
def F_ck (x : denP P_ck) : Option (denV R_ck × denQ P_ck) :=
 (F_ci (x.2.2.1, ())).bind fun r1 =>
 (F_cj (x.1, ())).bind fun r2 =>
 some (((x.2.1, (r1.1.1, ((-1 : Int), (r2.1.1.1, (r2.1.1.2.1, (r2.1.1.2.2.1, (r2.1.1.2.2.2.1, (r2.1.1.2.2.2.2.1, (r2.1.1.2.2.2.2.2.1, (r2.1.1.2.2.2.2.2.2.1, (r2.1.1.2.2.2.2.2.2.2.1, (r2.1.1.2.2.2.2.2.2.2.2.1, ((-1 : Int), ()))))))))))))), ()), ())
abbrev C_ck : Con := ⟨P_ck, R_ck, F_ck, false⟩
abbrev G_ck : Env := [(144, C_ci), (145, C_cj)]
theorem g_ck : Qe Tryz.prog G_ck := (Qa s_ci (Qa s_cj Qc))
theorem r_ck (x) : QkO T G_ck [] Tryz.f60 P_ck [.dat Y27, .own 2 YI, .dat YI, .own 2 YI, .dat YI, .own 2 YI, .dat .bool, .dat .bool, .dat .bool, .dat YI, .dat Y24, .own 2 YI, .dat YI] x = F_ck x := by kernel_rfl
theorem s_ck : Qb Tryz.prog 60 C_ck :=
  Qpl (L := []) hT g_ck Tryz.f60 (by kernel_rfl) (by kernel_rfl) (by kernel_rfl) okP r_ck
abbrev P_cl : List PK := [.ptr Y25]
abbrev R_cl : List VK := [.s (.dat YI)]
def F_cl (x : denP P_cl) : Option (denV R_cl × denQ P_cl) :=
 ((x.1.2.2.1)[((9 : Int)).toNat]?).bind fun y1 =>
 if (y1 != (0 : Int)) = true then
  ((x.1.2.2.1)[((9 : Int)).toNat]?).bind fun y2 =>
  if (leI y2 x.1.2.2.2.2.2.2.1) then
   if x.1.2.2.2.2.2.1 then
    let v3 := ((x.1.2.2.2.2.2.2.2.1.length : Nat) : Int)
    if (ltI (0 : Int) v3) then
     some (((7 : Int), ()), ())
    else
     some (((3 : Int), ()), ())
   else
    let v4 := ((x.1.2.2.2.2.2.2.2.1.length : Nat) : Int)
    if (ltI (0 : Int) v4) then
     some (((5 : Int), ()), ())
    else
     some (((1 : Int), ()), ())
  else
   if x.1.2.2.2.2.2.1 then
    let v5 := ((x.1.2.2.2.2.2.2.2.1.length : Nat) : Int)
    if (ltI (0 : Int) v5) then
     some (((6 : Int), ()), ())
    else
     some (((2 : Int), ()), ())
   else
    let v6 := ((x.1.2.2.2.2.2.2.2.1.length : Nat) : Int)
    if (ltI (0 : Int) v6) then
     some (((4 : Int), ()), ())
    else
     some (((0 : Int), ()), ())
 else
  if x.1.2.2.2.2.2.1 then
   let v7 := ((x.1.2.2.2.2.2.2.2.1.length : Nat) : Int)
   if (ltI (0 : Int) v7) then
    some (((6 : Int), ()), ())
   else
    some (((2 : Int), ()), ())
  else
   let v8 := ((x.1.2.2.2.2.2.2.2.1.length : Nat) : Int)
   if (ltI (0 : Int) v8) then
    some (((4 : Int), ()), ())
   else
    some (((0 : Int), ()), ())
abbrev C_cl : Con := ⟨P_cl, R_cl, F_cl, false⟩
abbrev G_cl : Env := []
theorem g_cl : Qe Tryz.prog G_cl := Qc
theorem r_cl (x) : Qf T G_cl [] Tryz.f148 C_cl.ps C_cl.rs x = C_cl.F x := by kernel_rfl
theorem s_cl : Qb Tryz.prog 148 C_cl := fnC (L := []) hT g_cl Tryz.f148 okP r_cl
abbrev P_cm : List PK := [.ptr Y25]
abbrev R_cm : List VK := [.s (.dat YI)]
abbrev i_cm_5 : Shp := { slots := [(3, .s (.dat YI)), (4, .s (.dat YI))], boxes := [], rows := [] }
abbrev o_cm_5 : List (Ex × Shp) := [(.exit 0, { slots := [], boxes := [], rows := [] }), (.ret, { slots := [(2, .s (.dat YI))], boxes := [], rows := [] })]
def l_cm_5 (rec : i_cm_5.den → Option (denO o_cm_5)) (u5 : i_cm_5.den) : Option (denO o_cm_5) :=
 if (ltI u5.1.2.1 (3 : Int)) then
  let v6 := (IntKind.u64.wrap u5.1.2.1)
  if v6 < 0 then none else
  let v7 := ((u5.1.1).fdiv (2 ^ (min (v6).toNat 64)))
  let v8 := (iand .i64 v7 (1 : Int))
  if (v8 == (1 : Int)) then
   some (.inr (.inl ((u5.1.2.1, ()), ((), ()))))
  else
   let v9 := (IntKind.i64.wrap (u5.1.2.1 + (1 : Int)))
   rec ((u5.1.1, (v9, ())), ((), ()))
 else
  some (.inl ((), ((), ())))
def L_cm_5 (x : i_cm_5.den) : Option (denO o_cm_5) := Qd l_cm_5 lots x
def F_cm (x : denP P_cm) : Option (denV R_cm × denQ P_cm) :=
 (F_cl (x.1, ())).bind fun r1 =>
 ((x.1.2.2.1)[((7 : Int)).toNat]?).bind fun y2 =>
 let v3 := (iand .i64 r1.1.1 y2)
 ((x.1.2.2.1)[((0 : Int)).toNat]?).bind fun y4 =>
 let v5 := ((y4).tmod (2 : Int))
 if (v5 == (0 : Int)) then
  some (((-1 : Int), ()), ())
 else
  (L_cm_5 ((v3, ((0 : Int), ())), ((), ()))).bind fun z10 =>
  match z10 with
  | .inl x11 =>
   some (((-1 : Int), ()), ())
  | .inr z10_ =>
   match z10_ with
   | .inl x12 =>
    some ((x12.1.1, ()), ())
   | .inr z10__ =>
    none
abbrev C_cm : Con := ⟨P_cm, R_cm, F_cm, false⟩
abbrev G_cm : Env := [(148, C_cl)]
theorem g_cm : Qe Tryz.prog G_cm := (Qa s_cl Qc)
abbrev c_cm_5 : Cut := ⟨i_cm_5, o_cm_5, fun x => Qd l_cm_5 lots x⟩
theorem t_cm_5 (rec x) : run T G_cm [] (nav Tryz.f146 [1, 1, 1, 0, 1, 0, 0]) (mk 33 i_cm_5 x) (Qx i_cm_5 o_cm_5 rec) = l_cm_5 rec x := by kernel_rfl
theorem k_cm_5 : Qu Tryz.prog 33 (.loop (nav Tryz.f146 [1, 1, 1, 0, 1, 0, 0])) c_cm_5 :=
  Qh (L := []) hT g_cm t_cm_5 okP _
theorem r_cm (x) : Qf T G_cm [(5, c_cm_5)] Tryz.f146 C_cm.ps C_cm.rs x = C_cm.F x := by kernel_rfl
theorem s_cm : Qb Tryz.prog 146 C_cm := fnC (L := [(5, c_cm_5)]) hT g_cm Tryz.f146 (okS okP (okS okP (okS okP (okS (okS okP (okB (okU k_cm_5))) okP)))) r_cm
abbrev P_cn : List PK := [.box [.own 2 YI, .dat YI, .own 2 YI, .dat .bool, .dat .bool, .dat .bool, .dat YI, .dat Y24, .own 2 YI] [.own 2 YI, .dat YI, .own 2 YI, .dat .bool, .dat .bool, .dat .bool, .dat YI, .dat Y24, .own 2 YI], .val YI, .val YI]
abbrev R_cn : List VK := []
def F_cn (x : denP P_cn) : Option (denV R_cn × denQ P_cn) :=
 if 0 ≤ (2 : Int) ∧ (2 : Int) < ((x.1.2.2.1.length : Nat) : Int) then
  ((x.1.2.2.1)[((2 : Int)).toNat]?).bind fun y1 =>
  let v2 := (x.1.2.2.1.set ((2 : Int)).toNat x.1.2.1)
  if 0 ≤ (3 : Int) ∧ (3 : Int) < ((v2.length : Nat) : Int) then
   ((v2)[((3 : Int)).toNat]?).bind fun y3 =>
   let v4 := (v2.set ((3 : Int)).toNat x.2.1)
   if 0 ≤ (4 : Int) ∧ (4 : Int) < ((v4.length : Nat) : Int) then
    ((v4)[((4 : Int)).toNat]?).bind fun y5 =>
    let v6 := (v4.set ((4 : Int)).toNat x.2.2.1)
    if 0 ≤ (0 : Int) ∧ (0 : Int) < ((v6.length : Nat) : Int) then
     ((v6)[((0 : Int)).toNat]?).bind fun y7 =>
     let v8 := ((y7).tmod (2 : Int))
     let v9 := (IntKind.i64.wrap (v8 * (2 : Int)))
     if 0 ≤ (0 : Int) ∧ (0 : Int) < ((v6.length : Nat) : Int) then
      ((v6)[((0 : Int)).toNat]?).bind fun y10 =>
      let v11 := (v6.set ((0 : Int)).toNat v9)
      if 0 ≤ (1 : Int) ∧ (1 : Int) < ((v11.length : Nat) : Int) then
       ((v11)[((1 : Int)).toNat]?).bind fun y12 =>
       some ((), ((x.1.1, (y12, (v11, (x.1.2.2.2.1, (false, (x.1.2.2.2.2.2.1, (x.1.2.2.2.2.2.2.1, (x.1.2.2.2.2.2.2.2.1, (x.1.2.2.2.2.2.2.2.2.1, ()))))))))), ()))
      else none
     else none
    else none
   else none
  else none
 else none
abbrev C_cn : Con := ⟨P_cn, R_cn, F_cn, false⟩
abbrev G_cn : Env := []
theorem g_cn : Qe Tryz.prog G_cn := Qc
theorem r_cn (x) : Qf T G_cn [] Tryz.f219 C_cn.ps C_cn.rs x = C_cn.F x := by kernel_rfl
theorem s_cn : Qb Tryz.prog 219 C_cn := fnC (L := []) hT g_cn Tryz.f219 okP r_cn
abbrev P_co : List PK := [.box [.dat Y27, .own 2 YI, .dat YI, .own 2 YI, .dat YI, .own 2 YI, .dat .bool, .dat .bool, .dat .bool, .dat YI, .dat Y24, .own 2 YI, .dat YI] [.dat Y27, .own 2 YI, .dat YI, .own 2 YI, .dat YI, .own 2 YI, .dat .bool, .dat .bool, .dat .bool, .dat YI, .dat Y24, .own 2 YI, .dat YI], .val YI, .val YI]
abbrev R_co : List VK := []
def F_co (x : denP P_co) : Option (denV R_co × denQ P_co) :=
 (F_cn ((x.1.2.2.2.1, (x.1.2.2.2.2.1, (x.1.2.2.2.2.2.1, (x.1.2.2.2.2.2.2.1, (x.1.2.2.2.2.2.2.2.1, (x.1.2.2.2.2.2.2.2.2.1, (x.1.2.2.2.2.2.2.2.2.2.1, (x.1.2.2.2.2.2.2.2.2.2.2.1, (x.1.2.2.2.2.2.2.2.2.2.2.2.1, ()))))))))), x.2.1, x.2.2.1, ())).bind fun r1 =>
 some ((), ((x.1.1, (x.1.2.1, (x.1.2.2.1, (r1.2.1.1, (r1.2.1.2.1, (r1.2.1.2.2.1, (r1.2.1.2.2.2.1, (r1.2.1.2.2.2.2.1, (r1.2.1.2.2.2.2.2.1, (r1.2.1.2.2.2.2.2.2.1, (r1.2.1.2.2.2.2.2.2.2.1, (r1.2.1.2.2.2.2.2.2.2.2.1, (x.2.1, ()))))))))))))), ()))
abbrev C_co : Con := ⟨P_co, R_co, F_co, false⟩
abbrev G_co : Env := [(219, C_cn)]
theorem g_co : Qe Tryz.prog G_co := (Qa s_cn Qc)
theorem r_co (x) : Qf T G_co [] Tryz.f147 C_co.ps C_co.rs x = C_co.F x := by kernel_rfl
theorem s_co : Qb Tryz.prog 147 C_co := fnC (L := []) hT g_co Tryz.f147 okP r_co
abbrev P_cp : List PK := [.val Y27, .val YI, .val YI]
abbrev R_cp : List VK := [.s (.dat YI)]
def F_cp (x : denP P_cp) : Option (denV R_cp × denQ P_cp) :=
 (F_d (x.2.1, (0 : Int), (63 : Int), ())).bind fun r1 =>
 if (!r1.1.1) then
  some (((-1 : Int), ()), ())
 else
  let v2 := (IntKind.i64.wrap ((x.2.1).tdiv (8 : Int)))
  if 0 ≤ v2 then
   ((x.1)[(v2).toNat]?).bind fun y3 =>
   if (ltI y3.1 (0 : Int)) = false then
    let v4 := (iand .i64 y3.2.1 x.2.2.1)
    if (v4 == (0 : Int)) then
     some (((-1 : Int), ()), ())
    else
     let v5 := (IntKind.i64.wrap (y3.1 * (8 : Int)))
     let v6 := ((x.2.1).tmod (8 : Int))
     let v7 := (IntKind.i64.wrap (v5 + v6))
     some ((v7, ()), ())
   else
    some (((-1 : Int), ()), ())
  else none
abbrev C_cp : Con := ⟨P_cp, R_cp, F_cp, false⟩
abbrev G_cp : Env := [(59, C_d)]
theorem g_cp : Qe Tryz.prog G_cp := (Qa s_d Qc)
theorem r_cp (x) : Qf T G_cp [] Tryz.f156 C_cp.ps C_cp.rs x = C_cp.F x := by kernel_rfl
theorem s_cp : Qb Tryz.prog 156 C_cp := fnC (L := []) hT g_cp Tryz.f156 okP r_cp
abbrev P_cq : List PK := [.val YI]
abbrev R_cq : List VK := [.s (.dat Y40)]
def F_cq (x : denP P_cq) : Option (denV R_cq × denQ P_cq) :=
 let v1 := (IntKind.i64.wrap ((x.1).tdiv (8 : Int)))
 let v2 := ((x.1).tmod (8 : Int))
 if (v2 == (0 : Int)) = false then
  if (leI (8 : Int) v1) then
   (F_o ()).bind fun r3 =>
   some ((r3.1.1, ()), ())
  else
   some (((v1, (v2, ())), ()), ())
 else
  (F_o ()).bind fun r4 =>
  some ((r4.1.1, ()), ())
abbrev C_cq : Con := ⟨P_cq, R_cq, F_cq, false⟩
abbrev G_cq : Env := [(251, C_o)]
theorem g_cq : Qe Tryz.prog G_cq := (Qa s_o Qc)
theorem r_cq (x) : Qf T G_cq [] Tryz.f280 C_cq.ps C_cq.rs x = C_cq.F x := by kernel_rfl
theorem s_cq : Qb Tryz.prog 280 C_cq := fnC (L := []) hT g_cq Tryz.f280 okP r_cq
abbrev P_cr : List PK := [.val Y24]
abbrev R_cr : List VK := [.g [.dat YI, .own 41 Y40]]
abbrev i_cr_5 : Shp := { slots := [(0, .s (.dat Y24)), (2, .s (.ptr 2 0)), (3, .s (.ptr 3 0)), (4, .s (.dat YI))], boxes := [(2, [.dat YI, .own 41 Y40]), (3, [.dat YI, .own 41 Y40])], rows := [] }
abbrev o_cr_5 : List (Ex × Shp) := [(.exit 0, { slots := [(2, .s (.ptr 2 0)), (3, .s (.ptr 3 0))], boxes := [(2, [.dat YI, .own 41 Y40]), (3, [.dat YI, .own 41 Y40])], rows := [] }), (.ret, { slots := [(2, .s (.ptr 2 0))], boxes := [(2, [.dat YI, .own 41 Y40])], rows := [] })]
def l_cr_5 (rec : i_cr_5.den → Option (denO o_cr_5)) (u5 : i_cr_5.den) : Option (denO o_cr_5) :=
 let v6 := ((u5.1.1.length : Nat) : Int)
 if (ltI u5.1.2.2.2.1 v6) then
  if 0 ≤ u5.1.2.2.2.1 then
   ((u5.1.1)[(u5.1.2.2.2.1).toNat]?).bind fun y7 =>
   (F_d (y7, (0 : Int), (4294967295 : Int), ())).bind fun r8 =>
   if (!r8.1.1) then
    some (.inr (.inl (((), ()), ((((3 : Int), (([] : List (den Y40)), ())), ()), ()))))
   else
    if 0 ≤ u5.1.2.2.2.1 then
     ((u5.1.1)[(u5.1.2.2.2.1).toNat]?).bind fun y9 =>
     (F_cq (y9, ())).bind fun r10 =>
     if (u5.2.1.2.1.2.1.length + [r10.1.1].length) * 16 ≤ 140737488355328 then
      let v11 := (u5.2.1.2.1.2.1 ++ [r10.1.1])
      let v12 := (IntKind.i64.wrap (u5.1.2.2.2.1 + (1 : Int)))
      rec ((u5.1.1, ((), ((), (v12, ())))), ((u5.2.1.1, ((u5.2.1.2.1.1, (v11, ())), ())), ()))
     else none
    else none
  else none
 else
  some (.inl (((), ((), ())), ((u5.2.1.1, (u5.2.1.2.1, ())), ())))
def L_cr_5 (x : i_cr_5.den) : Option (denO o_cr_5) := Qd l_cr_5 lots x
def F_cr (x : denP P_cr) : Option (denV R_cr × denQ P_cr) :=
 let v1 := ((x.1.length : Nat) : Int)
 if (v1 != (8 : Int)) then
  some ((((1 : Int), (([] : List (den Y40)), ())), ()), ())
 else
  (L_cr_5 ((x.1, ((), ((), ((0 : Int), ())))), ((((0 : Int), (([] : List (den Y40)), ())), (((0 : Int), (([] : List (den Y40)), ())), ())), ()))).bind fun z13 =>
  match z13 with
  | .inl x14 =>
   some ((x14.2.1.2.1, ()), ())
  | .inr z13_ =>
   match z13_ with
   | .inl x15 =>
    some ((x15.2.1.1, ()), ())
   | .inr z13__ =>
    none
abbrev C_cr : Con := ⟨P_cr, R_cr, F_cr, false⟩
abbrev G_cr : Env := [(59, C_d), (280, C_cq)]
theorem g_cr : Qe Tryz.prog G_cr := (Qa s_d (Qa s_cq Qc))
abbrev c_cr_5 : Cut := ⟨i_cr_5, o_cr_5, fun x => Qd l_cr_5 lots x⟩
theorem t_cr_5 (rec x) : run T G_cr [] (nav Tryz.f231 [1, 1, 1, 0, 1, 0, 0]) (mk 34 i_cr_5 x) (Qx i_cr_5 o_cr_5 rec) = l_cr_5 rec x := by kernel_rfl
theorem k_cr_5 : Qu Tryz.prog 34 (.loop (nav Tryz.f231 [1, 1, 1, 0, 1, 0, 0])) c_cr_5 :=
  Qh (L := []) hT g_cr t_cr_5 okP _
theorem r_cr (x) : Qf T G_cr [(5, c_cr_5)] Tryz.f231 C_cr.ps C_cr.rs x = C_cr.F x := by kernel_rfl
theorem s_cr : Qb Tryz.prog 231 C_cr := fnC (L := [(5, c_cr_5)]) hT g_cr Tryz.f231 (okS okP (okS okP (okS okP (okS (okS okP (okB (okU k_cr_5))) okP)))) r_cr
abbrev P_cs : List PK := [.ptr Y121]
abbrev R_cs : List VK := [.s (.own 41 Y40), .s (.dat .bool)]
abbrev i_cs_5 : Shp := { slots := [(5, .s (.own 41 Y40)), (6, .s (.dat YI))], boxes := [], rows := [] }
abbrev o_cs_5 : List (Ex × Shp) := [(.exit 0, { slots := [(5, .s (.own 41 Y40))], boxes := [], rows := [] })]
def l_cs_5 (rec : i_cs_5.den → Option (denO o_cs_5)) (u5 : i_cs_5.den) : Option (denO o_cs_5) :=
 if (ltI u5.1.2.1 (8 : Int)) then
  if (u5.1.1.length + [(u5.1.2.1, ((7 : Int), ()))].length) * 16 ≤ 140737488355328 then
   let v2 := (u5.1.1 ++ [(u5.1.2.1, ((7 : Int), ()))])
   let v3 := (IntKind.i64.wrap (u5.1.2.1 + (1 : Int)))
   rec ((v2, (v3, ())), ((), ()))
  else none
 else
  some (.inl ((u5.1.1, ()), ((), ())))
def L_cs_5 (x : i_cs_5.den) : Option (denO o_cs_5) := Qd l_cs_5 lots x
def F_cs (x : denP P_cs) : Option (denV R_cs × denQ P_cs) :=
 ((x.1.2.2.2.1.2.2.1)[((10 : Int)).toNat]?).bind fun y1 =>
 if (y1 == (0 : Int)) then
  (L_cs_5 ((([] : List (den Y40)), ((0 : Int), ())), ((), ()))).bind fun z4 =>
  match z4 with
  | .inl x5 =>
   some ((x5.1.1, true, ()), ())
  | .inr z4_ =>
   none
 else
  let v6 := (IntKind.i64.wrap (y1 - (1 : Int)))
  let v7 := (IntKind.i64.wrap (v6 * (8 : Int)))
  (F_cp (x.1.1, v7, (1 : Int), ())).bind fun r8 =>
  if (y1 == (8 : Int)) = false then
   if (ltI r8.1.1 (0 : Int)) then
    some ((([] : List (den Y40)), false, ()), ())
   else
    let v9 := (IntKind.i64.wrap (r8.1.1 + (8 : Int)))
    if 0 ≤ r8.1.1 ∧ r8.1.1 ≤ v9 ∧ v9 ≤ ((x.1.2.1.length : Nat) : Int) then
     let v10 := ((x.1.2.1.drop (r8.1.1).toNat).take ((v9).toNat - (r8.1.1).toNat))
     (F_cr (v10, ())).bind fun r11 =>
     some ((r11.1.1.2.1, true, ()), ())
    else none
  else
   some ((([] : List (den Y40)), false, ()), ())
abbrev C_cs : Con := ⟨P_cs, R_cs, F_cs, false⟩
abbrev G_cs : Env := [(156, C_cp), (231, C_cr)]
theorem g_cs : Qe Tryz.prog G_cs := (Qa s_cp (Qa s_cr Qc))
abbrev c_cs_5 : Cut := ⟨i_cs_5, o_cs_5, fun x => Qd l_cs_5 lots x⟩
theorem t_cs_5 (rec x) : run T G_cs [] (nav Tryz.f155 [1, 1, 0, 1, 0, 1, 0, 1, 0, 0]) (mk 52 i_cs_5 x) (Qx i_cs_5 o_cs_5 rec) = l_cs_5 rec x := by kernel_rfl
theorem k_cs_5 : Qu Tryz.prog 52 (.loop (nav Tryz.f155 [1, 1, 0, 1, 0, 1, 0, 1, 0, 0])) c_cs_5 :=
  Qh (L := []) hT g_cs t_cs_5 okP _
theorem r_cs (x) : Qf T G_cs [(5, c_cs_5)] Tryz.f155 C_cs.ps C_cs.rs x = C_cs.F x := by kernel_rfl
theorem s_cs : Qb Tryz.prog 155 C_cs := fnC (L := [(5, c_cs_5)]) hT g_cs Tryz.f155 (okS okP (okS okP (okS (okS okP (okI (okS okP (okS (okS okP (okB (okU k_cs_5))) okP)) okP)) okP))) r_cs
abbrev P_ct : List PK := [.val YI]
abbrev R_ct : List VK := [.s (.dat YI)]
def F_ct (x : denP P_ct) : Option (denV R_ct × denQ P_ct) :=
 if (x.1 == (1 : Int)) then
  some (((7 : Int), ()), ())
 else
  if (x.1 == (2 : Int)) then
   some (((8 : Int), ()), ())
  else
   some (((9 : Int), ()), ())
abbrev C_ct : Con := ⟨P_ct, R_ct, F_ct, false⟩
abbrev G_ct : Env := []
theorem g_ct : Qe Tryz.prog G_ct := Qc
theorem r_ct (x) : Qf T G_ct [] Tryz.f157 C_ct.ps C_ct.rs x = C_ct.F x := by kernel_rfl
theorem s_ct : Qb Tryz.prog 157 C_ct := fnC (L := []) hT g_ct Tryz.f157 okP r_ct
abbrev P_cu : List PK := [.ptr Y121, .val YI, .val YI]
abbrev R_cu : List VK := [.s (.dat YI), .s (.dat YI)]
def F_cu (x : denP P_cu) : Option (denV R_cu × denQ P_cu) :=
 (F_cs (x.1, ())).bind fun r1 =>
 if (!r1.1.2.1) then
  some (((0 : Int), (7 : Int), ()), ())
 else
  (F_cp (r1.1.1, x.2.1, x.2.2.1, ())).bind fun r2 =>
  if (ltI r2.1.1 (0 : Int)) then
   (F_ct (x.2.2.1, ())).bind fun r3 =>
   some (((0 : Int), r3.1.1, ()), ())
  else
   let v4 := (IntKind.i64.wrap ((r2.1.1).tdiv (8 : Int)))
   if (v4 == (7 : Int)) then
    if (x.2.2.1 == (4 : Int)) then
     some (((0 : Int), (9 : Int), ()), ())
    else
     let v5 := ((r2.1.1).tmod (8 : Int))
     let v6 := (IntKind.i64.wrap ((1000 : Int) + v5))
     some ((v6, (0 : Int), ()), ())
   else
    (F_cp (x.1.1, r2.1.1, x.2.2.1, ())).bind fun r7 =>
    if (ltI r7.1.1 (0 : Int)) then
     (F_ct (x.2.2.1, ())).bind fun r8 =>
     some (((0 : Int), r8.1.1, ()), ())
    else
     some ((r7.1.1, (0 : Int), ()), ())
abbrev C_cu : Con := ⟨P_cu, R_cu, F_cu, false⟩
abbrev G_cu : Env := [(155, C_cs), (156, C_cp), (157, C_ct)]
theorem g_cu : Qe Tryz.prog G_cu := (Qa s_cs (Qa s_cp (Qa s_ct Qc)))
theorem r_cu (x) : Qf T G_cu [] Tryz.f65 C_cu.ps C_cu.rs x = C_cu.F x := by kernel_rfl
theorem s_cu : Qb Tryz.prog 65 C_cu := fnC (L := []) hT g_cu Tryz.f65 okP r_cu
abbrev P_s : List PK := [.val YI]
abbrev R_s : List VK := [.s (.dat .bool), .s (.dat .bool), .s (.dat .bool)]
def F_s (x : denP P_s) : Option (denV R_s × denQ P_s) :=
 if (x.1 == (13 : Int)) then
  some ((false, true, false, ()), ())
 else
  if (x.1 == (19 : Int)) then
   some ((false, true, false, ()), ())
  else
   if (x.1 == (21 : Int)) then
    some ((false, true, false, ()), ())
   else
    if (x.1 == (22 : Int)) then
     some ((true, false, false, ()), ())
    else
     if (x.1 == (23 : Int)) then
      some ((true, true, true, ()), ())
     else
      if (x.1 == (24 : Int)) then
       some ((true, true, true, ()), ())
      else
       if (x.1 == (25 : Int)) then
        some ((true, true, true, ()), ())
       else
        if (x.1 == (26 : Int)) then
         some ((true, true, true, ()), ())
        else
         some ((false, false, false, ()), ())
abbrev C_s : Con := ⟨P_s, R_s, F_s, false⟩
abbrev G_s : Env := []
theorem g_s : Qe Tryz.prog G_s := Qc
theorem r_s (x) : Qf T G_s [] Tryz.f270 C_s.ps C_s.rs x = C_s.F x := by kernel_rfl
theorem s_s : Qb Tryz.prog 270 C_s := fnC (L := []) hT g_s Tryz.f270 okP r_s
end Go.Proofs.YtajnommlfjfgpaaGreatDoor
