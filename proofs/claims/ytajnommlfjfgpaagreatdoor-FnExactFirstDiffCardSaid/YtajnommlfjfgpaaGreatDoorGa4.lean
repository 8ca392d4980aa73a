/- The functions of the laws, each as a plain function of data (F), and that the program's text does what F says. Printed by a program (wip/tools/gen.py). -/
import Derived.Test.YtajnommlfjfgpaaGreatDoorGa3
namespace Go.Proofs.YtajnommlfjfgpaaGreatDoor
open Go Go.RowKit S Go.Proofs
set_option maxRecDepth 100000
set_option linter.unusedVariables false
abbrev P_ca : List PK := [.box [.own 2 YI, .dat YI, .own 2 YI, .dat .bool, .dat .bool, .dat .bool, .dat YI, .own 2 YI, .own 2 YI, .dat Y27, .own 2 YI, .dat YI, .dat YI] [.own 2 YI, .dat YI, .own 2 YI, .dat .bool, .dat .bool, .dat .bool, .dat YI, .own 2 YI, .own 2 YI, .dat Y27, .own 2 YI, .dat YI, .dat YI]]
abbrev R_ca : List VK := []
def F_ca (x : denP P_ca) : Option (denV R_ca × denQ P_ca) :=
 if x.1.2.2.2.1 then
  some ((), ((x.1.1, (x.1.2.1, (x.1.2.2.1, (x.1.2.2.2.1, (x.1.2.2.2.2.1, (x.1.2.2.2.2.2.1, (x.1.2.2.2.2.2.2.1, (x.1.2.2.2.2.2.2.2.1, (x.1.2.2.2.2.2.2.2.2.1, (x.1.2.2.2.2.2.2.2.2.2.1, (x.1.2.2.2.2.2.2.2.2.2.2.1, ((-1 : Int), ((-1 : Int), ()))))))))))))), ()))
 else
  (F_at ((x.1.1, (x.1.2.1, (x.1.2.2.1, (x.1.2.2.2.1, (x.1.2.2.2.2.1, (x.1.2.2.2.2.2.1, (x.1.2.2.2.2.2.2.1, (x.1.2.2.2.2.2.2.2.1, (x.1.2.2.2.2.2.2.2.2.1, ()))))))))), ())).bind fun r1 =>
  if (leI (0 : Int) r1.1.1) then
   let v2 := (IntKind.i64.wrap ((16 : Int) + r1.1.1))
   (F_av ((x.1.1, (x.1.2.1, (x.1.2.2.1, (x.1.2.2.2.1, (x.1.2.2.2.2.1, (x.1.2.2.2.2.2.1, (x.1.2.2.2.2.2.2.1, (x.1.2.2.2.2.2.2.2.1, (x.1.2.2.2.2.2.2.2.2.1, (x.1.2.2.2.2.2.2.2.2.2.1, (x.1.2.2.2.2.2.2.2.2.2.2.1, ((-1 : Int), ((-1 : Int), ()))))))))))))), v2, (0 : Int), ())).bind fun r3 =>
   some ((), (r3.2.1, ()))
  else
   if x.1.2.2.2.2.1 then
    (F_ar ((x.1.1, (x.1.2.1, (x.1.2.2.1, (x.1.2.2.2.1, (x.1.2.2.2.2.1, (x.1.2.2.2.2.2.1, (x.1.2.2.2.2.2.2.1, (x.1.2.2.2.2.2.2.2.1, (x.1.2.2.2.2.2.2.2.2.1, ()))))))))), ())).bind fun r4 =>
    if 0 ≤ (7 : Int) ∧ (7 : Int) < ((x.1.2.2.1.length : Nat) : Int) then
     ((x.1.2.2.1)[((7 : Int)).toNat]?).bind fun y5 =>
     let v6 := (iand .i64 r4.1.1 y5)
     if (v6 == (0 : Int)) then
      some ((), ((x.1.1, (x.1.2.1, (x.1.2.2.1, (x.1.2.2.2.1, (x.1.2.2.2.2.1, (x.1.2.2.2.2.2.1, (x.1.2.2.2.2.2.2.1, (x.1.2.2.2.2.2.2.2.1, (x.1.2.2.2.2.2.2.2.2.1, (x.1.2.2.2.2.2.2.2.2.2.1, (x.1.2.2.2.2.2.2.2.2.2.2.1, ((-1 : Int), ((-1 : Int), ()))))))))))))), ()))
     else
      (F_be ((x.1.1, (x.1.2.1, (x.1.2.2.1, (x.1.2.2.2.1, (false, (x.1.2.2.2.2.2.1, (x.1.2.2.2.2.2.2.1, (x.1.2.2.2.2.2.2.2.1, (x.1.2.2.2.2.2.2.2.2.1, ()))))))))), x.1.2.2.2.2.2.2.2.2.2.1, x.1.2.2.2.2.2.2.2.2.2.2.1, x.1.2.1, (4 : Int), ())).bind fun r7 =>
      if (r7.1.1.1 != (0 : Int)) then
       (F_av ((x.1.1, (x.1.2.1, (x.1.2.2.1, (x.1.2.2.2.1, (false, (x.1.2.2.2.2.2.1, (x.1.2.2.2.2.2.2.1, (x.1.2.2.2.2.2.2.2.1, (x.1.2.2.2.2.2.2.2.2.1, (x.1.2.2.2.2.2.2.2.2.2.1, (x.1.2.2.2.2.2.2.2.2.2.2.1, ((-1 : Int), ((-1 : Int), ()))))))))))))), (2 : Int), x.1.2.1, ())).bind fun r8 =>
       some ((), (r8.2.1, ()))
      else
       if 0 ≤ r7.1.1.2.1 ∧ r7.1.1.2.1 < ((x.1.2.2.2.2.2.2.2.2.2.2.1.length : Nat) : Int) then
        ((x.1.2.2.2.2.2.2.2.2.2.2.1)[(r7.1.1.2.1).toNat]?).bind fun y9 =>
        (F_bg (y9, ())).bind fun r10 =>
        if (r10.1.1.1 != (0 : Int)) then
         if 0 ≤ r7.1.1.2.1 ∧ r7.1.1.2.1 < ((x.1.2.2.2.2.2.2.2.2.2.2.1.length : Nat) : Int) then
          ((x.1.2.2.2.2.2.2.2.2.2.2.1)[(r7.1.1.2.1).toNat]?).bind fun y11 =>
          (F_av ((x.1.1, (x.1.2.1, (x.1.2.2.1, (x.1.2.2.2.1, (false, (x.1.2.2.2.2.2.1, (x.1.2.2.2.2.2.2.1, (x.1.2.2.2.2.2.2.2.1, (x.1.2.2.2.2.2.2.2.2.1, (x.1.2.2.2.2.2.2.2.2.2.1, (x.1.2.2.2.2.2.2.2.2.2.2.1, ((-1 : Int), ((-1 : Int), ()))))))))))))), (1 : Int), y11, ())).bind fun r12 =>
          some ((), (r12.2.1, ()))
         else none
        else
         (F_bz ((x.1.1, (x.1.2.1, (x.1.2.2.1, (x.1.2.2.2.1, (false, (x.1.2.2.2.2.2.1, (x.1.2.2.2.2.2.2.1, (x.1.2.2.2.2.2.2.2.1, (x.1.2.2.2.2.2.2.2.2.1, (x.1.2.2.2.2.2.2.2.2.2.1, (x.1.2.2.2.2.2.2.2.2.2.2.1, ((-1 : Int), ((-1 : Int), ()))))))))))))), r10.1.1.2.1, ())).bind fun r13 =>
         some ((), (r13.2.1, ()))
       else none
    else none
   else
    (F_be ((x.1.1, (x.1.2.1, (x.1.2.2.1, (x.1.2.2.2.1, (x.1.2.2.2.2.1, (x.1.2.2.2.2.2.1, (x.1.2.2.2.2.2.2.1, (x.1.2.2.2.2.2.2.2.1, (x.1.2.2.2.2.2.2.2.2.1, ()))))))))), x.1.2.2.2.2.2.2.2.2.2.1, x.1.2.2.2.2.2.2.2.2.2.2.1, x.1.2.1, (4 : Int), ())).bind fun r14 =>
    if (r14.1.1.1 != (0 : Int)) then
     (F_av ((x.1.1, (x.1.2.1, (x.1.2.2.1, (x.1.2.2.2.1, (x.1.2.2.2.2.1, (x.1.2.2.2.2.2.1, (x.1.2.2.2.2.2.2.1, (x.1.2.2.2.2.2.2.2.1, (x.1.2.2.2.2.2.2.2.2.1, (x.1.2.2.2.2.2.2.2.2.2.1, (x.1.2.2.2.2.2.2.2.2.2.2.1, ((-1 : Int), ((-1 : Int), ()))))))))))))), (2 : Int), x.1.2.1, ())).bind fun r15 =>
     some ((), (r15.2.1, ()))
    else
     if 0 ≤ r14.1.1.2.1 ∧ r14.1.1.2.1 < ((x.1.2.2.2.2.2.2.2.2.2.2.1.length : Nat) : Int) then
      ((x.1.2.2.2.2.2.2.2.2.2.2.1)[(r14.1.1.2.1).toNat]?).bind fun y16 =>
      (F_bg (y16, ())).bind fun r17 =>
      if (r17.1.1.1 != (0 : Int)) then
       if 0 ≤ r14.1.1.2.1 ∧ r14.1.1.2.1 < ((x.1.2.2.2.2.2.2.2.2.2.2.1.length : Nat) : Int) then
        ((x.1.2.2.2.2.2.2.2.2.2.2.1)[(r14.1.1.2.1).toNat]?).bind fun y18 =>
        (F_av ((x.1.1, (x.1.2.1, (x.1.2.2.1, (x.1.2.2.2.1, (x.1.2.2.2.2.1, (x.1.2.2.2.2.2.1, (x.1.2.2.2.2.2.2.1, (x.1.2.2.2.2.2.2.2.1, (x.1.2.2.2.2.2.2.2.2.1, (x.1.2.2.2.2.2.2.2.2.2.1, (x.1.2.2.2.2.2.2.2.2.2.2.1, ((-1 : Int), ((-1 : Int), ()))))))))))))), (1 : Int), y18, ())).bind fun r19 =>
        some ((), (r19.2.1, ()))
       else none
      else
       (F_bz ((x.1.1, (x.1.2.1, (x.1.2.2.1, (x.1.2.2.2.1, (x.1.2.2.2.2.1, (x.1.2.2.2.2.2.1, (x.1.2.2.2.2.2.2.1, (x.1.2.2.2.2.2.2.2.1, (x.1.2.2.2.2.2.2.2.2.1, (x.1.2.2.2.2.2.2.2.2.2.1, (x.1.2.2.2.2.2.2.2.2.2.2.1, ((-1 : Int), ((-1 : Int), ()))))))))))))), r17.1.1.2.1, ())).bind fun r20 =>
       some ((), (r20.2.1, ()))
     else none
abbrev C_ca : Con := ⟨P_ca, R_ca, F_ca, false⟩
abbrev G_ca : Env := [(64, C_bg), (67, C_at), (69, C_be), (158, C_ar), (215, C_av), (216, C_bz)]
theorem g_ca : Qe Tryz.prog G_ca := (Qa s_bg (Qa s_at (Qa s_be (Qa s_ar (Qa s_av (Qa s_bz Qc))))))
theorem r_ca (x) : Qf T G_ca [] Tryz.f140 C_ca.ps C_ca.rs x = C_ca.F x := by kernel_rfl
theorem s_ca : Qb Tryz.prog 140 C_ca := fnC (L := []) hT g_ca Tryz.f140 okP r_ca
abbrev P_cb : List PK := [.val Y25, .val Y27, .val Y24, .val YI]
abbrev R_cb : List VK := [.g [.dat YI, .dat YI, .dat YI, .own 2 YI, .dat YI, .own 2 YI, .dat .bool, .dat .bool, .dat .bool, .dat YI, .own 2 YI, .own 2 YI, .own 2 YI]]
abbrev i_cb_4 : Shp := { slots := [(8, .s (.ptr 8 0)), (9, .s (.ptr 9 0)), (10, .s (.dat YI)), (11, .s (.dat YI)), (18, .s (.dat YI)), (19, .s (.dat YI))], boxes := [(8, [.dat YI, .dat YI, .dat YI, .own 2 YI, .dat YI, .own 2 YI, .dat .bool, .dat .bool, .dat .bool, .dat YI, .own 2 YI, .own 2 YI, .own 2 YI]), (9, [.own 2 YI, .dat YI, .own 2 YI, .dat .bool, .dat .bool, .dat .bool, .dat YI, .own 2 YI, .own 2 YI, .dat Y27, .own 2 YI, .dat YI, .dat YI])], rows := [] }
abbrev o_cb_4 : List (Ex × Shp) := [(.exit 0, { slots := [(8, .s (.ptr 8 0)), (9, .s (.ptr 9 0)), (10, .s (.dat YI)), (11, .s (.dat YI))], boxes := [(8, [.dat YI, .dat YI, .dat YI, .own 2 YI, .dat YI, .own 2 YI, .dat .bool, .dat .bool, .dat .bool, .dat YI, .own 2 YI, .own 2 YI, .own 2 YI]), (9, [.own 2 YI, .dat YI, .own 2 YI, .dat .bool, .dat .bool, .dat .bool, .dat YI, .own 2 YI, .own 2 YI, .dat Y27, .own 2 YI, .dat YI, .dat YI])], rows := [] })]
def l_cb_4 (rec : i_cb_4.den → Option (denO o_cb_4)) (u4 : i_cb_4.den) : Option (denO o_cb_4) :=
 if (ltI u4.1.2.2.2.2.2.1 u4.1.2.2.2.2.1) then
  (F_ca (u4.2.1.2.1, ())).bind fun r4 =>
  if (leI (0 : Int) r4.2.1.2.2.2.2.2.2.2.2.2.2.2.1) then
   if (leI (0 : Int) r4.2.1.2.2.2.2.2.2.2.2.2.2.2.2.1) then
    let v5 := (IntKind.i64.wrap (u4.1.2.2.2.2.2.1 + (1 : Int)))
    rec (((), ((), (r4.2.1.2.2.2.2.2.2.2.2.2.2.2.1, (r4.2.1.2.2.2.2.2.2.2.2.2.2.2.2.1, (u4.1.2.2.2.2.1, (v5, ())))))), ((u4.2.1.1, (r4.2.1, ())), ()))
   else
    let v6 := (IntKind.i64.wrap (u4.1.2.2.2.2.2.1 + (1 : Int)))
    rec (((), ((), (r4.2.1.2.2.2.2.2.2.2.2.2.2.2.1, (u4.1.2.2.2.1, (u4.1.2.2.2.2.1, (v6, ())))))), ((u4.2.1.1, (r4.2.1, ())), ()))
  else
   if (leI (0 : Int) r4.2.1.2.2.2.2.2.2.2.2.2.2.2.2.1) then
    let v7 := (IntKind.i64.wrap (u4.1.2.2.2.2.2.1 + (1 : Int)))
    rec (((), ((), (u4.1.2.2.1, (r4.2.1.2.2.2.2.2.2.2.2.2.2.2.2.1, (u4.1.2.2.2.2.1, (v7, ())))))), ((u4.2.1.1, (r4.2.1, ())), ()))
   else
    let v8 := (IntKind.i64.wrap (u4.1.2.2.2.2.2.1 + (1 : Int)))
    rec (((), ((), (u4.1.2.2.1, (u4.1.2.2.2.1, (u4.1.2.2.2.2.1, (v8, ())))))), ((u4.2.1.1, (r4.2.1, ())), ()))
 else
  some (.inl (((), ((), (u4.1.2.2.1, (u4.1.2.2.2.1, ())))), ((u4.2.1.1, (u4.2.1.2.1, ())), ())))
def L_cb_4 (x : i_cb_4.den) : Option (denO o_cb_4) := Qd l_cb_4 lots x
def F_cb (x : denP P_cb) : Option (denV R_cb × denQ P_cb) :=
 (F_aq (x.1, ())).bind fun r1 =>
 (F_ap (x.2.2.1, ())).bind fun r2 =>
 (L_cb_4 (((), ((), ((-1 : Int), ((-1 : Int), (x.2.2.2.1, ((0 : Int), ())))))), ((((0 : Int), ((0 : Int), ((0 : Int), (([] : List (den YI)), ((0 : Int), (([] : List (den YI)), (false, (false, (false, ((0 : Int), (([] : List (den YI)), (([] : List (den YI)), (([] : List (den YI)), ()))))))))))))), ((r1.1.1.1, (r1.1.1.2.1, (r1.1.1.2.2.1, (r1.1.1.2.2.2.1, (r1.1.1.2.2.2.2.1, (r1.1.1.2.2.2.2.2.1, (r1.1.1.2.2.2.2.2.2.1, (r1.1.1.2.2.2.2.2.2.2.1, (r1.1.1.2.2.2.2.2.2.2.2.1, (x.2.1, (r2.1.1, ((0 : Int), ((0 : Int), ()))))))))))))), ())), ()))).bind fun z9 =>
 match z9 with
 | .inl x10 =>
  some ((((0 : Int), (x10.1.2.2.1, (x10.1.2.2.2.1, (x10.2.1.2.1.1, (x10.2.1.2.1.2.1, (x10.2.1.2.1.2.2.1, (x10.2.1.2.1.2.2.2.1, (x10.2.1.2.1.2.2.2.2.1, (x10.2.1.2.1.2.2.2.2.2.1, (x10.2.1.2.1.2.2.2.2.2.2.1, (x10.2.1.2.1.2.2.2.2.2.2.2.1, (x10.2.1.2.1.2.2.2.2.2.2.2.2.1, (x10.2.1.2.1.2.2.2.2.2.2.2.2.2.2.1, ()))))))))))))), ()), ())
 | .inr z9_ =>
  none
abbrev C_cb : Con := ⟨P_cb, R_cb, F_cb, false⟩
abbrev G_cb : Env := [(83, C_aq), (139, C_ap), (140, C_ca)]
theorem g_cb : Qe Tryz.prog G_cb := (Qa s_aq (Qa s_ap (Qa s_ca Qc)))
abbrev c_cb_4 : Cut := ⟨i_cb_4, o_cb_4, fun x => Qd l_cb_4 lots x⟩
theorem t_cb_4 (rec x) : run T G_cb [] (nav Tryz.f57 [1, 1, 1, 0, 1, 0, 0]) (mk 40 i_cb_4 x) (Qx i_cb_4 o_cb_4 rec) = l_cb_4 rec x := by kernel_rfl
theorem k_cb_4 : Qu Tryz.prog 40 (.loop (nav Tryz.f57 [1, 1, 1, 0, 1, 0, 0])) c_cb_4 :=
  Qh (L := []) hT g_cb t_cb_4 okP _
theorem r_cb (x) : Qf T G_cb [(4, c_cb_4)] Tryz.f57 C_cb.ps C_cb.rs x = C_cb.F x := by kernel_rfl
theorem s_cb : Qb Tryz.prog 57 C_cb := fnC (L := [(4, c_cb_4)]) hT g_cb Tryz.f57 (okS okP (okS okP (okS okP (okS (okS okP (okB (okU k_cb_4))) okP)))) r_cb
abbrev P_hk : List PK := [.box [.dat Y53, .dat Y54, .dat Y27, .dat Y27, .own 2 YI, .own 26 Y25, .dat YI, .dat YI, .dat YI] [.dat Y53, .dat Y54, .dat Y27, .dat Y27, .own 2 YI, .own 26 Y25, .dat YI, .dat YI, .dat YI]]
abbrev R_hk : List VK := []
def F_hk (x : denP P_hk) : Option (denV R_hk × denQ P_hk) :=
 (F_hf (((x.1.1, (x.1.2.1, (x.1.2.2.1, (x.1.2.2.2.1, ())))), (x.1.2.2.2.2.1, (x.1.2.2.2.2.2.1, (x.1.2.2.2.2.2.2.1, (x.1.2.2.2.2.2.2.2.1, (x.1.2.2.2.2.2.2.2.2.1, ())))))), ())).bind fun r1 =>
 if 0 ≤ r1.1.1 ∧ r1.1.1 < ((x.1.2.2.2.2.2.1.length : Nat) : Int) then
  ((x.1.2.2.2.2.2.1)[(r1.1.1).toNat]?).bind fun y2 =>
  (F_hj ((x.1.1, (x.1.2.1, (x.1.2.2.1, (x.1.2.2.2.1, ())))), r1.1.1, ())).bind fun r3 =>
  (F_cb (y2, r3.1.1, x.1.2.2.2.2.1, (1 : Int), ())).bind fun r4 =>
  if 0 ≤ r1.1.1 ∧ r1.1.1 < ((x.1.2.2.2.2.2.1.length : Nat) : Int) then
   ((x.1.2.2.2.2.2.1)[(r1.1.1).toNat]?).bind fun y5 =>
   let v6 := (x.1.2.2.2.2.2.1.set (r1.1.1).toNat (r4.1.1.2.2.2.1, (r4.1.1.2.2.2.2.1, (r4.1.1.2.2.2.2.2.1, (r4.1.1.2.2.2.2.2.2.1, (r4.1.1.2.2.2.2.2.2.2.1, (r4.1.1.2.2.2.2.2.2.2.2.1, (r4.1.1.2.2.2.2.2.2.2.2.2.1, (r4.1.1.2.2.2.2.2.2.2.2.2.2.1, (r4.1.1.2.2.2.2.2.2.2.2.2.2.2.1, ()))))))))))
   (F_gh (x.1.2.2.1, (r1.1.1, (r4.1.1.2.2.1, ())), ())).bind fun r7 =>
   if r7.1.1 then
    if 0 ≤ r4.1.1.2.2.1 ∧ r4.1.1.2.2.1 < ((v6.length : Nat) : Int) then
     ((v6)[(r4.1.1.2.2.1).toNat]?).bind fun y8 =>
     let v9 := (v6.set (r4.1.1.2.2.1).toNat (y8.1, (y8.2.1, (y8.2.2.1, (y8.2.2.2.1, (y8.2.2.2.2.1, (true, y8.2.2.2.2.2.2)))))))
     let v10 := (IntKind.i64.wrap (x.1.2.2.2.2.2.2.2.1 - (1 : Int)))
     if (v10 == (0 : Int)) then
      let v11 := (IntKind.i64.wrap (x.1.2.2.2.2.2.2.1 + (1 : Int)))
      let v12 := ((x.1.2.2.2.1.length : Nat) : Int)
      if v12 = 0 then none else
      let v13 := ((v11).tmod v12)
      if 0 ≤ v13 then
       ((x.1.2.2.2.1)[(v13).toNat]?).bind fun y14 =>
       let v15 := (IntKind.i64.wrap (x.1.2.2.2.2.2.2.2.2.1 + (1 : Int)))
       some ((), ((x.1.1, (x.1.2.1, (x.1.2.2.1, (x.1.2.2.2.1, (r4.1.1.2.2.2.2.2.2.2.2.2.2.2.2.1, (v9, (v13, (y14.2.1, (v15, ()))))))))), ()))
      else none
     else
      let v16 := (IntKind.i64.wrap (x.1.2.2.2.2.2.2.2.2.1 + (1 : Int)))
      some ((), ((x.1.1, (x.1.2.1, (x.1.2.2.1, (x.1.2.2.2.1, (r4.1.1.2.2.2.2.2.2.2.2.2.2.2.2.1, (v9, (x.1.2.2.2.2.2.2.1, (v10, (v16, ()))))))))), ()))
    else none
   else
    let v17 := (IntKind.i64.wrap (x.1.2.2.2.2.2.2.2.1 - (1 : Int)))
    if (v17 == (0 : Int)) then
     let v18 := (IntKind.i64.wrap (x.1.2.2.2.2.2.2.1 + (1 : Int)))
     let v19 := ((x.1.2.2.2.1.length : Nat) : Int)
     if v19 = 0 then none else
     let v20 := ((v18).tmod v19)
     if 0 ≤ v20 then
      ((x.1.2.2.2.1)[(v20).toNat]?).bind fun y21 =>
      let v22 := (IntKind.i64.wrap (x.1.2.2.2.2.2.2.2.2.1 + (1 : Int)))
      some ((), ((x.1.1, (x.1.2.1, (x.1.2.2.1, (x.1.2.2.2.1, (r4.1.1.2.2.2.2.2.2.2.2.2.2.2.2.1, (v6, (v20, (y21.2.1, (v22, ()))))))))), ()))
     else none
    else
     let v23 := (IntKind.i64.wrap (x.1.2.2.2.2.2.2.2.2.1 + (1 : Int)))
     some ((), ((x.1.1, (x.1.2.1, (x.1.2.2.1, (x.1.2.2.2.1, (r4.1.1.2.2.2.2.2.2.2.2.2.2.2.2.1, (v6, (x.1.2.2.2.2.2.2.1, (v17, (v23, ()))))))))), ()))
  else none
 else none
abbrev C_hk : Con := ⟨P_hk, R_hk, F_hk, false⟩
abbrev G_hk : Env := [(57, C_cb), (82, C_hj), (92, C_hf), (168, C_gh)]
theorem g_hk : Qe Tryz.prog G_hk := (Qa s_cb (Qa s_hj (Qa s_hf (Qa s_gh Qc))))
theorem r_hk (x) : Qf T G_hk [] Tryz.f77 C_hk.ps C_hk.rs x = C_hk.F x := by kernel_rfl
theorem s_hk : Qb Tryz.prog 77 C_hk := fnC (L := []) hT g_hk Tryz.f77 okP r_hk
abbrev P_hl : List PK := [.val Y62, .val Y62, .val YI, .val YI]
abbrev R_hl : List VK := [.s (.dat Y80)]
abbrev i_hl_10 : Shp := { slots := [(2, .s (.dat YI)), (3, .s (.dat YI)), (8, .s (.ptr 8 0)), (10, .s (.ptr 10 0)), (11, .s (.ptr 11 0)), (12, .s (.dat YI))], boxes := [(8, [.dat YI, .dat YI, .dat .bool]), (10, [.dat Y53, .dat Y54, .dat Y27, .dat Y27, .own 2 YI, .own 26 Y25, .dat YI, .dat YI, .dat YI]), (11, [.dat Y53, .dat Y54, .dat Y27, .dat Y27, .own 2 YI, .own 26 Y25, .dat YI, .dat YI, .dat YI])], rows := [] }
abbrev o_hl_10 : List (Ex × Shp) := [(.ret, { slots := [(8, .s (.ptr 8 0))], boxes := [(8, [.dat YI, .dat YI, .dat .bool])], rows := [] })]
def l_hl_10 (rec : i_hl_10.den → Option (denO o_hl_10)) (u10 : i_hl_10.den) : Option (denO o_hl_10) :=
 (F_hb (((u10.2.1.2.1.1, (u10.2.1.2.1.2.1, (u10.2.1.2.1.2.2.1, (u10.2.1.2.1.2.2.2.1, ())))), (u10.2.1.2.1.2.2.2.2.1, (u10.2.1.2.1.2.2.2.2.2.1, (u10.2.1.2.1.2.2.2.2.2.2.1, (u10.2.1.2.1.2.2.2.2.2.2.2.1, (u10.2.1.2.1.2.2.2.2.2.2.2.2.1, ())))))), u10.1.1, ())).bind fun r20 =>
 (F_hb (((u10.2.1.2.2.1.1, (u10.2.1.2.2.1.2.1, (u10.2.1.2.2.1.2.2.1, (u10.2.1.2.2.1.2.2.2.1, ())))), (u10.2.1.2.2.1.2.2.2.2.1, (u10.2.1.2.2.1.2.2.2.2.2.1, (u10.2.1.2.2.1.2.2.2.2.2.2.1, (u10.2.1.2.2.1.2.2.2.2.2.2.2.1, (u10.2.1.2.2.1.2.2.2.2.2.2.2.2.1, ())))))), u10.1.1, ())).bind fun r21 =>
 (F_he (((r20.1.1.1, (r20.1.1.2.1, (r20.1.1.2.2.1, (r20.1.1.2.2.2.1, (r20.1.1.2.2.2.2.1, (r20.1.1.2.2.2.2.2.1, (r20.1.1.2.2.2.2.2.2.1, (r20.1.1.2.2.2.2.2.2.2.1, (r20.1.1.2.2.2.2.2.2.2.2.1, ()))))))))), (r20.1.1.2.2.2.2.2.2.2.2.2.1, (r20.1.1.2.2.2.2.2.2.2.2.2.2.1, ()))), ((r21.1.1.1, (r21.1.1.2.1, (r21.1.1.2.2.1, (r21.1.1.2.2.2.1, (r21.1.1.2.2.2.2.1, (r21.1.1.2.2.2.2.2.1, (r21.1.1.2.2.2.2.2.2.1, (r21.1.1.2.2.2.2.2.2.2.1, (r21.1.1.2.2.2.2.2.2.2.2.1, ()))))))))), (r21.1.1.2.2.2.2.2.2.2.2.2.1, (r21.1.1.2.2.2.2.2.2.2.2.2.2.1, ()))), ())).bind fun r22 =>
 if (!r22.1.1) then
  some (.inl (((), ()), ((((0 : Int), (u10.1.2.2.2.2.2.1, (false, ()))), ()), ())))
 else
  if (u10.1.2.2.2.2.2.1 == u10.1.2.1) then
   some (.inl (((), ()), ((((0 : Int), ((0 : Int), (true, ()))), ()), ())))
  else
   (F_hk (u10.2.1.2.1, ())).bind fun r23 =>
   (F_hk (u10.2.1.2.2.1, ())).bind fun r24 =>
   let v25 := (IntKind.i64.wrap (u10.1.2.2.2.2.2.1 + (1 : Int)))
   rec ((u10.1.1, (u10.1.2.1, ((), ((), ((), (v25, ())))))), ((u10.2.1.1, (r23.2.1, (r24.2.1, ()))), ()))
def L_hl_10 (x : i_hl_10.den) : Option (denO o_hl_10) := Qd l_hl_10 lots x
def F_hl (x : denP P_hl) : Option (denV R_hl × denQ P_hl) :=
 (F_go (x.1, ())).bind fun r1 =>
 (F_go (x.2.1, ())).bind fun r2 =>
 (F_aj ([r1.1.1, r2.1.1], ())).bind fun r3 =>
 if (r3.1.1 == (0 : Int)) = true then
  (F_fu (x.1.1, x.2.2.1, ())).bind fun r4 =>
  if r4.1.1 = true then
   (F_fu (x.2.1.1, x.2.2.1, ())).bind fun r5 =>
   if (!r5.1.1) then
    (F_gp (x.2.2.2.1, [x.1, x.2.1], ())).bind fun r6 =>
    (F_aj ([(4 : Int), r6.1.1], ())).bind fun r7 =>
    if (r7.1.1 != (0 : Int)) then
     some (((r7.1.1, ((0 : Int), (false, ()))), ()), ())
    else
     (F_gz (x.1, ())).bind fun r8 =>
     (F_gz (x.2.1, ())).bind fun r9 =>
     (L_hl_10 ((x.2.2.1, (x.2.2.2.1, ((), ((), ((), ((0 : Int), ())))))), ((((0 : Int), ((0 : Int), (false, ()))), (r8.1.1, (r9.1.1, ()))), ()))).bind fun z26 =>
     match z26 with
     | .inl x27 =>
      some ((x27.2.1.1, ()), ())
     | .inr z26_ =>
      none
   else
    (F_gp (x.2.2.2.1, [x.1, x.2.1], ())).bind fun r28 =>
    (F_aj ([r3.1.1, r28.1.1], ())).bind fun r29 =>
    if (r29.1.1 != (0 : Int)) then
     some (((r29.1.1, ((0 : Int), (false, ()))), ()), ())
    else
     (F_gz (x.1, ())).bind fun r30 =>
     (F_gz (x.2.1, ())).bind fun r31 =>
     (L_hl_10 ((x.2.2.1, (x.2.2.2.1, ((), ((), ((), ((0 : Int), ())))))), ((((0 : Int), ((0 : Int), (false, ()))), (r30.1.1, (r31.1.1, ()))), ()))).bind fun z32 =>
     match z32 with
     | .inl x33 =>
      some ((x33.2.1.1, ()), ())
     | .inr z32_ =>
      none
  else
   (F_gp (x.2.2.2.1, [x.1, x.2.1], ())).bind fun r34 =>
   (F_aj ([(4 : Int), r34.1.1], ())).bind fun r35 =>
   if (r35.1.1 != (0 : Int)) then
    some (((r35.1.1, ((0 : Int), (false, ()))), ()), ())
   else
    (F_gz (x.1, ())).bind fun r36 =>
    (F_gz (x.2.1, ())).bind fun r37 =>
    (L_hl_10 ((x.2.2.1, (x.2.2.2.1, ((), ((), ((), ((0 : Int), ())))))), ((((0 : Int), ((0 : Int), (false, ()))), (r36.1.1, (r37.1.1, ()))), ()))).bind fun z38 =>
    match z38 with
    | .inl x39 =>
     some ((x39.2.1.1, ()), ())
    | .inr z38_ =>
     none
 else
  (F_gp (x.2.2.2.1, [x.1, x.2.1], ())).bind fun r40 =>
  (F_aj ([r3.1.1, r40.1.1], ())).bind fun r41 =>
  if (r41.1.1 != (0 : Int)) then
   some (((r41.1.1, ((0 : Int), (false, ()))), ()), ())
  else
   (F_gz (x.1, ())).bind fun r42 =>
   (F_gz (x.2.1, ())).bind fun r43 =>
   (L_hl_10 ((x.2.2.1, (x.2.2.2.1, ((), ((), ((), ((0 : Int), ())))))), ((((0 : Int), ((0 : Int), (false, ()))), (r42.1.1, (r43.1.1, ()))), ()))).bind fun z44 =>
   match z44 with
   | .inl x45 =>
    some ((x45.2.1.1, ()), ())
   | .inr z44_ =>
    none
abbrev C_hl : Con := ⟨P_hl, R_hl, F_hl, false⟩
abbrev G_hl : Env := [(75, C_go), (76, C_gz), (77, C_hk), (81, C_fu), (87, C_aj), (88, C_gp), (90, C_hb), (100, C_he)]
theorem g_hl : Qe Tryz.prog G_hl := (Qa s_go (Qa s_gz (Qa s_hk (Qa s_fu (Qa s_aj (Qa s_gp (Qa s_hb (Qa s_he Qc))))))))
abbrev c_hl_10 : Cut := ⟨i_hl_10, o_hl_10, fun x => Qd l_hl_10 lots x⟩
theorem t_hl_10 (rec x) : run T G_hl [] (nav Tryz.f40 [1, 1, 1, 1, 1, 1, 0, 0]) (mk 64 i_hl_10 x) (Qx i_hl_10 o_hl_10 rec) = l_hl_10 rec x := by kernel_rfl
theorem k_hl_10 : Qu Tryz.prog 64 (.loop (nav Tryz.f40 [1, 1, 1, 1, 1, 1, 0, 0])) c_hl_10 :=
  Qh (L := []) hT g_hl t_hl_10 okP _
theorem r_hl (x) : Qf T G_hl [(10, c_hl_10)] Tryz.f40 C_hl.ps C_hl.rs x = C_hl.F x := by kernel_rfl
theorem s_hl : Qb Tryz.prog 40 C_hl := fnC (L := [(10, c_hl_10)]) hT g_hl Tryz.f40 (okS okP (okS okP (okS okP (okS okP (okS okP (okS okP (okB (okU k_hl_10)))))))) r_hl
abbrev P_hm : List PK := [.val Y80, .val Y80]
abbrev R_hm : List VK := [.s (.dat .bool)]
def F_hm (x : denP P_hm) : Option (denV R_hm × denQ P_hm) :=
 if (x.1.1 != x.2.1.1) then
  some ((false, ()), ())
 else
  if (x.1.2.1 != x.2.1.2.1) then
   some ((false, ()), ())
  else
   if (!(x.1.2.2.1 == x.2.1.2.2.1)) then
    some ((false, ()), ())
   else
    some ((true, ()), ())
abbrev C_hm : Con := ⟨P_hm, R_hm, F_hm, false⟩
abbrev G_hm : Env := []
theorem g_hm : Qe Tryz.prog G_hm := Qc
theorem r_hm (x) : Qf T G_hm [] Tryz.f45 C_hm.ps C_hm.rs x = C_hm.F x := by kernel_rfl
theorem s_hm : Qb Tryz.prog 45 C_hm := fnC (L := []) hT g_hm Tryz.f45 okP r_hm
abbrev P_hn : List PK := [.val Y24, .val Y24]
abbrev R_hn : List VK := [.s (.dat .bool)]
abbrev i_hn_4 : Shp := { slots := [(0, .s (.dat Y24)), (1, .s (.dat Y24)), (5, .s (.dat YI))], boxes := [], rows := [] }
abbrev o_hn_4 : List (Ex × Shp) := [(.exit 0, { slots := [], boxes := [], rows := [] }), (.ret, { slots := [(4, .s (.dat .bool))], boxes := [], rows := [] })]
def l_hn_4 (rec : i_hn_4.den → Option (denO o_hn_4)) (u4 : i_hn_4.den) : Option (denO o_hn_4) :=
 let v5 := ((u4.1.1.length : Nat) : Int)
 if (ltI u4.1.2.2.1 v5) then
  if 0 ≤ u4.1.2.2.1 then
   ((u4.1.1)[(u4.1.2.2.1).toNat]?).bind fun y6 =>
   if 0 ≤ u4.1.2.2.1 then
    ((u4.1.2.1)[(u4.1.2.2.1).toNat]?).bind fun y7 =>
    if (y6 != y7) then
     some (.inr (.inl ((false, ()), ((), ()))))
    else
     let v8 := (IntKind.i64.wrap (u4.1.2.2.1 + (1 : Int)))
     rec ((u4.1.1, (u4.1.2.1, (v8, ()))), ((), ()))
   else none
  else none
 else
  some (.inl ((), ((), ())))
def L_hn_4 (x : i_hn_4.den) : Option (denO o_hn_4) := Qd l_hn_4 lots x
def F_hn (x : denP P_hn) : Option (denV R_hn × denQ P_hn) :=
 let v1 := ((x.1.length : Nat) : Int)
 let v2 := ((x.2.1.length : Nat) : Int)
 if (v1 != v2) then
  some ((false, ()), ())
 else
  (L_hn_4 ((x.1, (x.2.1, ((0 : Int), ()))), ((), ()))).bind fun z9 =>
  match z9 with
  | .inl x10 =>
   some ((true, ()), ())
  | .inr z9_ =>
   match z9_ with
   | .inl x11 =>
    some ((x11.1.1, ()), ())
   | .inr z9__ =>
    none
abbrev C_hn : Con := ⟨P_hn, R_hn, F_hn, false⟩
abbrev G_hn : Env := []
theorem g_hn : Qe Tryz.prog G_hn := Qc
abbrev c_hn_4 : Cut := ⟨i_hn_4, o_hn_4, fun x => Qd l_hn_4 lots x⟩
theorem t_hn_4 (rec x) : run T G_hn [] (nav Tryz.f116 [1, 1, 0, 1, 0, 0]) (mk 26 i_hn_4 x) (Qx i_hn_4 o_hn_4 rec) = l_hn_4 rec x := by kernel_rfl
theorem k_hn_4 : Qu Tryz.prog 26 (.loop (nav Tryz.f116 [1, 1, 0, 1, 0, 0])) c_hn_4 :=
  Qh (L := []) hT g_hn t_hn_4 okP _
theorem r_hn (x) : Qf T G_hn [(4, c_hn_4)] Tryz.f116 C_hn.ps C_hn.rs x = C_hn.F x := by kernel_rfl
theorem s_hn : Qb Tryz.prog 116 C_hn := fnC (L := [(4, c_hn_4)]) hT g_hn Tryz.f116 (okS okP (okS okP (okS (okS okP (okB (okU k_hn_4))) okP))) r_hn
abbrev P_ho : List PK := [.val Y53, .val Y53]
abbrev R_ho : List VK := [.s (.dat .bool)]
abbrev i_ho_4 : Shp := { slots := [(0, .s (.dat Y53)), (1, .s (.dat Y53)), (5, .s (.dat YI))], boxes := [], rows := [] }
abbrev o_ho_4 : List (Ex × Shp) := [(.exit 0, { slots := [], boxes := [], rows := [] }), (.ret, { slots := [(4, .s (.dat .bool))], boxes := [], rows := [] })]
def l_ho_4 (rec : i_ho_4.den → Option (denO o_ho_4)) (u4 : i_ho_4.den) : Option (denO o_ho_4) :=
 let v6 := ((u4.1.1.length : Nat) : Int)
 if (ltI u4.1.2.2.1 v6) then
  if 0 ≤ u4.1.2.2.1 then
   ((u4.1.1)[(u4.1.2.2.1).toNat]?).bind fun y7 =>
   if 0 ≤ u4.1.2.2.1 then
    ((u4.1.2.1)[(u4.1.2.2.1).toNat]?).bind fun y8 =>
    (F_hn (y7, y8, ())).bind fun r9 =>
    if (!r9.1.1) then
     some (.inr (.inl ((false, ()), ((), ()))))
    else
     let v10 := (IntKind.i64.wrap (u4.1.2.2.1 + (1 : Int)))
     rec ((u4.1.1, (u4.1.2.1, (v10, ()))), ((), ()))
   else none
  else none
 else
  some (.inl ((), ((), ())))
def L_ho_4 (x : i_ho_4.den) : Option (denO o_ho_4) := Qd l_ho_4 lots x
def F_ho (x : denP P_ho) : Option (denV R_ho × denQ P_ho) :=
 let v1 := ((x.1.length : Nat) : Int)
 let v2 := ((x.2.1.length : Nat) : Int)
 if (v1 != v2) then
  some ((false, ()), ())
 else
  (L_ho_4 ((x.1, (x.2.1, ((0 : Int), ()))), ((), ()))).bind fun z11 =>
  match z11 with
  | .inl x12 =>
   some ((true, ()), ())
  | .inr z11_ =>
   match z11_ with
   | .inl x13 =>
    some ((x13.1.1, ()), ())
   | .inr z11__ =>
    none
abbrev C_ho : Con := ⟨P_ho, R_ho, F_ho, false⟩
abbrev G_ho : Env := [(116, C_hn)]
theorem g_ho : Qe Tryz.prog G_ho := (Qa s_hn Qc)
abbrev c_ho_4 : Cut := ⟨i_ho_4, o_ho_4, fun x => Qd l_ho_4 lots x⟩
theorem t_ho_4 (rec x) : run T G_ho [] (nav Tryz.f202 [1, 1, 0, 1, 0, 0]) (mk 27 i_ho_4 x) (Qx i_ho_4 o_ho_4 rec) = l_ho_4 rec x := by kernel_rfl
theorem k_ho_4 : Qu Tryz.prog 27 (.loop (nav Tryz.f202 [1, 1, 0, 1, 0, 0])) c_ho_4 :=
  Qh (L := []) hT g_ho t_ho_4 okP _
theorem r_ho (x) : Qf T G_ho [(4, c_ho_4)] Tryz.f202 C_ho.ps C_ho.rs x = C_ho.F x := by kernel_rfl
theorem s_ho : Qb Tryz.prog 202 C_ho := fnC (L := [(4, c_ho_4)]) hT g_ho Tryz.f202 (okS okP (okS okP (okS (okS okP (okB (okU k_ho_4))) okP))) r_ho
abbrev P_hp : List PK := [.val Y68, .val Y68]
abbrev R_hp : List VK := [.s (.dat .bool)]
def F_hp (x : denP P_hp) : Option (denV R_hp × denQ P_hp) :=
 if (x.1.1 != x.2.1.1) then
  some ((false, ()), ())
 else
  if (x.1.2.1 != x.2.1.2.1) then
   some ((false, ()), ())
  else
   if (x.1.2.2.1 != x.2.1.2.2.1) then
    some ((false, ()), ())
   else
    if (x.1.2.2.2.1 != x.2.1.2.2.2.1) then
     some ((false, ()), ())
    else
     if (x.1.2.2.2.2.1 != x.2.1.2.2.2.2.1) then
      some ((false, ()), ())
     else
      some ((true, ()), ())
abbrev C_hp : Con := ⟨P_hp, R_hp, F_hp, false⟩
abbrev G_hp : Env := []
theorem g_hp : Qe Tryz.prog G_hp := Qc
theorem r_hp (x) : Qf T G_hp [] Tryz.f255 C_hp.ps C_hp.rs x = C_hp.F x := by kernel_rfl
theorem s_hp : Qb Tryz.prog 255 C_hp := fnC (L := []) hT g_hp Tryz.f255 okP r_hp
abbrev P_hq : List PK := [.val Y54, .val Y54]
abbrev R_hq : List VK := [.s (.dat .bool)]
abbrev i_hq_4 : Shp := { slots := [(0, .s (.dat Y54)), (1, .s (.dat Y54)), (5, .s (.dat YI))], boxes := [], rows := [] }
abbrev o_hq_4 : List (Ex × Shp) := [(.exit 0, { slots := [], boxes := [], rows := [] }), (.ret, { slots := [(4, .s (.dat .bool))], boxes := [], rows := [] })]
def l_hq_4 (rec : i_hq_4.den → Option (denO o_hq_4)) (u4 : i_hq_4.den) : Option (denO o_hq_4) :=
 let v6 := ((u4.1.1.length : Nat) : Int)
 if (ltI u4.1.2.2.1 v6) then
  if 0 ≤ u4.1.2.2.1 then
   ((u4.1.1)[(u4.1.2.2.1).toNat]?).bind fun y7 =>
   if 0 ≤ u4.1.2.2.1 then
    ((u4.1.2.1)[(u4.1.2.2.1).toNat]?).bind fun y8 =>
    (F_hp (y7, y8, ())).bind fun r9 =>
    if (!r9.1.1) then
     some (.inr (.inl ((false, ()), ((), ()))))
    else
     let v10 := (IntKind.i64.wrap (u4.1.2.2.1 + (1 : Int)))
     rec ((u4.1.1, (u4.1.2.1, (v10, ()))), ((), ()))
   else none
  else none
 else
  some (.inl ((), ((), ())))
def L_hq_4 (x : i_hq_4.den) : Option (denO o_hq_4) := Qd l_hq_4 lots x
def F_hq (x : denP P_hq) : Option (denV R_hq × denQ P_hq) :=
 let v1 := ((x.1.length : Nat) : Int)
 let v2 := ((x.2.1.length : Nat) : Int)
 if (v1 != v2) then
  some ((false, ()), ())
 else
  (L_hq_4 ((x.1, (x.2.1, ((0 : Int), ()))), ((), ()))).bind fun z11 =>
  match z11 with
  | .inl x12 =>
   some ((true, ()), ())
  | .inr z11_ =>
   match z11_ with
   | .inl x13 =>
    some ((x13.1.1, ()), ())
   | .inr z11__ =>
    none
abbrev C_hq : Con := ⟨P_hq, R_hq, F_hq, false⟩
abbrev G_hq : Env := [(255, C_hp)]
theorem g_hq : Qe Tryz.prog G_hq := (Qa s_hp Qc)
abbrev c_hq_4 : Cut := ⟨i_hq_4, o_hq_4, fun x => Qd l_hq_4 lots x⟩
theorem t_hq_4 (rec x) : run T G_hq [] (nav Tryz.f203 [1, 1, 0, 1, 0, 0]) (mk 27 i_hq_4 x) (Qx i_hq_4 o_hq_4 rec) = l_hq_4 rec x := by kernel_rfl
theorem k_hq_4 : Qu Tryz.prog 27 (.loop (nav Tryz.f203 [1, 1, 0, 1, 0, 0])) c_hq_4 :=
  Qh (L := []) hT g_hq t_hq_4 okP _
theorem r_hq (x) : Qf T G_hq [(4, c_hq_4)] Tryz.f203 C_hq.ps C_hq.rs x = C_hq.F x := by kernel_rfl
theorem s_hq : Qb Tryz.prog 203 C_hq := fnC (L := [(4, c_hq_4)]) hT g_hq Tryz.f203 (okS okP (okS okP (okS (okS okP (okB (okU k_hq_4))) okP))) r_hq
abbrev P_hr : List PK := [.val Y40, .val Y40]
abbrev R_hr : List VK := [.s (.dat .bool)]
def F_hr (x : denP P_hr) : Option (denV R_hr × denQ P_hr) :=
 if (x.1.1 != x.2.1.1) then
  some ((false, ()), ())
 else
  if (x.1.2.1 != x.2.1.2.1) then
   some ((false, ()), ())
  else
   some ((true, ()), ())
abbrev C_hr : Con := ⟨P_hr, R_hr, F_hr, false⟩
abbrev G_hr : Env := []
theorem g_hr : Qe Tryz.prog G_hr := Qc
theorem r_hr (x) : Qf T G_hr [] Tryz.f256 C_hr.ps C_hr.rs x = C_hr.F x := by kernel_rfl
theorem s_hr : Qb Tryz.prog 256 C_hr := fnC (L := []) hT g_hr Tryz.f256 okP r_hr
abbrev P_hs : List PK := [.val Y27, .val Y27]
abbrev R_hs : List VK := [.s (.dat .bool)]
abbrev i_hs_4 : Shp := { slots := [(0, .s (.dat Y27)), (1, .s (.dat Y27)), (5, .s (.dat YI))], boxes := [], rows := [] }
abbrev o_hs_4 : List (Ex × Shp) := [(.exit 0, { slots := [], boxes := [], rows := [] }), (.ret, { slots := [(4, .s (.dat .bool))], boxes := [], rows := [] })]
def l_hs_4 (rec : i_hs_4.den → Option (denO o_hs_4)) (u4 : i_hs_4.den) : Option (denO o_hs_4) :=
 let v6 := ((u4.1.1.length : Nat) : Int)
 if (ltI u4.1.2.2.1 v6) then
  if 0 ≤ u4.1.2.2.1 then
   ((u4.1.1)[(u4.1.2.2.1).toNat]?).bind fun y7 =>
   if 0 ≤ u4.1.2.2.1 then
    ((u4.1.2.1)[(u4.1.2.2.1).toNat]?).bind fun y8 =>
    (F_hr (y7, y8, ())).bind fun r9 =>
    if (!r9.1.1) then
     some (.inr (.inl ((false, ()), ((), ()))))
    else
     let v10 := (IntKind.i64.wrap (u4.1.2.2.1 + (1 : Int)))
     rec ((u4.1.1, (u4.1.2.1, (v10, ()))), ((), ()))
   else none
  else none
 else
  some (.inl ((), ((), ())))
def L_hs_4 (x : i_hs_4.den) : Option (denO o_hs_4) := Qd l_hs_4 lots x
def F_hs (x : denP P_hs) : Option (denV R_hs × denQ P_hs) :=
 let v1 := ((x.1.length : Nat) : Int)
 let v2 := ((x.2.1.length : Nat) : Int)
 if (v1 != v2) then
  some ((false, ()), ())
 else
  (L_hs_4 ((x.1, (x.2.1, ((0 : Int), ()))), ((), ()))).bind fun z11 =>
  match z11 with
  | .inl x12 =>
   some ((true, ()), ())
  | .inr z11_ =>
   match z11_ with
   | .inl x13 =>
    some ((x13.1.1, ()), ())
   | .inr z11__ =>
    none
abbrev C_hs : Con := ⟨P_hs, R_hs, F_hs, false⟩
abbrev G_hs : Env := [(256, C_hr)]
theorem g_hs : Qe Tryz.prog G_hs := (Qa s_hr Qc)
abbrev c_hs_4 : Cut := ⟨i_hs_4, o_hs_4, fun x => Qd l_hs_4 lots x⟩
theorem t_hs_4 (rec x) : run T G_hs [] (nav Tryz.f204 [1, 1, 0, 1, 0, 0]) (mk 27 i_hs_4 x) (Qx i_hs_4 o_hs_4 rec) = l_hs_4 rec x := by kernel_rfl
theorem k_hs_4 : Qu Tryz.prog 27 (.loop (nav Tryz.f204 [1, 1, 0, 1, 0, 0])) c_hs_4 :=
  Qh (L := []) hT g_hs t_hs_4 okP _
theorem r_hs (x) : Qf T G_hs [(4, c_hs_4)] Tryz.f204 C_hs.ps C_hs.rs x = C_hs.F x := by kernel_rfl
theorem s_hs : Qb Tryz.prog 204 C_hs := fnC (L := [(4, c_hs_4)]) hT g_hs Tryz.f204 (okS okP (okS okP (okS (okS okP (okB (okU k_hs_4))) okP))) r_hs
abbrev P_ht : List PK := [.val Y40, .val Y40]
abbrev R_ht : List VK := [.s (.dat .bool)]
def F_ht (x : denP P_ht) : Option (denV R_ht × denQ P_ht) :=
 if (x.1.1 != x.2.1.1) then
  some ((false, ()), ())
 else
  if (x.1.2.1 != x.2.1.2.1) then
   some ((false, ()), ())
  else
   some ((true, ()), ())
abbrev C_ht : Con := ⟨P_ht, R_ht, F_ht, false⟩
abbrev G_ht : Env := []
theorem g_ht : Qe Tryz.prog G_ht := Qc
theorem r_ht (x) : Qf T G_ht [] Tryz.f257 C_ht.ps C_ht.rs x = C_ht.F x := by kernel_rfl
theorem s_ht : Qb Tryz.prog 257 C_ht := fnC (L := []) hT g_ht Tryz.f257 okP r_ht
abbrev P_hu : List PK := [.val Y27, .val Y27]
abbrev R_hu : List VK := [.s (.dat .bool)]
abbrev i_hu_4 : Shp := { slots := [(0, .s (.dat Y27)), (1, .s (.dat Y27)), (5, .s (.dat YI))], boxes := [], rows := [] }
abbrev o_hu_4 : List (Ex × Shp) := [(.exit 0, { slots := [], boxes := [], rows := [] }), (.ret, { slots := [(4, .s (.dat .bool))], boxes := [], rows := [] })]
def l_hu_4 (rec : i_hu_4.den → Option (denO o_hu_4)) (u4 : i_hu_4.den) : Option (denO o_hu_4) :=
 let v6 := ((u4.1.1.length : Nat) : Int)
 if (ltI u4.1.2.2.1 v6) then
  if 0 ≤ u4.1.2.2.1 then
   ((u4.1.1)[(u4.1.2.2.1).toNat]?).bind fun y7 =>
   if 0 ≤ u4.1.2.2.1 then
    ((u4.1.2.1)[(u4.1.2.2.1).toNat]?).bind fun y8 =>
    (F_ht (y7, y8, ())).bind fun r9 =>
    if (!r9.1.1) then
     some (.inr (.inl ((false, ()), ((), ()))))
    else
     let v10 := (IntKind.i64.wrap (u4.1.2.2.1 + (1 : Int)))
     rec ((u4.1.1, (u4.1.2.1, (v10, ()))), ((), ()))
   else none
  else none
 else
  some (.inl ((), ((), ())))
def L_hu_4 (x : i_hu_4.den) : Option (denO o_hu_4) := Qd l_hu_4 lots x
def F_hu (x : denP P_hu) : Option (denV R_hu × denQ P_hu) :=
 let v1 := ((x.1.length : Nat) : Int)
 let v2 := ((x.2.1.length : Nat) : Int)
 if (v1 != v2) then
  some ((false, ()), ())
 else
  (L_hu_4 ((x.1, (x.2.1, ((0 : Int), ()))), ((), ()))).bind fun z11 =>
  match z11 with
  | .inl x12 =>
   some ((true, ()), ())
  | .inr z11_ =>
   match z11_ with
   | .inl x13 =>
    some ((x13.1.1, ()), ())
   | .inr z11__ =>
    none
abbrev C_hu : Con := ⟨P_hu, R_hu, F_hu, false⟩
abbrev G_hu : Env := [(257, C_ht)]
theorem g_hu : Qe Tryz.prog G_hu := (Qa s_ht Qc)
abbrev c_hu_4 : Cut := ⟨i_hu_4, o_hu_4, fun x => Qd l_hu_4 lots x⟩
theorem t_hu_4 (rec x) : run T G_hu [] (nav Tryz.f205 [1, 1, 0, 1, 0, 0]) (mk 27 i_hu_4 x) (Qx i_hu_4 o_hu_4 rec) = l_hu_4 rec x := by kernel_rfl
theorem k_hu_4 : Qu Tryz.prog 27 (.loop (nav Tryz.f205 [1, 1, 0, 1, 0, 0])) c_hu_4 :=
  Qh (L := []) hT g_hu t_hu_4 okP _
theorem r_hu (x) : Qf T G_hu [(4, c_hu_4)] Tryz.f205 C_hu.ps C_hu.rs x = C_hu.F x := by kernel_rfl
theorem s_hu : Qb Tryz.prog 205 C_hu := fnC (L := [(4, c_hu_4)]) hT g_hu Tryz.f205 (okS okP (okS okP (okS (okS okP (okB (okU k_hu_4))) okP))) r_hu
abbrev P_hv : List PK := [.val Y57, .val Y57]
abbrev R_hv : List VK := [.s (.dat .bool)]
def F_hv (x : denP P_hv) : Option (denV R_hv × denQ P_hv) :=
 (F_ho (x.1.1, x.2.1.1, ())).bind fun r1 =>
 if (!r1.1.1) then
  some ((false, ()), ())
 else
  (F_hq (x.1.2.1, x.2.1.2.1, ())).bind fun r2 =>
  if (!r2.1.1) then
   some ((false, ()), ())
  else
   (F_hs (x.1.2.2.1, x.2.1.2.2.1, ())).bind fun r3 =>
   if (!r3.1.1) then
    some ((false, ()), ())
   else
    (F_hu (x.1.2.2.2.1, x.2.1.2.2.2.1, ())).bind fun r4 =>
    if (!r4.1.1) then
     some ((false, ()), ())
    else
     some ((true, ()), ())
abbrev C_hv : Con := ⟨P_hv, R_hv, F_hv, false⟩
abbrev G_hv : Env := [(202, C_ho), (203, C_hq), (204, C_hs), (205, C_hu)]
theorem g_hv : Qe Tryz.prog G_hv := (Qa s_ho (Qa s_hq (Qa s_hs (Qa s_hu Qc))))
theorem r_hv (x) : Qf T G_hv [] Tryz.f115 C_hv.ps C_hv.rs x = C_hv.F x := by kernel_rfl
theorem s_hv : Qb Tryz.prog 115 C_hv := fnC (L := []) hT g_hv Tryz.f115 okP r_hv
abbrev P_hw : List PK := [.val Y25, .val Y25]
abbrev R_hw : List VK := [.s (.dat .bool)]
def F_hw (x : denP P_hw) : Option (denV R_hw × denQ P_hw) :=
 (F_hn (x.1.1, x.2.1.1, ())).bind fun r1 =>
 if (!r1.1.1) then
  some ((false, ()), ())
 else
  if (x.1.2.1 != x.2.1.2.1) then
   some ((false, ()), ())
  else
   (F_hn (x.1.2.2.1, x.2.1.2.2.1, ())).bind fun r2 =>
   if (!r2.1.1) then
    some ((false, ()), ())
   else
    if (!(x.1.2.2.2.1 == x.2.1.2.2.2.1)) then
     some ((false, ()), ())
    else
     if (!(x.1.2.2.2.2.1 == x.2.1.2.2.2.2.1)) then
      some ((false, ()), ())
     else
      if (!(x.1.2.2.2.2.2.1 == x.2.1.2.2.2.2.2.1)) then
       some ((false, ()), ())
      else
       if (x.1.2.2.2.2.2.2.1 != x.2.1.2.2.2.2.2.2.1) then
        some ((false, ()), ())
       else
        (F_hn (x.1.2.2.2.2.2.2.2.1, x.2.1.2.2.2.2.2.2.2.1, ())).bind fun r3 =>
        if (!r3.1.1) then
         some ((false, ()), ())
        else
         (F_hn (x.1.2.2.2.2.2.2.2.2.1, x.2.1.2.2.2.2.2.2.2.2.1, ())).bind fun r4 =>
         if (!r4.1.1) then
          some ((false, ()), ())
         else
          some ((true, ()), ())
abbrev C_hw : Con := ⟨P_hw, R_hw, F_hw, false⟩
abbrev G_hw : Env := [(116, C_hn)]
theorem g_hw : Qe Tryz.prog G_hw := (Qa s_hn Qc)
theorem r_hw (x) : Qf T G_hw [] Tryz.f128 C_hw.ps C_hw.rs x = C_hw.F x := by kernel_rfl
theorem s_hw : Qb Tryz.prog 128 C_hw := fnC (L := []) hT g_hw Tryz.f128 okP r_hw
abbrev P_hx : List PK := [.val Y61, .val Y61]
abbrev R_hx : List VK := [.s (.dat .bool)]
abbrev i_hx_4 : Shp := { slots := [(0, .s (.dat Y61)), (1, .s (.dat Y61)), (5, .s (.dat YI))], boxes := [], rows := [] }
abbrev o_hx_4 : List (Ex × Shp) := [(.exit 0, { slots := [], boxes := [], rows := [] }), (.ret, { slots := [(4, .s (.dat .bool))], boxes := [], rows := [] })]
def l_hx_4 (rec : i_hx_4.den → Option (denO o_hx_4)) (u4 : i_hx_4.den) : Option (denO o_hx_4) :=
 let v6 := ((u4.1.1.length : Nat) : Int)
 if (ltI u4.1.2.2.1 v6) then
  if 0 ≤ u4.1.2.2.1 then
   ((u4.1.1)[(u4.1.2.2.1).toNat]?).bind fun y7 =>
   if 0 ≤ u4.1.2.2.1 then
    ((u4.1.2.1)[(u4.1.2.2.1).toNat]?).bind fun y8 =>
    (F_hw (y7, y8, ())).bind fun r9 =>
    if (!r9.1.1) then
     some (.inr (.inl ((false, ()), ((), ()))))
    else
     let v10 := (IntKind.i64.wrap (u4.1.2.2.1 + (1 : Int)))
     rec ((u4.1.1, (u4.1.2.1, (v10, ()))), ((), ()))
   else none
  else none
 else
  some (.inl ((), ((), ())))
def L_hx_4 (x : i_hx_4.den) : Option (denO o_hx_4) := Qd l_hx_4 lots x
def F_hx (x : denP P_hx) : Option (denV R_hx × denQ P_hx) :=
 let v1 := ((x.1.length : Nat) : Int)
 let v2 := ((x.2.1.length : Nat) : Int)
 if (v1 != v2) then
  some ((false, ()), ())
 else
  (L_hx_4 ((x.1, (x.2.1, ((0 : Int), ()))), ((), ()))).bind fun z11 =>
  match z11 with
  | .inl x12 =>
   some ((true, ()), ())
  | .inr z11_ =>
   match z11_ with
   | .inl x13 =>
    some ((x13.1.1, ()), ())
   | .inr z11__ =>
    none
abbrev C_hx : Con := ⟨P_hx, R_hx, F_hx, false⟩
abbrev G_hx : Env := [(128, C_hw)]
theorem g_hx : Qe Tryz.prog G_hx := (Qa s_hw Qc)
abbrev c_hx_4 : Cut := ⟨i_hx_4, o_hx_4, fun x => Qd l_hx_4 lots x⟩
theorem t_hx_4 (rec x) : run T G_hx [] (nav Tryz.f117 [1, 1, 0, 1, 0, 0]) (mk 27 i_hx_4 x) (Qx i_hx_4 o_hx_4 rec) = l_hx_4 rec x := by kernel_rfl
theorem k_hx_4 : Qu Tryz.prog 27 (.loop (nav Tryz.f117 [1, 1, 0, 1, 0, 0])) c_hx_4 :=
  Qh (L := []) hT g_hx t_hx_4 okP _
theorem r_hx (x) : Qf T G_hx [(4, c_hx_4)] Tryz.f117 C_hx.ps C_hx.rs x = C_hx.F x := by kernel_rfl
theorem s_hx : Qb Tryz.prog 117 C_hx := fnC (L := [(4, c_hx_4)]) hT g_hx Tryz.f117 (okS okP (okS okP (okS (okS okP (okB (okU k_hx_4))) okP))) r_hx
abbrev P_hy : List PK := [.val Y62, .val Y62]
abbrev R_hy : List VK := [.s (.dat .bool)]
def F_hy (x : denP P_hy) : Option (denV R_hy × denQ P_hy) :=
 (F_hv (x.1.1, x.2.1.1, ())).bind fun r1 =>
 if (!r1.1.1) then
  some ((false, ()), ())
 else
  (F_hn (x.1.2.1, x.2.1.2.1, ())).bind fun r2 =>
  if (!r2.1.1) then
   some ((false, ()), ())
  else
   (F_hx (x.1.2.2.1, x.2.1.2.2.1, ())).bind fun r3 =>
   if (!r3.1.1) then
    some ((false, ()), ())
   else
    if (x.1.2.2.2.1 != x.2.1.2.2.2.1) then
     some ((false, ()), ())
    else
     if (x.1.2.2.2.2.1 != x.2.1.2.2.2.2.1) then
      some ((false, ()), ())
     else
      if (x.1.2.2.2.2.2.1 != x.2.1.2.2.2.2.2.1) then
       some ((false, ()), ())
      else
       some ((true, ()), ())
abbrev C_hy : Con := ⟨P_hy, R_hy, F_hy, false⟩
abbrev G_hy : Env := [(115, C_hv), (116, C_hn), (117, C_hx)]
theorem g_hy : Qe Tryz.prog G_hy := (Qa s_hv (Qa s_hn (Qa s_hx Qc)))
theorem r_hy (x) : Qf T G_hy [] Tryz.f46 C_hy.ps C_hy.rs x = C_hy.F x := by kernel_rfl
theorem s_hy : Qb Tryz.prog 46 C_hy := fnC (L := []) hT g_hy Tryz.f46 okP r_hy
abbrev P_hz : List PK := [.val Y62, .val Y62, .val YI, .val YI]
abbrev R_hz : List VK := [.s (.dat .bool)]
def F_hz (x : denP P_hz) : Option (denV R_hz × denQ P_hz) :=
 (F_eg (x.1, (1048576 : Int), ())).bind fun r1 =>
 if (ltI r1.1.1 (0 : Int)) then
  some ((true, ()), ())
 else
  (F_eg (x.2.1, r1.1.1, ())).bind fun r2 =>
  if (ltI r2.1.1 (0 : Int)) then
   some ((true, ()), ())
  else
   (F_es (x.1, ())).bind fun r3 =>
   (F_es (x.2.1, ())).bind fun r4 =>
   (F_fs (((r3.1.1.1, (r3.1.1.2.1, (r3.1.1.2.2.1, (r3.1.1.2.2.2.1, ())))), (r3.1.1.2.2.2.2.1, (r3.1.1.2.2.2.2.2.1, (r3.1.1.2.2.2.2.2.2.1, (r3.1.1.2.2.2.2.2.2.2.1, (r3.1.1.2.2.2.2.2.2.2.2.1, ())))))), ((r4.1.1.1, (r4.1.1.2.1, (r4.1.1.2.2.1, (r4.1.1.2.2.2.1, ())))), (r4.1.1.2.2.2.2.1, (r4.1.1.2.2.2.2.2.1, (r4.1.1.2.2.2.2.2.2.1, (r4.1.1.2.2.2.2.2.2.2.1, (r4.1.1.2.2.2.2.2.2.2.2.1, ())))))), x.2.2.1, x.2.2.2.1, ())).bind fun r5 =>
   (F_es (x.1, ())).bind fun r6 =>
   (F_es (x.2.1, ())).bind fun r7 =>
   (F_hl (((r6.1.1.1, (r6.1.1.2.1, (r6.1.1.2.2.1, (r6.1.1.2.2.2.1, ())))), (r6.1.1.2.2.2.2.1, (r6.1.1.2.2.2.2.2.1, (r6.1.1.2.2.2.2.2.2.1, (r6.1.1.2.2.2.2.2.2.2.1, (r6.1.1.2.2.2.2.2.2.2.2.1, ())))))), ((r7.1.1.1, (r7.1.1.2.1, (r7.1.1.2.2.1, (r7.1.1.2.2.2.1, ())))), (r7.1.1.2.2.2.2.1, (r7.1.1.2.2.2.2.2.1, (r7.1.1.2.2.2.2.2.2.1, (r7.1.1.2.2.2.2.2.2.2.1, (r7.1.1.2.2.2.2.2.2.2.2.1, ())))))), x.2.2.1, x.2.2.2.1, ())).bind fun r8 =>
   (F_hm (r8.1.1, r5.1.1, ())).bind fun r9 =>
   if (!r9.1.1) then
    some ((false, ()), ())
   else
    (F_es (x.1, ())).bind fun r10 =>
    (F_hy (((r6.1.1.1, (r6.1.1.2.1, (r6.1.1.2.2.1, (r6.1.1.2.2.2.1, ())))), (r6.1.1.2.2.2.2.1, (r6.1.1.2.2.2.2.2.1, (r6.1.1.2.2.2.2.2.2.1, (r6.1.1.2.2.2.2.2.2.2.1, (r6.1.1.2.2.2.2.2.2.2.2.1, ())))))), ((r10.1.1.1, (r10.1.1.2.1, (r10.1.1.2.2.1, (r10.1.1.2.2.2.1, ())))), (r10.1.1.2.2.2.2.1, (r10.1.1.2.2.2.2.2.1, (r10.1.1.2.2.2.2.2.2.1, (r10.1.1.2.2.2.2.2.2.2.1, (r10.1.1.2.2.2.2.2.2.2.2.1, ())))))), ())).bind fun r11 =>
    if (!r11.1.1) then
     some ((false, ()), ())
    else
     (F_es (x.2.1, ())).bind fun r12 =>
     (F_hy (((r7.1.1.1, (r7.1.1.2.1, (r7.1.1.2.2.1, (r7.1.1.2.2.2.1, ())))), (r7.1.1.2.2.2.2.1, (r7.1.1.2.2.2.2.2.1, (r7.1.1.2.2.2.2.2.2.1, (r7.1.1.2.2.2.2.2.2.2.1, (r7.1.1.2.2.2.2.2.2.2.2.1, ())))))), ((r12.1.1.1, (r12.1.1.2.1, (r12.1.1.2.2.1, (r12.1.1.2.2.2.1, ())))), (r12.1.1.2.2.2.2.1, (r12.1.1.2.2.2.2.2.1, (r12.1.1.2.2.2.2.2.2.1, (r12.1.1.2.2.2.2.2.2.2.1, (r12.1.1.2.2.2.2.2.2.2.2.1, ())))))), ())).bind fun r13 =>
     if (!r13.1.1) then
      some ((false, ()), ())
     else
      some ((true, ()), ())
abbrev C_hz : Con := ⟨P_hz, R_hz, F_hz, false⟩
abbrev G_hz : Env := [(40, C_hl), (42, C_eg), (43, C_fs), (44, C_es), (45, C_hm), (46, C_hy)]
theorem g_hz : Qe Tryz.prog G_hz := (Qa s_hl (Qa s_eg (Qa s_fs (Qa s_es (Qa s_hm (Qa s_hy Qc))))))
theorem r_hz (x) : Qf T G_hz [] Tryz.f9 C_hz.ps C_hz.rs x = C_hz.F x := by kernel_rfl
theorem s_hz : Qb Tryz.prog 9 C_hz := fnC (L := []) hT g_hz Tryz.f9 okP r_hz
theorem q_hz : QeZ Tryz.prog 9 C_hz :=
  QsH (L := []) hT g_hz Tryz.f9 (by kernel_rfl) (by kernel_rfl) okP r_hz
end Go.Proofs.YtajnommlfjfgpaaGreatDoor
