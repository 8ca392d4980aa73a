/- The functions of the laws, each as a plain function of data (F), and that the program's text does what F says. Printed by a program (wip/tools/gen.py). -/
import Derived.Test.YtmoninjbahccoaaGreatDoorGa1
namespace Go.Proofs.YtmoninjbahccoaaGreatDoor
open Go Go.RowKit S Go.Proofs
set_option maxRecDepth 100000
set_option linter.unusedVariables false
abbrev P_ax : List PK := [.val Y26]
abbrev R_ax : List VK := [.s (.own 112 Y70)]
def F_ax (x : denP P_ax) : FO P_ax R_ax :=
  if (([] : List (den Y70)).length + x.1.length) * 16 ≤ 140737488355328 then some (([] ++ x.1, ()), ()) else none
abbrev C_ax : Con := ⟨P_ax, R_ax, F_ax, false⟩
theorem s_ax : Qb Tryz.prog 59 C_ax :=
  Qcz hT (fn := Tryz.f59) (cn := C_ax) (c0 := nav Tryz.f59 [0]) (ca := nav Tryz.f59 [1, 0, 1, 0]) (cb := nav Tryz.f59 [1, 1]) (id := 1) (d := 4) (nm := 1032000) (o1 := Qeg Tryz.f59 [1, 0, 0] 0) (o2 := Qeg Tryz.f59 [1, 0, 0] 1)
    (t := 26) (t' := 26) (x := .tmp 3) (r := ⟨Y26, [], 112, 24, 0⟩) (u := Y70) (by kernel_rfl) (by kernel_rfl) (by kernel_rfl) ⟨by kernel_rfl, by kernel_rfl⟩ (fun y => by kernel_rfl) (by kernel_rfl) (by kernel_rfl) (by kernel_rfl) (by kernel_rfl) (by kernel_rfl) rfl
    (fun y => (st0 Tryz.f59 P_ax y).set 2 (.s .nls)) (fun y => ((st0 Tryz.f59 P_ax y).set 2 (.s .nls)).set 3 (.s (.d (.slice Y70) y.1))) (fun y => y.1)
    (fun y => by kernel_rfl) (fun y => by kernel_rfl) (fun y => by kernel_rfl) (fun y => Nat.le_of_ble_eq_true (by kernel_rfl)) (fun y => by kernel_rfl) (by kernel_rfl) (by kernel_rfl) (by kernel_rfl) (fun y => by kernel_rfl)
    (fun y h => by obtain ⟨l, v⟩ := y; have h : l = [] := h; subst h; show run _ _ _ _ _ _ = F_ax ([], v); kernel_rfl) (fun y => by kernel_rfl)
abbrev R_ay : List VK := [.s (.own 71 Y70)]
def F_ay (x : denP P_ax) : FO P_ax R_ay :=
  if (([] : List (den Y70)).length + x.1.length) * 16 ≤ 140737488355328 then some (([] ++ x.1, ()), ()) else none
abbrev C_ay : Con := ⟨P_ax, R_ay, F_ay, false⟩
theorem s_ay : Qb Tryz.prog 60 C_ay :=
  Qcz hT (fn := Tryz.f60) (cn := C_ay) (c0 := nav Tryz.f60 [0]) (ca := nav Tryz.f60 [1, 0, 1, 0]) (cb := nav Tryz.f60 [1, 1]) (id := 1) (d := 4) (nm := 1032000) (o1 := Qeg Tryz.f60 [1, 0, 0] 0) (o2 := Qeg Tryz.f60 [1, 0, 0] 1)
    (t := 27) (t' := 27) (x := .tmp 3) (r := ⟨Y26, [], 71, 24, 0⟩) (u := Y70) (by kernel_rfl) (by kernel_rfl) (by kernel_rfl) ⟨by kernel_rfl, by kernel_rfl⟩ (fun y => by kernel_rfl) (by kernel_rfl) (by kernel_rfl) (by kernel_rfl) (by kernel_rfl) (by kernel_rfl) rfl
    (fun y => (st0 Tryz.f60 P_ax y).set 2 (.s .nls)) (fun y => ((st0 Tryz.f60 P_ax y).set 2 (.s .nls)).set 3 (.s (.d (.slice Y70) y.1))) (fun y => y.1)
    (fun y => by kernel_rfl) (fun y => by kernel_rfl) (fun y => by kernel_rfl) (fun y => Nat.le_of_ble_eq_true (by kernel_rfl)) (fun y => by kernel_rfl) (by kernel_rfl) (by kernel_rfl) (by kernel_rfl) (fun y => by kernel_rfl)
    (fun y h => by obtain ⟨l, v⟩ := y; have h : l = [] := h; subst h; show run _ _ _ _ _ _ = F_ay ([], v); kernel_rfl) (fun y => by kernel_rfl)
abbrev i_az_3 : Shp := { slots := [(1, .s (.ptr 1 0)), (2, .s (.ptr 2 0)), (10, .s (.dat YI)), (11, .s (.dat YI))], boxes := [(1, [.own 32 Y32, .dat Y25, .dat Y26, .dat Y26]), (2, [.own 32 Y32, .own 42 Y41, .own 112 Y70, .own 71 Y70])], rows := [] }
abbrev o_az_3 : List (Ex × Shp) := [(.exit 0, { slots := [(1, .s (.ptr 1 0)), (2, .s (.ptr 2 0))], boxes := [(1, [.own 32 Y32, .dat Y25, .dat Y26, .dat Y26]), (2, [.own 32 Y32, .own 42 Y41, .own 112 Y70, .own 71 Y70])], rows := [] })]
def l_az_3 (rec : i_az_3.den → Option (denO o_az_3)) (u : i_az_3.den) : Option (denO o_az_3) :=
 if (ltI u.1.2.2.2.1 u.1.2.2.1) then
  if 0 ≤ u.1.2.2.2.1 ∧ u.1.2.2.2.1 < ((u.2.1.1.1.length : Nat) : Int) then
   ((u.2.1.1.1)[(u.1.2.2.2.1).toNat]?).bind fun y6 =>
   (F_av (y6, ())).bind fun r7 =>
   if 0 ≤ u.1.2.2.2.1 ∧ u.1.2.2.2.1 < ((u.2.1.1.1.length : Nat) : Int) then
    ((u.2.1.1.1)[(u.1.2.2.2.1).toNat]?).bind fun y8 =>
    let v9 := (u.2.1.1.1.set (u.1.2.2.2.1).toNat r7.1.1)
    let v10 := (IntKind.i64.wrap (u.1.2.2.2.1 + (1 : Int)))
    rec (((), ((), (u.1.2.2.1, (v10, ())))), (((v9, (u.2.1.1.2.1, (u.2.1.1.2.2.1, (u.2.1.1.2.2.2.1, ())))), (u.2.1.2.1, ())), ()))
   else none
  else none
 else
  some (.inl (((), ((), ())), ((u.2.1.1, (u.2.1.2.1, ())), ())))
def L_az_3 (x : i_az_3.den) : Option (denO o_az_3) := Qc l_az_3 lots x
def F_az (x : denP P_ar) : FO P_ar R_m :=
 (F_au (x.1.1, ())).bind fun r1 =>
 let v2 := ((r1.1.1.length : Nat) : Int)
 (L_az_3 (((), ((), (v2, ((0 : Int), ())))), (((r1.1.1, (x.1.2.1, (x.1.2.2.1, (x.1.2.2.2.1, ())))), ((([] : List (den Y32)), (([] : List (den Y41)), (([] : List (den Y70)), (([] : List (den Y70)), ())))), ())), ()))).bind fun z11 =>
 match z11 with
 | .inl x12 =>
  (F_aw (x12.2.1.1.2.1, ())).bind fun r13 =>
  (F_ax (x12.2.1.1.2.2.1, ())).bind fun r14 =>
  (F_ay (x12.2.1.1.2.2.2.1, ())).bind fun r15 =>
  some (((x12.2.1.1.1, (r13.1.1, (r14.1.1, (r15.1.1, ())))), ()), ())
 | .inr z11_ =>
  none
abbrev C_az : Con := ⟨P_ar, R_m, F_az, false⟩
abbrev G_az : Env := [(54, C_au), (57, C_av), (58, C_aw), (59, C_ax), (60, C_ay)]
theorem g_az : Qi Tryz.prog G_az := (Qa s_au (Qa s_av (Qa s_aw (Qa s_ax (Qa s_ay Qd)))))
abbrev c_az_3 : Cut := ⟨i_az_3, o_az_3, fun x => Qc l_az_3 lots x⟩
theorem k_az_3 : QD Tryz.prog 38 (.loop (nav Tryz.f24 [1, 1, 0, 1, 0, 0])) c_az_3 :=
  Qk (L := []) hT g_az (fun _ _ => by kernel_rfl) okP _
theorem r_az (x) : QS T G_az [(3, c_az_3)] Tryz.f24 C_az.ps C_az.rs x = C_az.F x := by kernel_rfl
theorem s_az : Qb Tryz.prog 24 C_az := fnC (L := [(3, c_az_3)]) hT g_az Tryz.f24 (okS okP (okS okP (okS (okS okP (okB (okU k_az_3))) okP))) r_az
def F_ba (x : denP P_o) : FO P_o R_a :=
 (F_z (x.1, (0 : Int), (4294967295 : Int), ())).bind fun r1 =>
 some ((r1.1.1, ()), ())
abbrev C_ba : Con := ⟨P_o, R_a, F_ba, false⟩
theorem g_ba : Qi Tryz.prog G_aa := (Qa s_z Qd)
theorem s_ba : Qb Tryz.prog 91 C_ba := fnC (L := []) hT g_ba Tryz.f91 okP fun _ => by kernel_rfl
def F_bb_1 (x : denP P_o) : FO P_o R_a :=
 (F_ba (x.1, ())).bind fun r1 =>
 some (((!r1.1.1), ()), ())
abbrev C_bb_1 : Con := ⟨P_o, R_a, F_bb_1, false⟩
abbrev G_bb_1 : Env := [(91, C_ba)]
theorem g_bb_1 : Qi Tryz.prog G_bb_1 := (Qa s_ba Qd)
theorem s_bb_1 : Qb Tryz.prog 90 C_bb_1 := fnC (L := []) hT g_bb_1 Tryz.f90 okP fun _ => by kernel_rfl
abbrev P_bc_1 : List PK := [.val Y32, .fn 90 []]
abbrev i_bd_2 : Shp := { slots := [(0, .s (.dat Y32)), (1, .s (.fn 90 [])), (7, .s (.dat YI)), (8, .s (.dat YI))], boxes := [], rows := [] }
def l_bd_2 (rec : i_bd_2.den → Option (denO o_j_2)) (u : i_bd_2.den) : Option (denO o_j_2) :=
 if (ltI u.1.2.2.2.1 u.1.2.2.1) then
  if 0 ≤ u.1.2.2.2.1 then
   ((u.1.1)[(u.1.2.2.2.1).toNat]?).bind fun y4 =>
   (F_bb_1 (y4, ())).bind fun r5 =>
   if r5.1.1 then
    some (.inr (.inl ((u.1.2.2.2.1, ()), ((), ()))))
   else
    let v6 := (IntKind.i64.wrap (u.1.2.2.2.1 + (1 : Int)))
    rec ((u.1.1, ((), (u.1.2.2.1, (v6, ())))), ((), ()))
  else none
 else
  some (.inl ((), ((), ())))
def L_bd_2 (x : i_bd_2.den) : Option (denO o_j_2) := Qc l_bd_2 lots x
def F_bc_1 (x : denP P_bc_1) : FO P_bc_1 R_c :=
 let v1 := ((x.1.length : Nat) : Int)
 (L_bd_2 ((x.1, ((), (v1, ((0 : Int), ())))), ((), ()))).bind fun z7 =>
 match z7 with
 | .inl x8 =>
  some (((-1 : Int), ()), ())
 | .inr z7_ =>
  match z7_ with
  | .inl x9 =>
   some ((x9.1.1, ()), ())
  | .inr z7__ =>
   none
abbrev C_bc_1 : Con := ⟨P_bc_1, R_c, F_bc_1, false⟩
abbrev G_bc_1 : Env := [(90, C_bb_1)]
theorem g_bc_1 : Qi Tryz.prog G_bc_1 := (Qa s_bb_1 Qd)
abbrev c_bd_2 : Cut := ⟨i_bd_2, o_j_2, fun x => Qc l_bd_2 lots x⟩
theorem k_bd_2 : QD Tryz.prog 19 (.loop (nav Tryz.f116 [1, 0, 1, 0, 0])) c_bd_2 :=
  Qk (L := []) hT g_bc_1 (fun _ _ => by kernel_rfl) okP _
theorem r_bc_1 (x) : QS T G_bc_1 [(2, c_bd_2)] Tryz.f116 C_bc_1.ps C_bc_1.rs x = C_bc_1.F x := by kernel_rfl
theorem s_bc_1 : Qb Tryz.prog 116 C_bc_1 := fnC (L := [(2, c_bd_2)]) hT g_bc_1 Tryz.f116 (okS okP (okS (okS okP (okB (okU k_bd_2))) okP)) r_bc_1
def F_be_1 (x : denP P_bc_1) : FO P_bc_1 R_a :=
 (F_bc_1 (x.1, (), ())).bind fun r1 =>
 some (((leI (0 : Int) r1.1.1), ()), ())
abbrev C_be_1 : Con := ⟨P_bc_1, R_a, F_be_1, false⟩
abbrev G_be_1 : Env := [(116, C_bc_1)]
theorem g_be_1 : Qi Tryz.prog G_be_1 := (Qa s_bc_1 Qd)
theorem s_be_1 : Qb Tryz.prog 89 C_be_1 := fnC (L := []) hT g_be_1 Tryz.f89 okP fun _ => by kernel_rfl
def F_bb (x : denP P_av) : FO P_av R_a :=
 (F_be_1 (x.1, (), ())).bind fun r1 =>
 some (((!r1.1.1), ()), ())
abbrev C_bb : Con := ⟨P_av, R_a, F_bb, false⟩
abbrev G_bb : Env := [(89, C_be_1)]
theorem g_bb : Qi Tryz.prog G_bb := (Qa s_be_1 Qd)
theorem s_bb : Qb Tryz.prog 61 C_bb := fnC (L := []) hT g_bb Tryz.f61 okP fun _ => by kernel_rfl
abbrev R_bf : List VK := [.g [.dat YI, .own 2 YI, .dat YI, .own 2 YI, .dat .bool, .dat .bool, .dat .bool, .dat YI, .own 2 YI, .own 2 YI]]
def F_bf (x : denP P_av) : FO P_av R_bf :=
 let v1 := ((x.1.length : Nat) : Int)
 if (ltI (40 : Int) v1) then
  some ((((2 : Int), (([] : List (den YI)), ((0 : Int), (([] : List (den YI)), (false, (false, (false, ((0 : Int), (([] : List (den YI)), (([] : List (den YI)), ())))))))))), ()), ())
 else
  (F_bb (x.1, ())).bind fun r2 =>
  if (!r2.1.1) then
   some ((((3 : Int), (([] : List (den YI)), ((0 : Int), (([] : List (den YI)), (false, (false, (false, ((0 : Int), (([] : List (den YI)), (([] : List (den YI)), ())))))))))), ()), ())
  else
   (F_av (x.1, ())).bind fun r3 =>
   some ((((0 : Int), ((List.replicate ((16 : Int)).toNat (QbI YI)), ((0 : Int), ((List.replicate ((11 : Int)).toNat (QbI YI)), (false, (false, (false, ((0 : Int), (r3.1.1, (([] : List (den YI)), ())))))))))), ()), ())
abbrev C_bf : Con := ⟨P_av, R_bf, F_bf, false⟩
abbrev G_bf : Env := [(57, C_av), (61, C_bb)]
theorem g_bf : Qi Tryz.prog G_bf := (Qa s_av (Qa s_bb Qd))
theorem s_bf : Qb Tryz.prog 25 C_bf := fnC (L := []) hT g_bf Tryz.f25 okP fun _ => by kernel_rfl
abbrev P_bg : List PK := [.val Y28, .val Y24, .val Y24]
abbrev R_bg : List VK := [.g [.dat YI, .own 32 Y32, .own 42 Y41, .own 112 Y70, .own 71 Y70, .own 2 YI, .own 47 Y46, .dat YI, .dat YI, .dat YI]]
abbrev i_bg_8 : Shp := { slots := [(6, .s (.ptr 6 0)), (8, .s (.ptr 8 0)), (38, .s (.dat Y24)), (39, .s (.dat YI)), (40, .s (.dat YI))], boxes := [(6, [.dat YI, .own 32 Y32, .own 42 Y41, .own 112 Y70, .own 71 Y70, .own 2 YI, .own 47 Y46, .dat YI, .dat YI, .dat YI]), (8, [.own 32 Y32, .own 42 Y41, .own 112 Y70, .own 71 Y70, .own 2 YI, .own 47 Y46, .dat YI, .dat YI, .dat YI])], rows := [] }
abbrev o_bg_8 : List (Ex × Shp) := [(.exit 0, { slots := [(6, .s (.ptr 6 0)), (8, .s (.ptr 8 0))], boxes := [(6, [.dat YI, .own 32 Y32, .own 42 Y41, .own 112 Y70, .own 71 Y70, .own 2 YI, .own 47 Y46, .dat YI, .dat YI, .dat YI]), (8, [.own 32 Y32, .own 42 Y41, .own 112 Y70, .own 71 Y70, .own 2 YI, .own 47 Y46, .dat YI, .dat YI, .dat YI])], rows := [] }), (.ret, { slots := [(6, .s (.ptr 6 0))], boxes := [(6, [.dat YI, .own 32 Y32, .own 42 Y41, .own 112 Y70, .own 71 Y70, .own 2 YI, .own 47 Y46, .dat YI, .dat YI, .dat YI])], rows := [] })]
def l_bg_8 (rec : i_bg_8.den → Option (denO o_bg_8)) (u : i_bg_8.den) : Option (denO o_bg_8) :=
 if (ltI u.1.2.2.2.2.1 u.1.2.2.2.1) then
  if 0 ≤ u.1.2.2.2.2.1 then
   ((u.1.2.2.1)[(u.1.2.2.2.2.1).toNat]?).bind fun y9 =>
   (F_bf (y9, ())).bind fun r10 =>
   if (r10.1.1.1 != (0 : Int)) then
    some (.inr (.inl (((), ()), (((r10.1.1.1, (([] : List (den Y32)), (([] : List (den Y41)), (([] : List (den Y70)), (([] : List (den Y70)), (([] : List (den YI)), (([] : List (den Y46)), ((0 : Int), ((0 : Int), ((0 : Int), ())))))))))), ()), ()))))
   else
    if (u.2.1.2.1.2.2.2.2.2.1.length + [(r10.1.1.2.1, (r10.1.1.2.2.1, (r10.1.1.2.2.2.1, (r10.1.1.2.2.2.2.1, (r10.1.1.2.2.2.2.2.1, (r10.1.1.2.2.2.2.2.2.1, (r10.1.1.2.2.2.2.2.2.2.1, (r10.1.1.2.2.2.2.2.2.2.2.1, (r10.1.1.2.2.2.2.2.2.2.2.2.1, ())))))))))].length) * 120 ≤ 140737488355328 then
     let v11 := (u.2.1.2.1.2.2.2.2.2.1 ++ [(r10.1.1.2.1, (r10.1.1.2.2.1, (r10.1.1.2.2.2.1, (r10.1.1.2.2.2.2.1, (r10.1.1.2.2.2.2.2.1, (r10.1.1.2.2.2.2.2.2.1, (r10.1.1.2.2.2.2.2.2.2.1, (r10.1.1.2.2.2.2.2.2.2.2.1, (r10.1.1.2.2.2.2.2.2.2.2.2.1, ())))))))))])
     let v12 := (IntKind.i64.wrap (u.1.2.2.2.2.1 + (1 : Int)))
     rec (((), ((), (u.1.2.2.1, (u.1.2.2.2.1, (v12, ()))))), ((u.2.1.1, ((u.2.1.2.1.1, (u.2.1.2.1.2.1, (u.2.1.2.1.2.2.1, (u.2.1.2.1.2.2.2.1, (u.2.1.2.1.2.2.2.2.1, (v11, (u.2.1.2.1.2.2.2.2.2.2.1, (u.2.1.2.1.2.2.2.2.2.2.2.1, (u.2.1.2.1.2.2.2.2.2.2.2.2.1, ()))))))))), ())), ()))
    else none
  else none
 else
  some (.inl (((), ((), ())), ((u.2.1.1, (u.2.1.2.1, ())), ())))
def L_bg_8 (x : i_bg_8.den) : Option (denO o_bg_8) := Qc l_bg_8 lots x
def F_bg (x : denP P_bg) : FO P_bg R_bg :=
 (F_at (x.1, x.2.1, ())).bind fun r1 =>
 if (r1.1.1.1 != (0 : Int)) then
  some (((r1.1.1.1, (([] : List (den Y32)), (([] : List (den Y41)), (([] : List (den Y70)), (([] : List (den Y70)), (([] : List (den YI)), (([] : List (den Y46)), ((0 : Int), ((0 : Int), ((0 : Int), ())))))))))), ()), ())
 else
  let v2 := ((x.2.2.1.length : Nat) : Int)
  let v3 := ((x.1.1.length : Nat) : Int)
  if (v2 != v3) then
   some ((((2 : Int), (([] : List (den Y32)), (([] : List (den Y41)), (([] : List (den Y70)), (([] : List (den Y70)), (([] : List (den YI)), (([] : List (den Y46)), ((0 : Int), ((0 : Int), ((0 : Int), ())))))))))), ()), ())
  else
   (F_az (x.1, ())).bind fun r4 =>
   ((x.1.2.2.2.1)[((0 : Int)).toNat]?).bind fun y5 =>
   let v6 := ((x.2.2.1.length : Nat) : Int)
   (L_bg_8 (((), ((), (x.2.2.1, (v6, ((0 : Int), ()))))), ((((0 : Int), (([] : List (den Y32)), (([] : List (den Y41)), (([] : List (den Y70)), (([] : List (den Y70)), (([] : List (den YI)), (([] : List (den Y46)), ((0 : Int), ((0 : Int), ((0 : Int), ())))))))))), ((r4.1.1.1, (r4.1.1.2.1, (r4.1.1.2.2.1, (r4.1.1.2.2.2.1, (r1.1.1.2.1, (([] : List (den Y46)), ((0 : Int), (y5.2.1, ((0 : Int), ()))))))))), ())), ()))).bind fun z13 =>
   match z13 with
   | .inl x14 =>
    some ((((0 : Int), x14.2.1.2.1), ()), ())
   | .inr z13_ =>
    match z13_ with
    | .inl x15 =>
     some ((x15.2.1.1, ()), ())
    | .inr z13__ =>
     none
abbrev C_bg : Con := ⟨P_bg, R_bg, F_bg, false⟩
abbrev G_bg : Env := [(23, C_at), (24, C_az), (25, C_bf)]
theorem g_bg : Qi Tryz.prog G_bg := (Qa s_at (Qa s_az (Qa s_bf Qd)))
abbrev c_bg_8 : Cut := ⟨i_bg_8, o_bg_8, fun x => Qc l_bg_8 lots x⟩
theorem k_bg_8 : QD Tryz.prog 62 (.loop (nav Tryz.f8 [1, 1, 1, 1, 1, 0, 1, 0, 0])) c_bg_8 :=
  Qk (L := []) hT g_bg (fun _ _ => by kernel_rfl) okP _
theorem r_bg (x) : QS T G_bg [(8, c_bg_8)] Tryz.f8 C_bg.ps C_bg.rs x = C_bg.F x := by kernel_rfl
theorem s_bg : Qb Tryz.prog 8 C_bg := fnC (L := [(8, c_bg_8)]) hT g_bg Tryz.f8 (okS okP (okS okP (okS okP (okS okP (okS okP (okS (okS okP (okB (okU k_bg_8))) okP)))))) r_bg
abbrev P_bh : List PK := [.val Y22, .val YI, .val YI]
def F_bh (x : denP P_bh) : FO P_bh R_c :=
 let v1 := ((x.1.length : Nat) : Int)
 if (leI x.2.2.1 (1 : Int)) then
  some (((0 : Int), ()), ())
 else
  if (v1 == (0 : Int)) then
   let v2 := (IntKind.i64.wrap (x.2.1 * (7 : Int)))
   if x.2.2.1 = 0 then none else
   let v3 := ((v2).tmod x.2.2.1)
   some ((v3, ()), ())
  else
   if v1 = 0 then none else
   let v4 := ((x.2.1).tmod v1)
   if 0 ≤ v4 then
    ((x.1)[(v4).toNat]?).bind fun y5 =>
    let v6 := (IntKind.i64.wrap y5)
    if v1 = 0 then none else
    let v7 := (IntKind.i64.wrap ((x.2.1).tdiv v1))
    let v8 := (IntKind.i64.wrap (v7 * (3 : Int)))
    let v9 := (IntKind.i64.wrap (v6 + v8))
    if (ltI (200 : Int) x.2.2.1) then
     let v10 := (IntKind.i64.wrap (v9 * (251 : Int)))
     let v11 := (IntKind.i64.wrap (x.2.1 + (1 : Int)))
     if v1 = 0 then none else
     let v12 := ((v11).tmod v1)
     if 0 ≤ v12 then
      ((x.1)[(v12).toNat]?).bind fun y13 =>
      let v14 := (IntKind.i64.wrap y13)
      let v15 := (IntKind.i64.wrap (v10 + v14))
      if x.2.2.1 = 0 then none else
      let v16 := ((v15).tmod x.2.2.1)
      some ((v16, ()), ())
     else none
    else
     if x.2.2.1 = 0 then none else
     let v17 := ((v9).tmod x.2.2.1)
     some ((v17, ()), ())
   else none
abbrev C_bh : Con := ⟨P_bh, R_c, F_bh, false⟩
theorem s_bh : Qb Tryz.prog 10 C_bh := fnC (L := []) hT g_a Tryz.f10 okP fun _ => by kernel_rfl
def F_bi (x : denP P_av) : FO P_av R_c :=
 let v1 := ((x.1.length : Nat) : Int)
 if (v1 == (0 : Int)) = false then
  let v2 := ((x.1.length : Nat) : Int)
  if (ltI (192 : Int) v2) = false then
   let v3 := ((x.1.length : Nat) : Int)
   let v4 := ((v3).tmod (8 : Int))
   if (v4 != (0 : Int)) then
    some (((1 : Int), ()), ())
   else
    (F_bb (x.1, ())).bind fun r5 =>
    if (!r5.1.1) then
     some (((3 : Int), ()), ())
    else
     some (((0 : Int), ()), ())
  else
   some (((1 : Int), ()), ())
 else
  some (((1 : Int), ()), ())
abbrev C_bi : Con := ⟨P_av, R_c, F_bi, false⟩
abbrev G_bi : Env := [(61, C_bb)]
theorem g_bi : Qi Tryz.prog G_bi := (Qa s_bb Qd)
theorem s_bi : Qb Tryz.prog 71 C_bi := fnC (L := []) hT g_bi Tryz.f71 okP fun _ => by kernel_rfl
def F_bj (x : denP P_av) : FO P_av R_a :=
 (F_bi (x.1, ())).bind fun r1 =>
 if (r1.1.1 == (0 : Int)) = true then
  let v2 := ((x.1.length : Nat) : Int)
  some (((v2 == (192 : Int)), ()), ())
 else
  some ((false, ()), ())
abbrev C_bj : Con := ⟨P_av, R_a, F_bj, false⟩
abbrev G_bj : Env := [(71, C_bi)]
theorem g_bj : Qi Tryz.prog G_bj := (Qa s_bi Qd)
theorem s_bj : Qb Tryz.prog 31 C_bj := fnC (L := []) hT g_bj Tryz.f31 okP fun _ => by kernel_rfl
abbrev P_bk : List PK := [.val Y46]
def F_bk (x : denP P_bk) : FO P_bk R_c :=
 let v1 := ((x.1.1.length : Nat) : Int)
 if (v1 != (16 : Int)) = false then
  let v2 := ((x.1.2.2.1.length : Nat) : Int)
  if (v2 != (11 : Int)) = false then
   ((x.1.1)[((0 : Int)).toNat]?).bind fun y3 =>
   if (y3 != (0 : Int)) then
    some (((1 : Int), ()), ())
   else
    (F_bb (x.1.1, ())).bind fun r4 =>
    if (!r4.1.1) = false then
     (F_ba (x.1.2.1, ())).bind fun r5 =>
     if (!r5.1.1) = false then
      (F_bb (x.1.2.2.1, ())).bind fun r6 =>
      if (!r6.1.1) = false then
       (F_bb (x.1.2.2.2.2.2.2.2.1, ())).bind fun r7 =>
       if (!r7.1.1) = false then
        (F_bb (x.1.2.2.2.2.2.2.2.2.1, ())).bind fun r8 =>
        if (!r8.1.1) then
         some (((3 : Int), ()), ())
        else
         let v9 := ((x.1.2.2.2.2.2.2.2.1.length : Nat) : Int)
         if (ltI (40 : Int) v9) = false then
          let v10 := ((x.1.2.2.2.2.2.2.2.2.1.length : Nat) : Int)
          if (ltI (40 : Int) v10) then
           some (((2 : Int), ()), ())
          else
           (F_z (x.1.2.2.2.2.2.2.1, (0 : Int), (1000000000 : Int), ())).bind fun r11 =>
           if (!r11.1.1) then
            some (((3 : Int), ()), ())
           else
            ((x.1.2.2.1)[((0 : Int)).toNat]?).bind fun y12 =>
            if (ltI (3 : Int) y12) = false then
             ((x.1.2.2.1)[((7 : Int)).toNat]?).bind fun y13 =>
             if (ltI (7 : Int) y13) = false then
              ((x.1.2.2.1)[((10 : Int)).toNat]?).bind fun y14 =>
              if (ltI (8 : Int) y14) = false then
               ((x.1.2.2.1)[((6 : Int)).toNat]?).bind fun y15 =>
               if (y15 != (0 : Int)) = false then
                ((x.1.2.2.1)[((8 : Int)).toNat]?).bind fun y16 =>
                if (y16 != (0 : Int)) then
                 some (((1 : Int), ()), ())
                else
                 some (((0 : Int), ()), ())
               else
                some (((1 : Int), ()), ())
              else
               some (((1 : Int), ()), ())
             else
              some (((1 : Int), ()), ())
            else
             some (((1 : Int), ()), ())
         else
          some (((2 : Int), ()), ())
       else
        some (((3 : Int), ()), ())
      else
       some (((3 : Int), ()), ())
     else
      some (((3 : Int), ()), ())
    else
     some (((3 : Int), ()), ())
  else
   some (((1 : Int), ()), ())
 else
  some (((1 : Int), ()), ())
abbrev C_bk : Con := ⟨P_bk, R_c, F_bk, false⟩
abbrev G_bk : Env := [(27, C_z), (61, C_bb), (91, C_ba)]
theorem g_bk : Qi Tryz.prog G_bk := (Qa s_z (Qa s_bb (Qa s_ba Qd)))
theorem s_bk : Qb Tryz.prog 62 C_bk := fnC (L := []) hT g_bk Tryz.f62 okP fun _ => by kernel_rfl
abbrev i_bl_3 : Shp := { slots := [(1, .s (.dat YI)), (5, .s (.dat YI)), (11, .s (.dat Y26)), (12, .s (.dat YI)), (13, .s (.dat YI))], boxes := [], rows := [] }
abbrev o_bl_3 : List (Ex × Shp) := [(.exit 0, { slots := [(5, .s (.dat YI))], boxes := [], rows := [] })]
def l_bl_3 (rec : i_bl_3.den → Option (denO o_bl_3)) (u : i_bl_3.den) : Option (denO o_bl_3) :=
 if (ltI u.1.2.2.2.2.1 u.1.2.2.2.1) then
  if 0 ≤ u.1.2.2.2.2.1 then
   ((u.1.2.2.1)[(u.1.2.2.2.2.1).toNat]?).bind fun y3 =>
   if (ltI u.1.1 (0 : Int)) = false then
    if (y3.1 == u.1.1) then
     let v4 := (IntKind.i64.wrap (u.1.2.1 + y3.2.1))
     let v5 := (IntKind.i64.wrap (u.1.2.2.2.2.1 + (1 : Int)))
     rec ((u.1.1, (v4, (u.1.2.2.1, (u.1.2.2.2.1, (v5, ()))))), ((), ()))
    else
     let v6 := (IntKind.i64.wrap (u.1.2.2.2.2.1 + (1 : Int)))
     rec ((u.1.1, (u.1.2.1, (u.1.2.2.1, (u.1.2.2.2.1, (v6, ()))))), ((), ()))
   else
    let v7 := (IntKind.i64.wrap (u.1.2.1 + y3.2.1))
    let v8 := (IntKind.i64.wrap (u.1.2.2.2.2.1 + (1 : Int)))
    rec ((u.1.1, (v7, (u.1.2.2.1, (u.1.2.2.2.1, (v8, ()))))), ((), ()))
  else none
 else
  some (.inl ((u.1.2.1, ()), ((), ())))
def L_bl_3 (x : i_bl_3.den) : Option (denO o_bl_3) := Qc l_bl_3 lots x
def F_bl (x : denP P_h) : FO P_h R_c :=
 let v1 := ((x.1.2.2.2.1.length : Nat) : Int)
 (L_bl_3 ((x.2.1, ((0 : Int), (x.1.2.2.2.1, (v1, ((0 : Int), ()))))), ((), ()))).bind fun z9 =>
 match z9 with
 | .inl x10 =>
  some ((x10.1.1, ()), ())
 | .inr z9_ =>
  none
abbrev C_bl : Con := ⟨P_h, R_c, F_bl, false⟩
abbrev c_bl_3 : Cut := ⟨i_bl_3, o_bl_3, fun x => Qc l_bl_3 lots x⟩
theorem k_bl_3 : QD Tryz.prog 31 (.loop (nav Tryz.f92 [1, 1, 0, 1, 0, 0])) c_bl_3 :=
  Qk (L := []) hT g_a (fun _ _ => by kernel_rfl) okP _
theorem r_bl (x) : QS T G_a [(3, c_bl_3)] Tryz.f92 C_bl.ps C_bl.rs x = C_bl.F x := by kernel_rfl
theorem s_bl : Qb Tryz.prog 92 C_bl := fnC (L := [(3, c_bl_3)]) hT g_a Tryz.f92 (okS okP (okS okP (okS (okS okP (okB (okU k_bl_3))) okP))) r_bl
abbrev R_bm : List VK := [.s (.dat YI), .s (.dat YI)]
abbrev i_bm_3 : Shp := { slots := [(0, .s (.pd Y28)), (1, .s (.dat YI)), (6, .s (.dat YI))], boxes := [], rows := [] }
abbrev o_bm_3 : List (Ex × Shp) := [(.exit 0, { slots := [(0, .s (.pd Y28)), (1, .s (.dat YI)), (6, .s (.dat YI))], boxes := [], rows := [] })]
def l_bm_3 (rec : i_bm_3.den → Option (denO o_bm_3)) (u : i_bm_3.den) : Option (denO o_bm_3) :=
 if 0 ≤ u.1.2.2.1 then
  ((u.1.1.2.2.2.1)[(u.1.2.2.1).toNat]?).bind fun y5 =>
  if (leI y5.2.1 u.1.2.1) then
   if 0 ≤ u.1.2.2.1 then
    ((u.1.1.2.2.2.1)[(u.1.2.2.1).toNat]?).bind fun y6 =>
    let v7 := (IntKind.i64.wrap (u.1.2.1 - y6.2.1))
    let v8 := (IntKind.i64.wrap (u.1.2.2.1 + (1 : Int)))
    rec ((u.1.1, (v7, (v8, ()))), ((), ()))
   else none
  else
   some (.inl ((u.1.1, (u.1.2.1, (u.1.2.2.1, ()))), ((), ())))
 else none
def L_bm_3 (x : i_bm_3.den) : Option (denO o_bm_3) := Qc l_bm_3 lots x
def F_bm (x : denP P_h) : FO P_h R_bm :=
 (F_bl (x.1, (-1 : Int), ())).bind fun r1 =>
 if r1.1.1 = 0 then none else
 let v2 := ((x.2.1).tmod r1.1.1)
 (L_bm_3 ((x.1, (v2, ((0 : Int), ()))), ((), ()))).bind fun z9 =>
 match z9 with
 | .inl x10 =>
  if 0 ≤ x10.1.2.2.1 then
   ((x10.1.1.2.2.2.1)[(x10.1.2.2.1).toNat]?).bind fun y11 =>
   let v12 := (IntKind.i64.wrap (y11.2.1 - x10.1.2.1))
   some ((x10.1.2.2.1, v12, ()), ())
  else none
 | .inr z9_ =>
  none
abbrev C_bm : Con := ⟨P_h, R_bm, F_bm, false⟩
abbrev G_bm : Env := [(92, C_bl)]
theorem g_bm : Qi Tryz.prog G_bm := (Qa s_bl Qd)
abbrev c_bm_3 : Cut := ⟨i_bm_3, o_bm_3, fun x => Qc l_bm_3 lots x⟩
theorem k_bm_3 : QD Tryz.prog 44 (.loop (nav Tryz.f63 [1, 1, 1, 0, 0, 0])) c_bm_3 :=
  Qk (L := []) hT g_bm (fun _ _ => by kernel_rfl) okP _
theorem r_bm (x) : QS T G_bm [(3, c_bm_3)] Tryz.f63 C_bm.ps C_bm.rs x = C_bm.F x := by kernel_rfl
theorem s_bm : Qb Tryz.prog 63 C_bm := fnC (L := [(3, c_bm_3)]) hT g_bm Tryz.f63 (okS okP (okS okP (okS okP (okS (okB (okU k_bm_3)) okP)))) r_bm
abbrev P_bn : List PK := [.val Y34]
abbrev i_bn_7 : Shp := { slots := [(1, .s (.ptr 1 0)), (30, .s (.dat Y33)), (31, .s (.dat YI)), (32, .s (.dat YI))], boxes := [(1, [.dat Y24, .dat Y25, .dat Y26, .dat Y26, .dat Y32, .dat Y33, .dat YI, .dat YI, .dat YI])], rows := [] }
abbrev o_bn_7 : List (Ex × Shp) := [(.exit 0, { slots := [(1, .s (.ptr 1 0))], boxes := [(1, [.dat Y24, .dat Y25, .dat Y26, .dat Y26, .dat Y32, .dat Y33, .dat YI, .dat YI, .dat YI])], rows := [] }), (.ret, { slots := [(2, .s (.dat YI))], boxes := [], rows := [] })]
def l_bn_7 (rec : i_bn_7.den → Option (denO o_bn_7)) (u : i_bn_7.den) : Option (denO o_bn_7) :=
 if (ltI u.1.2.2.2.1 u.1.2.2.1) then
  if 0 ≤ u.1.2.2.2.1 then
   ((u.1.2.1)[(u.1.2.2.2.1).toNat]?).bind fun y8 =>
   (F_bk (y8, ())).bind fun r9 =>
   if (r9.1.1 != (0 : Int)) then
    some (.inr (.inl ((r9.1.1, ()), ((), ()))))
   else
    let v10 := (IntKind.i64.wrap (u.1.2.2.2.1 + (1 : Int)))
    rec (((), (u.1.2.1, (u.1.2.2.1, (v10, ())))), ((u.2.1.1, ()), ()))
  else none
 else
  some (.inl (((), ()), ((u.2.1.1, ()), ())))
def L_bn_7 (x : i_bn_7.den) : Option (denO o_bn_7) := Qc l_bn_7 lots x
def F_bn (x : denP P_bn) : FO P_bn R_c :=
 (F_ar (x.1.1, ())).bind fun r1 =>
 if (r1.1.1 != (0 : Int)) then
  some ((r1.1.1, ()), ())
 else
  (F_bj (x.1.2.1, ())).bind fun r2 =>
  if (!r2.1.1) = false then
   let v3 := ((x.1.2.2.1.length : Nat) : Int)
   let v4 := ((x.1.1.1.length : Nat) : Int)
   if (v3 != v4) then
    some (((1 : Int), ()), ())
   else
    let v5 := ((x.1.2.2.1.length : Nat) : Int)
    (L_bn_7 (((), (x.1.2.2.1, (v5, ((0 : Int), ())))), (((x.1.1.1, (x.1.1.2.1, (x.1.1.2.2.1, (x.1.1.2.2.2.1, (x.1.2.1, (x.1.2.2.1, (x.1.2.2.2.1, (x.1.2.2.2.2.1, (x.1.2.2.2.2.2.1, ()))))))))), ()), ()))).bind fun z11 =>
    match z11 with
    | .inl x12 =>
     (F_z (x12.2.1.1.2.2.2.2.2.2.2.2.1, (0 : Int), (1000000 : Int), ())).bind fun r13 =>
     if (!r13.1.1) then
      some (((3 : Int), ()), ())
     else
      (F_bm ((x12.2.1.1.1, (x12.2.1.1.2.1, (x12.2.1.1.2.2.1, (x12.2.1.1.2.2.2.1, ())))), x12.2.1.1.2.2.2.2.2.2.2.2.1, ())).bind fun r14 =>
      if (x12.2.1.1.2.2.2.2.2.2.1 != r14.1.1) = false then
       if (x12.2.1.1.2.2.2.2.2.2.2.1 != r14.1.2.1) then
        some (((1 : Int), ()), ())
       else
        some (((0 : Int), ()), ())
      else
       some (((1 : Int), ()), ())
    | .inr z11_ =>
     match z11_ with
     | .inl x15 =>
      some ((x15.1.1, ()), ())
     | .inr z11__ =>
      none
  else
   some (((1 : Int), ()), ())
abbrev C_bn : Con := ⟨P_bn, R_c, F_bn, false⟩
abbrev G_bn : Env := [(27, C_z), (30, C_ar), (31, C_bj), (62, C_bk), (63, C_bm)]
theorem g_bn : Qi Tryz.prog G_bn := (Qa s_z (Qa s_ar (Qa s_bj (Qa s_bk (Qa s_bm Qd)))))
abbrev c_bn_7 : Cut := ⟨i_bn_7, o_bn_7, fun x => Qc l_bn_7 lots x⟩
theorem k_bn_7 : QD Tryz.prog 63 (.loop (nav Tryz.f26 [1, 1, 1, 0, 1, 0, 0])) c_bn_7 :=
  Qk (L := []) hT g_bn (fun _ _ => by kernel_rfl) okP _
theorem r_bn (x) : QS T G_bn [(7, c_bn_7)] Tryz.f26 C_bn.ps C_bn.rs x = C_bn.F x := by kernel_rfl
theorem s_bn : Qb Tryz.prog 26 C_bn := fnC (L := [(7, c_bn_7)]) hT g_bn Tryz.f26 (okS okP (okS okP (okS okP (okS (okS okP (okB (okU k_bn_7))) okP)))) r_bn
abbrev P_bo : List PK := [.val Y33]
abbrev R_bo : List VK := [.s (.own 47 Y46)]
def F_bo (x : denP P_bo) : FO P_bo R_bo :=
  if (([] : List (den Y46)).length + x.1.length) * 120 ≤ 140737488355328 then some (([] ++ x.1, ()), ()) else none
abbrev C_bo : Con := ⟨P_bo, R_bo, F_bo, false⟩
theorem s_bo : Qb Tryz.prog 64 C_bo :=
  Qcz hT (fn := Tryz.f64) (cn := C_bo) (c0 := nav Tryz.f64 [0]) (ca := nav Tryz.f64 [1, 0, 1, 0]) (cb := nav Tryz.f64 [1, 1]) (id := 1) (d := 4) (nm := 1032000) (o1 := Qeg Tryz.f64 [1, 0, 0] 0) (o2 := Qeg Tryz.f64 [1, 0, 0] 1)
    (t := 33) (t' := 33) (x := .tmp 3) (r := ⟨Y33, [], 47, 24, 3000047⟩) (u := Y46) (by kernel_rfl) (by kernel_rfl) (by kernel_rfl) ⟨by kernel_rfl, by kernel_rfl⟩ (fun y => by kernel_rfl) (by kernel_rfl) (by kernel_rfl) (by kernel_rfl) (by kernel_rfl) (by kernel_rfl) rfl
    (fun y => (st0 Tryz.f64 P_bo y).set 2 (.s .nls)) (fun y => ((st0 Tryz.f64 P_bo y).set 2 (.s .nls)).set 3 (.s (.d (.slice Y46) y.1))) (fun y => y.1)
    (fun y => by kernel_rfl) (fun y => by kernel_rfl) (fun y => by kernel_rfl) (fun y => Nat.le_of_ble_eq_true (by kernel_rfl)) (fun y => by kernel_rfl) (by kernel_rfl) (by kernel_rfl) (by kernel_rfl) (fun y => by kernel_rfl)
    (fun y h => by obtain ⟨l, v⟩ := y; have h : l = [] := h; subst h; show run _ _ _ _ _ _ = F_bo ([], v); kernel_rfl) (fun y => by kernel_rfl)
abbrev R_bp : List VK := [.g [.own 2 YI, .dat YI, .own 2 YI, .dat .bool, .dat .bool, .dat .bool, .dat YI, .own 2 YI, .own 2 YI]]
def F_bp (x : denP P_bk) : FO P_bk R_bp :=
 (F_av (x.1.1, ())).bind fun r1 =>
 (F_av (x.1.2.2.1, ())).bind fun r2 =>
 (F_av (x.1.2.2.2.2.2.2.2.1, ())).bind fun r3 =>
 (F_av (x.1.2.2.2.2.2.2.2.2.1, ())).bind fun r4 =>
 some (((r1.1.1, (x.1.2.1, (r2.1.1, (x.1.2.2.2.1, (x.1.2.2.2.2.1, (x.1.2.2.2.2.2.1, (x.1.2.2.2.2.2.2.1, (r3.1.1, (r4.1.1, ()))))))))), ()), ())
abbrev C_bp : Con := ⟨P_bk, R_bp, F_bp, false⟩
abbrev G_bp : Env := [(57, C_av)]
theorem g_bp : Qi Tryz.prog G_bp := (Qa s_av Qd)
theorem s_bp : Qb Tryz.prog 35 C_bp := fnC (L := []) hT g_bp Tryz.f35 okP fun _ => by kernel_rfl
abbrev R_bq : List VK := [.g [.own 32 Y32, .own 42 Y41, .own 112 Y70, .own 71 Y70, .own 2 YI, .own 47 Y46, .dat YI, .dat YI, .dat YI]]
abbrev i_bq_5 : Shp := { slots := [(1, .s (.ptr 1 0)), (2, .s (.ptr 2 0)), (18, .s (.dat YI)), (19, .s (.dat YI))], boxes := [(1, [.own 32 Y32, .own 42 Y41, .own 112 Y70, .own 71 Y70, .own 2 YI, .own 47 Y46, .dat YI, .dat YI, .dat YI]), (2, [.own 32 Y32, .own 42 Y41, .own 112 Y70, .own 71 Y70, .own 2 YI, .own 47 Y46, .dat YI, .dat YI, .dat YI])], rows := [] }
abbrev o_bq_5 : List (Ex × Shp) := [(.exit 0, { slots := [(1, .s (.ptr 1 0)), (2, .s (.ptr 2 0))], boxes := [(1, [.own 32 Y32, .own 42 Y41, .own 112 Y70, .own 71 Y70, .own 2 YI, .own 47 Y46, .dat YI, .dat YI, .dat YI]), (2, [.own 32 Y32, .own 42 Y41, .own 112 Y70, .own 71 Y70, .own 2 YI, .own 47 Y46, .dat YI, .dat YI, .dat YI])], rows := [] })]
def l_bq_5 (rec : i_bq_5.den → Option (denO o_bq_5)) (u : i_bq_5.den) : Option (denO o_bq_5) :=
 if (ltI u.1.2.2.2.1 u.1.2.2.1) then
  if 0 ≤ u.1.2.2.2.1 ∧ u.1.2.2.2.1 < ((u.2.1.1.2.2.2.2.2.1.length : Nat) : Int) then
   ((u.2.1.1.2.2.2.2.2.1)[(u.1.2.2.2.1).toNat]?).bind fun y8 =>
   (F_bp (y8, ())).bind fun r9 =>
   if 0 ≤ u.1.2.2.2.1 ∧ u.1.2.2.2.1 < ((u.2.1.1.2.2.2.2.2.1.length : Nat) : Int) then
    ((u.2.1.1.2.2.2.2.2.1)[(u.1.2.2.2.1).toNat]?).bind fun y10 =>
    let v11 := (u.2.1.1.2.2.2.2.2.1.set (u.1.2.2.2.1).toNat r9.1.1)
    let v12 := (IntKind.i64.wrap (u.1.2.2.2.1 + (1 : Int)))
    rec (((), ((), (u.1.2.2.1, (v12, ())))), (((u.2.1.1.1, (u.2.1.1.2.1, (u.2.1.1.2.2.1, (u.2.1.1.2.2.2.1, (u.2.1.1.2.2.2.2.1, (v11, (u.2.1.1.2.2.2.2.2.2.1, (u.2.1.1.2.2.2.2.2.2.2.1, (u.2.1.1.2.2.2.2.2.2.2.2.1, ()))))))))), (u.2.1.2.1, ())), ()))
   else none
  else none
 else
  some (.inl (((), ((), ())), ((u.2.1.1, (u.2.1.2.1, ())), ())))
def L_bq_5 (x : i_bq_5.den) : Option (denO o_bq_5) := Qc l_bq_5 lots x
def F_bq (x : denP P_bn) : FO P_bn R_bq :=
 (F_az (x.1.1, ())).bind fun r1 =>
 (F_av (x.1.2.1, ())).bind fun r2 =>
 (F_bo (x.1.2.2.1, ())).bind fun r3 =>
 let v4 := ((r3.1.1.length : Nat) : Int)
 (L_bq_5 (((), ((), (v4, ((0 : Int), ())))), (((r1.1.1.1, (r1.1.1.2.1, (r1.1.1.2.2.1, (r1.1.1.2.2.2.1, (r2.1.1, (r3.1.1, (x.1.2.2.2.1, (x.1.2.2.2.2.1, (x.1.2.2.2.2.2.1, ()))))))))), ((([] : List (den Y32)), (([] : List (den Y41)), (([] : List (den Y70)), (([] : List (den Y70)), (([] : List (den YI)), (([] : List (den Y46)), ((0 : Int), ((0 : Int), ((0 : Int), ()))))))))), ())), ()))).bind fun z13 =>
 match z13 with
 | .inl x14 =>
  some ((x14.2.1.1, ()), ())
 | .inr z13_ =>
  none
abbrev C_bq : Con := ⟨P_bn, R_bq, F_bq, false⟩
abbrev G_bq : Env := [(24, C_az), (35, C_bp), (57, C_av), (64, C_bo)]
theorem g_bq : Qi Tryz.prog G_bq := (Qa s_az (Qa s_bp (Qa s_av (Qa s_bo Qd))))
abbrev c_bq_5 : Cut := ⟨i_bq_5, o_bq_5, fun x => Qc l_bq_5 lots x⟩
theorem k_bq_5 : QD Tryz.prog 34 (.loop (nav Tryz.f28 [1, 1, 1, 1, 0, 1, 0, 0])) c_bq_5 :=
  Qk (L := []) hT g_bq (fun _ _ => by kernel_rfl) okP _
theorem r_bq (x) : QS T G_bq [(5, c_bq_5)] Tryz.f28 C_bq.ps C_bq.rs x = C_bq.F x := by kernel_rfl
theorem s_bq : Qb Tryz.prog 28 C_bq := fnC (L := [(5, c_bq_5)]) hT g_bq Tryz.f28 (okS okP (okS okP (okS okP (okS okP (okS (okS okP (okB (okU k_bq_5))) okP))))) r_bq
abbrev P_br : List PK := [.ptr Y34]
def F_br (x : denP P_br) : FO P_br R_c :=
 if 0 ≤ x.1.2.2.2.1 then
  ((x.1.1.2.2.2.1)[(x.1.2.2.2.1).toNat]?).bind fun y1 =>
  some ((y1.1, ()), ())
 else none
abbrev C_br : Con := ⟨P_br, R_c, F_br, false⟩
theorem s_br : Qb Tryz.prog 45 C_br := fnC (L := []) hT g_a Tryz.f45 okP fun _ => by kernel_rfl
abbrev P_bs : List PK := []
def F_bs (x : denP P_bs) : FO P_bs R_s :=
 some ((((-1 : Int), ((0 : Int), ())), ()), ())
abbrev C_bs : Con := ⟨P_bs, R_s, F_bs, false⟩
theorem s_bs : Qb Tryz.prog 73 C_bs := fnC (L := []) hT g_a Tryz.f73 okP fun _ => by kernel_rfl
abbrev P_bt : List PK := [.val (.int .u64), .val (.int .u64)]
abbrev R_bt : List VK := [.s (.dat (.int .u64)), .s (.dat (.int .u64))]
def F_bt (x : denP P_bt) : FO P_bt R_bt :=
 let v1 := (iand .u64 x.1 (4294967295 : Int))
 let v2 := ((x.1).fdiv (2 ^ 32))
 let v3 := (iand .u64 x.2.1 (4294967295 : Int))
 let v4 := ((x.2.1).fdiv (2 ^ 32))
 let v5 := (IntKind.u64.wrap (v1 * v3))
 let v6 := (IntKind.u64.wrap (v2 * v3))
 let v7 := ((v5).fdiv (2 ^ 32))
 let v8 := (IntKind.u64.wrap (v6 + v7))
 let v9 := (iand .u64 v8 (4294967295 : Int))
 let v10 := ((v8).fdiv (2 ^ 32))
 let v11 := (IntKind.u64.wrap (v1 * v4))
 let v12 := (IntKind.u64.wrap (v9 + v11))
 let v13 := (IntKind.u64.wrap (v2 * v4))
 let v14 := (IntKind.u64.wrap (v13 + v10))
 let v15 := ((v12).fdiv (2 ^ 32))
 let v16 := (IntKind.u64.wrap (v14 + v15))
 let v17 := (IntKind.u64.wrap (x.1 * x.2.1))
 some ((v16, v17, ()), ())
abbrev C_bt : Con := ⟨P_bt, R_bt, F_bt, false⟩
theorem s_bt : Qb Tryz.prog 127 C_bt := fnC (L := []) hT g_a Tryz.f127 okP fun _ => by kernel_rfl
def F_bu (x : denP P_bt) : FO P_bt R_bt :=
 (F_bt (x.1, x.2.1, ())).bind fun r1 =>
 some ((r1.1.1, r1.1.2.1, ()), ())
abbrev C_bu : Con := ⟨P_bt, R_bt, F_bu, false⟩
abbrev G_bu : Env := [(127, C_bt)]
theorem g_bu : Qi Tryz.prog G_bu := (Qa s_bt Qd)
theorem s_bu : Qb Tryz.prog 100 C_bu := fnC (L := []) hT g_bu Tryz.f100 okP fun _ => by kernel_rfl
abbrev P_bv : List PK := [.val Y26, .val YI]
abbrev R_bv : List VK := [.s (.own 84 Y70)]
abbrev i_bv_8 : Shp := { slots := [(7, .s (.own 84 Y70)), (8, .s (.dat YI))], boxes := [], rows := [] }
abbrev o_bv_8 : List (Ex × Shp) := [(.exit 0, { slots := [(7, .s (.own 84 Y70))], boxes := [], rows := [] })]
def l_bv_8 (rec : i_bv_8.den → Option (denO o_bv_8)) (u : i_bv_8.den) : Option (denO o_bv_8) :=
 let v8 := ((u.1.1.length : Nat) : Int)
 if (ltI u.1.2.1 v8) then
  if 0 ≤ u.1.2.1 ∧ u.1.2.1 ≤ ((u.1.1.length : Nat) : Int) ∧ ((u.1.1.length : Nat) : Int) ≤ ((u.1.1.length : Nat) : Int) then
   if 0 ≤ (0 : Int) ∧ (0 : Int) ≤ u.1.2.1 ∧ u.1.2.1 ≤ ((u.1.1.length : Nat) : Int) then
    if 0 < ((((u.1.1.length : Nat) : Int)).toNat - (u.1.2.1).toNat) ∧ 0 < ((u.1.1.drop (0 + ((0 : Int)).toNat)).take ((u.1.2.1).toNat - ((0 : Int)).toNat)).length then
     let v9 := (splc u.1.1 ((u.1.1.drop (0 + ((0 : Int)).toNat)).take ((u.1.2.1).toNat - ((0 : Int)).toNat)) (0 + (u.1.2.1).toNat) ((((u.1.1.length : Nat) : Int)).toNat - (u.1.2.1).toNat))
     let v10 := ((min ((((u.1.1.length : Nat) : Int)).toNat - (u.1.2.1).toNat) ((u.1.1.drop (0 + ((0 : Int)).toNat)).take ((u.1.2.1).toNat - ((0 : Int)).toNat)).length : Nat) : Int)
     let v11 := (IntKind.i64.wrap (u.1.2.1 + v10))
     rec ((v9, (v11, ())), ((), ()))
    else none
   else none
  else none
 else
  some (.inl ((u.1.1, ()), ((), ())))
def L_bv_8 (x : i_bv_8.den) : Option (denO o_bv_8) := Qc l_bv_8 lots x
def F_bv (x : denP P_bv) : FO P_bv R_bv :=
 if (ltI x.2.1 (0 : Int)) then none else
 let v1 := ((x.1.length : Nat) : Int)
 let v2 := (IntKind.u64.wrap v1)
 let v3 := (IntKind.u64.wrap x.2.1)
 (F_bu (v2, v3, ())).bind fun r4 =>
 if (ltI (0 : Int) r4.1.1) = false then
  if (ltI (9223372036854775807 : Int) r4.1.2.1) then none else
  let v5 := (IntKind.i64.wrap r4.1.2.1)
  if v5 = v5 ∧ 0 ≤ v5 ∧ v5 * 16 ≤ 140737488355328 ∧ v5 ≤ 9223372036854775807 then
   if 0 < (List.replicate (v5).toNat (QbI Y70)).length ∧ 0 < x.1.length then
    let v6 := (splc (List.replicate (v5).toNat (QbI Y70)) x.1 0 (List.replicate (v5).toNat (QbI Y70)).length)
    let v7 := ((min (List.replicate (v5).toNat (QbI Y70)).length x.1.length : Nat) : Int)
    (L_bv_8 ((v6, (v7, ())), ((), ()))).bind fun z12 =>
    match z12 with
    | .inl x13 =>
     some ((x13.1.1, ()), ())
    | .inr z12_ =>
     none
   else none
  else none
 else none
abbrev C_bv : Con := ⟨P_bv, R_bv, F_bv, false⟩
abbrev G_bv : Env := [(100, C_bu)]
theorem g_bv : Qi Tryz.prog G_bv := (Qa s_bu Qd)
abbrev c_bv_8 : Cut := ⟨i_bv_8, o_bv_8, fun x => Qc l_bv_8 lots x⟩
theorem k_bv_8 : QD Tryz.prog 48 (.loop (nav Tryz.f72 [1, 1, 1, 1, 1, 1, 0, 0, 0])) c_bv_8 :=
  Qk (L := []) hT g_bv (fun _ _ => by kernel_rfl) okP _
theorem r_bv (x) : QS T G_bv [(8, c_bv_8)] Tryz.f72 C_bv.ps C_bv.rs x = C_bv.F x := by kernel_rfl
theorem s_bv : Qb Tryz.prog 72 C_bv := fnC (L := [(8, c_bv_8)]) hT g_bv Tryz.f72 (okS okP (okS okP (okS okP (okS okP (okS okP (okS okP (okS (okB (okU k_bv_8)) okP))))))) r_bv
abbrev i_bw_8 : Shp := { slots := [(1, .s (.dat YI)), (5, .s (.own 84 Y70)), (35, .s (.dat Y25)), (36, .s (.dat YI)), (37, .s (.dat YI))], boxes := [], rows := [] }
abbrev o_bw_8 : List (Ex × Shp) := [(.exit 2, { slots := [(5, .s (.own 84 Y70))], boxes := [], rows := [] })]
def l_bw_8 (rec : i_bw_8.den → Option (denO o_bw_8)) (u : i_bw_8.den) : Option (denO o_bw_8) :=
 if (ltI u.1.2.2.2.2.1 u.1.2.2.2.1) then
  if 0 ≤ u.1.2.2.2.2.1 then
   ((u.1.2.2.1)[(u.1.2.2.2.2.1).toNat]?).bind fun y18 =>
   if (y18.1 == u.1.1) then
    if 0 ≤ y18.2.2.2.1 ∧ y18.2.2.2.1 < ((u.1.2.1.length : Nat) : Int) then
     ((u.1.2.1)[(y18.2.2.2.1).toNat]?).bind fun y19 =>
     let v20 := (u.1.2.1.set (y18.2.2.2.1).toNat (y18.2.2.1, ((3 : Int), ())))
     if (y18.2.1 == u.1.1) then
      if 0 ≤ y18.2.2.2.2.1 ∧ y18.2.2.2.2.1 < ((v20.length : Nat) : Int) then
       ((v20)[(y18.2.2.2.2.1).toNat]?).bind fun y21 =>
       let v22 := (v20.set (y18.2.2.2.2.1).toNat (y18.2.2.1, ((1 : Int), ())))
       let v23 := (IntKind.i64.wrap (u.1.2.2.2.2.1 + (1 : Int)))
       rec ((u.1.1, (v22, (u.1.2.2.1, (u.1.2.2.2.1, (v23, ()))))), ((), ()))
      else none
     else
      let v24 := (IntKind.i64.wrap (u.1.2.2.2.2.1 + (1 : Int)))
      rec ((u.1.1, (v20, (u.1.2.2.1, (u.1.2.2.2.1, (v24, ()))))), ((), ()))
    else none
   else
    if (y18.2.1 == u.1.1) then
     if 0 ≤ y18.2.2.2.2.1 ∧ y18.2.2.2.2.1 < ((u.1.2.1.length : Nat) : Int) then
      ((u.1.2.1)[(y18.2.2.2.2.1).toNat]?).bind fun y25 =>
      let v26 := (u.1.2.1.set (y18.2.2.2.2.1).toNat (y18.2.2.1, ((1 : Int), ())))
      let v27 := (IntKind.i64.wrap (u.1.2.2.2.2.1 + (1 : Int)))
      rec ((u.1.1, (v26, (u.1.2.2.1, (u.1.2.2.2.1, (v27, ()))))), ((), ()))
     else none
    else
     let v28 := (IntKind.i64.wrap (u.1.2.2.2.2.1 + (1 : Int)))
     rec ((u.1.1, (u.1.2.1, (u.1.2.2.1, (u.1.2.2.2.1, (v28, ()))))), ((), ()))
  else none
 else
  some (.inl ((u.1.2.1, ()), ((), ())))
def L_bw_8 (x : i_bw_8.den) : Option (denO o_bw_8) := Qc l_bw_8 lots x
abbrev i_bw_3 : Shp := { slots := [(0, .s (.pd Y28)), (1, .s (.dat YI)), (5, .s (.own 84 Y70)), (19, .s (.dat Y32)), (20, .s (.dat YI)), (21, .s (.dat YI))], boxes := [], rows := [] }
abbrev o_bw_3 : List (Ex × Shp) := [(.exit 0, { slots := [(0, .s (.pd Y28)), (1, .s (.dat YI)), (5, .s (.own 84 Y70))], boxes := [], rows := [] })]
def l_bw_3 (rec : i_bw_3.den → Option (denO o_bw_3)) (u : i_bw_3.den) : Option (denO o_bw_3) :=
 if (ltI u.1.2.2.2.2.2.1 u.1.2.2.2.2.1) then
  if 0 ≤ u.1.2.2.2.2.2.1 then
   ((u.1.2.2.2.1)[(u.1.2.2.2.2.2.1).toNat]?).bind fun y7 =>
   if 0 ≤ u.1.2.2.2.2.2.1 ∧ u.1.2.2.2.2.2.1 < ((u.1.2.2.1.length : Nat) : Int) then
    ((u.1.2.2.1)[(u.1.2.2.2.2.2.1).toNat]?).bind fun y8 =>
    let v9 := (u.1.2.2.1.set (u.1.2.2.2.2.2.1).toNat (y7, ((7 : Int), ())))
    let v10 := (IntKind.i64.wrap (u.1.2.2.2.2.2.1 + (1 : Int)))
    rec ((u.1.1, (u.1.2.1, (v9, (u.1.2.2.2.1, (u.1.2.2.2.2.1, (v10, ())))))), ((), ()))
   else none
  else none
 else
  some (.inl ((u.1.1, (u.1.2.1, (u.1.2.2.1, ()))), ((), ())))
def L_bw_3 (x : i_bw_3.den) : Option (denO o_bw_3) := Qc l_bw_3 lots x
def F_bw (x : denP P_h) : FO P_h R_bv :=
 (F_bs ()).bind fun r1 =>
 (F_bv ([r1.1.1], (8 : Int), ())).bind fun r2 =>
 if 0 ≤ x.2.1 then
  ((x.1.1)[(x.2.1).toNat]?).bind fun y3 =>
  let v4 := ((y3.length : Nat) : Int)
  (L_bw_3 ((x.1, (x.2.1, (r2.1.1, (y3, (v4, ((0 : Int), ())))))), ((), ()))).bind fun z11 =>
  match z11 with
  | .inl x12 =>
   let v13 := ((x12.1.1.2.1.length : Nat) : Int)
   (L_bw_8 ((x12.1.2.1, (x12.1.2.2.1, (x12.1.1.2.1, (v13, ((0 : Int), ()))))), ((), ()))).bind fun z29 =>
   match z29 with
   | .inl x30 =>
    some ((x30.1.1, ()), ())
   | .inr z29_ =>
    none
  | .inr z11_ =>
   none
 else none
abbrev C_bw : Con := ⟨P_h, R_bv, F_bw, false⟩
abbrev G_bw : Env := [(72, C_bv), (73, C_bs)]
theorem g_bw : Qi Tryz.prog G_bw := (Qa s_bv (Qa s_bs Qd))
abbrev c_bw_8 : Cut := ⟨i_bw_8, o_bw_8, fun x => Qc l_bw_8 lots x⟩
theorem k_bw_8 : QD Tryz.prog 65 (.loop (nav Tryz.f34 [1, 1, 1, 0, 1, 0, 0])) c_bw_8 :=
  Qk (L := []) hT g_bw (fun _ _ => by kernel_rfl) okP _
abbrev c_bw_3 : Cut := ⟨i_bw_3, o_bw_3, fun x => Qc l_bw_3 lots x⟩
theorem k_bw_3 : QD Tryz.prog 65 (.loop (nav Tryz.f34 [1, 1, 0, 1, 0, 0])) c_bw_3 :=
  Qk (L := []) hT g_bw (fun _ _ => by kernel_rfl) okP _
theorem r_bw (x) : QS T G_bw [(8, c_bw_8), (3, c_bw_3)] Tryz.f34 C_bw.ps C_bw.rs x = C_bw.F x := by kernel_rfl
theorem s_bw : Qb Tryz.prog 34 C_bw := fnC (L := [(8, c_bw_8), (3, c_bw_3)]) hT g_bw Tryz.f34 (okS okP (okS okP (okS (okS okP (okB (okU k_bw_3))) (okS (okS okP (okB (okU k_bw_8))) okP)))) r_bw
abbrev P_bx : List PK := [.ptr Y46]
def F_bx (x : denP P_bx) : FO P_bx R_c :=
 ((x.1.2.2.1)[((9 : Int)).toNat]?).bind fun y1 =>
 if (y1 != (0 : Int)) = true then
  ((x.1.2.2.1)[((9 : Int)).toNat]?).bind fun y2 =>
  if (leI y2 x.1.2.2.2.2.2.2.1) then
   let v3 := (ior .i64 (0 : Int) (1 : Int))
   if x.1.2.2.2.2.2.1 then
    let v4 := (ior .i64 v3 (2 : Int))
    let v5 := ((x.1.2.2.2.2.2.2.2.1.length : Nat) : Int)
    if (ltI (0 : Int) v5) then
     let v6 := (ior .i64 v4 (4 : Int))
     some ((v6, ()), ())
    else
     some ((v4, ()), ())
   else
    let v7 := ((x.1.2.2.2.2.2.2.2.1.length : Nat) : Int)
    if (ltI (0 : Int) v7) then
     let v8 := (ior .i64 v3 (4 : Int))
     some ((v8, ()), ())
    else
     some ((v3, ()), ())
  else
   if x.1.2.2.2.2.2.1 then
    let v9 := (ior .i64 (0 : Int) (2 : Int))
    let v10 := ((x.1.2.2.2.2.2.2.2.1.length : Nat) : Int)
    if (ltI (0 : Int) v10) then
     let v11 := (ior .i64 v9 (4 : Int))
     some ((v11, ()), ())
    else
     some ((v9, ()), ())
   else
    let v12 := ((x.1.2.2.2.2.2.2.2.1.length : Nat) : Int)
    if (ltI (0 : Int) v12) then
     let v13 := (ior .i64 (0 : Int) (4 : Int))
     some ((v13, ()), ())
    else
     some (((0 : Int), ()), ())
 else
  if x.1.2.2.2.2.2.1 then
   let v14 := (ior .i64 (0 : Int) (2 : Int))
   let v15 := ((x.1.2.2.2.2.2.2.2.1.length : Nat) : Int)
   if (ltI (0 : Int) v15) then
    let v16 := (ior .i64 v14 (4 : Int))
    some ((v16, ()), ())
   else
    some ((v14, ()), ())
  else
   let v17 := ((x.1.2.2.2.2.2.2.2.1.length : Nat) : Int)
   if (ltI (0 : Int) v17) then
    let v18 := (ior .i64 (0 : Int) (4 : Int))
    some ((v18, ()), ())
   else
    some (((0 : Int), ()), ())
abbrev C_bx : Con := ⟨P_bx, R_c, F_bx, false⟩
theorem s_bx : Qb Tryz.prog 119 C_bx := fnC (L := []) hT g_a Tryz.f119 okP fun _ => by kernel_rfl
abbrev P_by : List PK := [.val (.int .u64)]
def tzF (n : Int) : Option Int := if n = 1 ∨ n = 3 ∨ n = 5 ∨ n = 7 then some 0 else if n = 2 ∨ n = 6 then some 1 else if n = 4 then some 2 else none
def F_by (x : denP P_by) : FO P_by R_c := match tzF x.1 with | some z => some ((z, ()), ()) | none => none
abbrev C_by : Con := ⟨P_by, R_c, F_by, false⟩
theorem w_by (n : Int) (k : Nat) (z : Int) (hn : (n == 0) = false) (w : World) (hr : 0 ≤ IntKind.u64.wrap (bits BinOp.and IntKind.u64 n (IntKind.u64.wrap (-n)) * 285870213051353865) / 288230376151711744 ∧ IntKind.u64.wrap (bits BinOp.and IntKind.u64 n (IntKind.u64.wrap (-n)) * 285870213051353865) / 288230376151711744 < 64)
    (he : (IntKind.u64.wrap (bits BinOp.and IntKind.u64 n (IntKind.u64.wrap (-n)) * 285870213051353865) / 288230376151711744).toNat = k)
    (h : w.cell? { block := 0, off := k } = some (.int .u8 z)) (hz : IntKind.i64.wrap z = z) : Calls Tryz.prog 144 #[.int .u64 n] w fun e' w' => e' = .returned (.int .i64 z) ∧ w' = w := by
  go_enter Tryz.func144, Tryz.ntmps144
  go_wp2
  all_goals first | (go_ret; exact ⟨rfl, rfl⟩) | exact absurd hr ‹¬ _› | simp_all
theorem v_by {n z : Int} (h : tzF n = some z) {M : Nat → Nat → Prop} {w : World} (hl : Laid M w) : Calls Tryz.prog 144 #[.int .u64 n] w fun e' w' => e' = .returned (.int .i64 z) ∧ w' = w := by
  have hg : ∀ i v, (0, i, v) ∈ GL → w.cell? { block := 0, off := i } = some v := by
    intro i v hm
    obtain ⟨⟨c, e, fz, h1, h2⟩, _⟩ := hl _ hm
    simp only at h1 h2
    simp [World.cell?, h1, h2]
  have g0 := hg 0 (.int .u8 0) (by simp [GL])
  have g1 := hg 1 (.int .u8 1) (by simp [GL])
  have g3 := hg 3 (.int .u8 2) (by simp [GL])
  have key : ((n = 1 ∨ n = 3 ∨ n = 5 ∨ n = 7) ∧ z = 0) ∨ ((n = 2 ∨ n = 6) ∧ z = 1) ∨ (n = 4 ∧ z = 2) := by
    unfold tzF at h
    split at h
    · exact .inl ⟨‹_›, (Osj h).symm⟩
    · split at h
      · exact .inr (.inl ⟨‹_›, (Osj h).symm⟩)
      · split at h
        · exact .inr (.inr ⟨‹_›, (Osj h).symm⟩)
        · cases h
  clear h
  rcases key with ⟨h | h | h | h, rfl⟩ | ⟨h | h, rfl⟩ | ⟨h, rfl⟩ <;> subst h
  all_goals first
    | exact w_by _ 0 _ (by decide) w (by decide +kernel) (by decide +kernel) g0 (by decide +kernel)
    | exact w_by _ 1 _ (by decide) w (by decide +kernel) (by decide +kernel) g1 (by decide +kernel)
    | exact w_by _ 3 _ (by decide) w (by decide +kernel) (by decide +kernel) g3 (by decide +kernel)
theorem u_by : Qfd Tryz.prog 144 C_by := by
  intro x y hx w args S Q B M F hp ha _
  obtain ⟨v, vs', rfl, ⟨cs, h1, h2⟩, rfl, rfl⟩ := ha
  have e1 : v = .int .u64 x.1 := by
    have h1 : cs = [v] := h1
    subst h1
    simpa [Rp] using h2
  subst e1
  have hx : F_by x = some y := hx
  unfold F_by at hx
  split at hx
  · rename_i z hz
    obtain rfl := Osj hx
    refine (v_by hz hp.laid).mono fun r w' h => ?_
    obtain ⟨rfl, rfl⟩ := h
    refine ⟨_, rfl, Kept.refl M w', [.int .i64 z], [], [], rfl, ⟨_, [], [], [], rfl, rfl, ⟨⟨[.int .i64 z], rfl, rfl⟩, rfl⟩, rfl, rfl⟩, ⟨_, [], rfl, rfl, rfl⟩, List.nodup_nil, fun b hb => by cases hb⟩
  · cases hx
theorem s_by : Qb Tryz.prog 144 C_by := (u_by).ok (QfP Tryz.func144 (by decide +kernel) (by kernel_rfl))
def F_bz (x : denP P_bx) : FO P_bx R_c :=
 (F_bx (x.1, ())).bind fun r1 =>
 ((x.1.2.2.1)[((7 : Int)).toNat]?).bind fun y2 =>
 let v3 := (iand .i64 r1.1.1 y2)
 ((x.1.2.2.1)[((0 : Int)).toNat]?).bind fun y4 =>
 let v5 := ((y4).tmod (2 : Int))
 if (v5 == (0 : Int)) = false then
  if (v3 == (0 : Int)) then
   some (((-1 : Int), ()), ())
  else
   let v6 := (IntKind.u64.wrap v3)
   (F_by (v6, ())).bind fun r7 =>
   some ((r7.1.1, ()), ())
 else
  some (((-1 : Int), ()), ())
abbrev C_bz : Con := ⟨P_bx, R_c, F_bz, false⟩
abbrev G_bz : Env := [(119, C_bx), (144, C_by)]
theorem g_bz : Qi Tryz.prog G_bz := (Qa s_bx (Qa s_by Qd))
theorem s_bz : Qb Tryz.prog 117 C_bz := fnC (L := []) hT g_bz Tryz.f117 okP fun _ => by kernel_rfl
abbrev P_ca : List PK := [.box [.own 2 YI, .dat YI, .own 2 YI, .dat .bool, .dat .bool, .dat .bool, .dat YI, .own 2 YI, .own 2 YI] [.own 2 YI, .dat YI, .own 2 YI, .dat .bool, .dat .bool, .dat .bool, .dat YI, .own 2 YI, .own 2 YI], .val YI, .val YI]
abbrev R_ca : List VK := []
def F_ca (x : denP P_ca) : FO P_ca R_ca :=
 if 0 ≤ (2 : Int) ∧ (2 : Int) < ((x.1.2.2.1.length : Nat) : Int) then
  ((x.1.2.2.1)[((2 : Int)).toNat]?).bind fun y1 =>
  let v2 := (x.1.2.2.1.set ((2 : Int)).toNat x.1.2.1)
  if 0 ≤ (3 : Int) ∧ (3 : Int) < ((v2.length : Nat) : Int) then
   ((v2)[((3 : Int)).toNat]?).bind fun y3 =>
   let v4 := (v2.set ((3 : Int)).toNat x.2.1)
   if 0 ≤ (4 : Int) ∧ (4 : Int) < ((v4.length : Nat) : Int) then
    ((v4)[((4 : Int)).toNat]?).bind fun y5 =>
    let v6 := (v4.set ((4 : Int)).toNat x.2.2.1)
    if 0 ≤ (0 : Int) ∧ (0 : Int) < ((v6.length : Nat) : Int) then
     ((v6)[((0 : Int)).toNat]?).bind fun y7 =>
     let v8 := ((y7).tmod (2 : Int))
     let v9 := (IntKind.i64.wrap (v8 * (2 : Int)))
     if 0 ≤ (0 : Int) ∧ (0 : Int) < ((v6.length : Nat) : Int) then
      ((v6)[((0 : Int)).toNat]?).bind fun y10 =>
      let v11 := (v6.set ((0 : Int)).toNat v9)
      if 0 ≤ (1 : Int) ∧ (1 : Int) < ((v11.length : Nat) : Int) then
       ((v11)[((1 : Int)).toNat]?).bind fun y12 =>
       some ((), ((x.1.1, (y12, (v11, (x.1.2.2.2.1, (false, (x.1.2.2.2.2.2.1, (x.1.2.2.2.2.2.2.1, (x.1.2.2.2.2.2.2.2.1, (x.1.2.2.2.2.2.2.2.2.1, ()))))))))), ()))
      else none
     else none
    else none
   else none
  else none
 else none
abbrev C_ca : Con := ⟨P_ca, R_ca, F_ca, false⟩
theorem s_ca : Qb Tryz.prog 145 C_ca := fnC (L := []) hT g_a Tryz.f145 okP fun _ => by kernel_rfl
abbrev P_cb : List PK := [.box [.own 2 YI, .dat YI, .own 2 YI, .dat .bool, .dat .bool, .dat .bool, .dat YI, .own 2 YI, .own 2 YI, .dat Y26, .own 2 YI, .dat YI, .dat YI] [.own 2 YI, .dat YI, .own 2 YI, .dat .bool, .dat .bool, .dat .bool, .dat YI, .own 2 YI, .own 2 YI, .dat Y26, .own 2 YI, .dat YI, .dat YI], .val YI, .val YI]
def F_cb (x : denP P_cb) : FO P_cb R_ca :=
 (F_ca ((x.1.1, (x.1.2.1, (x.1.2.2.1, (x.1.2.2.2.1, (x.1.2.2.2.2.1, (x.1.2.2.2.2.2.1, (x.1.2.2.2.2.2.2.1, (x.1.2.2.2.2.2.2.2.1, (x.1.2.2.2.2.2.2.2.2.1, ()))))))))), x.2.1, x.2.2.1, ())).bind fun r1 =>
 some ((), ((r1.2.1.1, (r1.2.1.2.1, (r1.2.1.2.2.1, (r1.2.1.2.2.2.1, (r1.2.1.2.2.2.2.1, (r1.2.1.2.2.2.2.2.1, (r1.2.1.2.2.2.2.2.2.1, (r1.2.1.2.2.2.2.2.2.2.1, (r1.2.1.2.2.2.2.2.2.2.2.1, (x.1.2.2.2.2.2.2.2.2.2.1, (x.1.2.2.2.2.2.2.2.2.2.2.1, (x.2.1, (x.1.2.2.2.2.2.2.2.2.2.2.2.2.1, ()))))))))))))), ()))
abbrev C_cb : Con := ⟨P_cb, R_ca, F_cb, false⟩
abbrev G_cb : Env := [(145, C_ca)]
theorem g_cb : Qi Tryz.prog G_cb := (Qa s_ca Qd)
theorem s_cb : Qb Tryz.prog 118 C_cb := fnC (L := []) hT g_cb Tryz.f118 okP fun _ => by kernel_rfl
def F_cc (x : denP P_f) : FO P_f R_v :=
 let v1 := (IntKind.i64.wrap (x.2.1 * (8 : Int)))
 let v2 := (IntKind.i64.wrap (x.2.1 + (1 : Int)))
 let v3 := (IntKind.i64.wrap (v2 * (8 : Int)))
 if 0 ≤ v1 ∧ v1 ≤ v3 ∧ v3 ≤ ((x.1.length : Nat) : Int) then
  let v4 := ((x.1.drop (v1).toNat).take ((v3).toNat - (v1).toNat))
  (F_av (v4, ())).bind fun r5 =>
  some ((r5.1.1, ()), ())
 else none
abbrev C_cc : Con := ⟨P_f, R_v, F_cc, false⟩
theorem g_cc : Qi Tryz.prog G_bp := (Qa s_av Qd)
theorem s_cc : Qb Tryz.prog 32 C_cc := fnC (L := []) hT g_cc Tryz.f32 okP fun _ => by kernel_rfl
def F_cd (x : denP P_o) : FO P_o R_s :=
 let v1 := (IntKind.i64.wrap ((x.1).tdiv (8 : Int)))
 let v2 := ((x.1).tmod (8 : Int))
 if (v2 == (0 : Int)) = false then
  if (leI (8 : Int) v1) then
   (F_bs ()).bind fun r3 =>
   some ((r3.1.1, ()), ())
  else
   some (((v1, (v2, ())), ()), ())
 else
  (F_bs ()).bind fun r4 =>
  some ((r4.1.1, ()), ())
abbrev C_cd : Con := ⟨P_o, R_s, F_cd, false⟩
abbrev G_cd : Env := [(73, C_bs)]
theorem g_cd : Qi Tryz.prog G_cd := (Qa s_bs Qd)
theorem s_cd : Qb Tryz.prog 177 C_cd := fnC (L := []) hT g_cd Tryz.f177 okP fun _ => by kernel_rfl
abbrev R_ce : List VK := [.g [.dat YI, .own 84 Y70]]
abbrev i_ce_7 : Shp := { slots := [(2, .s (.ptr 2 0)), (3, .s (.own 84 Y70)), (15, .s (.dat Y32)), (16, .s (.dat YI)), (17, .s (.dat YI))], boxes := [(2, [.dat YI, .own 84 Y70])], rows := [] }
abbrev o_ce_7 : List (Ex × Shp) := [(.exit 0, { slots := [(2, .s (.ptr 2 0)), (3, .s (.own 84 Y70))], boxes := [(2, [.dat YI, .own 84 Y70])], rows := [] })]
def l_ce_7 (rec : i_ce_7.den → Option (denO o_ce_7)) (u : i_ce_7.den) : Option (denO o_ce_7) :=
 if (ltI u.1.2.2.2.2.1 u.1.2.2.2.1) then
  if 0 ≤ u.1.2.2.2.2.1 then
   ((u.1.2.2.1)[(u.1.2.2.2.2.1).toNat]?).bind fun y6 =>
   (F_cd (y6, ())).bind fun r7 =>
   if (u.1.2.1.length + [r7.1.1].length) * 16 ≤ 140737488355328 then
    let v8 := (u.1.2.1 ++ [r7.1.1])
    let v9 := (IntKind.i64.wrap (u.1.2.2.2.2.1 + (1 : Int)))
    rec (((), (v8, (u.1.2.2.1, (u.1.2.2.2.1, (v9, ()))))), ((u.2.1.1, ()), ()))
   else none
  else none
 else
  some (.inl (((), (u.1.2.1, ())), ((u.2.1.1, ()), ())))
def L_ce_7 (x : i_ce_7.den) : Option (denO o_ce_7) := Qc l_ce_7 lots x
def F_ce (x : denP P_av) : FO P_av R_ce :=
 let v1 := ((x.1.length : Nat) : Int)
 if (v1 != (8 : Int)) then
  some ((((1 : Int), (([] : List (den Y70)), ())), ()), ())
 else
  (F_bb (x.1, ())).bind fun r2 =>
  if (!r2.1.1) then
   some ((((3 : Int), (([] : List (den Y70)), ())), ()), ())
  else
   let v3 := ((x.1.length : Nat) : Int)
   (L_ce_7 (((), (([] : List (den Y70)), (x.1, (v3, ((0 : Int), ()))))), ((((0 : Int), (([] : List (den Y70)), ())), ()), ()))).bind fun z10 =>
   match z10 with
   | .inl x11 =>
    some ((((0 : Int), (x11.1.2.1, ())), ()), ())
   | .inr z10_ =>
    none
abbrev C_ce : Con := ⟨P_av, R_ce, F_ce, false⟩
abbrev G_ce : Env := [(61, C_bb), (177, C_cd)]
theorem g_ce : Qi Tryz.prog G_ce := (Qa s_bb (Qa s_cd Qd))
abbrev c_ce_7 : Cut := ⟨i_ce_7, o_ce_7, fun x => Qc l_ce_7 lots x⟩
theorem k_ce_7 : QD Tryz.prog 29 (.loop (nav Tryz.f166 [1, 1, 1, 1, 0, 1, 0, 0])) c_ce_7 :=
  Qk (L := []) hT g_ce (fun _ _ => by kernel_rfl) okP _
theorem r_ce (x) : QS T G_ce [(7, c_ce_7)] Tryz.f166 C_ce.ps C_ce.rs x = C_ce.F x := by kernel_rfl
theorem s_ce : Qb Tryz.prog 166 C_ce := fnC (L := [(7, c_ce_7)]) hT g_ce Tryz.f166 (okS okP (okS okP (okS okP (okS okP (okS (okS okP (okB (okU k_ce_7))) okP))))) r_ce
abbrev P_cf : List PK := [.ptr Y46, .val Y26, .val Y32]
abbrev i_cf_5 : Shp := { slots := [(6, .s (.ptr 6 0)), (8, .s (.own 84 Y70)), (20, .s (.dat YI))], boxes := [(6, [.dat YI, .own 84 Y70])], rows := [] }
abbrev o_cf_5 : List (Ex × Shp) := [(.exit 0, { slots := [(6, .s (.ptr 6 0)), (8, .s (.own 84 Y70))], boxes := [(6, [.dat YI, .own 84 Y70])], rows := [] })]
def l_cf_5 (rec : i_cf_5.den → Option (denO o_cf_5)) (u : i_cf_5.den) : Option (denO o_cf_5) :=
 if (ltI u.1.2.2.1 (8 : Int)) then
  if (u.1.2.1.length + [(u.1.2.2.1, ((7 : Int), ()))].length) * 16 ≤ 140737488355328 then
   let v3 := (u.1.2.1 ++ [(u.1.2.2.1, ((7 : Int), ()))])
   let v4 := (IntKind.i64.wrap (u.1.2.2.1 + (1 : Int)))
   rec (((), (v3, (v4, ()))), ((u.2.1.1, ()), ()))
  else none
 else
  some (.inl (((), (u.1.2.1, ())), ((u.2.1.1, ()), ())))
def L_cf_5 (x : i_cf_5.den) : Option (denO o_cf_5) := Qc l_cf_5 lots x
def F_cf (x : denP P_cf) : FO P_cf R_ce :=
 ((x.1.2.2.1)[((10 : Int)).toNat]?).bind fun y1 =>
 let v2 := (IntKind.i64.wrap (y1 - (1 : Int)))
 if (ltI v2 (0 : Int)) then
  (L_cf_5 (((), (([] : List (den Y70)), ((0 : Int), ()))), ((((0 : Int), (([] : List (den Y70)), ())), ()), ()))).bind fun z5 =>
  match z5 with
  | .inl x6 =>
   some ((((0 : Int), (x6.1.2.1, ())), ()), ())
  | .inr z5_ =>
   none
 else
  if 0 ≤ v2 then
   ((x.2.1)[(v2).toNat]?).bind fun y7 =>
   if (ltI y7.1 (0 : Int)) = false then
    if 0 ≤ v2 then
     ((x.2.1)[(v2).toNat]?).bind fun y8 =>
     let v9 := (iand .i64 y8.2.1 (1 : Int))
     if (v9 == (0 : Int)) = false then
      if (v2 == (7 : Int)) then
       some ((((7 : Int), (([] : List (den Y70)), ())), ()), ())
      else
       if 0 ≤ v2 then
        ((x.2.1)[(v2).toNat]?).bind fun y10 =>
        (F_cc (x.2.2.1, y10.1, ())).bind fun r11 =>
        (F_ce (r11.1.1, ())).bind fun r12 =>
        some ((r12.1.1, ()), ())
       else none
     else
      some ((((7 : Int), (([] : List (den Y70)), ())), ()), ())
    else none
   else
    some ((((7 : Int), (([] : List (den Y70)), ())), ()), ())
  else none
abbrev C_cf : Con := ⟨P_cf, R_ce, F_cf, false⟩
abbrev G_cf : Env := [(32, C_cc), (166, C_ce)]
theorem g_cf : Qi Tryz.prog G_cf := (Qa s_cc (Qa s_ce Qd))
abbrev c_cf_5 : Cut := ⟨i_cf_5, o_cf_5, fun x => Qc l_cf_5 lots x⟩
theorem k_cf_5 : QD Tryz.prog 59 (.loop (nav Tryz.f146 [1, 1, 0, 1, 0, 1, 0, 1, 0, 0])) c_cf_5 :=
  Qk (L := []) hT g_cf (fun _ _ => by kernel_rfl) okP _
theorem r_cf (x) : QS T G_cf [(5, c_cf_5)] Tryz.f146 C_cf.ps C_cf.rs x = C_cf.F x := by kernel_rfl
theorem s_cf : Qb Tryz.prog 146 C_cf := fnC (L := [(5, c_cf_5)]) hT g_cf Tryz.f146 (okS okP (okS okP (okS (okS okP (okI (okS okP (okS (okS okP (okB (okU k_cf_5))) okP)) okP)) okP))) r_cf
def F_cg (x : denP P_o) : FO P_o R_a :=
 (F_z (x.1, (0 : Int), (63 : Int), ())).bind fun r1 =>
 some ((r1.1.1, ()), ())
abbrev C_cg : Con := ⟨P_o, R_a, F_cg, false⟩
theorem g_cg : Qi Tryz.prog G_aa := (Qa s_z Qd)
theorem s_cg : Qb Tryz.prog 167 C_cg := fnC (L := []) hT g_cg Tryz.f167 okP fun _ => by kernel_rfl
def F_ch (x : denP P_o) : FO P_o R_c :=
 if (x.1 == (1 : Int)) then
  some (((7 : Int), ()), ())
 else
  if (x.1 == (2 : Int)) then
   some (((8 : Int), ()), ())
  else
   if (x.1 == (4 : Int)) then
    some (((9 : Int), ()), ())
   else
    some (((0 : Int), ()), ())
abbrev C_ch : Con := ⟨P_o, R_c, F_ch, false⟩
theorem s_ch : Qb Tryz.prog 168 C_ch := fnC (L := []) hT g_a Tryz.f168 okP fun _ => by kernel_rfl
abbrev P_ci : List PK := [.val Y26, .val YI, .val YI]
def F_ci (x : denP P_ci) : FO P_ci R_s :=
 (F_cg (x.2.1, ())).bind fun r1 =>
 if (!r1.1.1) = false then
  let v2 := (IntKind.i64.wrap ((x.2.1).tdiv (8 : Int)))
  if 0 ≤ v2 then
   ((x.1)[(v2).toNat]?).bind fun y3 =>
   if (ltI y3.1 (0 : Int)) = false then
    let v4 := (IntKind.i64.wrap ((x.2.1).tdiv (8 : Int)))
    if 0 ≤ v4 then
     ((x.1)[(v4).toNat]?).bind fun y5 =>
     let v6 := (iand .i64 y5.2.1 x.2.2.1)
     if (v6 == (0 : Int)) then
      (F_ch (x.2.2.1, ())).bind fun r7 =>
      some (((r7.1.1, ((0 : Int), ())), ()), ())
     else
      let v8 := (IntKind.i64.wrap ((x.2.1).tdiv (8 : Int)))
      if 0 ≤ v8 then
       ((x.1)[(v8).toNat]?).bind fun y9 =>
       let v10 := (IntKind.i64.wrap (y9.1 * (8 : Int)))
       let v11 := ((x.2.1).tmod (8 : Int))
       let v12 := (IntKind.i64.wrap (v10 + v11))
       some ((((0 : Int), (v12, ())), ()), ())
      else none
    else none
   else
    (F_ch (x.2.2.1, ())).bind fun r13 =>
    some (((r13.1.1, ((0 : Int), ())), ()), ())
  else none
 else
  (F_ch (x.2.2.1, ())).bind fun r14 =>
  some (((r14.1.1, ((0 : Int), ())), ()), ())
abbrev C_ci : Con := ⟨P_ci, R_s, F_ci, false⟩
abbrev G_ci : Env := [(167, C_cg), (168, C_ch)]
theorem g_ci : Qi Tryz.prog G_ci := (Qa s_cg (Qa s_ch Qd))
theorem s_ci : Qb Tryz.prog 147 C_ci := fnC (L := []) hT g_ci Tryz.f147 okP fun _ => by kernel_rfl
abbrev P_cj : List PK := [.ptr Y46, .val Y26, .val Y32, .val YI, .val YI]
def F_cj (x : denP P_cj) : FO P_cj R_s :=
 (F_cf (x.1, x.2.1, x.2.2.1, ())).bind fun r1 =>
 if (r1.1.1.1 != (0 : Int)) then
  some (((r1.1.1.1, ((0 : Int), ())), ()), ())
 else
  (F_ci (r1.1.1.2.1, x.2.2.2.1, x.2.2.2.2.1, ())).bind fun r2 =>
  if (r2.1.1.1 != (0 : Int)) then
   some ((r2.1.1, ()), ())
  else
   let v3 := (IntKind.i64.wrap ((r2.1.1.2.1).tdiv (8 : Int)))
   if (v3 != (7 : Int)) then
    (F_ci (x.2.1, r2.1.1.2.1, x.2.2.2.2.1, ())).bind fun r4 =>
    some ((r4.1.1, ()), ())
   else
    if (x.2.2.2.2.1 == (4 : Int)) then
     some ((((9 : Int), ((0 : Int), ())), ()), ())
    else
     let v5 := ((r2.1.1.2.1).tmod (8 : Int))
     let v6 := (IntKind.i64.wrap ((1000 : Int) + v5))
     some ((((0 : Int), (v6, ())), ()), ())
abbrev C_cj : Con := ⟨P_cj, R_s, F_cj, false⟩
abbrev G_cj : Env := [(146, C_cf), (147, C_ci)]
theorem g_cj : Qi Tryz.prog G_cj := (Qa s_cf (Qa s_ci Qd))
theorem s_cj : Qb Tryz.prog 120 C_cj := fnC (L := []) hT g_cj Tryz.f120 okP fun _ => by kernel_rfl
def F_ck (x : denP P_r) : FO P_r R_c :=
 (F_z (x.1.1, (1 : Int), (26 : Int), ())).bind fun r1 =>
 if (!r1.1.1) = false then
  (F_z (x.1.2.1, (0 : Int), (15 : Int), ())).bind fun r2 =>
  if (!r2.1.1) = false then
   (F_z (x.1.2.2.1, (0 : Int), (15 : Int), ())).bind fun r3 =>
   if (!r3.1.1) = false then
    (F_z (x.1.2.2.2.1, (0 : Int), (65535 : Int), ())).bind fun r4 =>
    if (!r4.1.1) then
     some (((3 : Int), ()), ())
    else
     if (leI x.1.1 (11 : Int)) then
      if (ltI (15 : Int) x.1.2.2.2.1) then
       some (((1 : Int), ()), ())
      else
       some (((0 : Int), ()), ())
     else
      if (x.1.1 == (13 : Int)) then
       if (x.1.2.2.1 != (0 : Int)) then
        some (((1 : Int), ()), ())
       else
        some (((0 : Int), ()), ())
      else
       if (x.1.1 == (19 : Int)) then
        if (x.1.2.2.1 != (0 : Int)) then
         some (((1 : Int), ()), ())
        else
         some (((0 : Int), ()), ())
       else
        if (x.1.1 == (21 : Int)) then
         if (ltI (10 : Int) x.1.2.2.2.1) = false then
          if (x.1.2.2.1 != (0 : Int)) then
           some (((1 : Int), ()), ())
          else
           some (((0 : Int), ()), ())
         else
          some (((1 : Int), ()), ())
        else
         if (x.1.1 == (22 : Int)) then
          if (ltI (10 : Int) x.1.2.2.2.1) = false then
           if (x.1.2.1 != (0 : Int)) then
            some (((1 : Int), ()), ())
           else
            some (((0 : Int), ()), ())
          else
           some (((1 : Int), ()), ())
         else
          if (leI (23 : Int) x.1.1) then
           if (x.1.2.1 != (0 : Int)) = false then
            if (x.1.2.2.1 != (0 : Int)) = false then
             if (x.1.2.2.2.1 != (0 : Int)) then
              some (((1 : Int), ()), ())
             else
              some (((0 : Int), ()), ())
            else
             some (((1 : Int), ()), ())
           else
            some (((1 : Int), ()), ())
          else
           some (((0 : Int), ()), ())
   else
    some (((3 : Int), ()), ())
  else
   some (((3 : Int), ()), ())
 else
  some (((3 : Int), ()), ())
abbrev C_ck : Con := ⟨P_r, R_c, F_ck, false⟩
theorem g_ck : Qi Tryz.prog G_aa := (Qa s_z Qd)
theorem s_ck : Qb Tryz.prog 148 C_ck := fnC (L := []) hT g_ck Tryz.f148 okP fun _ => by kernel_rfl
abbrev R_cl : List VK := [.s (.dat Y174)]
def F_cl (x : denP P_o) : FO P_o R_cl :=
 let v1 := ((x.1).fdiv (2 ^ 24))
 let v2 := ((x.1).fdiv (2 ^ 20))
 let v3 := (iand .i64 v2 (15 : Int))
 let v4 := ((x.1).fdiv (2 ^ 16))
 let v5 := (iand .i64 v4 (15 : Int))
 let v6 := (iand .i64 x.1 (65535 : Int))
 (F_ck ((v1, (v3, (v5, (v6, ())))), ())).bind fun r7 =>
 if (r7.1.1 != (0 : Int)) then
  some ((((5 : Int), (((0 : Int), ((0 : Int), ((0 : Int), ((0 : Int), ())))), ())), ()), ())
 else
  some ((((0 : Int), ((v1, (v3, (v5, (v6, ())))), ())), ()), ())
abbrev C_cl : Con := ⟨P_o, R_cl, F_cl, false⟩
abbrev G_cl : Env := [(148, C_ck)]
theorem g_cl : Qi Tryz.prog G_cl := (Qa s_ck Qd)
theorem s_cl : Qb Tryz.prog 121 C_cl := fnC (L := []) hT g_cl Tryz.f121 okP fun _ => by kernel_rfl
abbrev P_cm : List PK := [.val YI, .val YI]
def F_cm (x : denP P_cm) : FO P_cm R_c :=
 (F_as (x.1, ())).bind fun r1 =>
 (F_as (x.2.1, ())).bind fun r2 =>
 let v3 := (IntKind.i64.wrap (r1.1.1 + r2.1.1))
 (F_as (v3, ())).bind fun r4 =>
 some ((r4.1.1, ()), ())
abbrev C_cm : Con := ⟨P_cm, R_c, F_cm, false⟩
abbrev G_cm : Env := [(39, C_as)]
theorem g_cm : Qi Tryz.prog G_cm := (Qa s_as Qd)
theorem s_cm : Qb Tryz.prog 149 C_cm := fnC (L := []) hT g_cm Tryz.f149 okP fun _ => by kernel_rfl
def F_cn (x : denP P_o) : FO P_o R_c :=
 let v1 := (iand .i64 x.1 (65535 : Int))
 if (leI (32768 : Int) v1) then
  let v2 := (IntKind.i64.wrap (v1 - (65536 : Int)))
  some ((v2, ()), ())
 else
  some ((v1, ()), ())
abbrev C_cn : Con := ⟨P_o, R_c, F_cn, false⟩
theorem s_cn : Qb Tryz.prog 150 C_cn := fnC (L := []) hT g_a Tryz.f150 okP fun _ => by kernel_rfl
abbrev P_co : List PK := [.box [.own 2 YI, .dat YI, .own 2 YI, .dat .bool, .dat .bool, .dat .bool, .dat YI, .own 2 YI, .own 2 YI] [.own 2 YI, .dat YI, .own 2 YI, .dat .bool, .dat .bool, .dat .bool, .dat YI, .own 2 YI, .own 2 YI], .val YI]
def F_co (x : denP P_co) : FO P_co R_c :=
 if (x.2.1 == (1 : Int)) then
  let v1 := ((x.1.2.2.2.2.2.2.2.1.length : Nat) : Int)
  if (ltI (0 : Int) v1) then
   if 0 ≤ (0 : Int) ∧ (0 : Int) < ((x.1.2.2.2.2.2.2.2.1.length : Nat) : Int) then
    ((x.1.2.2.2.2.2.2.2.1)[((0 : Int)).toNat]?).bind fun y2 =>
    if 0 ≤ (1 : Int) ∧ (1 : Int) ≤ ((x.1.2.2.2.2.2.2.2.1.length : Nat) : Int) ∧ ((x.1.2.2.2.2.2.2.2.1.length : Nat) : Int) ≤ ((x.1.2.2.2.2.2.2.2.1.length : Nat) : Int) then
     (F_av (((x.1.2.2.2.2.2.2.2.1.drop (0 + ((1 : Int)).toNat)).take ((((x.1.2.2.2.2.2.2.2.1.length : Nat) : Int)).toNat - ((1 : Int)).toNat)), ())).bind fun r3 =>
     some ((y2, ()), ((x.1.1, (x.1.2.1, (x.1.2.2.1, (x.1.2.2.2.1, (x.1.2.2.2.2.1, (x.1.2.2.2.2.2.1, (x.1.2.2.2.2.2.2.1, (r3.1.1, (x.1.2.2.2.2.2.2.2.2.1, ()))))))))), ()))
    else none
   else none
  else
   some (((0 : Int), ()), (x.1, ()))
 else
  if (x.2.1 == (2 : Int)) then
   some ((x.1.2.2.2.2.2.2.1, ()), (x.1, ()))
  else
   if (x.2.1 == (3 : Int)) then
    if 0 ≤ (9 : Int) ∧ (9 : Int) < ((x.1.2.2.1.length : Nat) : Int) then
     ((x.1.2.2.1)[((9 : Int)).toNat]?).bind fun y4 =>
     some ((y4, ()), (x.1, ()))
    else none
   else
    if (x.2.1 == (4 : Int)) then
     (F_bx (x.1, ())).bind fun r5 =>
     some ((r5.1.1, ()), (x.1, ()))
    else
     if (x.2.1 == (6 : Int)) then
      let v6 := ((x.1.2.2.2.2.2.2.2.1.length : Nat) : Int)
      some ((v6, ()), (x.1, ()))
     else
      some (((0 : Int), ()), (x.1, ()))
abbrev C_co : Con := ⟨P_co, R_c, F_co, false⟩
abbrev G_co : Env := [(57, C_av), (119, C_bx)]
theorem g_co : Qi Tryz.prog G_co := (Qa s_av (Qa s_bx Qd))
theorem s_co : Qb Tryz.prog 169 C_co := fnC (L := []) hT g_co Tryz.f169 okP fun _ => by kernel_rfl
abbrev P_cp : List PK := [.box [.own 2 YI, .dat YI, .own 2 YI, .dat .bool, .dat .bool, .dat .bool, .dat YI, .own 2 YI, .own 2 YI, .dat Y26, .own 2 YI, .dat YI, .dat YI] [.own 2 YI, .dat YI, .own 2 YI, .dat .bool, .dat .bool, .dat .bool, .dat YI, .own 2 YI, .own 2 YI, .dat Y26, .own 2 YI, .dat YI, .dat YI], .val YI]
abbrev R_cp : List VK := [.s (.dat YI), .s (.dat .bool)]
def F_cp (x : denP P_cp) : FO P_cp R_cp :=
 (F_cj ((x.1.1, (x.1.2.1, (x.1.2.2.1, (x.1.2.2.2.1, (x.1.2.2.2.2.1, (x.1.2.2.2.2.2.1, (x.1.2.2.2.2.2.2.1, (x.1.2.2.2.2.2.2.2.1, (x.1.2.2.2.2.2.2.2.2.1, ()))))))))), x.1.2.2.2.2.2.2.2.2.2.1, x.1.2.2.2.2.2.2.2.2.2.2.1, x.2.1, (1 : Int), ())).bind fun r1 =>
 if (r1.1.1.1 != (0 : Int)) then
  (F_cb (x.1, (3 : Int), x.2.1, ())).bind fun r2 =>
  some (((0 : Int), false, ()), (r2.2.1, ()))
 else
  if (leI (1000 : Int) r1.1.1.2.1) then
   let v3 := (IntKind.i64.wrap (r1.1.1.2.1 - (1000 : Int)))
   (F_co ((x.1.1, (x.1.2.1, (x.1.2.2.1, (x.1.2.2.2.1, (x.1.2.2.2.2.1, (x.1.2.2.2.2.2.1, (x.1.2.2.2.2.2.2.1, (x.1.2.2.2.2.2.2.2.1, (x.1.2.2.2.2.2.2.2.2.1, ()))))))))), v3, ())).bind fun r4 =>
   some ((r4.1.1, true, ()), ((r4.2.1.1, (r4.2.1.2.1, (r4.2.1.2.2.1, (r4.2.1.2.2.2.1, (r4.2.1.2.2.2.2.1, (r4.2.1.2.2.2.2.2.1, (r4.2.1.2.2.2.2.2.2.1, (r4.2.1.2.2.2.2.2.2.2.1, (r4.2.1.2.2.2.2.2.2.2.2.1, (x.1.2.2.2.2.2.2.2.2.2.1, (x.1.2.2.2.2.2.2.2.2.2.2.1, (x.1.2.2.2.2.2.2.2.2.2.2.2.1, (x.1.2.2.2.2.2.2.2.2.2.2.2.2.1, ()))))))))))))), ()))
  else
   if 0 ≤ r1.1.1.2.1 ∧ r1.1.1.2.1 < ((x.1.2.2.2.2.2.2.2.2.2.2.1.length : Nat) : Int) then
    ((x.1.2.2.2.2.2.2.2.2.2.2.1)[(r1.1.1.2.1).toNat]?).bind fun y5 =>
    some ((y5, true, ()), (x.1, ()))
   else none
abbrev C_cp : Con := ⟨P_cp, R_cp, F_cp, false⟩
abbrev G_cp : Env := [(118, C_cb), (120, C_cj), (169, C_co)]
theorem g_cp : Qi Tryz.prog G_cp := (Qa s_cb (Qa s_cj (Qa s_co Qd)))
theorem s_cp : Qb Tryz.prog 151 C_cp := fnC (L := []) hT g_cp Tryz.f151 okP fun _ => by kernel_rfl
def F_cq (x : denP P_ca) : FO P_ca R_ca :=
 (F_as (x.2.2.1, ())).bind fun r1 =>
 if (x.2.1 == (0 : Int)) then
  let v2 := ((r1.1.1).tmod (4 : Int))
  if 0 ≤ x.2.1 ∧ x.2.1 < ((x.1.2.2.1.length : Nat) : Int) then
   ((x.1.2.2.1)[(x.2.1).toNat]?).bind fun y3 =>
   let v4 := (x.1.2.2.1.set (x.2.1).toNat v2)
   some ((), ((x.1.1, (x.1.2.1, (v4, (x.1.2.2.2.1, (x.1.2.2.2.2.1, (x.1.2.2.2.2.2.1, (x.1.2.2.2.2.2.2.1, (x.1.2.2.2.2.2.2.2.1, (x.1.2.2.2.2.2.2.2.2.1, ()))))))))), ()))
  else none
 else
  if (x.2.1 == (7 : Int)) then
   let v5 := ((r1.1.1).tmod (8 : Int))
   if 0 ≤ x.2.1 ∧ x.2.1 < ((x.1.2.2.1.length : Nat) : Int) then
    ((x.1.2.2.1)[(x.2.1).toNat]?).bind fun y6 =>
    let v7 := (x.1.2.2.1.set (x.2.1).toNat v5)
    some ((), ((x.1.1, (x.1.2.1, (v7, (x.1.2.2.2.1, (x.1.2.2.2.2.1, (x.1.2.2.2.2.2.1, (x.1.2.2.2.2.2.2.1, (x.1.2.2.2.2.2.2.2.1, (x.1.2.2.2.2.2.2.2.2.1, ()))))))))), ()))
   else none
  else
   if (x.2.1 == (10 : Int)) then
    if 0 ≤ x.2.1 ∧ x.2.1 < ((x.1.2.2.1.length : Nat) : Int) then
     ((x.1.2.2.1)[(x.2.1).toNat]?).bind fun y8 =>
     let v9 := (x.1.2.2.1.set (x.2.1).toNat (0 : Int))
     if (leI r1.1.1 (8 : Int)) then
      if 0 ≤ x.2.1 ∧ x.2.1 < ((v9.length : Nat) : Int) then
       ((v9)[(x.2.1).toNat]?).bind fun y10 =>
       let v11 := (v9.set (x.2.1).toNat r1.1.1)
       some ((), ((x.1.1, (x.1.2.1, (v11, (x.1.2.2.2.1, (x.1.2.2.2.2.1, (x.1.2.2.2.2.2.1, (x.1.2.2.2.2.2.2.1, (x.1.2.2.2.2.2.2.2.1, (x.1.2.2.2.2.2.2.2.2.1, ()))))))))), ()))
      else none
     else
      some ((), ((x.1.1, (x.1.2.1, (v9, (x.1.2.2.2.1, (x.1.2.2.2.2.1, (x.1.2.2.2.2.2.1, (x.1.2.2.2.2.2.2.1, (x.1.2.2.2.2.2.2.2.1, (x.1.2.2.2.2.2.2.2.2.1, ()))))))))), ()))
    else none
   else
    if (x.2.1 == (6 : Int)) then
     let v12 := ((r1.1.1).tmod (4 : Int))
     if (leI (2 : Int) v12) then
      some ((), ((x.1.1, (x.1.2.1, (x.1.2.2.1, (x.1.2.2.2.1, (x.1.2.2.2.2.1, (false, (x.1.2.2.2.2.2.2.1, (x.1.2.2.2.2.2.2.2.1, (x.1.2.2.2.2.2.2.2.2.1, ()))))))))), ()))
     else
      some ((), (x.1, ()))
    else
     if (x.2.1 == (8 : Int)) then
      some ((), (x.1, ()))
     else
      if 0 ≤ x.2.1 ∧ x.2.1 < ((x.1.2.2.1.length : Nat) : Int) then
       ((x.1.2.2.1)[(x.2.1).toNat]?).bind fun y13 =>
       let v14 := (x.1.2.2.1.set (x.2.1).toNat r1.1.1)
       some ((), ((x.1.1, (x.1.2.1, (v14, (x.1.2.2.2.1, (x.1.2.2.2.2.1, (x.1.2.2.2.2.2.1, (x.1.2.2.2.2.2.2.1, (x.1.2.2.2.2.2.2.2.1, (x.1.2.2.2.2.2.2.2.2.1, ()))))))))), ()))
      else none
abbrev C_cq : Con := ⟨P_ca, R_ca, F_cq, false⟩
theorem g_cq : Qi Tryz.prog G_cm := (Qa s_as Qd)
theorem s_cq : Qb Tryz.prog 155 C_cq := fnC (L := []) hT g_cq Tryz.f155 okP fun _ => by kernel_rfl
def F_cr (x : denP P_ca) : FO P_ca R_c :=
 (F_as (x.2.2.1, ())).bind fun r1 =>
 if (x.2.1 == (0 : Int)) then
  let v2 := ((x.1.2.2.2.2.2.2.2.2.1.length : Nat) : Int)
  if (ltI v2 (40 : Int)) then
   (F_av (x.1.2.2.2.2.2.2.2.2.1, ())).bind fun r3 =>
   if (r3.1.1.length + [r1.1.1].length) * 8 ≤ 140737488355328 then
    let v4 := (r3.1.1 ++ [r1.1.1])
    some (((-1 : Int), ()), ((x.1.1, (x.1.2.1, (x.1.2.2.1, (x.1.2.2.2.1, (x.1.2.2.2.2.1, (x.1.2.2.2.2.2.1, (x.1.2.2.2.2.2.2.1, (x.1.2.2.2.2.2.2.2.1, (v4, ()))))))))), ()))
   else none
  else
   some (((-1 : Int), ()), (x.1, ()))
 else
  if (x.2.1 == (3 : Int)) then
   (F_cq (x.1, (9 : Int), r1.1.1, ())).bind fun r5 =>
   some (((-1 : Int), ()), (r5.2.1, ()))
  else
   if (x.2.1 == (4 : Int)) then
    (F_cq (x.1, (6 : Int), r1.1.1, ())).bind fun r6 =>
    some (((-1 : Int), ()), (r6.2.1, ()))
   else
    if (x.2.1 == (5 : Int)) then
     some ((r1.1.1, ()), (x.1, ()))
    else
     some (((-1 : Int), ()), (x.1, ()))
abbrev C_cr : Con := ⟨P_ca, R_c, F_cr, false⟩
abbrev G_cr : Env := [(39, C_as), (57, C_av), (155, C_cq)]
theorem g_cr : Qi Tryz.prog G_cr := (Qa s_as (Qa s_av (Qa s_cq Qd)))
theorem s_cr : Qb Tryz.prog 170 C_cr := fnC (L := []) hT g_cr Tryz.f170 okP fun _ => by kernel_rfl
def F_cs (x : denP P_cb) : FO P_cb R_a :=
 (F_cj ((x.1.1, (x.1.2.1, (x.1.2.2.1, (x.1.2.2.2.1, (x.1.2.2.2.2.1, (x.1.2.2.2.2.2.1, (x.1.2.2.2.2.2.2.1, (x.1.2.2.2.2.2.2.2.1, (x.1.2.2.2.2.2.2.2.2.1, ()))))))))), x.1.2.2.2.2.2.2.2.2.2.1, x.1.2.2.2.2.2.2.2.2.2.2.1, x.2.1, (2 : Int), ())).bind fun r1 =>
 if (r1.1.1.1 != (0 : Int)) then
  (F_cb (x.1, (4 : Int), x.2.1, ())).bind fun r2 =>
  some ((false, ()), (r2.2.1, ()))
 else
  if (leI (1000 : Int) r1.1.1.2.1) then
   let v3 := (IntKind.i64.wrap (r1.1.1.2.1 - (1000 : Int)))
   (F_cr ((x.1.1, (x.1.2.1, (x.1.2.2.1, (x.1.2.2.2.1, (x.1.2.2.2.2.1, (x.1.2.2.2.2.2.1, (x.1.2.2.2.2.2.2.1, (x.1.2.2.2.2.2.2.2.1, (x.1.2.2.2.2.2.2.2.2.1, ()))))))))), v3, x.2.2.1, ())).bind fun r4 =>
   some ((true, ()), ((r4.2.1.1, (r4.2.1.2.1, (r4.2.1.2.2.1, (r4.2.1.2.2.2.1, (r4.2.1.2.2.2.2.1, (r4.2.1.2.2.2.2.2.1, (r4.2.1.2.2.2.2.2.2.1, (r4.2.1.2.2.2.2.2.2.2.1, (r4.2.1.2.2.2.2.2.2.2.2.1, (x.1.2.2.2.2.2.2.2.2.2.1, (x.1.2.2.2.2.2.2.2.2.2.2.1, (x.1.2.2.2.2.2.2.2.2.2.2.2.1, (r4.1.1, ()))))))))))))), ()))
  else
   if 0 ≤ r1.1.1.2.1 ∧ r1.1.1.2.1 < ((x.1.2.2.2.2.2.2.2.2.2.2.1.length : Nat) : Int) then
    ((x.1.2.2.2.2.2.2.2.2.2.2.1)[(r1.1.1.2.1).toNat]?).bind fun y5 =>
    let v6 := (x.1.2.2.2.2.2.2.2.2.2.2.1.set (r1.1.1.2.1).toNat x.2.2.1)
    some ((true, ()), ((x.1.1, (x.1.2.1, (x.1.2.2.1, (x.1.2.2.2.1, (x.1.2.2.2.2.1, (x.1.2.2.2.2.2.1, (x.1.2.2.2.2.2.2.1, (x.1.2.2.2.2.2.2.2.1, (x.1.2.2.2.2.2.2.2.2.1, (x.1.2.2.2.2.2.2.2.2.2.1, (v6, (x.1.2.2.2.2.2.2.2.2.2.2.2.1, (x.1.2.2.2.2.2.2.2.2.2.2.2.2.1, ()))))))))))))), ()))
   else none
abbrev C_cs : Con := ⟨P_cb, R_a, F_cs, false⟩
abbrev G_cs : Env := [(118, C_cb), (120, C_cj), (170, C_cr)]
theorem g_cs : Qi Tryz.prog G_cs := (Qa s_cb (Qa s_cj (Qa s_cr Qd)))
theorem s_cs : Qb Tryz.prog 152 C_cs := fnC (L := []) hT g_cs Tryz.f152 okP fun _ => by kernel_rfl
def F_ct (x : denP P_o) : FO P_o R_c :=
 (F_as (x.1, ())).bind fun r1 =>
 if (ltI r1.1.1 (2147483648 : Int)) then
  some ((r1.1.1, ()), ())
 else
  let v2 := (IntKind.i64.wrap (r1.1.1 - (4294967295 : Int)))
  let v3 := (IntKind.i64.wrap (v2 - (1 : Int)))
  some ((v3, ()), ())
abbrev C_ct : Con := ⟨P_o, R_c, F_ct, false⟩
theorem g_ct : Qi Tryz.prog G_cm := (Qa s_as Qd)
theorem s_ct : Qb Tryz.prog 153 C_ct := fnC (L := []) hT g_ct Tryz.f153 okP fun _ => by kernel_rfl
abbrev P_cu : List PK := [.ptr Y46, .val YI]
def F_cu (x : denP P_cu) : FO P_cu R_c :=
 if (x.2.1 == (6 : Int)) then
  (F_bx (x.1, ())).bind fun r1 =>
  some ((r1.1.1, ()), ())
 else
  if (x.2.1 == (8 : Int)) then
   some ((x.1.2.2.2.2.2.2.1, ()), ())
  else
   if 0 ≤ x.2.1 then
    ((x.1.2.2.1)[(x.2.1).toNat]?).bind fun y2 =>
    some ((y2, ()), ())
   else none
abbrev C_cu : Con := ⟨P_cu, R_c, F_cu, false⟩
abbrev G_cu : Env := [(119, C_bx)]
theorem g_cu : Qi Tryz.prog G_cu := (Qa s_bx Qd)
theorem s_cu : Qb Tryz.prog 154 C_cu := fnC (L := []) hT g_cu Tryz.f154 okP fun _ => by kernel_rfl
abbrev P_cv : List PK := [.box [.own 2 YI, .dat YI, .own 2 YI, .dat .bool, .dat .bool, .dat .bool, .dat YI, .own 2 YI, .own 2 YI] [.own 2 YI, .dat YI, .own 2 YI, .dat .bool, .dat .bool, .dat .bool, .dat YI, .own 2 YI, .own 2 YI]]
def F_cv (x : denP P_cv) : FO P_cv R_ca :=
 if 0 ≤ (2 : Int) ∧ (2 : Int) < ((x.1.2.2.1.length : Nat) : Int) then
  ((x.1.2.2.1)[((2 : Int)).toNat]?).bind fun y1 =>
  if 0 ≤ (0 : Int) ∧ (0 : Int) < ((x.1.2.2.1.length : Nat) : Int) then
   ((x.1.2.2.1)[((0 : Int)).toNat]?).bind fun y2 =>
   let v3 := (IntKind.i64.wrap ((y2).tdiv (2 : Int)))
   let v4 := (IntKind.i64.wrap ((2 : Int) + v3))
   if 0 ≤ (0 : Int) ∧ (0 : Int) < ((x.1.2.2.1.length : Nat) : Int) then
    ((x.1.2.2.1)[((0 : Int)).toNat]?).bind fun y5 =>
    let v6 := (x.1.2.2.1.set ((0 : Int)).toNat v4)
    some ((), ((x.1.1, (y1, (v6, (x.1.2.2.2.1, (x.1.2.2.2.2.1, (x.1.2.2.2.2.2.1, (x.1.2.2.2.2.2.2.1, (x.1.2.2.2.2.2.2.2.1, (x.1.2.2.2.2.2.2.2.2.1, ()))))))))), ()))
   else none
  else none
 else none
abbrev C_cv : Con := ⟨P_cv, R_ca, F_cv, false⟩
theorem s_cv : Qb Tryz.prog 156 C_cv := fnC (L := []) hT g_a Tryz.f156 okP fun _ => by kernel_rfl
def F_cw (x : denP P_cm) : FO P_cm R_c :=
 let v1 := (IntKind.u32.wrap x.1)
 let v2 := (IntKind.u32.wrap x.2.1)
 let v3 := (IntKind.u32.wrap (v1 * v2))
 let v4 := (IntKind.i64.wrap v3)
 some ((v4, ()), ())
abbrev C_cw : Con := ⟨P_cm, R_c, F_cw, false⟩
theorem s_cw : Qb Tryz.prog 171 C_cw := fnC (L := []) hT g_a Tryz.f171 okP fun _ => by kernel_rfl
def F_cx (x : denP P_cm) : FO P_cm R_c :=
 (F_ct (x.1, ())).bind fun r1 =>
 (F_ct (x.2.1, ())).bind fun r2 =>
 if (r2.1.1 == (0 : Int)) then
  some (((4294967295 : Int), ()), ())
 else
  if r2.1.1 = 0 then none else
  let v3 := (IntKind.i64.wrap ((r1.1.1).tdiv r2.1.1))
  (F_as (v3, ())).bind fun r4 =>
  some ((r4.1.1, ()), ())
abbrev C_cx : Con := ⟨P_cm, R_c, F_cx, false⟩
abbrev G_cx : Env := [(39, C_as), (153, C_ct)]
theorem g_cx : Qi Tryz.prog G_cx := (Qa s_as (Qa s_ct Qd))
theorem s_cx : Qb Tryz.prog 172 C_cx := fnC (L := []) hT g_cx Tryz.f172 okP fun _ => by kernel_rfl
def F_cy (x : denP P_cm) : FO P_cm R_c :=
 (F_ct (x.1, ())).bind fun r1 =>
 (F_ct (x.2.1, ())).bind fun r2 =>
 if (r2.1.1 == (0 : Int)) then
  (F_as (x.1, ())).bind fun r3 =>
  some ((r3.1.1, ()), ())
 else
  if r2.1.1 = 0 then none else
  let v4 := ((r1.1.1).tmod r2.1.1)
  (F_as (v4, ())).bind fun r5 =>
  some ((r5.1.1, ()), ())
abbrev C_cy : Con := ⟨P_cm, R_c, F_cy, false⟩
theorem g_cy : Qi Tryz.prog G_cx := (Qa s_as (Qa s_ct Qd))
theorem s_cy : Qb Tryz.prog 173 C_cy := fnC (L := []) hT g_cy Tryz.f173 okP fun _ => by kernel_rfl
def F_cz (x : denP P_e) : FO P_e R_s :=
 (F_as (x.2.1, ())).bind fun r1 =>
 (F_as (x.2.2.1, ())).bind fun r2 =>
 if (x.1 == (1 : Int)) then
  let v3 := (iand .i64 r1.1.1 r2.1.1)
  some ((((0 : Int), (v3, ())), ()), ())
 else
  if (x.1 == (2 : Int)) then
   let v4 := (ior .i64 r1.1.1 r2.1.1)
   some ((((0 : Int), (v4, ())), ()), ())
  else
   if (x.1 == (3 : Int)) then
    let v5 := (ixor .i64 r1.1.1 r2.1.1)
    some ((((0 : Int), (v5, ())), ()), ())
   else
    some ((((3 : Int), ((0 : Int), ())), ()), ())
abbrev C_cz : Con := ⟨P_e, R_s, F_cz, false⟩
theorem g_cz : Qi Tryz.prog G_cm := (Qa s_as Qd)
theorem s_cz : Qb Tryz.prog 174 C_cz := fnC (L := []) hT g_cz Tryz.f174 okP fun _ => by kernel_rfl
abbrev P_da : List PK := [.val YI, .val YI, .val .bool]
def F_da (x : denP P_da) : FO P_da R_c :=
 (F_as (x.1, ())).bind fun r1 =>
 (F_as (x.2.1, ())).bind fun r2 =>
 let v3 := ((r2.1.1).tmod (32 : Int))
 if x.2.2.1 then
  if v3 < 0 then none else
  let v4 := (IntKind.i64.wrap (r1.1.1 * 2 ^ (min (v3).toNat 64)))
  (F_as (v4, ())).bind fun r5 =>
  some ((r5.1.1, ()), ())
 else
  if v3 < 0 then none else
  let v6 := ((r1.1.1).fdiv (2 ^ (min (v3).toNat 64)))
  some ((v6, ()), ())
abbrev C_da : Con := ⟨P_da, R_c, F_da, false⟩
theorem g_da : Qi Tryz.prog G_cm := (Qa s_as Qd)
theorem s_da : Qb Tryz.prog 175 C_da := fnC (L := []) hT g_da Tryz.f175 okP fun _ => by kernel_rfl
def F_db (x : denP P_e) : FO P_e R_s :=
 (F_as (x.2.1, ())).bind fun r1 =>
 (F_as (x.2.2.1, ())).bind fun r2 =>
 if (x.1 == (1 : Int)) then
  (F_cm (r1.1.1, r2.1.1, ())).bind fun r3 =>
  some ((((0 : Int), (r3.1.1, ())), ()), ())
 else
  if (x.1 == (2 : Int)) then
   let v4 := (IntKind.i64.wrap (r1.1.1 - r2.1.1))
   (F_as (v4, ())).bind fun r5 =>
   some ((((0 : Int), (r5.1.1, ())), ()), ())
  else
   if (x.1 == (3 : Int)) then
    (F_cw (r1.1.1, r2.1.1, ())).bind fun r6 =>
    some ((((0 : Int), (r6.1.1, ())), ()), ())
   else
    if (x.1 == (4 : Int)) then
     (F_cx (r1.1.1, r2.1.1, ())).bind fun r7 =>
     some ((((0 : Int), (r7.1.1, ())), ()), ())
    else
     if (x.1 == (5 : Int)) then
      (F_cy (r1.1.1, r2.1.1, ())).bind fun r8 =>
      some ((((0 : Int), (r8.1.1, ())), ()), ())
     else
      if (x.1 == (6 : Int)) then
       let v9 := (IntKind.i64.wrap (x.1 - (6 : Int)))
       let v10 := (IntKind.i64.wrap (v9 + (1 : Int)))
       (F_cz (v10, r1.1.1, r2.1.1, ())).bind fun r11 =>
       some ((r11.1.1, ()), ())
      else
       if (x.1 == (7 : Int)) then
        let v12 := (IntKind.i64.wrap (x.1 - (6 : Int)))
        let v13 := (IntKind.i64.wrap (v12 + (1 : Int)))
        (F_cz (v13, r1.1.1, r2.1.1, ())).bind fun r14 =>
        some ((r14.1.1, ()), ())
       else
        if (x.1 == (8 : Int)) then
         let v15 := (IntKind.i64.wrap (x.1 - (6 : Int)))
         let v16 := (IntKind.i64.wrap (v15 + (1 : Int)))
         (F_cz (v16, r1.1.1, r2.1.1, ())).bind fun r17 =>
         some ((r17.1.1, ()), ())
        else
         if (x.1 == (9 : Int)) then
          (F_da (r1.1.1, r2.1.1, (x.1 == (9 : Int)), ())).bind fun r18 =>
          some ((((0 : Int), (r18.1.1, ())), ()), ())
         else
          if (x.1 == (10 : Int)) then
           (F_da (r1.1.1, r2.1.1, (x.1 == (9 : Int)), ())).bind fun r19 =>
           some ((((0 : Int), (r19.1.1, ())), ()), ())
          else
           if (x.1 == (11 : Int)) then
            (F_ct (r1.1.1, ())).bind fun r20 =>
            (F_ct (r2.1.1, ())).bind fun r21 =>
            if (ltI r20.1.1 r21.1.1) then
             some ((((0 : Int), ((1 : Int), ())), ()), ())
            else
             some ((((0 : Int), ((0 : Int), ())), ()), ())
           else
            some ((((3 : Int), ((0 : Int), ())), ()), ())
abbrev C_db : Con := ⟨P_e, R_s, F_db, false⟩
abbrev G_db : Env := [(39, C_as), (149, C_cm), (153, C_ct), (171, C_cw), (172, C_cx), (173, C_cy), (174, C_cz), (175, C_da)]
theorem g_db : Qi Tryz.prog G_db := (Qa s_as (Qa s_cm (Qa s_ct (Qa s_cw (Qa s_cx (Qa s_cy (Qa s_cz (Qa s_da Qd))))))))
theorem s_db : Qb Tryz.prog 157 C_db := fnC (L := []) hT g_db Tryz.f157 okP fun _ => by kernel_rfl
def F_dc (x : denP P_o) : FO P_o R_a :=
 (F_z (x.1, (1 : Int), (14 : Int), ())).bind fun r1 =>
 if r1.1.1 = false then
  (F_z (x.1, (19 : Int), (21 : Int), ())).bind fun r2 =>
  some ((r2.1.1, ()), ())
 else
  some ((true, ()), ())
abbrev C_dc : Con := ⟨P_o, R_a, F_dc, false⟩
theorem g_dc : Qi Tryz.prog G_aa := (Qa s_z Qd)
theorem s_dc : Qb Tryz.prog 158 C_dc := fnC (L := []) hT g_dc Tryz.f158 okP fun _ => by kernel_rfl
abbrev P_dd : List PK := [.box [.own 2 YI, .dat YI, .own 2 YI, .dat .bool, .dat .bool, .dat .bool, .dat YI, .own 2 YI, .own 2 YI, .dat Y26, .own 2 YI, .dat YI, .dat YI] [.own 2 YI, .dat YI, .own 2 YI, .dat .bool, .dat .bool, .dat .bool, .dat YI, .own 2 YI, .own 2 YI, .dat Y26, .own 2 YI, .dat YI, .dat YI], .val Y162]
abbrev i_dd_100000 : Shp := { slots := [(0, .s (.ptr 9000000 0)), (3, .s (.ptr 3 0)), (5, .s (.dat YI)), (6, .s (.dat YI)), (7, .s (.dat YI)), (8, .s (.dat YI)), (9, .s (.dat YI)), (10, .s (.dat YI)), (11, .s (.dat YI)), (12, .s (.dat YI)), (56, .s (.dat YI))], boxes := [(3, [.dat YI, .dat YI, .dat YI, .dat YI]), (9000000, [.own 2 YI, .dat YI, .own 2 YI, .dat .bool, .dat .bool, .dat .bool, .dat YI, .own 2 YI, .own 2 YI, .dat Y26, .own 2 YI, .dat YI, .dat YI])], rows := [] }
abbrev o_dd_100000 : List (Ex × Shp) := [(.normal, { slots := [(0, .s (.ptr 9000000 0)), (3, .s (.ptr 3 0)), (6, .s (.dat YI)), (11, .s (.dat YI))], boxes := [(3, [.dat YI, .dat YI, .dat YI, .dat YI]), (9000000, [.own 2 YI, .dat YI, .own 2 YI, .dat .bool, .dat .bool, .dat .bool, .dat YI, .own 2 YI, .own 2 YI, .dat Y26, .own 2 YI, .dat YI, .dat YI])], rows := [] }), (.ret, { slots := [(4, .s (.dat .bool))], boxes := [(9000000, [.own 2 YI, .dat YI, .own 2 YI, .dat .bool, .dat .bool, .dat .bool, .dat YI, .own 2 YI, .own 2 YI, .dat Y26, .own 2 YI, .dat YI, .dat YI])], rows := [] })]
def L_dd_100000 (u100000 : i_dd_100000.den) : Option (denO o_dd_100000) :=
 if (u100000.1.2.2.2.2.2.2.2.2.2.2.1 == (12 : Int)) then
  some (.inl (((), ((), (u100000.1.2.2.2.1, (u100000.1.2.2.2.2.2.2.2.1, ())))), ((u100000.2.1.1, (u100000.2.1.2.1, ())), ())))
 else
  if (u100000.1.2.2.2.2.2.2.2.2.2.2.1 == (13 : Int)) then
   let v40 := (IntKind.i64.wrap (u100000.2.1.1.2.2.2.1 * (65536 : Int)))
   some (.inl (((), ((), (u100000.1.2.2.2.1, (v40, ())))), ((u100000.2.1.1, (u100000.2.1.2.1, ())), ())))
  else
   if (u100000.1.2.2.2.2.2.2.2.2.2.2.1 == (14 : Int)) then
    (F_cp (u100000.2.1.2.1, u100000.1.2.2.2.2.2.2.2.1, ())).bind fun r41 =>
    if (!r41.1.2.1) then
     some (.inr (.inl ((false, ()), ((r41.2.1, ()), ()))))
    else
     some (.inl (((), ((), (u100000.1.2.2.2.1, (r41.1.1, ())))), ((u100000.2.1.1, (r41.2.1, ())), ())))
   else
    if (u100000.1.2.2.2.2.2.2.2.2.2.2.1 == (15 : Int)) then
     (F_cs (u100000.2.1.2.1, u100000.1.2.2.2.2.2.2.2.1, u100000.1.2.2.2.2.2.1, ())).bind fun r42 =>
     if (!r42.1.1) then
      some (.inr (.inl ((false, ()), ((r42.2.1, ()), ()))))
     else
      some (.inl (((), ((), (u100000.1.2.2.2.1, (u100000.1.2.2.2.2.2.2.2.2.1, ())))), ((u100000.2.1.1, (r42.2.1, ())), ())))
    else
     if (u100000.1.2.2.2.2.2.2.2.2.2.2.1 == (16 : Int)) then
      if (u100000.1.2.2.2.2.2.2.2.2.2.1 == (16 : Int)) = true then
       if (u100000.1.2.2.2.2.2.1 == u100000.1.2.2.2.2.2.2.1) = false then
        if (u100000.1.2.2.2.2.2.2.2.2.2.1 == (17 : Int)) = true then
         if (u100000.1.2.2.2.2.2.1 != u100000.1.2.2.2.2.2.2.1) = false then
          if (u100000.1.2.2.2.2.2.2.2.2.2.1 == (18 : Int)) = true then
           (F_ct (u100000.1.2.2.2.2.2.1, ())).bind fun r43 =>
           (F_ct (u100000.1.2.2.2.2.2.2.1, ())).bind fun r44 =>
           if (ltI r43.1.1 r44.1.1) then
            some (.inl (((), ((), (u100000.1.2.2.2.2.1, (u100000.1.2.2.2.2.2.2.2.2.1, ())))), ((u100000.2.1.1, (u100000.2.1.2.1, ())), ())))
           else
            some (.inl (((), ((), (u100000.1.2.2.2.1, (u100000.1.2.2.2.2.2.2.2.2.1, ())))), ((u100000.2.1.1, (u100000.2.1.2.1, ())), ())))
          else
           some (.inl (((), ((), (u100000.1.2.2.2.1, (u100000.1.2.2.2.2.2.2.2.2.1, ())))), ((u100000.2.1.1, (u100000.2.1.2.1, ())), ())))
         else
          some (.inl (((), ((), (u100000.1.2.2.2.2.1, (u100000.1.2.2.2.2.2.2.2.2.1, ())))), ((u100000.2.1.1, (u100000.2.1.2.1, ())), ())))
        else
         if (u100000.1.2.2.2.2.2.2.2.2.2.1 == (18 : Int)) = true then
          (F_ct (u100000.1.2.2.2.2.2.1, ())).bind fun r45 =>
          (F_ct (u100000.1.2.2.2.2.2.2.1, ())).bind fun r46 =>
          if (ltI r45.1.1 r46.1.1) then
           some (.inl (((), ((), (u100000.1.2.2.2.2.1, (u100000.1.2.2.2.2.2.2.2.2.1, ())))), ((u100000.2.1.1, (u100000.2.1.2.1, ())), ())))
          else
           some (.inl (((), ((), (u100000.1.2.2.2.1, (u100000.1.2.2.2.2.2.2.2.2.1, ())))), ((u100000.2.1.1, (u100000.2.1.2.1, ())), ())))
         else
          some (.inl (((), ((), (u100000.1.2.2.2.1, (u100000.1.2.2.2.2.2.2.2.2.1, ())))), ((u100000.2.1.1, (u100000.2.1.2.1, ())), ())))
       else
        some (.inl (((), ((), (u100000.1.2.2.2.2.1, (u100000.1.2.2.2.2.2.2.2.2.1, ())))), ((u100000.2.1.1, (u100000.2.1.2.1, ())), ())))
      else
       if (u100000.1.2.2.2.2.2.2.2.2.2.1 == (17 : Int)) = true then
        if (u100000.1.2.2.2.2.2.1 != u100000.1.2.2.2.2.2.2.1) = false then
         if (u100000.1.2.2.2.2.2.2.2.2.2.1 == (18 : Int)) = true then
          (F_ct (u100000.1.2.2.2.2.2.1, ())).bind fun r47 =>
          (F_ct (u100000.1.2.2.2.2.2.2.1, ())).bind fun r48 =>
          if (ltI r47.1.1 r48.1.1) then
           some (.inl (((), ((), (u100000.1.2.2.2.2.1, (u100000.1.2.2.2.2.2.2.2.2.1, ())))), ((u100000.2.1.1, (u100000.2.1.2.1, ())), ())))
          else
           some (.inl (((), ((), (u100000.1.2.2.2.1, (u100000.1.2.2.2.2.2.2.2.2.1, ())))), ((u100000.2.1.1, (u100000.2.1.2.1, ())), ())))
         else
          some (.inl (((), ((), (u100000.1.2.2.2.1, (u100000.1.2.2.2.2.2.2.2.2.1, ())))), ((u100000.2.1.1, (u100000.2.1.2.1, ())), ())))
        else
         some (.inl (((), ((), (u100000.1.2.2.2.2.1, (u100000.1.2.2.2.2.2.2.2.2.1, ())))), ((u100000.2.1.1, (u100000.2.1.2.1, ())), ())))
       else
        if (u100000.1.2.2.2.2.2.2.2.2.2.1 == (18 : Int)) = true then
         (F_ct (u100000.1.2.2.2.2.2.1, ())).bind fun r49 =>
         (F_ct (u100000.1.2.2.2.2.2.2.1, ())).bind fun r50 =>
         if (ltI r49.1.1 r50.1.1) then
          some (.inl (((), ((), (u100000.1.2.2.2.2.1, (u100000.1.2.2.2.2.2.2.2.2.1, ())))), ((u100000.2.1.1, (u100000.2.1.2.1, ())), ())))
         else
          some (.inl (((), ((), (u100000.1.2.2.2.1, (u100000.1.2.2.2.2.2.2.2.2.1, ())))), ((u100000.2.1.1, (u100000.2.1.2.1, ())), ())))
        else
         some (.inl (((), ((), (u100000.1.2.2.2.1, (u100000.1.2.2.2.2.2.2.2.2.1, ())))), ((u100000.2.1.1, (u100000.2.1.2.1, ())), ())))
     else
      if (u100000.1.2.2.2.2.2.2.2.2.2.2.1 == (17 : Int)) then
       if (u100000.1.2.2.2.2.2.2.2.2.2.1 == (16 : Int)) = true then
        if (u100000.1.2.2.2.2.2.1 == u100000.1.2.2.2.2.2.2.1) = false then
         if (u100000.1.2.2.2.2.2.2.2.2.2.1 == (17 : Int)) = true then
          if (u100000.1.2.2.2.2.2.1 != u100000.1.2.2.2.2.2.2.1) = false then
           if (u100000.1.2.2.2.2.2.2.2.2.2.1 == (18 : Int)) = true then
            (F_ct (u100000.1.2.2.2.2.2.1, ())).bind fun r51 =>
            (F_ct (u100000.1.2.2.2.2.2.2.1, ())).bind fun r52 =>
            if (ltI r51.1.1 r52.1.1) then
             some (.inl (((), ((), (u100000.1.2.2.2.2.1, (u100000.1.2.2.2.2.2.2.2.2.1, ())))), ((u100000.2.1.1, (u100000.2.1.2.1, ())), ())))
            else
             some (.inl (((), ((), (u100000.1.2.2.2.1, (u100000.1.2.2.2.2.2.2.2.2.1, ())))), ((u100000.2.1.1, (u100000.2.1.2.1, ())), ())))
           else
            some (.inl (((), ((), (u100000.1.2.2.2.1, (u100000.1.2.2.2.2.2.2.2.2.1, ())))), ((u100000.2.1.1, (u100000.2.1.2.1, ())), ())))
          else
           some (.inl (((), ((), (u100000.1.2.2.2.2.1, (u100000.1.2.2.2.2.2.2.2.2.1, ())))), ((u100000.2.1.1, (u100000.2.1.2.1, ())), ())))
         else
          if (u100000.1.2.2.2.2.2.2.2.2.2.1 == (18 : Int)) = true then
           (F_ct (u100000.1.2.2.2.2.2.1, ())).bind fun r53 =>
           (F_ct (u100000.1.2.2.2.2.2.2.1, ())).bind fun r54 =>
           if (ltI r53.1.1 r54.1.1) then
            some (.inl (((), ((), (u100000.1.2.2.2.2.1, (u100000.1.2.2.2.2.2.2.2.2.1, ())))), ((u100000.2.1.1, (u100000.2.1.2.1, ())), ())))
           else
            some (.inl (((), ((), (u100000.1.2.2.2.1, (u100000.1.2.2.2.2.2.2.2.2.1, ())))), ((u100000.2.1.1, (u100000.2.1.2.1, ())), ())))
          else
           some (.inl (((), ((), (u100000.1.2.2.2.1, (u100000.1.2.2.2.2.2.2.2.2.1, ())))), ((u100000.2.1.1, (u100000.2.1.2.1, ())), ())))
        else
         some (.inl (((), ((), (u100000.1.2.2.2.2.1, (u100000.1.2.2.2.2.2.2.2.2.1, ())))), ((u100000.2.1.1, (u100000.2.1.2.1, ())), ())))
       else
        if (u100000.1.2.2.2.2.2.2.2.2.2.1 == (17 : Int)) = true then
         if (u100000.1.2.2.2.2.2.1 != u100000.1.2.2.2.2.2.2.1) = false then
          if (u100000.1.2.2.2.2.2.2.2.2.2.1 == (18 : Int)) = true then
           (F_ct (u100000.1.2.2.2.2.2.1, ())).bind fun r55 =>
           (F_ct (u100000.1.2.2.2.2.2.2.1, ())).bind fun r56 =>
           if (ltI r55.1.1 r56.1.1) then
            some (.inl (((), ((), (u100000.1.2.2.2.2.1, (u100000.1.2.2.2.2.2.2.2.2.1, ())))), ((u100000.2.1.1, (u100000.2.1.2.1, ())), ())))
           else
            some (.inl (((), ((), (u100000.1.2.2.2.1, (u100000.1.2.2.2.2.2.2.2.2.1, ())))), ((u100000.2.1.1, (u100000.2.1.2.1, ())), ())))
          else
           some (.inl (((), ((), (u100000.1.2.2.2.1, (u100000.1.2.2.2.2.2.2.2.2.1, ())))), ((u100000.2.1.1, (u100000.2.1.2.1, ())), ())))
         else
          some (.inl (((), ((), (u100000.1.2.2.2.2.1, (u100000.1.2.2.2.2.2.2.2.2.1, ())))), ((u100000.2.1.1, (u100000.2.1.2.1, ())), ())))
        else
         if (u100000.1.2.2.2.2.2.2.2.2.2.1 == (18 : Int)) = true then
          (F_ct (u100000.1.2.2.2.2.2.1, ())).bind fun r57 =>
          (F_ct (u100000.1.2.2.2.2.2.2.1, ())).bind fun r58 =>
          if (ltI r57.1.1 r58.1.1) then
           some (.inl (((), ((), (u100000.1.2.2.2.2.1, (u100000.1.2.2.2.2.2.2.2.2.1, ())))), ((u100000.2.1.1, (u100000.2.1.2.1, ())), ())))
          else
           some (.inl (((), ((), (u100000.1.2.2.2.1, (u100000.1.2.2.2.2.2.2.2.2.1, ())))), ((u100000.2.1.1, (u100000.2.1.2.1, ())), ())))
         else
          some (.inl (((), ((), (u100000.1.2.2.2.1, (u100000.1.2.2.2.2.2.2.2.2.1, ())))), ((u100000.2.1.1, (u100000.2.1.2.1, ())), ())))
      else
       if (u100000.1.2.2.2.2.2.2.2.2.2.2.1 == (18 : Int)) then
        if (u100000.1.2.2.2.2.2.2.2.2.2.1 == (16 : Int)) = true then
         if (u100000.1.2.2.2.2.2.1 == u100000.1.2.2.2.2.2.2.1) = false then
          if (u100000.1.2.2.2.2.2.2.2.2.2.1 == (17 : Int)) = true then
           if (u100000.1.2.2.2.2.2.1 != u100000.1.2.2.2.2.2.2.1) = false then
            if (u100000.1.2.2.2.2.2.2.2.2.2.1 == (18 : Int)) = true then
             (F_ct (u100000.1.2.2.2.2.2.1, ())).bind fun r59 =>
             (F_ct (u100000.1.2.2.2.2.2.2.1, ())).bind fun r60 =>
             if (ltI r59.1.1 r60.1.1) then
              some (.inl (((), ((), (u100000.1.2.2.2.2.1, (u100000.1.2.2.2.2.2.2.2.2.1, ())))), ((u100000.2.1.1, (u100000.2.1.2.1, ())), ())))
             else
              some (.inl (((), ((), (u100000.1.2.2.2.1, (u100000.1.2.2.2.2.2.2.2.2.1, ())))), ((u100000.2.1.1, (u100000.2.1.2.1, ())), ())))
            else
             some (.inl (((), ((), (u100000.1.2.2.2.1, (u100000.1.2.2.2.2.2.2.2.2.1, ())))), ((u100000.2.1.1, (u100000.2.1.2.1, ())), ())))
           else
            some (.inl (((), ((), (u100000.1.2.2.2.2.1, (u100000.1.2.2.2.2.2.2.2.2.1, ())))), ((u100000.2.1.1, (u100000.2.1.2.1, ())), ())))
          else
           if (u100000.1.2.2.2.2.2.2.2.2.2.1 == (18 : Int)) = true then
            (F_ct (u100000.1.2.2.2.2.2.1, ())).bind fun r61 =>
            (F_ct (u100000.1.2.2.2.2.2.2.1, ())).bind fun r62 =>
            if (ltI r61.1.1 r62.1.1) then
             some (.inl (((), ((), (u100000.1.2.2.2.2.1, (u100000.1.2.2.2.2.2.2.2.2.1, ())))), ((u100000.2.1.1, (u100000.2.1.2.1, ())), ())))
            else
             some (.inl (((), ((), (u100000.1.2.2.2.1, (u100000.1.2.2.2.2.2.2.2.2.1, ())))), ((u100000.2.1.1, (u100000.2.1.2.1, ())), ())))
           else
            some (.inl (((), ((), (u100000.1.2.2.2.1, (u100000.1.2.2.2.2.2.2.2.2.1, ())))), ((u100000.2.1.1, (u100000.2.1.2.1, ())), ())))
         else
          some (.inl (((), ((), (u100000.1.2.2.2.2.1, (u100000.1.2.2.2.2.2.2.2.2.1, ())))), ((u100000.2.1.1, (u100000.2.1.2.1, ())), ())))
        else
         if (u100000.1.2.2.2.2.2.2.2.2.2.1 == (17 : Int)) = true then
          if (u100000.1.2.2.2.2.2.1 != u100000.1.2.2.2.2.2.2.1) = false then
           if (u100000.1.2.2.2.2.2.2.2.2.2.1 == (18 : Int)) = true then
            (F_ct (u100000.1.2.2.2.2.2.1, ())).bind fun r63 =>
            (F_ct (u100000.1.2.2.2.2.2.2.1, ())).bind fun r64 =>
            if (ltI r63.1.1 r64.1.1) then
             some (.inl (((), ((), (u100000.1.2.2.2.2.1, (u100000.1.2.2.2.2.2.2.2.2.1, ())))), ((u100000.2.1.1, (u100000.2.1.2.1, ())), ())))
            else
             some (.inl (((), ((), (u100000.1.2.2.2.1, (u100000.1.2.2.2.2.2.2.2.2.1, ())))), ((u100000.2.1.1, (u100000.2.1.2.1, ())), ())))
           else
            some (.inl (((), ((), (u100000.1.2.2.2.1, (u100000.1.2.2.2.2.2.2.2.2.1, ())))), ((u100000.2.1.1, (u100000.2.1.2.1, ())), ())))
          else
           some (.inl (((), ((), (u100000.1.2.2.2.2.1, (u100000.1.2.2.2.2.2.2.2.2.1, ())))), ((u100000.2.1.1, (u100000.2.1.2.1, ())), ())))
         else
          if (u100000.1.2.2.2.2.2.2.2.2.2.1 == (18 : Int)) = true then
           (F_ct (u100000.1.2.2.2.2.2.1, ())).bind fun r65 =>
           (F_ct (u100000.1.2.2.2.2.2.2.1, ())).bind fun r66 =>
           if (ltI r65.1.1 r66.1.1) then
            some (.inl (((), ((), (u100000.1.2.2.2.2.1, (u100000.1.2.2.2.2.2.2.2.2.1, ())))), ((u100000.2.1.1, (u100000.2.1.2.1, ())), ())))
           else
            some (.inl (((), ((), (u100000.1.2.2.2.1, (u100000.1.2.2.2.2.2.2.2.2.1, ())))), ((u100000.2.1.1, (u100000.2.1.2.1, ())), ())))
          else
           some (.inl (((), ((), (u100000.1.2.2.2.1, (u100000.1.2.2.2.2.2.2.2.2.1, ())))), ((u100000.2.1.1, (u100000.2.1.2.1, ())), ())))
       else
        if (u100000.1.2.2.2.2.2.2.2.2.2.2.1 == (19 : Int)) then
         some (.inl (((), ((), (u100000.1.2.2.2.2.1, (u100000.1.2.2.2.1, ())))), ((u100000.2.1.1, (u100000.2.1.2.1, ())), ())))
        else
         if (u100000.1.2.2.2.2.2.2.2.2.2.2.1 == (20 : Int)) then
          some (.inl (((), ((), (u100000.1.2.2.2.2.2.2.2.1, (u100000.1.2.2.2.1, ())))), ((u100000.2.1.1, (u100000.2.1.2.1, ())), ())))
         else
          if (u100000.1.2.2.2.2.2.2.2.2.2.2.1 == (21 : Int)) then
           (F_cu ((u100000.2.1.2.1.1, (u100000.2.1.2.1.2.1, (u100000.2.1.2.1.2.2.1, (u100000.2.1.2.1.2.2.2.1, (u100000.2.1.2.1.2.2.2.2.1, (u100000.2.1.2.1.2.2.2.2.2.1, (u100000.2.1.2.1.2.2.2.2.2.2.1, (u100000.2.1.2.1.2.2.2.2.2.2.2.1, (u100000.2.1.2.1.2.2.2.2.2.2.2.2.1, ()))))))))), u100000.2.1.1.2.2.2.1, ())).bind fun r67 =>
           some (.inl (((), ((), (u100000.1.2.2.2.1, (r67.1.1, ())))), ((u100000.2.1.1, (u100000.2.1.2.1, ())), ())))
          else
           if (u100000.1.2.2.2.2.2.2.2.2.2.2.1 == (22 : Int)) then
            (F_cq ((u100000.2.1.2.1.1, (u100000.2.1.2.1.2.1, (u100000.2.1.2.1.2.2.1, (u100000.2.1.2.1.2.2.2.1, (u100000.2.1.2.1.2.2.2.2.1, (u100000.2.1.2.1.2.2.2.2.2.1, (u100000.2.1.2.1.2.2.2.2.2.2.1, (u100000.2.1.2.1.2.2.2.2.2.2.2.1, (u100000.2.1.2.1.2.2.2.2.2.2.2.2.1, ()))))))))), u100000.2.1.1.2.2.2.1, u100000.1.2.2.2.2.2.2.1, ())).bind fun r68 =>
            some (.inl (((), ((), (u100000.1.2.2.2.1, (u100000.1.2.2.2.2.2.2.2.2.1, ())))), ((u100000.2.1.1, ((r68.2.1.1, (r68.2.1.2.1, (r68.2.1.2.2.1, (r68.2.1.2.2.2.1, (r68.2.1.2.2.2.2.1, (r68.2.1.2.2.2.2.2.1, (r68.2.1.2.2.2.2.2.2.1, (r68.2.1.2.2.2.2.2.2.2.1, (r68.2.1.2.2.2.2.2.2.2.2.1, (u100000.2.1.2.1.2.2.2.2.2.2.2.2.2.1, (u100000.2.1.2.1.2.2.2.2.2.2.2.2.2.2.1, (u100000.2.1.2.1.2.2.2.2.2.2.2.2.2.2.2.1, (u100000.2.1.2.1.2.2.2.2.2.2.2.2.2.2.2.2.1, ()))))))))))))), ())), ())))
           else
            if (u100000.1.2.2.2.2.2.2.2.2.2.2.1 == (23 : Int)) then
             (F_cb (u100000.2.1.2.1, (5 : Int), (0 : Int), ())).bind fun r69 =>
             some (.inr (.inl ((false, ()), ((r69.2.1, ()), ()))))
            else
             if (u100000.1.2.2.2.2.2.2.2.2.2.2.1 == (24 : Int)) then
              (F_cv ((u100000.2.1.2.1.1, (u100000.2.1.2.1.2.1, (u100000.2.1.2.1.2.2.1, (u100000.2.1.2.1.2.2.2.1, (u100000.2.1.2.1.2.2.2.2.1, (u100000.2.1.2.1.2.2.2.2.2.1, (u100000.2.1.2.1.2.2.2.2.2.2.1, (u100000.2.1.2.1.2.2.2.2.2.2.2.1, (u100000.2.1.2.1.2.2.2.2.2.2.2.2.1, ()))))))))), ())).bind fun r70 =>
              some (.inl (((), ((), (r70.2.1.2.1, (u100000.1.2.2.2.2.2.2.2.2.1, ())))), ((u100000.2.1.1, ((r70.2.1.1, (r70.2.1.2.1, (r70.2.1.2.2.1, (r70.2.1.2.2.2.1, (r70.2.1.2.2.2.2.1, (r70.2.1.2.2.2.2.2.1, (r70.2.1.2.2.2.2.2.2.1, (r70.2.1.2.2.2.2.2.2.2.1, (r70.2.1.2.2.2.2.2.2.2.2.1, (u100000.2.1.2.1.2.2.2.2.2.2.2.2.2.1, (u100000.2.1.2.1.2.2.2.2.2.2.2.2.2.2.1, (u100000.2.1.2.1.2.2.2.2.2.2.2.2.2.2.2.1, (u100000.2.1.2.1.2.2.2.2.2.2.2.2.2.2.2.2.1, ()))))))))))))), ())), ())))
             else
              if (u100000.1.2.2.2.2.2.2.2.2.2.2.1 == (25 : Int)) then
               some (.inl (((), ((), (u100000.1.2.2.2.1, (u100000.1.2.2.2.2.2.2.2.2.1, ())))), ((u100000.2.1.1, ((u100000.2.1.2.1.1, (u100000.2.1.2.1.2.1, (u100000.2.1.2.1.2.2.1, (u100000.2.1.2.1.2.2.2.1, (true, (u100000.2.1.2.1.2.2.2.2.2.1, (u100000.2.1.2.1.2.2.2.2.2.2.1, (u100000.2.1.2.1.2.2.2.2.2.2.2.1, (u100000.2.1.2.1.2.2.2.2.2.2.2.2.1, (u100000.2.1.2.1.2.2.2.2.2.2.2.2.2.1, (u100000.2.1.2.1.2.2.2.2.2.2.2.2.2.2.1, (u100000.2.1.2.1.2.2.2.2.2.2.2.2.2.2.2.1, (u100000.2.1.2.1.2.2.2.2.2.2.2.2.2.2.2.2.1, ()))))))))))))), ())), ())))
              else
               if (u100000.1.2.2.2.2.2.2.2.2.2.2.1 == (26 : Int)) then
                some (.inl (((), ((), (u100000.1.2.2.1, (u100000.1.2.2.2.2.2.2.2.2.1, ())))), ((u100000.2.1.1, ((u100000.2.1.2.1.1, (u100000.2.1.2.1.2.1, (u100000.2.1.2.1.2.2.1, (true, (u100000.2.1.2.1.2.2.2.2.1, (u100000.2.1.2.1.2.2.2.2.2.1, (u100000.2.1.2.1.2.2.2.2.2.2.1, (u100000.2.1.2.1.2.2.2.2.2.2.2.1, (u100000.2.1.2.1.2.2.2.2.2.2.2.2.1, (u100000.2.1.2.1.2.2.2.2.2.2.2.2.2.1, (u100000.2.1.2.1.2.2.2.2.2.2.2.2.2.2.1, (u100000.2.1.2.1.2.2.2.2.2.2.2.2.2.2.2.1, (u100000.2.1.2.1.2.2.2.2.2.2.2.2.2.2.2.2.1, ()))))))))))))), ())), ())))
               else
                if 0 ≤ u100000.2.1.1.2.2.2.1 ∧ u100000.2.1.1.2.2.2.1 < ((u100000.2.1.2.1.1.length : Nat) : Int) then
                 ((u100000.2.1.2.1.1)[(u100000.2.1.1.2.2.2.1).toNat]?).bind fun y71 =>
                 (F_db (u100000.1.2.2.2.2.2.2.2.2.2.1, u100000.1.2.2.2.2.2.2.1, y71, ())).bind fun r72 =>
                 some (.inl (((), ((), (u100000.1.2.2.2.1, (r72.1.1.2.1, ())))), ((u100000.2.1.1, (u100000.2.1.2.1, ())), ())))
                else none
def F_dd (x : denP P_dd) : FO P_dd R_a :=
 (F_cm (x.1.2.1, (1 : Int), ())).bind fun r1 =>
 (F_cn (x.2.1.2.2.2.1, ())).bind fun r2 =>
 (F_cm (x.1.2.1, r2.1.1, ())).bind fun r3 =>
 if 0 ≤ x.2.1.2.1 ∧ x.2.1.2.1 < ((x.1.1.length : Nat) : Int) then
  ((x.1.1)[(x.2.1.2.1).toNat]?).bind fun y4 =>
  if 0 ≤ x.2.1.2.2.1 ∧ x.2.1.2.2.1 < ((x.1.1.length : Nat) : Int) then
   ((x.1.1)[(x.2.1.2.2.1).toNat]?).bind fun y5 =>
   (F_cn (x.2.1.2.2.2.1, ())).bind fun r6 =>
   (F_cm (y5, r6.1.1, ())).bind fun r7 =>
   (L_dd_100000 (((), ((), (x.1.2.1, (r1.1.1, (r3.1.1, (y4, (y5, (r7.1.1, ((0 : Int), (x.2.1.1, (x.2.1.1, ()))))))))))), (((x.2.1.1, (x.2.1.2.1, (x.2.1.2.2.1, (x.2.1.2.2.2.1, ())))), (x.1, ())), ()))).bind fun z73 =>
   match z73 with
   | .inl x74 =>
    (F_dc (x74.2.1.1.1, ())).bind fun r75 =>
    if r75.1.1 = true then
     if (ltI (0 : Int) x74.2.1.1.2.1) then
      if 0 ≤ x74.2.1.1.2.1 ∧ x74.2.1.1.2.1 < ((x74.2.1.2.1.1.length : Nat) : Int) then
       ((x74.2.1.2.1.1)[(x74.2.1.1.2.1).toNat]?).bind fun y76 =>
       let v77 := (x74.2.1.2.1.1.set (x74.2.1.1.2.1).toNat x74.1.2.2.2.1)
       let v78 := (IntKind.i64.wrap (x74.2.1.2.1.2.2.2.2.2.2.1 + (1 : Int)))
       let v79 := (if (1000000000 : Int) < v78 then (1000000000 : Int) else v78)
       some ((true, ()), ((v77, (x74.1.2.2.1, (x74.2.1.2.1.2.2.1, (x74.2.1.2.1.2.2.2.1, (x74.2.1.2.1.2.2.2.2.1, (x74.2.1.2.1.2.2.2.2.2.1, (v79, (x74.2.1.2.1.2.2.2.2.2.2.2.1, (x74.2.1.2.1.2.2.2.2.2.2.2.2.1, (x74.2.1.2.1.2.2.2.2.2.2.2.2.2.1, (x74.2.1.2.1.2.2.2.2.2.2.2.2.2.2.1, (x74.2.1.2.1.2.2.2.2.2.2.2.2.2.2.2.1, (x74.2.1.2.1.2.2.2.2.2.2.2.2.2.2.2.2.1, ()))))))))))))), ()))
      else none
     else
      let v80 := (IntKind.i64.wrap (x74.2.1.2.1.2.2.2.2.2.2.1 + (1 : Int)))
      let v81 := (if (1000000000 : Int) < v80 then (1000000000 : Int) else v80)
      some ((true, ()), ((x74.2.1.2.1.1, (x74.1.2.2.1, (x74.2.1.2.1.2.2.1, (x74.2.1.2.1.2.2.2.1, (x74.2.1.2.1.2.2.2.2.1, (x74.2.1.2.1.2.2.2.2.2.1, (v81, (x74.2.1.2.1.2.2.2.2.2.2.2.1, (x74.2.1.2.1.2.2.2.2.2.2.2.2.1, (x74.2.1.2.1.2.2.2.2.2.2.2.2.2.1, (x74.2.1.2.1.2.2.2.2.2.2.2.2.2.2.1, (x74.2.1.2.1.2.2.2.2.2.2.2.2.2.2.2.1, (x74.2.1.2.1.2.2.2.2.2.2.2.2.2.2.2.2.1, ()))))))))))))), ()))
    else
     let v82 := (IntKind.i64.wrap (x74.2.1.2.1.2.2.2.2.2.2.1 + (1 : Int)))
     let v83 := (if (1000000000 : Int) < v82 then (1000000000 : Int) else v82)
     some ((true, ()), ((x74.2.1.2.1.1, (x74.1.2.2.1, (x74.2.1.2.1.2.2.1, (x74.2.1.2.1.2.2.2.1, (x74.2.1.2.1.2.2.2.2.1, (x74.2.1.2.1.2.2.2.2.2.1, (v83, (x74.2.1.2.1.2.2.2.2.2.2.2.1, (x74.2.1.2.1.2.2.2.2.2.2.2.2.1, (x74.2.1.2.1.2.2.2.2.2.2.2.2.2.1, (x74.2.1.2.1.2.2.2.2.2.2.2.2.2.2.1, (x74.2.1.2.1.2.2.2.2.2.2.2.2.2.2.2.1, (x74.2.1.2.1.2.2.2.2.2.2.2.2.2.2.2.2.1, ()))))))))))))), ()))
   | .inr z73_ =>
    match z73_ with
    | .inl x84 =>
     some ((x84.1.1, ()), (x84.2.1.1, ()))
    | .inr z73__ =>
     none
  else none
 else none
abbrev C_dd : Con := ⟨P_dd, R_a, F_dd, false⟩
abbrev G_dd : Env := [(118, C_cb), (149, C_cm), (150, C_cn), (151, C_cp), (152, C_cs), (153, C_ct), (154, C_cu), (155, C_cq), (156, C_cv), (157, C_db), (158, C_dc)]
theorem g_dd : Qi Tryz.prog G_dd := (Qa s_cb (Qa s_cm (Qa s_cn (Qa s_cp (Qa s_cs (Qa s_ct (Qa s_cu (Qa s_cq (Qa s_cv (Qa s_db (Qa s_dc Qd)))))))))))
abbrev c_dd_100000 : Cut := ⟨i_dd_100000, o_dd_100000, L_dd_100000⟩
theorem t_dd_100000 (x) : run T G_dd [] (nav Tryz.f122 [1, 1, 1, 1, 1, 1, 0, 1, 1, 0]) (mk 214 i_dd_100000 x) (QmI 0 o_dd_100000) = L_dd_100000 x := by kernel_rfl
theorem k_dd_100000 : QD Tryz.prog 214 (.block 0 (nav Tryz.f122 [1, 1, 1, 1, 1, 1, 0, 1, 1, 0])) c_dd_100000 :=
  QoE (L := []) hT g_dd t_dd_100000 okP
theorem r_dd (x) : QS T G_dd [(100000, c_dd_100000)] Tryz.f122 C_dd.ps C_dd.rs x = C_dd.F x := by kernel_rfl
theorem s_dd : Qb Tryz.prog 122 C_dd := fnC (L := [(100000, c_dd_100000)]) hT g_dd Tryz.f122 (okS okP (okS okP (okS okP (okS okP (okS okP (okS okP (okS (okS okP (okS okP (okX k_dd_100000))) okP))))))) r_dd
end Go.Proofs.YtmoninjbahccoaaGreatDoor
