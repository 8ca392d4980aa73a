/- The functions of the laws, each as a plain function of data (F), and that the program's text does what F says. Printed by a program (wip/tools/gen.py). -/
import Derived.Test.YtmoninjbahccoaaGreatDoorGa1
namespace Go.Proofs.YtmoninjbahccoaaGreatDoor
open Go Go.RowKit S Go.Proofs
set_option maxRecDepth 100000
set_option linter.unusedVariables false
abbrev P_ax : List PK := [.val Y26]
abbrev R_ax : List VK := [.s (.own 112 Y70)]
def F_ax (x : denP P_ax) : FO P_ax R_ax :=
  if (([] : List (den Y70)).length + x.1.length) * 16 ≤ 140737488355328 then some (([] ++ x.1, ()), ()) else none
abbrev C_ax : Con := ⟨P_ax, R_ax, F_ax, false⟩
theorem s_ax : Qb Tryz.prog 59 C_ax :=
  QcI hT (fn := Tryz.f59) (cn := C_ax) (c0 := nav Tryz.f59 [0]) (ca := nav Tryz.f59 [1, 0, 1, 0]) (cb := nav Tryz.f59 [1, 1]) (id := 1) (d := 4) (nm := 1032000) (o1 := Qet Tryz.f59 [1, 0, 0] 0) (o2 := Qet Tryz.f59 [1, 0, 0] 1)
    (t := 26) (t' := 26) (x := .tmp 3) (r := ⟨Y26, [], 112, 24, 0⟩) (u := Y70) (by kernel_rfl) (by kernel_rfl) (by kernel_rfl) ⟨by kernel_rfl, by kernel_rfl⟩ (fun y => by kernel_rfl) (by kernel_rfl) (by kernel_rfl) (by kernel_rfl) (by kernel_rfl) (by kernel_rfl) rfl
    (fun y => (st0 Tryz.f59 P_ax y).set 2 (.s .nls)) (fun y => ((st0 Tryz.f59 P_ax y).set 2 (.s .nls)).set 3 (.s (.d (.slice Y70) y.1))) (fun y => y.1)
    (fun y => by kernel_rfl) (fun y => by kernel_rfl) (fun y => by kernel_rfl) (fun y => Nat.le_of_ble_eq_true (by kernel_rfl)) (fun y => by kernel_rfl) (by kernel_rfl) (by kernel_rfl) (by kernel_rfl) (fun y => by kernel_rfl)
    (fun y h => by obtain ⟨l, v⟩ := y; have h : l = [] := h; subst h; show run _ _ _ _ _ _ = F_ax ([], v); kernel_rfl) (fun y => by kernel_rfl)
abbrev R_ay : List VK := [.s (.own 71 Y70)]
def F_ay (x : denP P_ax) : FO P_ax R_ay :=
  if (([] : List (den Y70)).length + x.1.length) * 16 ≤ 140737488355328 then some (([] ++ x.1, ()), ()) else none
abbrev C_ay : Con := ⟨P_ax, R_ay, F_ay, false⟩
theorem s_ay : Qb Tryz.prog 60 C_ay :=
  QcI hT (fn := Tryz.f60) (cn := C_ay) (c0 := nav Tryz.f60 [0]) (ca := nav Tryz.f60 [1, 0, 1, 0]) (cb := nav Tryz.f60 [1, 1]) (id := 1) (d := 4) (nm := 1032000) (o1 := Qet Tryz.f60 [1, 0, 0] 0) (o2 := Qet Tryz.f60 [1, 0, 0] 1)
    (t := 27) (t' := 27) (x := .tmp 3) (r := ⟨Y26, [], 71, 24, 0⟩) (u := Y70) (by kernel_rfl) (by kernel_rfl) (by kernel_rfl) ⟨by kernel_rfl, by kernel_rfl⟩ (fun y => by kernel_rfl) (by kernel_rfl) (by kernel_rfl) (by kernel_rfl) (by kernel_rfl) (by kernel_rfl) rfl
    (fun y => (st0 Tryz.f60 P_ax y).set 2 (.s .nls)) (fun y => ((st0 Tryz.f60 P_ax y).set 2 (.s .nls)).set 3 (.s (.d (.slice Y70) y.1))) (fun y => y.1)
    (fun y => by kernel_rfl) (fun y => by kernel_rfl) (fun y => by kernel_rfl) (fun y => Nat.le_of_ble_eq_true (by kernel_rfl)) (fun y => by kernel_rfl) (by kernel_rfl) (by kernel_rfl) (by kernel_rfl) (fun y => by kernel_rfl)
    (fun y h => by obtain ⟨l, v⟩ := y; have h : l = [] := h; subst h; show run _ _ _ _ _ _ = F_ay ([], v); kernel_rfl) (fun y => by kernel_rfl)
abbrev i_az_3 : Shp := { slots := [(1, .s (.ptr 1 0)), (2, .s (.ptr 2 0)), (10, .s (.dat YI)), (11, .s (.dat YI))], boxes := [(1, [.own 32 Y32, .dat Y25, .dat Y26, .dat Y26]), (2, [.own 32 Y32, .own 42 Y41, .own 112 Y70, .own 71 Y70])], rows := [] }
abbrev o_az_3 : List (Ex × Shp) := [(.exit 0, { slots := [(1, .s (.ptr 1 0)), (2, .s (.ptr 2 0))], boxes := [(1, [.own 32 Y32, .dat Y25, .dat Y26, .dat Y26]), (2, [.own 32 Y32, .own 42 Y41, .own 112 Y70, .own 71 Y70])], rows := [] })]
def l_az_3 (rec : i_az_3.den → Option (denO o_az_3)) (u : i_az_3.den) : Option (denO o_az_3) :=
 if (ltI u.1.2.2.2.1 u.1.2.2.1) then
  if 0 ≤ u.1.2.2.2.1 ∧ u.1.2.2.2.1 < ((u.2.1.1.1.length : Nat) : Int) then
   ((u.2.1.1.1)[(u.1.2.2.2.1).toNat]?).bind fun y6 =>
   (F_av (y6, ())).bind fun r7 =>
   if 0 ≤ u.1.2.2.2.1 ∧ u.1.2.2.2.1 < ((u.2.1.1.1.length : Nat) : Int) then
    ((u.2.1.1.1)[(u.1.2.2.2.1).toNat]?).bind fun y8 =>
    let v9 := (u.2.1.1.1.set (u.1.2.2.2.1).toNat r7.1.1)
    let v10 := (IntKind.i64.wrap (u.1.2.2.2.1 + (1 : Int)))
    rec (((), ((), (u.1.2.2.1, (v10, ())))), (((v9, (u.2.1.1.2.1, (u.2.1.1.2.2.1, (u.2.1.1.2.2.2.1, ())))), (u.2.1.2.1, ())), ()))
   else none
  else none
 else
  some (.inl (((), ((), ())), ((u.2.1.1, (u.2.1.2.1, ())), ())))
def L_az_3 (x : i_az_3.den) : Option (denO o_az_3) := Qc l_az_3 lots x
def F_az (x : denP P_ar) : FO P_ar R_m :=
 (F_au (x.1.1, ())).bind fun r1 =>
 let v2 := ((r1.1.1.length : Nat) : Int)
 (L_az_3 (((), ((), (v2, ((0 : Int), ())))), (((r1.1.1, (x.1.2.1, (x.1.2.2.1, (x.1.2.2.2.1, ())))), ((([] : List (den Y32)), (([] : List (den Y41)), (([] : List (den Y70)), (([] : List (den Y70)), ())))), ())), ()))).bind fun z11 =>
 match z11 with
 | .inl x12 =>
  (F_aw (x12.2.1.1.2.1, ())).bind fun r13 =>
  (F_ax (x12.2.1.1.2.2.1, ())).bind fun r14 =>
  (F_ay (x12.2.1.1.2.2.2.1, ())).bind fun r15 =>
  some (((x12.2.1.1.1, (r13.1.1, (r14.1.1, (r15.1.1, ())))), ()), ())
 | .inr z11_ =>
  none
abbrev C_az : Con := ⟨P_ar, R_m, F_az, false⟩
abbrev G_az : Env := [(54, C_au), (57, C_av), (58, C_aw), (59, C_ax), (60, C_ay)]
theorem g_az : Qh Tryz.prog G_az := (Qa s_au (Qa s_av (Qa s_aw (Qa s_ax (Qa s_ay Qd)))))
abbrev c_az_3 : Cut := ⟨i_az_3, o_az_3, fun x => Qc l_az_3 lots x⟩
theorem k_az_3 : Qz Tryz.prog 38 (.loop (nav Tryz.f24 [1, 1, 0, 1, 0, 0])) c_az_3 :=
  Qj (L := []) hT g_az (fun _ _ => by kernel_rfl) okP _
theorem r_az (x) : QL T G_az [(3, c_az_3)] Tryz.f24 C_az.ps C_az.rs x = C_az.F x := by kernel_rfl
theorem s_az : Qb Tryz.prog 24 C_az := fnC (L := [(3, c_az_3)]) hT g_az Tryz.f24 (okS okP (okS okP (okS (okS okP (okB (okU k_az_3))) okP))) r_az
def F_ba (x : denP P_o) : FO P_o R_a :=
 (F_z (x.1, (0 : Int), (4294967295 : Int), ())).bind fun r1 =>
 some ((r1.1.1, ()), ())
abbrev C_ba : Con := ⟨P_o, R_a, F_ba, false⟩
theorem g_ba : Qh Tryz.prog G_aa := (Qa s_z Qd)
theorem s_ba : Qb Tryz.prog 91 C_ba := fnC (L := []) hT g_ba Tryz.f91 okP fun _ => by kernel_rfl
def F_bb_1 (x : denP P_o) : FO P_o R_a :=
 (F_ba (x.1, ())).bind fun r1 =>
 some (((!r1.1.1), ()), ())
abbrev C_bb_1 : Con := ⟨P_o, R_a, F_bb_1, false⟩
abbrev G_bb_1 : Env := [(91, C_ba)]
theorem g_bb_1 : Qh Tryz.prog G_bb_1 := (Qa s_ba Qd)
theorem s_bb_1 : Qb Tryz.prog 90 C_bb_1 := fnC (L := []) hT g_bb_1 Tryz.f90 okP fun _ => by kernel_rfl
abbrev P_bc_1 : List PK := [.val Y32, .fn 90 []]
abbrev i_bd_2 : Shp := { slots := [(0, .s (.dat Y32)), (1, .s (.fn 90 [])), (7, .s (.dat YI)), (8, .s (.dat YI))], boxes := [], rows := [] }
def l_bd_2 (rec : i_bd_2.den → Option (denO o_j_2)) (u : i_bd_2.den) : Option (denO o_j_2) :=
 if (ltI u.1.2.2.2.1 u.1.2.2.1) then
  if 0 ≤ u.1.2.2.2.1 then
   ((u.1.1)[(u.1.2.2.2.1).toNat]?).bind fun y4 =>
   (F_bb_1 (y4, ())).bind fun r5 =>
   if r5.1.1 then
    some (.inr (.inl ((u.1.2.2.2.1, ()), ((), ()))))
   else
    let v6 := (IntKind.i64.wrap (u.1.2.2.2.1 + (1 : Int)))
    rec ((u.1.1, ((), (u.1.2.2.1, (v6, ())))), ((), ()))
  else none
 else
  some (.inl ((), ((), ())))
def L_bd_2 (x : i_bd_2.den) : Option (denO o_j_2) := Qc l_bd_2 lots x
def F_bc_1 (x : denP P_bc_1) : FO P_bc_1 R_c :=
 let v1 := ((x.1.length : Nat) : Int)
 (L_bd_2 ((x.1, ((), (v1, ((0 : Int), ())))), ((), ()))).bind fun z7 =>
 match z7 with
 | .inl x8 =>
  some (((-1 : Int), ()), ())
 | .inr z7_ =>
  match z7_ with
  | .inl x9 =>
   some ((x9.1.1, ()), ())
  | .inr z7__ =>
   none
abbrev C_bc_1 : Con := ⟨P_bc_1, R_c, F_bc_1, false⟩
abbrev G_bc_1 : Env := [(90, C_bb_1)]
theorem g_bc_1 : Qh Tryz.prog G_bc_1 := (Qa s_bb_1 Qd)
abbrev c_bd_2 : Cut := ⟨i_bd_2, o_j_2, fun x => Qc l_bd_2 lots x⟩
theorem k_bd_2 : Qz Tryz.prog 19 (.loop (nav Tryz.f116 [1, 0, 1, 0, 0])) c_bd_2 :=
  Qj (L := []) hT g_bc_1 (fun _ _ => by kernel_rfl) okP _
theorem r_bc_1 (x) : QL T G_bc_1 [(2, c_bd_2)] Tryz.f116 C_bc_1.ps C_bc_1.rs x = C_bc_1.F x := by kernel_rfl
theorem s_bc_1 : Qb Tryz.prog 116 C_bc_1 := fnC (L := [(2, c_bd_2)]) hT g_bc_1 Tryz.f116 (okS okP (okS (okS okP (okB (okU k_bd_2))) okP)) r_bc_1
def F_be_1 (x : denP P_bc_1) : FO P_bc_1 R_a :=
 (F_bc_1 (x.1, (), ())).bind fun r1 =>
 some (((leI (0 : Int) r1.1.1), ()), ())
abbrev C_be_1 : Con := ⟨P_bc_1, R_a, F_be_1, false⟩
abbrev G_be_1 : Env := [(116, C_bc_1)]
theorem g_be_1 : Qh Tryz.prog G_be_1 := (Qa s_bc_1 Qd)
theorem s_be_1 : Qb Tryz.prog 89 C_be_1 := fnC (L := []) hT g_be_1 Tryz.f89 okP fun _ => by kernel_rfl
def F_bb (x : denP P_av) : FO P_av R_a :=
 (F_be_1 (x.1, (), ())).bind fun r1 =>
 some (((!r1.1.1), ()), ())
abbrev C_bb : Con := ⟨P_av, R_a, F_bb, false⟩
abbrev G_bb : Env := [(89, C_be_1)]
theorem g_bb : Qh Tryz.prog G_bb := (Qa s_be_1 Qd)
theorem s_bb : Qb Tryz.prog 61 C_bb := fnC (L := []) hT g_bb Tryz.f61 okP fun _ => by kernel_rfl
abbrev R_bf : List VK := [.g [.dat YI, .own 2 YI, .dat YI, .own 2 YI, .dat .bool, .dat .bool, .dat .bool, .dat YI, .own 2 YI, .own 2 YI]]
def F_bf (x : denP P_av) : FO P_av R_bf :=
 let v1 := ((x.1.length : Nat) : Int)
 if (ltI (40 : Int) v1) then
  some ((((2 : Int), (([] : List (den YI)), ((0 : Int), (([] : List (den YI)), (false, (false, (false, ((0 : Int), (([] : List (den YI)), (([] : List (den YI)), ())))))))))), ()), ())
 else
  (F_bb (x.1, ())).bind fun r2 =>
  if (!r2.1.1) then
   some ((((3 : Int), (([] : List (den YI)), ((0 : Int), (([] : List (den YI)), (false, (false, (false, ((0 : Int), (([] : List (den YI)), (([] : List (den YI)), ())))))))))), ()), ())
  else
   (F_av (x.1, ())).bind fun r3 =>
   some ((((0 : Int), ((List.replicate ((16 : Int)).toNat (QbO YI)), ((0 : Int), ((List.replicate ((11 : Int)).toNat (QbO YI)), (false, (false, (false, ((0 : Int), (r3.1.1, (([] : List (den YI)), ())))))))))), ()), ())
abbrev C_bf : Con := ⟨P_av, R_bf, F_bf, false⟩
abbrev G_bf : Env := [(57, C_av), (61, C_bb)]
theorem g_bf : Qh Tryz.prog G_bf := (Qa s_av (Qa s_bb Qd))
theorem s_bf : Qb Tryz.prog 25 C_bf := fnC (L := []) hT g_bf Tryz.f25 okP fun _ => by kernel_rfl
abbrev P_bg : List PK := [.val Y28, .val Y24, .val Y24]
abbrev R_bg : List VK := [.g [.dat YI, .own 32 Y32, .own 42 Y41, .own 112 Y70, .own 71 Y70, .own 2 YI, .own 47 Y46, .dat YI, .dat YI, .dat YI]]
abbrev i_bg_8 : Shp := { slots := [(6, .s (.ptr 6 0)), (8, .s (.ptr 8 0)), (38, .s (.dat Y24)), (39, .s (.dat YI)), (40, .s (.dat YI))], boxes := [(6, [.dat YI, .own 32 Y32, .own 42 Y41, .own 112 Y70, .own 71 Y70, .own 2 YI, .own 47 Y46, .dat YI, .dat YI, .dat YI]), (8, [.own 32 Y32, .own 42 Y41, .own 112 Y70, .own 71 Y70, .own 2 YI, .own 47 Y46, .dat YI, .dat YI, .dat YI])], rows := [] }
abbrev o_bg_8 : List (Ex × Shp) := [(.exit 0, { slots := [(6, .s (.ptr 6 0)), (8, .s (.ptr 8 0))], boxes := [(6, [.dat YI, .own 32 Y32, .own 42 Y41, .own 112 Y70, .own 71 Y70, .own 2 YI, .own 47 Y46, .dat YI, .dat YI, .dat YI]), (8, [.own 32 Y32, .own 42 Y41, .own 112 Y70, .own 71 Y70, .own 2 YI, .own 47 Y46, .dat YI, .dat YI, .dat YI])], rows := [] }), (.ret, { slots := [(6, .s (.ptr 6 0))], boxes := [(6, [.dat YI, .own 32 Y32, .own 42 Y41, .own 112 Y70, .own 71 Y70, .own 2 YI, .own 47 Y46, .dat YI, .dat YI, .dat YI])], rows := [] })]
def l_bg_8 (rec : i_bg_8.den → Option (denO o_bg_8)) (u : i_bg_8.den) : Option (denO o_bg_8) :=
 if (ltI u.1.2.2.2.2.1 u.1.2.2.2.1) then
  if 0 ≤ u.1.2.2.2.2.1 then
   ((u.1.2.2.1)[(u.1.2.2.2.2.1).toNat]?).bind fun y9 =>
   (F_bf (y9, ())).bind fun r10 =>
   if (r10.1.1.1 != (0 : Int)) then
    some (.inr (.inl (((), ()), (((r10.1.1.1, (([] : List (den Y32)), (([] : List (den Y41)), (([] : List (den Y70)), (([] : List (den Y70)), (([] : List (den YI)), (([] : List (den Y46)), ((0 : Int), ((0 : Int), ((0 : Int), ())))))))))), ()), ()))))
   else
    if (u.2.1.2.1.2.2.2.2.2.1.length + [(r10.1.1.2.1, (r10.1.1.2.2.1, (r10.1.1.2.2.2.1, (r10.1.1.2.2.2.2.1, (r10.1.1.2.2.2.2.2.1, (r10.1.1.2.2.2.2.2.2.1, (r10.1.1.2.2.2.2.2.2.2.1, (r10.1.1.2.2.2.2.2.2.2.2.1, (r10.1.1.2.2.2.2.2.2.2.2.2.1, ())))))))))].length) * 120 ≤ 140737488355328 then
     let v11 := (u.2.1.2.1.2.2.2.2.2.1 ++ [(r10.1.1.2.1, (r10.1.1.2.2.1, (r10.1.1.2.2.2.1, (r10.1.1.2.2.2.2.1, (r10.1.1.2.2.2.2.2.1, (r10.1.1.2.2.2.2.2.2.1, (r10.1.1.2.2.2.2.2.2.2.1, (r10.1.1.2.2.2.2.2.2.2.2.1, (r10.1.1.2.2.2.2.2.2.2.2.2.1, ())))))))))])
     let v12 := (IntKind.i64.wrap (u.1.2.2.2.2.1 + (1 : Int)))
     rec (((), ((), (u.1.2.2.1, (u.1.2.2.2.1, (v12, ()))))), ((u.2.1.1, ((u.2.1.2.1.1, (u.2.1.2.1.2.1, (u.2.1.2.1.2.2.1, (u.2.1.2.1.2.2.2.1, (u.2.1.2.1.2.2.2.2.1, (v11, (u.2.1.2.1.2.2.2.2.2.2.1, (u.2.1.2.1.2.2.2.2.2.2.2.1, (u.2.1.2.1.2.2.2.2.2.2.2.2.1, ()))))))))), ())), ()))
    else none
  else none
 else
  some (.inl (((), ((), ())), ((u.2.1.1, (u.2.1.2.1, ())), ())))
def L_bg_8 (x : i_bg_8.den) : Option (denO o_bg_8) := Qc l_bg_8 lots x
def F_bg (x : denP P_bg) : FO P_bg R_bg :=
 (F_at (x.1, x.2.1, ())).bind fun r1 =>
 if (r1.1.1.1 != (0 : Int)) then
  some (((r1.1.1.1, (([] : List (den Y32)), (([] : List (den Y41)), (([] : List (den Y70)), (([] : List (den Y70)), (([] : List (den YI)), (([] : List (den Y46)), ((0 : Int), ((0 : Int), ((0 : Int), ())))))))))), ()), ())
 else
  let v2 := ((x.2.2.1.length : Nat) : Int)
  let v3 := ((x.1.1.length : Nat) : Int)
  if (v2 != v3) then
   some ((((2 : Int), (([] : List (den Y32)), (([] : List (den Y41)), (([] : List (den Y70)), (([] : List (den Y70)), (([] : List (den YI)), (([] : List (den Y46)), ((0 : Int), ((0 : Int), ((0 : Int), ())))))))))), ()), ())
  else
   (F_az (x.1, ())).bind fun r4 =>
   ((x.1.2.2.2.1)[((0 : Int)).toNat]?).bind fun y5 =>
   let v6 := ((x.2.2.1.length : Nat) : Int)
   (L_bg_8 (((), ((), (x.2.2.1, (v6, ((0 : Int), ()))))), ((((0 : Int), (([] : List (den Y32)), (([] : List (den Y41)), (([] : List (den Y70)), (([] : List (den Y70)), (([] : List (den YI)), (([] : List (den Y46)), ((0 : Int), ((0 : Int), ((0 : Int), ())))))))))), ((r4.1.1.1, (r4.1.1.2.1, (r4.1.1.2.2.1, (r4.1.1.2.2.2.1, (r1.1.1.2.1, (([] : List (den Y46)), ((0 : Int), (y5.2.1, ((0 : Int), ()))))))))), ())), ()))).bind fun z13 =>
   match z13 with
   | .inl x14 =>
    some ((((0 : Int), x14.2.1.2.1), ()), ())
   | .inr z13_ =>
    match z13_ with
    | .inl x15 =>
     some ((x15.2.1.1, ()), ())
    | .inr z13__ =>
     none
abbrev C_bg : Con := ⟨P_bg, R_bg, F_bg, false⟩
abbrev G_bg : Env := [(23, C_at), (24, C_az), (25, C_bf)]
theorem g_bg : Qh Tryz.prog G_bg := (Qa s_at (Qa s_az (Qa s_bf Qd)))
abbrev c_bg_8 : Cut := ⟨i_bg_8, o_bg_8, fun x => Qc l_bg_8 lots x⟩
theorem k_bg_8 : Qz Tryz.prog 62 (.loop (nav Tryz.f8 [1, 1, 1, 1, 1, 0, 1, 0, 0])) c_bg_8 :=
  Qj (L := []) hT g_bg (fun _ _ => by kernel_rfl) okP _
theorem r_bg (x) : QL T G_bg [(8, c_bg_8)] Tryz.f8 C_bg.ps C_bg.rs x = C_bg.F x := by kernel_rfl
theorem s_bg : Qb Tryz.prog 8 C_bg := fnC (L := [(8, c_bg_8)]) hT g_bg Tryz.f8 (okS okP (okS okP (okS okP (okS okP (okS okP (okS (okS okP (okB (okU k_bg_8))) okP)))))) r_bg
abbrev P_bh : List PK := [.val Y28, .val YI]
def F_bh (x : denP P_bh) : FO P_bh R_c :=
 (F_ar (x.1, ())).bind fun r1 =>
 if (r1.1.1 == (0 : Int)) = true then
  (F_ab (x.1, x.2.1, ())).bind fun r2 =>
  if (!r2.1.1) then
   some (((4 : Int), ()), ())
  else
   some ((r1.1.1, ()), ())
 else
  some ((r1.1.1, ()), ())
abbrev C_bh : Con := ⟨P_bh, R_c, F_bh, false⟩
abbrev G_bh : Env := [(30, C_ar), (33, C_ab)]
theorem g_bh : Qh Tryz.prog G_bh := (Qa s_ar (Qa s_ab Qd))
theorem s_bh : Qb Tryz.prog 38 C_bh := fnC (L := []) hT g_bh Tryz.f38 okP fun _ => by kernel_rfl
abbrev P_bi_1 : List PK := [.val Y41, .ptr YI, .ptr YI]
def F_bi_1 (x : denP P_bi_1) : FO P_bi_1 R_a :=
 if (x.1.1 == x.2.1) = true then
  some (((x.1.2.1 == x.2.2.1), ()), ())
 else
  some ((false, ()), ())
abbrev C_bi_1 : Con := ⟨P_bi_1, R_a, F_bi_1, false⟩
theorem s_bi_1 : Qb Tryz.prog 129 C_bi_1 := fnC (L := []) hT g_a Tryz.f129 okP fun _ => by kernel_rfl
abbrev P_bj_1 : List PK := [.val Y25, .fn 129 [YI, YI]]
abbrev i_bk_2 : Shp := { slots := [(0, .s (.dat Y25)), (1, .s (.fn 129 [YI, YI])), (7, .s (.dat YI)), (8, .s (.dat YI))], boxes := [], rows := [] }
def l_bk_2 (rec : i_bk_2.den → Option (denO o_j_2)) (u : i_bk_2.den) : Option (denO o_j_2) :=
 if (ltI u.1.2.2.2.1 u.1.2.2.1) then
  if 0 ≤ u.1.2.2.2.1 then
   ((u.1.1)[(u.1.2.2.2.1).toNat]?).bind fun y4 =>
   (F_bi_1 (y4, u.1.2.1.1, u.1.2.1.2.1, ())).bind fun r5 =>
   if r5.1.1 then
    some (.inr (.inl ((u.1.2.2.2.1, ()), ((), ()))))
   else
    let v6 := (IntKind.i64.wrap (u.1.2.2.2.1 + (1 : Int)))
    rec ((u.1.1, ((u.1.2.1.1, (u.1.2.1.2.1, ())), (u.1.2.2.1, (v6, ())))), ((), ()))
  else none
 else
  some (.inl ((), ((), ())))
def L_bk_2 (x : i_bk_2.den) : Option (denO o_j_2) := Qc l_bk_2 lots x
def F_bj_1 (x : denP P_bj_1) : FO P_bj_1 R_c :=
 let v1 := ((x.1.length : Nat) : Int)
 (L_bk_2 ((x.1, ((x.2.1.1, (x.2.1.2.1, ())), (v1, ((0 : Int), ())))), ((), ()))).bind fun z7 =>
 match z7 with
 | .inl x8 =>
  some (((-1 : Int), ()), ())
 | .inr z7_ =>
  match z7_ with
  | .inl x9 =>
   some ((x9.1.1, ()), ())
  | .inr z7__ =>
   none
abbrev C_bj_1 : Con := ⟨P_bj_1, R_c, F_bj_1, false⟩
abbrev G_bj_1 : Env := [(129, C_bi_1)]
theorem g_bj_1 : Qh Tryz.prog G_bj_1 := (Qa s_bi_1 Qd)
abbrev c_bk_2 : Cut := ⟨i_bk_2, o_j_2, fun x => Qc l_bk_2 lots x⟩
theorem k_bk_2 : Qz Tryz.prog 19 (.loop (nav Tryz.f125 [1, 0, 1, 0, 0])) c_bk_2 :=
  Qj (L := []) hT g_bj_1 (fun _ _ => by kernel_rfl) okP _
theorem r_bj_1 (x) : QL T G_bj_1 [(2, c_bk_2)] Tryz.f125 C_bj_1.ps C_bj_1.rs x = C_bj_1.F x := by kernel_rfl
theorem s_bj_1 : Qb Tryz.prog 125 C_bj_1 := fnC (L := [(2, c_bk_2)]) hT g_bj_1 Tryz.f125 (okS okP (okS (okS okP (okB (okU k_bk_2))) okP)) r_bj_1
def F_bl_1 (x : denP P_bj_1) : FO P_bj_1 R_a :=
 (F_bj_1 (x.1, (x.2.1.1, (x.2.1.2.1, ())), ())).bind fun r1 =>
 some (((leI (0 : Int) r1.1.1), ()), ())
abbrev C_bl_1 : Con := ⟨P_bj_1, R_a, F_bl_1, false⟩
abbrev G_bl_1 : Env := [(125, C_bj_1)]
theorem g_bl_1 : Qh Tryz.prog G_bl_1 := (Qa s_bj_1 Qd)
theorem s_bl_1 : Qb Tryz.prog 97 C_bl_1 := fnC (L := []) hT g_bl_1 Tryz.f97 okP fun _ => by kernel_rfl
def F_bi (x : denP P_i) : FO P_i R_a :=
 (F_bl_1 (x.1.2.1, (x.2.1, (x.2.2.1, ())), ())).bind fun r1 =>
 if r1.1.1 = false then
  (F_ao (x.1.2.2.1, (x.2.1, (x.2.2.1, ())), ())).bind fun r2 =>
  some ((r2.1.1, ()), ())
 else
  some ((true, ()), ())
abbrev C_bi : Con := ⟨P_i, R_a, F_bi, false⟩
abbrev G_bi : Env := [(66, C_ao), (97, C_bl_1)]
theorem g_bi : Qh Tryz.prog G_bi := (Qa s_ao (Qa s_bl_1 Qd))
theorem s_bi : Qb Tryz.prog 104 C_bi := fnC (L := []) hT g_bi Tryz.f104 okP fun _ => by kernel_rfl
abbrev P_bm_1 : List PK := [.val YI, .ptr (.pair .opq Y28), .ptr YI]
def F_bm_1 (x : denP P_bm_1) : FO P_bm_1 R_a :=
 (F_bi (x.2.1.2, x.1, x.2.2.1, ())).bind fun r1 =>
 some ((r1.1.1, ()), ())
abbrev C_bm_1 : Con := ⟨P_bm_1, R_a, F_bm_1, false⟩
abbrev G_bm_1 : Env := [(104, C_bi)]
theorem g_bm_1 : Qh Tryz.prog G_bm_1 := (Qa s_bi Qd)
theorem s_bm_1 : Qb Tryz.prog 103 C_bm_1 := fnC (L := []) hT g_bm_1 Tryz.f103 okP fun _ => by kernel_rfl
abbrev P_bn_1 : List PK := [.ptr Y28, .fn 103 [(.pair .opq Y28), YI]]
abbrev i_bo_3 : Shp := { slots := [(1, .s (.fn 103 [(.pair .opq Y28), YI])), (5, .s (.own 2 YI)), (12, .s (.dat YI)), (13, .s (.dat YI))], boxes := [], rows := [] }
abbrev o_bo_3 : List (Ex × Shp) := [(.exit 0, { slots := [(5, .s (.own 2 YI))], boxes := [], rows := [] })]
def l_bo_3 (rec : i_bo_3.den → Option (denO o_bo_3)) (u : i_bo_3.den) : Option (denO o_bo_3) :=
 if (ltI u.1.2.2.2.1 u.1.2.2.1) then
  (F_bm_1 (u.1.2.2.2.1, u.1.1.1, u.1.1.2.1, ())).bind fun r3 =>
  if r3.1.1 then
   if (u.1.2.1.length + [u.1.2.2.2.1].length) * 8 ≤ 140737488355328 then
    let v4 := (u.1.2.1 ++ [u.1.2.2.2.1])
    let v5 := (IntKind.i64.wrap (u.1.2.2.2.1 + (1 : Int)))
    rec (((u.1.1.1, (u.1.1.2.1, ())), (v4, (u.1.2.2.1, (v5, ())))), ((), ()))
   else none
  else
   let v6 := (IntKind.i64.wrap (u.1.2.2.2.1 + (1 : Int)))
   rec (((u.1.1.1, (u.1.1.2.1, ())), (u.1.2.1, (u.1.2.2.1, (v6, ())))), ((), ()))
 else
  some (.inl ((u.1.2.1, ()), ((), ())))
def L_bo_3 (x : i_bo_3.den) : Option (denO o_bo_3) := Qc l_bo_3 lots x
def F_bn_1 (x : denP P_bn_1) : FO P_bn_1 R_v :=
 let v1 := ((x.1.1.length : Nat) : Int)
 (L_bo_3 (((x.2.1.1, (x.2.1.2.1, ())), (([] : List (den YI)), (v1, ((0 : Int), ())))), ((), ()))).bind fun z7 =>
 match z7 with
 | .inl x8 =>
  some ((x8.1.1, ()), ())
 | .inr z7_ =>
  none
abbrev C_bn_1 : Con := ⟨P_bn_1, R_v, F_bn_1, false⟩
abbrev G_bn_1 : Env := [(103, C_bm_1)]
theorem g_bn_1 : Qh Tryz.prog G_bn_1 := (Qa s_bm_1 Qd)
abbrev c_bo_3 : Cut := ⟨i_bo_3, o_bo_3, fun x => Qc l_bo_3 lots x⟩
theorem k_bo_3 : Qz Tryz.prog 25 (.loop (nav Tryz.f48 [1, 1, 0, 1, 0, 0])) c_bo_3 :=
  Qj (L := []) hT g_bn_1 (fun _ _ => by kernel_rfl) okP _
theorem r_bn_1 (x) : QL T G_bn_1 [(3, c_bo_3)] Tryz.f48 C_bn_1.ps C_bn_1.rs x = C_bn_1.F x := by kernel_rfl
theorem s_bn_1 : Qb Tryz.prog 48 C_bn_1 := fnC (L := [(3, c_bo_3)]) hT g_bn_1 Tryz.f48 (okS okP (okS okP (okS (okS okP (okB (okU k_bo_3))) okP))) r_bn_1
def F_bm (x : denP P_h) : FO P_h R_v :=
 (F_bn_1 (x.1, (((), x.1), (x.2.1, ())), ())).bind fun r1 =>
 some ((r1.1.1, ()), ())
abbrev C_bm : Con := ⟨P_h, R_v, F_bm, false⟩
abbrev G_bm : Env := [(48, C_bn_1)]
theorem g_bm : Qh Tryz.prog G_bm := (Qa s_bn_1 Qd)
theorem s_bm : Qb Tryz.prog 80 C_bm := fnC (L := []) hT g_bm Tryz.f80 okP fun _ => by kernel_rfl
def strK0 : List UInt8 := [0, 1, 2, 2, 3, 3, 3, 3, 4, 4, 4, 4, 4, 4, 4, 4, 5, 5, 5, 5, 5, 5, 5, 5, 5, 5, 5, 5, 5, 5, 5, 5, 6, 6, 6, 6, 6, 6, 6, 6, 6, 6, 6, 6, 6, 6, 6, 6, 6, 6, 6, 6, 6, 6, 6, 6, 6, 6, 6, 6, 6, 6, 6, 6, 7, 7, 7, 7, 7, 7, 7, 7, 7, 7, 7, 7, 7, 7, 7, 7, 7, 7, 7, 7, 7, 7, 7, 7, 7, 7, 7, 7, 7, 7, 7, 7, 7, 7, 7, 7, 7, 7, 7, 7, 7, 7, 7, 7, 7, 7, 7, 7, 7, 7, 7, 7, 7, 7, 7, 7, 7, 7, 7, 7, 7, 7, 7, 7, 8, 8, 8, 8, 8, 8, 8, 8, 8, 8, 8, 8, 8, 8, 8, 8, 8, 8, 8, 8, 8, 8, 8, 8, 8, 8, 8, 8, 8, 8, 8, 8, 8, 8, 8, 8, 8, 8, 8, 8, 8, 8, 8, 8, 8, 8, 8, 8, 8, 8, 8, 8, 8, 8, 8, 8, 8, 8, 8, 8, 8, 8, 8, 8, 8, 8, 8, 8, 8, 8, 8, 8, 8, 8, 8, 8, 8, 8, 8, 8, 8, 8, 8, 8, 8, 8, 8, 8, 8, 8, 8, 8, 8, 8, 8, 8, 8, 8, 8, 8, 8, 8, 8, 8, 8, 8, 8, 8, 8, 8, 8, 8, 8, 8, 8, 8, 8, 8, 8, 8, 8, 8, 8, 8, 8, 8, 8, 8]
abbrev P_bp : List PK := [.val (.int .u64)]
def F_bp (x : denP P_bp) : FO P_bp R_c :=
 if (leI (4294967296 : Int) x.1) then
  let v1 := ((x.1).fdiv (2 ^ 32))
  if (leI (65536 : Int) v1) then
   let v2 := ((v1).fdiv (2 ^ 16))
   if (leI (256 : Int) v2) then
    let v3 := ((v2).fdiv (2 ^ 8))
    let v4 := (IntKind.u8.wrap v3)
    if 0 ≤ v4 then
     ((strK0)[(v4).toNat]?).bind fun y5 =>
     let v6 := (IntKind.i64.wrap ((y5).toNat : Int))
     let v7 := (IntKind.i64.wrap ((56 : Int) + v6))
     some ((v7, ()), ())
    else none
   else
    let v8 := (IntKind.u8.wrap v2)
    if 0 ≤ v8 then
     ((strK0)[(v8).toNat]?).bind fun y9 =>
     let v10 := (IntKind.i64.wrap ((y9).toNat : Int))
     let v11 := (IntKind.i64.wrap ((48 : Int) + v10))
     some ((v11, ()), ())
    else none
  else
   if (leI (256 : Int) v1) then
    let v12 := ((v1).fdiv (2 ^ 8))
    let v13 := (IntKind.u8.wrap v12)
    if 0 ≤ v13 then
     ((strK0)[(v13).toNat]?).bind fun y14 =>
     let v15 := (IntKind.i64.wrap ((y14).toNat : Int))
     let v16 := (IntKind.i64.wrap ((40 : Int) + v15))
     some ((v16, ()), ())
    else none
   else
    let v17 := (IntKind.u8.wrap v1)
    if 0 ≤ v17 then
     ((strK0)[(v17).toNat]?).bind fun y18 =>
     let v19 := (IntKind.i64.wrap ((y18).toNat : Int))
     let v20 := (IntKind.i64.wrap ((32 : Int) + v19))
     some ((v20, ()), ())
    else none
 else
  if (leI (65536 : Int) x.1) then
   let v21 := ((x.1).fdiv (2 ^ 16))
   if (leI (256 : Int) v21) then
    let v22 := ((v21).fdiv (2 ^ 8))
    let v23 := (IntKind.u8.wrap v22)
    if 0 ≤ v23 then
     ((strK0)[(v23).toNat]?).bind fun y24 =>
     let v25 := (IntKind.i64.wrap ((y24).toNat : Int))
     let v26 := (IntKind.i64.wrap ((24 : Int) + v25))
     some ((v26, ()), ())
    else none
   else
    let v27 := (IntKind.u8.wrap v21)
    if 0 ≤ v27 then
     ((strK0)[(v27).toNat]?).bind fun y28 =>
     let v29 := (IntKind.i64.wrap ((y28).toNat : Int))
     let v30 := (IntKind.i64.wrap ((16 : Int) + v29))
     some ((v30, ()), ())
    else none
  else
   if (leI (256 : Int) x.1) then
    let v31 := ((x.1).fdiv (2 ^ 8))
    let v32 := (IntKind.u8.wrap v31)
    if 0 ≤ v32 then
     ((strK0)[(v32).toNat]?).bind fun y33 =>
     let v34 := (IntKind.i64.wrap ((y33).toNat : Int))
     let v35 := (IntKind.i64.wrap ((8 : Int) + v34))
     some ((v35, ()), ())
    else none
   else
    let v36 := (IntKind.u8.wrap x.1)
    if 0 ≤ v36 then
     ((strK0)[(v36).toNat]?).bind fun y37 =>
     let v38 := (IntKind.i64.wrap ((y37).toNat : Int))
     let v39 := (IntKind.i64.wrap ((0 : Int) + v38))
     some ((v39, ()), ())
    else none
abbrev C_bp : Con := ⟨P_bp, R_c, F_bp, false⟩
theorem s_bp : Qb Tryz.prog 140 C_bp := fnC (L := []) hT g_a Tryz.f140 okP fun _ => by kernel_rfl
def F_bq (x : denP P_bp) : FO P_bp R_c :=
 (F_bp (x.1, ())).bind fun r1 =>
 some ((r1.1.1, ()), ())
abbrev C_bq : Con := ⟨P_bp, R_c, F_bq, false⟩
abbrev G_bq : Env := [(140, C_bp)]
theorem g_bq : Qh Tryz.prog G_bq := (Qa s_bp Qd)
theorem s_bq : Qb Tryz.prog 106 C_bq := fnC (L := []) hT g_bq Tryz.f106 okP fun _ => by kernel_rfl
def F_cmp_isNaN_int64 (x : denP P_o) : FO P_o R_a :=
 some (((x.1 != x.1), ()), ())
abbrev C_cmp_isNaN_int64 : Con := ⟨P_o, R_a, F_cmp_isNaN_int64, false⟩
theorem s_cmp_isNaN_int64 : Qb Tryz.prog 164 C_cmp_isNaN_int64 := fnC (L := []) hT g_a Tryz.f164 okP fun _ => by kernel_rfl
abbrev P_cmp_Less_int64 : List PK := [.val YI, .val YI]
def F_cmp_Less_int64 (x : denP P_cmp_Less_int64) : FO P_cmp_Less_int64 R_a :=
 (F_cmp_isNaN_int64 (x.1, ())).bind fun r1 =>
 if r1.1.1 = true then
  (F_cmp_isNaN_int64 (x.2.1, ())).bind fun r2 =>
  if (!r2.1.1) = false then
   some (((ltI x.1 x.2.1), ()), ())
  else
   some ((true, ()), ())
 else
  some (((ltI x.1 x.2.1), ()), ())
abbrev C_cmp_Less_int64 : Con := ⟨P_cmp_Less_int64, R_a, F_cmp_Less_int64, false⟩
abbrev G_cmp_Less_int64 : Env := [(164, C_cmp_isNaN_int64)]
theorem g_cmp_Less_int64 : Qh Tryz.prog G_cmp_Less_int64 := (Qa s_cmp_isNaN_int64 Qd)
theorem s_cmp_Less_int64 : Qb Tryz.prog 136 C_cmp_Less_int64 := fnC (L := []) hT g_cmp_Less_int64 Tryz.f136 okP fun _ => by kernel_rfl
abbrev P_br : List PK := [.row 2 YI, .val YI, .val YI]
abbrev R_br : List VK := []
abbrev i_br_4 : Shp := { slots := [(0, .s (.ref 9000100)), (1, .s (.dat YI)), (2, .s (.dat YI)), (6, .s (.dat YI)), (7, .s (.dat YI))], boxes := [], rows := [(9000100, 2, YI)] }
abbrev o_br_4 : List (Ex × Shp) := [(.exit 2, { slots := [(0, .s (.ref 9000100)), (1, .s (.dat YI)), (2, .s (.dat YI)), (6, .s (.dat YI))], boxes := [], rows := [(9000100, 2, YI)] })]
def l_br_4 (rec : i_br_4.den → Option (denO o_br_4)) (u : i_br_4.den) : Option (denO o_br_4) :=
 if (ltI u.1.2.1 u.1.2.2.2.2.1) = true then
  if 0 ≤ u.1.2.2.2.2.1 ∧ u.1.2.2.2.2.1 < ((u.2.2.1.length : Nat) : Int) then
   ((u.2.2.1)[(u.1.2.2.2.2.1).toNat]?).bind fun y18 =>
   let v19 := (IntKind.i64.wrap (u.1.2.2.2.2.1 - (1 : Int)))
   if 0 ≤ v19 ∧ v19 < ((u.2.2.1.length : Nat) : Int) then
    ((u.2.2.1)[(v19).toNat]?).bind fun y20 =>
    (F_cmp_Less_int64 (y18, y20, ())).bind fun r21 =>
    if r21.1.1 then
     let v22 := (IntKind.i64.wrap (u.1.2.2.2.2.1 - (1 : Int)))
     let v23 := (IntKind.i64.wrap (u.1.2.2.2.2.1 - (1 : Int)))
     if 0 ≤ v23 ∧ v23 < ((u.2.2.1.length : Nat) : Int) then
      ((u.2.2.1)[(v23).toNat]?).bind fun y24 =>
      if 0 ≤ u.1.2.2.2.2.1 ∧ u.1.2.2.2.2.1 < ((u.2.2.1.length : Nat) : Int) then
       ((u.2.2.1)[(u.1.2.2.2.2.1).toNat]?).bind fun y25 =>
       if 0 ≤ u.1.2.2.2.2.1 ∧ u.1.2.2.2.2.1 < ((u.2.2.1.length : Nat) : Int) then
        ((u.2.2.1)[(u.1.2.2.2.2.1).toNat]?).bind fun y26 =>
        let v27 := (u.2.2.1.set (u.1.2.2.2.2.1).toNat y24)
        if 0 ≤ v22 ∧ v22 < ((v27.length : Nat) : Int) then
         ((v27)[(v22).toNat]?).bind fun y28 =>
         let v29 := (v27.set (v22).toNat y25)
         let v30 := (IntKind.i64.wrap (u.1.2.2.2.2.1 - (1 : Int)))
         rec (((), (u.1.2.1, (u.1.2.2.1, (u.1.2.2.2.1, (v30, ()))))), ((), (v29, ())))
        else none
       else none
      else none
     else none
    else
     some (.inl (((), (u.1.2.1, (u.1.2.2.1, (u.1.2.2.2.1, ())))), ((), (u.2.2.1, ()))))
   else none
  else none
 else
  some (.inl (((), (u.1.2.1, (u.1.2.2.1, (u.1.2.2.2.1, ())))), ((), (u.2.2.1, ()))))
def L_br_4 (x : i_br_4.den) : Option (denO o_br_4) := Qc l_br_4 lots x
abbrev i_br_1 : Shp := { slots := [(0, .s (.ref 9000100)), (1, .s (.dat YI)), (2, .s (.dat YI)), (6, .s (.dat YI))], boxes := [], rows := [(9000100, 2, YI)] }
abbrev o_br_1 : List (Ex × Shp) := [(.exit 0, { slots := [], boxes := [], rows := [(9000100, 2, YI)] })]
def l_br_1 (rec : i_br_1.den → Option (denO o_br_1)) (u : i_br_1.den) : Option (denO o_br_1) :=
 if (ltI u.1.2.2.2.1 u.1.2.2.1) then
  (L_br_4 (((), (u.1.2.1, (u.1.2.2.1, (u.1.2.2.2.1, (u.1.2.2.2.1, ()))))), ((), (u.2.2.1, ())))).bind fun z31 =>
  match z31 with
  | .inl x32 =>
   let v33 := (IntKind.i64.wrap (x32.1.2.2.2.1 + (1 : Int)))
   rec (((), (x32.1.2.1, (x32.1.2.2.1, (v33, ())))), ((), (x32.2.2.1, ())))
  | .inr z31_ =>
   none
 else
  some (.inl ((), ((), (u.2.2.1, ()))))
def L_br_1 (x : i_br_1.den) : Option (denO o_br_1) := Qc l_br_1 lots x
def F_br (x : denP P_br) : FO P_br R_br :=
 let v1 := (IntKind.i64.wrap (x.2.1 + (1 : Int)))
 (L_br_1 (((), (x.2.1, (x.2.2.1, (v1, ())))), ((), (x.1, ())))).bind fun z34 =>
 match z34 with
 | .inl x35 =>
  if (x.1.length == x35.2.2.1.length && true) = true then
   some ((), (x35.2.2.1, ()))
  else none
 | .inr z34_ =>
  none
abbrev C_br : Con := ⟨P_br, R_br, F_br, false⟩
abbrev G_br : Env := [(136, C_cmp_Less_int64)]
theorem g_br : Qh Tryz.prog G_br := (Qa s_cmp_Less_int64 Qd)
abbrev c_br_4 : Cut := ⟨i_br_4, o_br_4, fun x => Qc l_br_4 lots x⟩
theorem k_br_4 : Qz Tryz.prog 49 (.loop (nav Tryz.f130 [1, 0, 0, 1, 0, 0, 1, 0, 0])) c_br_4 :=
  Qj (L := []) hT g_br (fun _ _ => by kernel_rfl) okP _
abbrev c_br_1 : Cut := ⟨i_br_1, o_br_1, fun x => Qc l_br_1 lots x⟩
theorem t_br_1 (rec x) : run T G_br [(4, c_br_4)] (nav Tryz.f130 [1, 0, 0]) (mk 49 i_br_1 x) (QeL i_br_1 o_br_1 rec) = l_br_1 rec x := by kernel_rfl
theorem k_br_1 : Qz Tryz.prog 49 (.loop (nav Tryz.f130 [1, 0, 0])) c_br_1 :=
  Qj (L := [(4, c_br_4)]) hT g_br t_br_1 (okS okP (okS (okB (okS okP (okB (okU k_br_4)))) okP)) _
theorem r_br (x) : QL T G_br [(4, c_br_4), (1, c_br_1)] Tryz.f130 C_br.ps C_br.rs x = C_br.F x := by kernel_rfl
theorem s_br : Qb Tryz.prog 130 C_br := fnC (L := [(4, c_br_4), (1, c_br_1)]) hT g_br Tryz.f130 (okS okP (okB (okU k_br_1))) r_br
abbrev P_bs : List PK := [.row 2 YI, .val YI, .val YI, .val YI]
abbrev i_bs_2 : Shp := { slots := [(0, .s (.ref 9000100)), (1, .s (.dat YI)), (2, .s (.dat YI)), (3, .s (.dat YI)), (8, .s (.dat .bool)), (9, .s (.dat .bool))], boxes := [], rows := [(9000100, 2, YI)] }
abbrev o_bs_2 : List (Ex × Shp) := [(.ret, { slots := [], boxes := [], rows := [(9000100, 2, YI)] })]
def l_bs_2 (rec : i_bs_2.den → Option (denO o_bs_2)) (u : i_bs_2.den) : Option (denO o_bs_2) :=
 let v2 := (IntKind.i64.wrap (u.1.2.2.1 - u.1.2.1))
 if (leI v2 (12 : Int)) then
  (F_br (u.2.2.1, u.1.2.1, u.1.2.2.1, ())).bind fun r3 =>
  if ((u.2.2.1.length == r3.2.1.length && true) && true) = true then
   some (.inl ((), ((), (r3.2.1, ()))))
  else none
 else
  if (u.1.2.2.2.1 == (0 : Int)) then none else
  if (!u.1.2.2.2.2.1) then
   none
  else none
def L_bs_2 (x : i_bs_2.den) : Option (denO o_bs_2) := Qc l_bs_2 lots x
def F_bs (x : denP P_bs) : FO P_bs R_br :=
 (L_bs_2 (((), (x.2.1, (x.2.2.1, (x.2.2.2.1, (true, (true, ())))))), ((), (x.1, ())))).bind fun z4 =>
 match z4 with
 | .inl x5 =>
  if (x.1.length == x5.2.2.1.length && true) = true then
   some ((), (x5.2.2.1, ()))
  else none
 | .inr z4_ =>
  none
abbrev C_bs : Con := ⟨P_bs, R_br, F_bs, false⟩
abbrev G_bs : Env := [(130, C_br)]
theorem g_bs : Qh Tryz.prog G_bs := (Qa s_br Qd)
abbrev c_bs_2 : Cut := ⟨i_bs_2, o_bs_2, fun x => Qc l_bs_2 lots x⟩
theorem k_bs_2 : Qz Tryz.prog 134 (.loop (nav Tryz.f105 [1, 1, 0, 0])) c_bs_2 :=
  Qj (L := []) hT g_bs (fun _ _ => by kernel_rfl) okP _
theorem r_bs (x) : QL T G_bs [(2, c_bs_2)] Tryz.f105 C_bs.ps C_bs.rs x = C_bs.F x := by kernel_rfl
theorem s_bs : Qb Tryz.prog 105 C_bs := fnC (L := [(2, c_bs_2)]) hT g_bs Tryz.f105 (okS okP (okS okP (okB (okU k_bs_2)))) r_bs
abbrev P_bt : List PK := [.row 2 YI]
def F_bt (x : denP P_bt) : FO P_bt R_br :=
 let v1 := ((x.1.length : Nat) : Int)
 let v2 := (IntKind.u64.wrap v1)
 (F_bq (v2, ())).bind fun r3 =>
 (F_bs (x.1, (0 : Int), v1, r3.1.1, ())).bind fun r4 =>
 if ((x.1.length == r4.2.1.length && true) && true) = true then
  if (x.1.length == r4.2.1.length && true) = true then
   some ((), (r4.2.1, ()))
  else none
 else none
abbrev C_bt : Con := ⟨P_bt, R_br, F_bt, false⟩
abbrev G_bt : Env := [(105, C_bs), (106, C_bq)]
theorem g_bt : Qh Tryz.prog G_bt := (Qa s_bs (Qa s_bq Qd))
theorem s_bt : Qb Tryz.prog 81 C_bt := fnC (L := []) hT g_bt Tryz.f81 okP fun _ => by kernel_rfl
abbrev i_bu_6 : Shp := { slots := [(0, .s (.pd Y28)), (5, .s (.own 2 YI)), (6, .s (.dat YI)), (23, .s (.own 2 YI)), (24, .s (.dat YI)), (25, .s (.dat YI))], boxes := [], rows := [] }
abbrev o_bu_6 : List (Ex × Shp) := [(.exit 2, { slots := [(0, .s (.pd Y28)), (5, .s (.own 2 YI)), (6, .s (.dat YI))], boxes := [], rows := [] })]
def l_bu_6 (rec : i_bu_6.den → Option (denO o_bu_6)) (u : i_bu_6.den) : Option (denO o_bu_6) :=
 if (ltI u.1.2.2.2.2.2.1 u.1.2.2.2.2.1) then
  if 0 ≤ u.1.2.2.2.2.2.1 ∧ u.1.2.2.2.2.2.1 < ((u.1.2.2.2.1.length : Nat) : Int) then
   ((u.1.2.2.2.1)[(u.1.2.2.2.2.2.1).toNat]?).bind fun y14 =>
   (F_ae (u.1.2.1, y14, ())).bind fun r15 =>
   if (!r15.1.1) then
    if (u.1.2.1.length + [y14].length) * 8 ≤ 140737488355328 then
     let v16 := (u.1.2.1 ++ [y14])
     let v17 := (IntKind.i64.wrap (u.1.2.2.2.2.2.1 + (1 : Int)))
     rec ((u.1.1, (v16, (u.1.2.2.1, (u.1.2.2.2.1, (u.1.2.2.2.2.1, (v17, ())))))), ((), ()))
    else none
   else
    let v18 := (IntKind.i64.wrap (u.1.2.2.2.2.2.1 + (1 : Int)))
    rec ((u.1.1, (u.1.2.1, (u.1.2.2.1, (u.1.2.2.2.1, (u.1.2.2.2.2.1, (v18, ())))))), ((), ()))
  else none
 else
  some (.inl ((u.1.1, (u.1.2.1, (u.1.2.2.1, ()))), ((), ())))
def L_bu_6 (x : i_bu_6.den) : Option (denO o_bu_6) := Qc l_bu_6 lots x
def l_bu_3 (rec : i_g_15.den → Option (denO o_bo_3)) (u : i_g_15.den) : Option (denO o_bo_3) :=
 let v8 := ((u.1.2.1.length : Nat) : Int)
 if (ltI u.1.2.2.1 v8) then
  if 0 ≤ u.1.2.2.1 ∧ u.1.2.2.1 < ((u.1.2.1.length : Nat) : Int) then
   ((u.1.2.1)[(u.1.2.2.1).toNat]?).bind fun y9 =>
   (F_bm (u.1.1, y9, ())).bind fun r10 =>
   let v11 := ((r10.1.1.length : Nat) : Int)
   (L_bu_6 ((u.1.1, (u.1.2.1, (u.1.2.2.1, (r10.1.1, (v11, ((0 : Int), ())))))), ((), ()))).bind fun z19 =>
   match z19 with
   | .inl x20 =>
    let v21 := (IntKind.i64.wrap (x20.1.2.2.1 + (1 : Int)))
    rec ((x20.1.1, (x20.1.2.1, (v21, ()))), ((), ()))
   | .inr z19_ =>
    none
  else none
 else
  some (.inl ((u.1.2.1, ()), ((), ())))
def L_bu_3 (x : i_g_15.den) : Option (denO o_bo_3) := Qc l_bu_3 lots x
def F_bu (x : denP P_h) : FO P_h R_v :=
 (F_bm (x.1, x.2.1, ())).bind fun r1 =>
 (L_bu_3 ((x.1, (r1.1.1, ((0 : Int), ()))), ((), ()))).bind fun z22 =>
 match z22 with
 | .inl x23 =>
  (F_bt (x23.1.1, ())).bind fun r24 =>
  if ((x23.1.1.length == r24.2.1.length && true) && true) = true then
   some ((r24.2.1, ()), ())
  else none
 | .inr z22_ =>
  none
abbrev C_bu : Con := ⟨P_h, R_v, F_bu, false⟩
abbrev G_bu : Env := [(50, C_ae), (80, C_bm), (81, C_bt)]
theorem g_bu : Qh Tryz.prog G_bu := (Qa s_ae (Qa s_bm (Qa s_bt Qd)))
abbrev c_bu_6 : Cut := ⟨i_bu_6, o_bu_6, fun x => Qc l_bu_6 lots x⟩
theorem k_bu_6 : Qz Tryz.prog 41 (.loop (nav Tryz.f47 [1, 1, 0, 1, 0, 0, 1, 0, 0, 1, 0, 0])) c_bu_6 :=
  Qj (L := []) hT g_bu (fun _ _ => by kernel_rfl) okP _
abbrev c_bu_3 : Cut := ⟨i_g_15, o_bo_3, fun x => Qc l_bu_3 lots x⟩
theorem t_bu_3 (rec x) : run T G_bu [(6, c_bu_6)] (nav Tryz.f47 [1, 1, 0, 1, 0, 0]) (mk 41 i_g_15 x) (QeL i_g_15 o_bo_3 rec) = l_bu_3 rec x := by kernel_rfl
theorem k_bu_3 : Qz Tryz.prog 41 (.loop (nav Tryz.f47 [1, 1, 0, 1, 0, 0])) c_bu_3 :=
  Qj (L := [(6, c_bu_6)]) hT g_bu t_bu_3 (okS okP (okS (okB (okS okP (okB (okU k_bu_6)))) okP)) _
theorem r_bu (x) : QL T G_bu [(6, c_bu_6), (3, c_bu_3)] Tryz.f47 C_bu.ps C_bu.rs x = C_bu.F x := by kernel_rfl
theorem s_bu : Qb Tryz.prog 47 C_bu := fnC (L := [(6, c_bu_6), (3, c_bu_3)]) hT g_bu Tryz.f47 (okS okP (okS okP (okS (okS okP (okB (okU k_bu_3))) okP))) r_bu
abbrev P_bv_1 : List PK := [.val YI, .ptr YI, .ptr Y32]
def F_bv_1 (x : denP P_bv_1) : FO P_bv_1 R_a :=
 if (x.1 != x.2.1) = true then
  (F_ae (x.2.2.1, x.1, ())).bind fun r1 =>
  some (((!r1.1.1), ()), ())
 else
  some ((false, ()), ())
abbrev C_bv_1 : Con := ⟨P_bv_1, R_a, F_bv_1, false⟩
theorem g_bv_1 : Qh Tryz.prog G_af_1 := (Qa s_ae Qd)
theorem s_bv_1 : Qb Tryz.prog 49 C_bv_1 := fnC (L := []) hT g_bv_1 Tryz.f49 okP fun _ => by kernel_rfl
abbrev P_bw_1 : List PK := [.ptr Y28, .fn 49 [YI, Y32]]
abbrev i_bx_3 : Shp := { slots := [(1, .s (.fn 49 [YI, Y32])), (5, .s (.own 2 YI)), (12, .s (.dat YI)), (13, .s (.dat YI))], boxes := [], rows := [] }
def l_bx_3 (rec : i_bx_3.den → Option (denO o_bo_3)) (u : i_bx_3.den) : Option (denO o_bo_3) :=
 if (ltI u.1.2.2.2.1 u.1.2.2.1) then
  (F_bv_1 (u.1.2.2.2.1, u.1.1.1, u.1.1.2.1, ())).bind fun r3 =>
  if r3.1.1 then
   if (u.1.2.1.length + [u.1.2.2.2.1].length) * 8 ≤ 140737488355328 then
    let v4 := (u.1.2.1 ++ [u.1.2.2.2.1])
    let v5 := (IntKind.i64.wrap (u.1.2.2.2.1 + (1 : Int)))
    rec (((u.1.1.1, (u.1.1.2.1, ())), (v4, (u.1.2.2.1, (v5, ())))), ((), ()))
   else none
  else
   let v6 := (IntKind.i64.wrap (u.1.2.2.2.1 + (1 : Int)))
   rec (((u.1.1.1, (u.1.1.2.1, ())), (u.1.2.1, (u.1.2.2.1, (v6, ())))), ((), ()))
 else
  some (.inl ((u.1.2.1, ()), ((), ())))
def L_bx_3 (x : i_bx_3.den) : Option (denO o_bo_3) := Qc l_bx_3 lots x
def F_bw_1 (x : denP P_bw_1) : FO P_bw_1 R_v :=
 let v1 := ((x.1.1.length : Nat) : Int)
 (L_bx_3 (((x.2.1.1, (x.2.1.2.1, ())), (([] : List (den YI)), (v1, ((0 : Int), ())))), ((), ()))).bind fun z7 =>
 match z7 with
 | .inl x8 =>
  some ((x8.1.1, ()), ())
 | .inr z7_ =>
  none
abbrev C_bw_1 : Con := ⟨P_bw_1, R_v, F_bw_1, false⟩
abbrev G_bw_1 : Env := [(49, C_bv_1)]
theorem g_bw_1 : Qh Tryz.prog G_bw_1 := (Qa s_bv_1 Qd)
abbrev c_bx_3 : Cut := ⟨i_bx_3, o_bo_3, fun x => Qc l_bx_3 lots x⟩
theorem k_bx_3 : Qz Tryz.prog 25 (.loop (nav Tryz.f48 [1, 1, 0, 1, 0, 0])) c_bx_3 :=
  Qj (L := []) hT g_bw_1 (fun _ _ => by kernel_rfl) okP _
theorem r_bw_1 (x) : QL T G_bw_1 [(3, c_bx_3)] Tryz.f48 C_bw_1.ps C_bw_1.rs x = C_bw_1.F x := by kernel_rfl
theorem s_bw_1 : Qb Tryz.prog 48 C_bw_1 := fnC (L := [(3, c_bx_3)]) hT g_bw_1 Tryz.f48 (okS okP (okS okP (okS (okS okP (okB (okU k_bx_3))) okP))) r_bw_1
def F_bv (x : denP P_bh) : FO P_bh R_at :=
 (F_bh (x.1, x.2.1, ())).bind fun r1 =>
 if (r1.1.1 != (0 : Int)) then
  some (((r1.1.1, (([] : List (den YI)), ())), ()), ())
 else
  (F_bu (x.1, x.2.1, ())).bind fun r2 =>
  (F_bw_1 (x.1, (x.2.1, (r2.1.1, ())), ())).bind fun r3 =>
  some ((((0 : Int), (r3.1.1, ())), ()), ())
abbrev C_bv : Con := ⟨P_bh, R_at, F_bv, false⟩
abbrev G_bv : Env := [(38, C_bh), (47, C_bu), (48, C_bw_1)]
theorem g_bv : Qh Tryz.prog G_bv := (Qa s_bh (Qa s_bu (Qa s_bw_1 Qd)))
theorem s_bv : Qb Tryz.prog 17 C_bv := fnC (L := []) hT g_bv Tryz.f17 okP fun _ => by kernel_rfl
abbrev P_by : List PK := [.val Y28, .val Y24, .val Y24, .val YI, .val Y32, .val Y32]
def F_by (x : denP P_by) : FO P_by R_bg :=
 (F_bh (x.1, x.2.2.2.1, ())).bind fun r1 =>
 if (r1.1.1 != (0 : Int)) then
  some (((r1.1.1, (([] : List (den Y32)), (([] : List (den Y41)), (([] : List (den Y70)), (([] : List (den Y70)), (([] : List (den YI)), (([] : List (den Y46)), ((0 : Int), ((0 : Int), ((0 : Int), ())))))))))), ()), ())
 else
  let v2 := ((x.2.1.length : Nat) : Int)
  let v3 := ((x.1.1.length : Nat) : Int)
  if (v2 != v3) = false then
   let v4 := ((x.2.2.1.length : Nat) : Int)
   let v5 := ((x.1.1.length : Nat) : Int)
   if (v4 != v5) then
    some ((((2 : Int), (([] : List (den Y32)), (([] : List (den Y41)), (([] : List (den Y70)), (([] : List (den Y70)), (([] : List (den YI)), (([] : List (den Y46)), ((0 : Int), ((0 : Int), ((0 : Int), ())))))))))), ()), ())
   else
    (F_au (x.2.1, ())).bind fun r6 =>
    (F_au (x.2.2.1, ())).bind fun r7 =>
    if 0 ≤ x.2.2.2.1 ∧ x.2.2.2.1 < ((r6.1.1.length : Nat) : Int) then
     ((r6.1.1)[(x.2.2.2.1).toNat]?).bind fun y8 =>
     let v9 := (r6.1.1.set (x.2.2.2.1).toNat x.2.2.2.2.1)
     if 0 ≤ x.2.2.2.1 ∧ x.2.2.2.1 < ((r7.1.1.length : Nat) : Int) then
      ((r7.1.1)[(x.2.2.2.1).toNat]?).bind fun y10 =>
      let v11 := (r7.1.1.set (x.2.2.2.1).toNat x.2.2.2.2.2.1)
      (F_bg (x.1, v9, v11, ())).bind fun r12 =>
      some ((r12.1.1, ()), ())
     else none
    else none
  else
   some ((((2 : Int), (([] : List (den Y32)), (([] : List (den Y41)), (([] : List (den Y70)), (([] : List (den Y70)), (([] : List (den YI)), (([] : List (den Y46)), ((0 : Int), ((0 : Int), ((0 : Int), ())))))))))), ()), ())
abbrev C_by : Con := ⟨P_by, R_bg, F_by, false⟩
abbrev G_by : Env := [(8, C_bg), (38, C_bh), (54, C_au)]
theorem g_by : Qh Tryz.prog G_by := (Qa s_bg (Qa s_bh (Qa s_au Qd)))
theorem s_by : Qb Tryz.prog 19 C_by := fnC (L := []) hT g_by Tryz.f19 okP fun _ => by kernel_rfl
def F_bz (x : denP P_av) : FO P_av R_c :=
 let v1 := ((x.1.length : Nat) : Int)
 if (v1 == (0 : Int)) = false then
  let v2 := ((x.1.length : Nat) : Int)
  if (ltI (192 : Int) v2) = false then
   let v3 := ((x.1.length : Nat) : Int)
   let v4 := ((v3).tmod (8 : Int))
   if (v4 != (0 : Int)) then
    some (((1 : Int), ()), ())
   else
    (F_bb (x.1, ())).bind fun r5 =>
    if (!r5.1.1) then
     some (((3 : Int), ()), ())
    else
     some (((0 : Int), ()), ())
  else
   some (((1 : Int), ()), ())
 else
  some (((1 : Int), ()), ())
abbrev C_bz : Con := ⟨P_av, R_c, F_bz, false⟩
abbrev G_bz : Env := [(61, C_bb)]
theorem g_bz : Qh Tryz.prog G_bz := (Qa s_bb Qd)
theorem s_bz : Qb Tryz.prog 71 C_bz := fnC (L := []) hT g_bz Tryz.f71 okP fun _ => by kernel_rfl
def F_ca (x : denP P_av) : FO P_av R_a :=
 (F_bz (x.1, ())).bind fun r1 =>
 if (r1.1.1 == (0 : Int)) = true then
  let v2 := ((x.1.length : Nat) : Int)
  some (((v2 == (192 : Int)), ()), ())
 else
  some ((false, ()), ())
abbrev C_ca : Con := ⟨P_av, R_a, F_ca, false⟩
abbrev G_ca : Env := [(71, C_bz)]
theorem g_ca : Qh Tryz.prog G_ca := (Qa s_bz Qd)
theorem s_ca : Qb Tryz.prog 31 C_ca := fnC (L := []) hT g_ca Tryz.f31 okP fun _ => by kernel_rfl
abbrev P_cb : List PK := [.val Y46]
def F_cb (x : denP P_cb) : FO P_cb R_c :=
 let v1 := ((x.1.1.length : Nat) : Int)
 if (v1 != (16 : Int)) = false then
  let v2 := ((x.1.2.2.1.length : Nat) : Int)
  if (v2 != (11 : Int)) = false then
   ((x.1.1)[((0 : Int)).toNat]?).bind fun y3 =>
   if (y3 != (0 : Int)) then
    some (((1 : Int), ()), ())
   else
    (F_bb (x.1.1, ())).bind fun r4 =>
    if (!r4.1.1) = false then
     (F_ba (x.1.2.1, ())).bind fun r5 =>
     if (!r5.1.1) = false then
      (F_bb (x.1.2.2.1, ())).bind fun r6 =>
      if (!r6.1.1) = false then
       (F_bb (x.1.2.2.2.2.2.2.2.1, ())).bind fun r7 =>
       if (!r7.1.1) = false then
        (F_bb (x.1.2.2.2.2.2.2.2.2.1, ())).bind fun r8 =>
        if (!r8.1.1) then
         some (((3 : Int), ()), ())
        else
         let v9 := ((x.1.2.2.2.2.2.2.2.1.length : Nat) : Int)
         if (ltI (40 : Int) v9) = false then
          let v10 := ((x.1.2.2.2.2.2.2.2.2.1.length : Nat) : Int)
          if (ltI (40 : Int) v10) then
           some (((2 : Int), ()), ())
          else
           (F_z (x.1.2.2.2.2.2.2.1, (0 : Int), (1000000000 : Int), ())).bind fun r11 =>
           if (!r11.1.1) then
            some (((3 : Int), ()), ())
           else
            ((x.1.2.2.1)[((0 : Int)).toNat]?).bind fun y12 =>
            if (ltI (3 : Int) y12) = false then
             ((x.1.2.2.1)[((7 : Int)).toNat]?).bind fun y13 =>
             if (ltI (7 : Int) y13) = false then
              ((x.1.2.2.1)[((10 : Int)).toNat]?).bind fun y14 =>
              if (ltI (8 : Int) y14) = false then
               ((x.1.2.2.1)[((6 : Int)).toNat]?).bind fun y15 =>
               if (y15 != (0 : Int)) = false then
                ((x.1.2.2.1)[((8 : Int)).toNat]?).bind fun y16 =>
                if (y16 != (0 : Int)) then
                 some (((1 : Int), ()), ())
                else
                 some (((0 : Int), ()), ())
               else
                some (((1 : Int), ()), ())
              else
               some (((1 : Int), ()), ())
             else
              some (((1 : Int), ()), ())
            else
             some (((1 : Int), ()), ())
         else
          some (((2 : Int), ()), ())
       else
        some (((3 : Int), ()), ())
      else
       some (((3 : Int), ()), ())
     else
      some (((3 : Int), ()), ())
    else
     some (((3 : Int), ()), ())
  else
   some (((1 : Int), ()), ())
 else
  some (((1 : Int), ()), ())
abbrev C_cb : Con := ⟨P_cb, R_c, F_cb, false⟩
abbrev G_cb : Env := [(27, C_z), (61, C_bb), (91, C_ba)]
theorem g_cb : Qh Tryz.prog G_cb := (Qa s_z (Qa s_bb (Qa s_ba Qd)))
theorem s_cb : Qb Tryz.prog 62 C_cb := fnC (L := []) hT g_cb Tryz.f62 okP fun _ => by kernel_rfl
abbrev i_cc_3 : Shp := { slots := [(1, .s (.dat YI)), (5, .s (.dat YI)), (11, .s (.dat Y26)), (12, .s (.dat YI)), (13, .s (.dat YI))], boxes := [], rows := [] }
abbrev o_cc_3 : List (Ex × Shp) := [(.exit 0, { slots := [(5, .s (.dat YI))], boxes := [], rows := [] })]
def l_cc_3 (rec : i_cc_3.den → Option (denO o_cc_3)) (u : i_cc_3.den) : Option (denO o_cc_3) :=
 if (ltI u.1.2.2.2.2.1 u.1.2.2.2.1) then
  if 0 ≤ u.1.2.2.2.2.1 then
   ((u.1.2.2.1)[(u.1.2.2.2.2.1).toNat]?).bind fun y3 =>
   if (ltI u.1.1 (0 : Int)) = false then
    if (y3.1 == u.1.1) then
     let v4 := (IntKind.i64.wrap (u.1.2.1 + y3.2.1))
     let v5 := (IntKind.i64.wrap (u.1.2.2.2.2.1 + (1 : Int)))
     rec ((u.1.1, (v4, (u.1.2.2.1, (u.1.2.2.2.1, (v5, ()))))), ((), ()))
    else
     let v6 := (IntKind.i64.wrap (u.1.2.2.2.2.1 + (1 : Int)))
     rec ((u.1.1, (u.1.2.1, (u.1.2.2.1, (u.1.2.2.2.1, (v6, ()))))), ((), ()))
   else
    let v7 := (IntKind.i64.wrap (u.1.2.1 + y3.2.1))
    let v8 := (IntKind.i64.wrap (u.1.2.2.2.2.1 + (1 : Int)))
    rec ((u.1.1, (v7, (u.1.2.2.1, (u.1.2.2.2.1, (v8, ()))))), ((), ()))
  else none
 else
  some (.inl ((u.1.2.1, ()), ((), ())))
def L_cc_3 (x : i_cc_3.den) : Option (denO o_cc_3) := Qc l_cc_3 lots x
def F_cc (x : denP P_h) : FO P_h R_c :=
 let v1 := ((x.1.2.2.2.1.length : Nat) : Int)
 (L_cc_3 ((x.2.1, ((0 : Int), (x.1.2.2.2.1, (v1, ((0 : Int), ()))))), ((), ()))).bind fun z9 =>
 match z9 with
 | .inl x10 =>
  some ((x10.1.1, ()), ())
 | .inr z9_ =>
  none
abbrev C_cc : Con := ⟨P_h, R_c, F_cc, false⟩
abbrev c_cc_3 : Cut := ⟨i_cc_3, o_cc_3, fun x => Qc l_cc_3 lots x⟩
theorem k_cc_3 : Qz Tryz.prog 31 (.loop (nav Tryz.f92 [1, 1, 0, 1, 0, 0])) c_cc_3 :=
  Qj (L := []) hT g_a (fun _ _ => by kernel_rfl) okP _
theorem r_cc (x) : QL T G_a [(3, c_cc_3)] Tryz.f92 C_cc.ps C_cc.rs x = C_cc.F x := by kernel_rfl
theorem s_cc : Qb Tryz.prog 92 C_cc := fnC (L := [(3, c_cc_3)]) hT g_a Tryz.f92 (okS okP (okS okP (okS (okS okP (okB (okU k_cc_3))) okP))) r_cc
abbrev R_cd : List VK := [.s (.dat YI), .s (.dat YI)]
abbrev i_cd_3 : Shp := { slots := [(0, .s (.pd Y28)), (1, .s (.dat YI)), (6, .s (.dat YI))], boxes := [], rows := [] }
abbrev o_cd_3 : List (Ex × Shp) := [(.exit 0, { slots := [(0, .s (.pd Y28)), (1, .s (.dat YI)), (6, .s (.dat YI))], boxes := [], rows := [] })]
def l_cd_3 (rec : i_cd_3.den → Option (denO o_cd_3)) (u : i_cd_3.den) : Option (denO o_cd_3) :=
 if 0 ≤ u.1.2.2.1 then
  ((u.1.1.2.2.2.1)[(u.1.2.2.1).toNat]?).bind fun y5 =>
  if (leI y5.2.1 u.1.2.1) then
   if 0 ≤ u.1.2.2.1 then
    ((u.1.1.2.2.2.1)[(u.1.2.2.1).toNat]?).bind fun y6 =>
    let v7 := (IntKind.i64.wrap (u.1.2.1 - y6.2.1))
    let v8 := (IntKind.i64.wrap (u.1.2.2.1 + (1 : Int)))
    rec ((u.1.1, (v7, (v8, ()))), ((), ()))
   else none
  else
   some (.inl ((u.1.1, (u.1.2.1, (u.1.2.2.1, ()))), ((), ())))
 else none
def L_cd_3 (x : i_cd_3.den) : Option (denO o_cd_3) := Qc l_cd_3 lots x
def F_cd (x : denP P_h) : FO P_h R_cd :=
 (F_cc (x.1, (-1 : Int), ())).bind fun r1 =>
 if r1.1.1 = 0 then none else
 let v2 := ((x.2.1).tmod r1.1.1)
 (L_cd_3 ((x.1, (v2, ((0 : Int), ()))), ((), ()))).bind fun z9 =>
 match z9 with
 | .inl x10 =>
  if 0 ≤ x10.1.2.2.1 then
   ((x10.1.1.2.2.2.1)[(x10.1.2.2.1).toNat]?).bind fun y11 =>
   let v12 := (IntKind.i64.wrap (y11.2.1 - x10.1.2.1))
   some ((x10.1.2.2.1, v12, ()), ())
  else none
 | .inr z9_ =>
  none
abbrev C_cd : Con := ⟨P_h, R_cd, F_cd, false⟩
abbrev G_cd : Env := [(92, C_cc)]
theorem g_cd : Qh Tryz.prog G_cd := (Qa s_cc Qd)
abbrev c_cd_3 : Cut := ⟨i_cd_3, o_cd_3, fun x => Qc l_cd_3 lots x⟩
theorem k_cd_3 : Qz Tryz.prog 44 (.loop (nav Tryz.f63 [1, 1, 1, 0, 0, 0])) c_cd_3 :=
  Qj (L := []) hT g_cd (fun _ _ => by kernel_rfl) okP _
theorem r_cd (x) : QL T G_cd [(3, c_cd_3)] Tryz.f63 C_cd.ps C_cd.rs x = C_cd.F x := by kernel_rfl
theorem s_cd : Qb Tryz.prog 63 C_cd := fnC (L := [(3, c_cd_3)]) hT g_cd Tryz.f63 (okS okP (okS okP (okS okP (okS (okB (okU k_cd_3)) okP)))) r_cd
abbrev P_ce : List PK := [.val Y34]
abbrev i_ce_7 : Shp := { slots := [(1, .s (.ptr 1 0)), (30, .s (.dat Y33)), (31, .s (.dat YI)), (32, .s (.dat YI))], boxes := [(1, [.dat Y24, .dat Y25, .dat Y26, .dat Y26, .dat Y32, .dat Y33, .dat YI, .dat YI, .dat YI])], rows := [] }
abbrev o_ce_7 : List (Ex × Shp) := [(.exit 0, { slots := [(1, .s (.ptr 1 0))], boxes := [(1, [.dat Y24, .dat Y25, .dat Y26, .dat Y26, .dat Y32, .dat Y33, .dat YI, .dat YI, .dat YI])], rows := [] }), (.ret, { slots := [(2, .s (.dat YI))], boxes := [], rows := [] })]
def l_ce_7 (rec : i_ce_7.den → Option (denO o_ce_7)) (u : i_ce_7.den) : Option (denO o_ce_7) :=
 if (ltI u.1.2.2.2.1 u.1.2.2.1) then
  if 0 ≤ u.1.2.2.2.1 then
   ((u.1.2.1)[(u.1.2.2.2.1).toNat]?).bind fun y8 =>
   (F_cb (y8, ())).bind fun r9 =>
   if (r9.1.1 != (0 : Int)) then
    some (.inr (.inl ((r9.1.1, ()), ((), ()))))
   else
    let v10 := (IntKind.i64.wrap (u.1.2.2.2.1 + (1 : Int)))
    rec (((), (u.1.2.1, (u.1.2.2.1, (v10, ())))), ((u.2.1.1, ()), ()))
  else none
 else
  some (.inl (((), ()), ((u.2.1.1, ()), ())))
def L_ce_7 (x : i_ce_7.den) : Option (denO o_ce_7) := Qc l_ce_7 lots x
def F_ce (x : denP P_ce) : FO P_ce R_c :=
 (F_ar (x.1.1, ())).bind fun r1 =>
 if (r1.1.1 != (0 : Int)) then
  some ((r1.1.1, ()), ())
 else
  (F_ca (x.1.2.1, ())).bind fun r2 =>
  if (!r2.1.1) = false then
   let v3 := ((x.1.2.2.1.length : Nat) : Int)
   let v4 := ((x.1.1.1.length : Nat) : Int)
   if (v3 != v4) then
    some (((1 : Int), ()), ())
   else
    let v5 := ((x.1.2.2.1.length : Nat) : Int)
    (L_ce_7 (((), (x.1.2.2.1, (v5, ((0 : Int), ())))), (((x.1.1.1, (x.1.1.2.1, (x.1.1.2.2.1, (x.1.1.2.2.2.1, (x.1.2.1, (x.1.2.2.1, (x.1.2.2.2.1, (x.1.2.2.2.2.1, (x.1.2.2.2.2.2.1, ()))))))))), ()), ()))).bind fun z11 =>
    match z11 with
    | .inl x12 =>
     (F_z (x12.2.1.1.2.2.2.2.2.2.2.2.1, (0 : Int), (1000000 : Int), ())).bind fun r13 =>
     if (!r13.1.1) then
      some (((3 : Int), ()), ())
     else
      (F_cd ((x12.2.1.1.1, (x12.2.1.1.2.1, (x12.2.1.1.2.2.1, (x12.2.1.1.2.2.2.1, ())))), x12.2.1.1.2.2.2.2.2.2.2.2.1, ())).bind fun r14 =>
      if (x12.2.1.1.2.2.2.2.2.2.1 != r14.1.1) = false then
       if (x12.2.1.1.2.2.2.2.2.2.2.1 != r14.1.2.1) then
        some (((1 : Int), ()), ())
       else
        some (((0 : Int), ()), ())
      else
       some (((1 : Int), ()), ())
    | .inr z11_ =>
     match z11_ with
     | .inl x15 =>
      some ((x15.1.1, ()), ())
     | .inr z11__ =>
      none
  else
   some (((1 : Int), ()), ())
abbrev C_ce : Con := ⟨P_ce, R_c, F_ce, false⟩
abbrev G_ce : Env := [(27, C_z), (30, C_ar), (31, C_ca), (62, C_cb), (63, C_cd)]
theorem g_ce : Qh Tryz.prog G_ce := (Qa s_z (Qa s_ar (Qa s_ca (Qa s_cb (Qa s_cd Qd)))))
abbrev c_ce_7 : Cut := ⟨i_ce_7, o_ce_7, fun x => Qc l_ce_7 lots x⟩
theorem k_ce_7 : Qz Tryz.prog 63 (.loop (nav Tryz.f26 [1, 1, 1, 0, 1, 0, 0])) c_ce_7 :=
  Qj (L := []) hT g_ce (fun _ _ => by kernel_rfl) okP _
theorem r_ce (x) : QL T G_ce [(7, c_ce_7)] Tryz.f26 C_ce.ps C_ce.rs x = C_ce.F x := by kernel_rfl
theorem s_ce : Qb Tryz.prog 26 C_ce := fnC (L := [(7, c_ce_7)]) hT g_ce Tryz.f26 (okS okP (okS okP (okS okP (okS (okS okP (okB (okU k_ce_7))) okP)))) r_ce
abbrev i_cf_2 : Shp := { slots := [(5, .s (.dat Y32)), (6, .s (.dat YI)), (7, .s (.dat YI))], boxes := [], rows := [] }
def l_cf_2 (rec : i_cf_2.den → Option (denO o_l_4)) (u : i_cf_2.den) : Option (denO o_l_4) :=
 if (ltI u.1.2.2.1 u.1.2.1) then
  if 0 ≤ u.1.2.2.1 then
   ((u.1.1)[(u.1.2.2.1).toNat]?).bind fun y3 =>
   if (y3 != (0 : Int)) then
    some (.inr (.inl ((y3, ()), ((), ()))))
   else
    let v4 := (IntKind.i64.wrap (u.1.2.2.1 + (1 : Int)))
    rec ((u.1.1, (u.1.2.1, (v4, ()))), ((), ()))
  else none
 else
  some (.inl ((), ((), ())))
def L_cf_2 (x : i_cf_2.den) : Option (denO o_l_4) := Qc l_cf_2 lots x
def F_cf (x : denP P_av) : FO P_av R_c :=
 let v1 := ((x.1.length : Nat) : Int)
 (L_cf_2 ((x.1, (v1, ((0 : Int), ()))), ((), ()))).bind fun z5 =>
 match z5 with
 | .inl x6 =>
  some (((0 : Int), ()), ())
 | .inr z5_ =>
  match z5_ with
  | .inl x7 =>
   some ((x7.1.1, ()), ())
  | .inr z5__ =>
   none
abbrev C_cf : Con := ⟨P_av, R_c, F_cf, false⟩
abbrev c_cf_2 : Cut := ⟨i_cf_2, o_l_4, fun x => Qc l_cf_2 lots x⟩
theorem k_cf_2 : Qz Tryz.prog 15 (.loop (nav Tryz.f40 [1, 0, 1, 0, 0])) c_cf_2 :=
  Qj (L := []) hT g_a (fun _ _ => by kernel_rfl) okP _
theorem r_cf (x) : QL T G_a [(2, c_cf_2)] Tryz.f40 C_cf.ps C_cf.rs x = C_cf.F x := by kernel_rfl
theorem s_cf : Qb Tryz.prog 40 C_cf := fnC (L := [(2, c_cf_2)]) hT g_a Tryz.f40 (okS okP (okS (okS okP (okB (okU k_cf_2))) okP)) r_cf
abbrev P_cg_1 : List PK := [.val Y34, .ptr YI]
def F_cg_1 (x : denP P_cg_1) : FO P_cg_1 R_a :=
 let v1 := (IntKind.i64.wrap (x.1.2.2.2.2.2.1 + x.2.1))
 some (((ltI (1000000 : Int) v1), ()), ())
abbrev C_cg_1 : Con := ⟨P_cg_1, R_a, F_cg_1, false⟩
theorem s_cg_1 : Qb Tryz.prog 76 C_cg_1 := fnC (L := []) hT g_a Tryz.f76 okP fun _ => by kernel_rfl
abbrev P_ch_1 : List PK := [.val Y129, .fn 76 [YI]]
abbrev i_ci_2 : Shp := { slots := [(0, .s (.dat Y129)), (1, .s (.fn 76 [YI])), (7, .s (.dat YI)), (8, .s (.dat YI))], boxes := [], rows := [] }
def l_ci_2 (rec : i_ci_2.den → Option (denO o_j_2)) (u : i_ci_2.den) : Option (denO o_j_2) :=
 if (ltI u.1.2.2.2.1 u.1.2.2.1) then
  if 0 ≤ u.1.2.2.2.1 then
   ((u.1.1)[(u.1.2.2.2.1).toNat]?).bind fun y4 =>
   (F_cg_1 (y4, u.1.2.1.1, ())).bind fun r5 =>
   if r5.1.1 then
    some (.inr (.inl ((u.1.2.2.2.1, ()), ((), ()))))
   else
    let v6 := (IntKind.i64.wrap (u.1.2.2.2.1 + (1 : Int)))
    rec ((u.1.1, ((u.1.2.1.1, ()), (u.1.2.2.1, (v6, ())))), ((), ()))
  else none
 else
  some (.inl ((), ((), ())))
def L_ci_2 (x : i_ci_2.den) : Option (denO o_j_2) := Qc l_ci_2 lots x
def F_ch_1 (x : denP P_ch_1) : FO P_ch_1 R_c :=
 let v1 := ((x.1.length : Nat) : Int)
 (L_ci_2 ((x.1, ((x.2.1.1, ()), (v1, ((0 : Int), ())))), ((), ()))).bind fun z7 =>
 match z7 with
 | .inl x8 =>
  some (((-1 : Int), ()), ())
 | .inr z7_ =>
  match z7_ with
  | .inl x9 =>
   some ((x9.1.1, ()), ())
  | .inr z7__ =>
   none
abbrev C_ch_1 : Con := ⟨P_ch_1, R_c, F_ch_1, false⟩
abbrev G_ch_1 : Env := [(76, C_cg_1)]
theorem g_ch_1 : Qh Tryz.prog G_ch_1 := (Qa s_cg_1 Qd)
abbrev c_ci_2 : Cut := ⟨i_ci_2, o_j_2, fun x => Qc l_ci_2 lots x⟩
theorem k_ci_2 : Qz Tryz.prog 19 (.loop (nav Tryz.f101 [1, 0, 1, 0, 0])) c_ci_2 :=
  Qj (L := []) hT g_ch_1 (fun _ _ => by kernel_rfl) okP _
theorem r_ch_1 (x) : QL T G_ch_1 [(2, c_ci_2)] Tryz.f101 C_ch_1.ps C_ch_1.rs x = C_ch_1.F x := by kernel_rfl
theorem s_ch_1 : Qb Tryz.prog 101 C_ch_1 := fnC (L := [(2, c_ci_2)]) hT g_ch_1 Tryz.f101 (okS okP (okS (okS okP (okB (okU k_ci_2))) okP)) r_ch_1
def F_cj_1 (x : denP P_ch_1) : FO P_ch_1 R_a :=
 (F_ch_1 (x.1, (x.2.1.1, ()), ())).bind fun r1 =>
 some (((leI (0 : Int) r1.1.1), ()), ())
abbrev C_cj_1 : Con := ⟨P_ch_1, R_a, F_cj_1, false⟩
abbrev G_cj_1 : Env := [(101, C_ch_1)]
theorem g_cj_1 : Qh Tryz.prog G_cj_1 := (Qa s_ch_1 Qd)
theorem s_cj_1 : Qb Tryz.prog 75 C_cj_1 := fnC (L := []) hT g_cj_1 Tryz.f75 okP fun _ => by kernel_rfl
abbrev P_cg : List PK := [.val YI, .val Y129]
def F_cg (x : denP P_cg) : FO P_cg R_c :=
 (F_z (x.1, (0 : Int), (200 : Int), ())).bind fun r1 =>
 if (!r1.1.1) = false then
  (F_cj_1 (x.2.1, (x.1, ()), ())).bind fun r2 =>
  if r2.1.1 then
   some (((3 : Int), ()), ())
  else
   some (((0 : Int), ()), ())
 else
  some (((3 : Int), ()), ())
abbrev C_cg : Con := ⟨P_cg, R_c, F_cg, false⟩
abbrev G_cg : Env := [(27, C_z), (75, C_cj_1)]
theorem g_cg : Qh Tryz.prog G_cg := (Qa s_z (Qa s_cj_1 Qd))
theorem s_cg : Qb Tryz.prog 41 C_cg := fnC (L := []) hT g_cg Tryz.f41 okP fun _ => by kernel_rfl
abbrev P_ck : List PK := [.val Y33]
abbrev R_ck : List VK := [.s (.own 47 Y46)]
def F_ck (x : denP P_ck) : FO P_ck R_ck :=
  if (([] : List (den Y46)).length + x.1.length) * 120 ≤ 140737488355328 then some (([] ++ x.1, ()), ()) else none
abbrev C_ck : Con := ⟨P_ck, R_ck, F_ck, false⟩
theorem s_ck : Qb Tryz.prog 64 C_ck :=
  QcI hT (fn := Tryz.f64) (cn := C_ck) (c0 := nav Tryz.f64 [0]) (ca := nav Tryz.f64 [1, 0, 1, 0]) (cb := nav Tryz.f64 [1, 1]) (id := 1) (d := 4) (nm := 1032000) (o1 := Qet Tryz.f64 [1, 0, 0] 0) (o2 := Qet Tryz.f64 [1, 0, 0] 1)
    (t := 33) (t' := 33) (x := .tmp 3) (r := ⟨Y33, [], 47, 24, 3000047⟩) (u := Y46) (by kernel_rfl) (by kernel_rfl) (by kernel_rfl) ⟨by kernel_rfl, by kernel_rfl⟩ (fun y => by kernel_rfl) (by kernel_rfl) (by kernel_rfl) (by kernel_rfl) (by kernel_rfl) (by kernel_rfl) rfl
    (fun y => (st0 Tryz.f64 P_ck y).set 2 (.s .nls)) (fun y => ((st0 Tryz.f64 P_ck y).set 2 (.s .nls)).set 3 (.s (.d (.slice Y46) y.1))) (fun y => y.1)
    (fun y => by kernel_rfl) (fun y => by kernel_rfl) (fun y => by kernel_rfl) (fun y => Nat.le_of_ble_eq_true (by kernel_rfl)) (fun y => by kernel_rfl) (by kernel_rfl) (by kernel_rfl) (by kernel_rfl) (fun y => by kernel_rfl)
    (fun y h => by obtain ⟨l, v⟩ := y; have h : l = [] := h; subst h; show run _ _ _ _ _ _ = F_ck ([], v); kernel_rfl) (fun y => by kernel_rfl)
abbrev R_cl : List VK := [.g [.own 2 YI, .dat YI, .own 2 YI, .dat .bool, .dat .bool, .dat .bool, .dat YI, .own 2 YI, .own 2 YI]]
def F_cl (x : denP P_cb) : FO P_cb R_cl :=
 (F_av (x.1.1, ())).bind fun r1 =>
 (F_av (x.1.2.2.1, ())).bind fun r2 =>
 (F_av (x.1.2.2.2.2.2.2.2.1, ())).bind fun r3 =>
 (F_av (x.1.2.2.2.2.2.2.2.2.1, ())).bind fun r4 =>
 some (((r1.1.1, (x.1.2.1, (r2.1.1, (x.1.2.2.2.1, (x.1.2.2.2.2.1, (x.1.2.2.2.2.2.1, (x.1.2.2.2.2.2.2.1, (r3.1.1, (r4.1.1, ()))))))))), ()), ())
abbrev C_cl : Con := ⟨P_cb, R_cl, F_cl, false⟩
abbrev G_cl : Env := [(57, C_av)]
theorem g_cl : Qh Tryz.prog G_cl := (Qa s_av Qd)
theorem s_cl : Qb Tryz.prog 35 C_cl := fnC (L := []) hT g_cl Tryz.f35 okP fun _ => by kernel_rfl
abbrev R_cm : List VK := [.g [.own 32 Y32, .own 42 Y41, .own 112 Y70, .own 71 Y70, .own 2 YI, .own 47 Y46, .dat YI, .dat YI, .dat YI]]
abbrev i_cm_5 : Shp := { slots := [(1, .s (.ptr 1 0)), (2, .s (.ptr 2 0)), (18, .s (.dat YI)), (19, .s (.dat YI))], boxes := [(1, [.own 32 Y32, .own 42 Y41, .own 112 Y70, .own 71 Y70, .own 2 YI, .own 47 Y46, .dat YI, .dat YI, .dat YI]), (2, [.own 32 Y32, .own 42 Y41, .own 112 Y70, .own 71 Y70, .own 2 YI, .own 47 Y46, .dat YI, .dat YI, .dat YI])], rows := [] }
abbrev o_cm_5 : List (Ex × Shp) := [(.exit 0, { slots := [(1, .s (.ptr 1 0)), (2, .s (.ptr 2 0))], boxes := [(1, [.own 32 Y32, .own 42 Y41, .own 112 Y70, .own 71 Y70, .own 2 YI, .own 47 Y46, .dat YI, .dat YI, .dat YI]), (2, [.own 32 Y32, .own 42 Y41, .own 112 Y70, .own 71 Y70, .own 2 YI, .own 47 Y46, .dat YI, .dat YI, .dat YI])], rows := [] })]
def l_cm_5 (rec : i_cm_5.den → Option (denO o_cm_5)) (u : i_cm_5.den) : Option (denO o_cm_5) :=
 if (ltI u.1.2.2.2.1 u.1.2.2.1) then
  if 0 ≤ u.1.2.2.2.1 ∧ u.1.2.2.2.1 < ((u.2.1.1.2.2.2.2.2.1.length : Nat) : Int) then
   ((u.2.1.1.2.2.2.2.2.1)[(u.1.2.2.2.1).toNat]?).bind fun y8 =>
   (F_cl (y8, ())).bind fun r9 =>
   if 0 ≤ u.1.2.2.2.1 ∧ u.1.2.2.2.1 < ((u.2.1.1.2.2.2.2.2.1.length : Nat) : Int) then
    ((u.2.1.1.2.2.2.2.2.1)[(u.1.2.2.2.1).toNat]?).bind fun y10 =>
    let v11 := (u.2.1.1.2.2.2.2.2.1.set (u.1.2.2.2.1).toNat r9.1.1)
    let v12 := (IntKind.i64.wrap (u.1.2.2.2.1 + (1 : Int)))
    rec (((), ((), (u.1.2.2.1, (v12, ())))), (((u.2.1.1.1, (u.2.1.1.2.1, (u.2.1.1.2.2.1, (u.2.1.1.2.2.2.1, (u.2.1.1.2.2.2.2.1, (v11, (u.2.1.1.2.2.2.2.2.2.1, (u.2.1.1.2.2.2.2.2.2.2.1, (u.2.1.1.2.2.2.2.2.2.2.2.1, ()))))))))), (u.2.1.2.1, ())), ()))
   else none
  else none
 else
  some (.inl (((), ((), ())), ((u.2.1.1, (u.2.1.2.1, ())), ())))
def L_cm_5 (x : i_cm_5.den) : Option (denO o_cm_5) := Qc l_cm_5 lots x
def F_cm (x : denP P_ce) : FO P_ce R_cm :=
 (F_az (x.1.1, ())).bind fun r1 =>
 (F_av (x.1.2.1, ())).bind fun r2 =>
 (F_ck (x.1.2.2.1, ())).bind fun r3 =>
 let v4 := ((r3.1.1.length : Nat) : Int)
 (L_cm_5 (((), ((), (v4, ((0 : Int), ())))), (((r1.1.1.1, (r1.1.1.2.1, (r1.1.1.2.2.1, (r1.1.1.2.2.2.1, (r2.1.1, (r3.1.1, (x.1.2.2.2.1, (x.1.2.2.2.2.1, (x.1.2.2.2.2.2.1, ()))))))))), ((([] : List (den Y32)), (([] : List (den Y41)), (([] : List (den Y70)), (([] : List (den Y70)), (([] : List (den YI)), (([] : List (den Y46)), ((0 : Int), ((0 : Int), ((0 : Int), ()))))))))), ())), ()))).bind fun z13 =>
 match z13 with
 | .inl x14 =>
  some ((x14.2.1.1, ()), ())
 | .inr z13_ =>
  none
abbrev C_cm : Con := ⟨P_ce, R_cm, F_cm, false⟩
abbrev G_cm : Env := [(24, C_az), (35, C_cl), (57, C_av), (64, C_ck)]
theorem g_cm : Qh Tryz.prog G_cm := (Qa s_az (Qa s_cl (Qa s_av (Qa s_ck Qd))))
abbrev c_cm_5 : Cut := ⟨i_cm_5, o_cm_5, fun x => Qc l_cm_5 lots x⟩
theorem k_cm_5 : Qz Tryz.prog 34 (.loop (nav Tryz.f28 [1, 1, 1, 1, 0, 1, 0, 0])) c_cm_5 :=
  Qj (L := []) hT g_cm (fun _ _ => by kernel_rfl) okP _
theorem r_cm (x) : QL T G_cm [(5, c_cm_5)] Tryz.f28 C_cm.ps C_cm.rs x = C_cm.F x := by kernel_rfl
theorem s_cm : Qb Tryz.prog 28 C_cm := fnC (L := [(5, c_cm_5)]) hT g_cm Tryz.f28 (okS okP (okS okP (okS okP (okS okP (okS (okS okP (okB (okU k_cm_5))) okP))))) r_cm
def F_cn (x : denP P_f) : FO P_f R_v :=
 let v1 := (IntKind.i64.wrap (x.2.1 * (8 : Int)))
 let v2 := (IntKind.i64.wrap (x.2.1 + (1 : Int)))
 let v3 := (IntKind.i64.wrap (v2 * (8 : Int)))
 if 0 ≤ v1 ∧ v1 ≤ v3 ∧ v3 ≤ ((x.1.length : Nat) : Int) then
  let v4 := ((x.1.drop (v1).toNat).take ((v3).toNat - (v1).toNat))
  (F_av (v4, ())).bind fun r5 =>
  some ((r5.1.1, ()), ())
 else none
abbrev C_cn : Con := ⟨P_f, R_v, F_cn, false⟩
theorem g_cn : Qh Tryz.prog G_cl := (Qa s_av Qd)
theorem s_cn : Qb Tryz.prog 32 C_cn := fnC (L := []) hT g_cn Tryz.f32 okP fun _ => by kernel_rfl
abbrev P_co : List PK := [.val Y32, .val Y32]
abbrev i_co_3 : Shp := { slots := [(0, .s (.dat Y32)), (5, .s (.own 2 YI)), (9, .s (.dat Y32)), (10, .s (.dat YI)), (11, .s (.dat YI))], boxes := [], rows := [] }
def l_co_3 (rec : i_co_3.den → Option (denO o_bo_3)) (u : i_co_3.den) : Option (denO o_bo_3) :=
 if (ltI u.1.2.2.2.2.1 u.1.2.2.2.1) then
  if 0 ≤ u.1.2.2.2.2.1 then
   ((u.1.2.2.1)[(u.1.2.2.2.2.1).toNat]?).bind fun y4 =>
   (F_cn (u.1.1, y4, ())).bind fun r5 =>
   if (u.1.2.1.length + r5.1.1.length) * 8 ≤ 140737488355328 then
    let v6 := (u.1.2.1 ++ r5.1.1)
    let v7 := (IntKind.i64.wrap (u.1.2.2.2.2.1 + (1 : Int)))
    rec ((u.1.1, (v6, (u.1.2.2.1, (u.1.2.2.2.1, (v7, ()))))), ((), ()))
   else none
  else none
 else
  some (.inl ((u.1.2.1, ()), ((), ())))
def L_co_3 (x : i_co_3.den) : Option (denO o_bo_3) := Qc l_co_3 lots x
def F_co (x : denP P_co) : FO P_co R_v :=
 let v1 := ((x.2.1.length : Nat) : Int)
 (L_co_3 ((x.1, (([] : List (den YI)), (x.2.1, (v1, ((0 : Int), ()))))), ((), ()))).bind fun z8 =>
 match z8 with
 | .inl x9 =>
  some ((x9.1.1, ()), ())
 | .inr z8_ =>
  none
abbrev C_co : Con := ⟨P_co, R_v, F_co, false⟩
abbrev G_co : Env := [(32, C_cn)]
theorem g_co : Qh Tryz.prog G_co := (Qa s_cn Qd)
abbrev c_co_3 : Cut := ⟨i_co_3, o_bo_3, fun x => Qc l_co_3 lots x⟩
theorem k_co_3 : Qz Tryz.prog 22 (.loop (nav Tryz.f77 [1, 1, 0, 1, 0, 0])) c_co_3 :=
  Qj (L := []) hT g_co (fun _ _ => by kernel_rfl) okP _
theorem r_co (x) : QL T G_co [(3, c_co_3)] Tryz.f77 C_co.ps C_co.rs x = C_co.F x := by kernel_rfl
theorem s_co : Qb Tryz.prog 77 C_co := fnC (L := [(3, c_co_3)]) hT g_co Tryz.f77 (okS okP (okS okP (okS (okS okP (okB (okU k_co_3))) okP))) r_co
abbrev P_cp : List PK := [.ptr Y34, .val YI]
abbrev R_cp : List VK := [.g [.own 2 YI, .dat YI, .own 2 YI, .dat .bool, .dat .bool, .dat .bool, .dat YI, .own 2 YI, .own 2 YI, .own 2 YI, .own 2 YI]]
abbrev i_cp_3 : Shp := { slots := [(0, .s (.pd Y34)), (1, .s (.dat YI)), (4, .s (.ptr 4 0)), (5, .s (.ptr 5 0)), (34, .s (.dat Y25)), (35, .s (.dat YI)), (36, .s (.dat YI))], boxes := [(4, [.own 2 YI, .dat YI, .own 2 YI, .dat .bool, .dat .bool, .dat .bool, .dat YI, .own 2 YI, .own 2 YI, .own 2 YI, .own 2 YI]), (5, [.own 2 YI, .dat YI, .own 2 YI, .dat .bool, .dat .bool, .dat .bool, .dat YI, .own 2 YI, .own 2 YI, .own 2 YI, .own 2 YI])], rows := [] }
abbrev o_cp_3 : List (Ex × Shp) := [(.exit 0, { slots := [(4, .s (.ptr 4 0)), (5, .s (.ptr 5 0))], boxes := [(4, [.own 2 YI, .dat YI, .own 2 YI, .dat .bool, .dat .bool, .dat .bool, .dat YI, .own 2 YI, .own 2 YI, .own 2 YI, .own 2 YI]), (5, [.own 2 YI, .dat YI, .own 2 YI, .dat .bool, .dat .bool, .dat .bool, .dat YI, .own 2 YI, .own 2 YI, .own 2 YI, .own 2 YI])], rows := [] })]
def l_cp_3 (rec : i_cp_3.den → Option (denO o_cp_3)) (u : i_cp_3.den) : Option (denO o_cp_3) :=
 if (ltI u.1.2.2.2.2.2.2.1 u.1.2.2.2.2.2.1) then
  if 0 ≤ u.1.2.2.2.2.2.2.1 then
   ((u.1.2.2.2.2.1)[(u.1.2.2.2.2.2.2.1).toNat]?).bind fun y8 =>
   if (y8.1 == u.1.2.1) then
    (F_cn (u.1.1.2.1, y8.2.2.1, ())).bind fun r9 =>
    if (u.2.1.2.1.2.2.2.2.2.2.2.2.2.2.1.length + r9.1.1.length) * 8 ≤ 140737488355328 then
     let v10 := (u.2.1.2.1.2.2.2.2.2.2.2.2.2.2.1 ++ r9.1.1)
     let v11 := (IntKind.i64.wrap (u.1.2.2.2.2.2.2.1 + (1 : Int)))
     rec ((u.1.1, (u.1.2.1, ((), ((), (u.1.2.2.2.2.1, (u.1.2.2.2.2.2.1, (v11, ()))))))), ((u.2.1.1, ((u.2.1.2.1.1, (u.2.1.2.1.2.1, (u.2.1.2.1.2.2.1, (u.2.1.2.1.2.2.2.1, (u.2.1.2.1.2.2.2.2.1, (u.2.1.2.1.2.2.2.2.2.1, (u.2.1.2.1.2.2.2.2.2.2.1, (u.2.1.2.1.2.2.2.2.2.2.2.1, (u.2.1.2.1.2.2.2.2.2.2.2.2.1, (u.2.1.2.1.2.2.2.2.2.2.2.2.2.1, (v10, ()))))))))))), ())), ()))
    else none
   else
    let v12 := (IntKind.i64.wrap (u.1.2.2.2.2.2.2.1 + (1 : Int)))
    rec ((u.1.1, (u.1.2.1, ((), ((), (u.1.2.2.2.2.1, (u.1.2.2.2.2.2.1, (v12, ()))))))), ((u.2.1.1, (u.2.1.2.1, ())), ()))
  else none
 else
  some (.inl (((), ((), ())), ((u.2.1.1, (u.2.1.2.1, ())), ())))
def L_cp_3 (x : i_cp_3.den) : Option (denO o_cp_3) := Qc l_cp_3 lots x
def F_cp (x : denP P_cp) : FO P_cp R_cp :=
 if 0 ≤ x.2.1 then
  ((x.1.2.2.1)[(x.2.1).toNat]?).bind fun y1 =>
  (F_cl (y1, ())).bind fun r2 =>
  if 0 ≤ x.2.1 then
   ((x.1.1.1)[(x.2.1).toNat]?).bind fun y3 =>
   (F_co (x.1.2.1, y3, ())).bind fun r4 =>
   let v5 := ((x.1.1.2.1.length : Nat) : Int)
   (L_cp_3 ((x.1, (x.2.1, ((), ((), (x.1.1.2.1, (v5, ((0 : Int), ()))))))), (((([] : List (den YI)), ((0 : Int), (([] : List (den YI)), (false, (false, (false, ((0 : Int), (([] : List (den YI)), (([] : List (den YI)), (([] : List (den YI)), (([] : List (den YI)), ()))))))))))), ((r2.1.1.1, (r2.1.1.2.1, (r2.1.1.2.2.1, (r2.1.1.2.2.2.1, (r2.1.1.2.2.2.2.1, (r2.1.1.2.2.2.2.2.1, (r2.1.1.2.2.2.2.2.2.1, (r2.1.1.2.2.2.2.2.2.2.1, (r2.1.1.2.2.2.2.2.2.2.2.1, (r4.1.1, (([] : List (den YI)), ()))))))))))), ())), ()))).bind fun z13 =>
   match z13 with
   | .inl x14 =>
    some ((x14.2.1.2.1, ()), ())
   | .inr z13_ =>
    none
  else none
 else none
abbrev C_cp : Con := ⟨P_cp, R_cp, F_cp, false⟩
abbrev G_cp : Env := [(32, C_cn), (35, C_cl), (77, C_co)]
theorem g_cp : Qh Tryz.prog G_cp := (Qa s_cn (Qa s_cl (Qa s_co Qd)))
abbrev c_cp_3 : Cut := ⟨i_cp_3, o_cp_3, fun x => Qc l_cp_3 lots x⟩
theorem k_cp_3 : Qz Tryz.prog 57 (.loop (nav Tryz.f43 [1, 1, 0, 1, 0, 0])) c_cp_3 :=
  Qj (L := []) hT g_cp (fun _ _ => by kernel_rfl) okP _
theorem r_cp (x) : QL T G_cp [(3, c_cp_3)] Tryz.f43 C_cp.ps C_cp.rs x = C_cp.F x := by kernel_rfl
theorem s_cp : Qb Tryz.prog 43 C_cp := fnC (L := [(3, c_cp_3)]) hT g_cp Tryz.f43 (okS okP (okS okP (okS (okS okP (okB (okU k_cp_3))) okP))) r_cp
abbrev i_cq_4 : Shp := { slots := [(0, .s (.dat Y32)), (1, .s (.dat Y32)), (12, .s (.dat YI)), (13, .s (.dat YI))], boxes := [], rows := [] }
def l_cq_4 (rec : i_cq_4.den → Option (denO o_f_2)) (u : i_cq_4.den) : Option (denO o_f_2) :=
 if (ltI u.1.2.2.2.1 u.1.2.2.1) then
  if 0 ≤ u.1.2.2.2.1 then
   ((u.1.1)[(u.1.2.2.2.1).toNat]?).bind fun y6 =>
   if 0 ≤ u.1.2.2.2.1 then
    ((u.1.2.1)[(u.1.2.2.2.1).toNat]?).bind fun y7 =>
    if (y6 != y7) then
     some (.inr (.inl ((false, ()), ((), ()))))
    else
     let v8 := (IntKind.i64.wrap (u.1.2.2.2.1 + (1 : Int)))
     rec ((u.1.1, (u.1.2.1, (u.1.2.2.1, (v8, ())))), ((), ()))
   else none
  else none
 else
  some (.inl ((), ((), ())))
def L_cq_4 (x : i_cq_4.den) : Option (denO o_f_2) := Qc l_cq_4 lots x
def F_cq (x : denP P_co) : FO P_co R_a :=
 let v1 := ((x.1.length : Nat) : Int)
 let v2 := ((x.2.1.length : Nat) : Int)
 if (v1 != v2) then
  some ((false, ()), ())
 else
  let v3 := ((x.1.length : Nat) : Int)
  (L_cq_4 ((x.1, (x.2.1, (v3, ((0 : Int), ())))), ((), ()))).bind fun z9 =>
  match z9 with
  | .inl x10 =>
   some ((true, ()), ())
  | .inr z9_ =>
   match z9_ with
   | .inl x11 =>
    some ((x11.1.1, ()), ())
   | .inr z9__ =>
    none
abbrev C_cq : Con := ⟨P_co, R_a, F_cq, false⟩
abbrev c_cq_4 : Cut := ⟨i_cq_4, o_f_2, fun x => Qc l_cq_4 lots x⟩
theorem k_cq_4 : Qz Tryz.prog 26 (.loop (nav Tryz.f85 [1, 1, 0, 1, 0, 0])) c_cq_4 :=
  Qj (L := []) hT g_a (fun _ _ => by kernel_rfl) okP _
theorem r_cq (x) : QL T G_a [(4, c_cq_4)] Tryz.f85 C_cq.ps C_cq.rs x = C_cq.F x := by kernel_rfl
theorem s_cq : Qb Tryz.prog 85 C_cq := fnC (L := [(4, c_cq_4)]) hT g_a Tryz.f85 (okS okP (okS okP (okS (okS okP (okB (okU k_cq_4))) okP))) r_cq
abbrev P_cr : List PK := [.val Y46, .val Y46]
def F_cr (x : denP P_cr) : FO P_cr R_a :=
 (F_cq (x.1.1, x.2.1.1, ())).bind fun r1 =>
 if r1.1.1 = true then
  if (x.1.2.1 == x.2.1.2.1) = true then
   (F_cq (x.1.2.2.1, x.2.1.2.2.1, ())).bind fun r2 =>
   if r2.1.1 = true then
    if (x.1.2.2.2.1 == x.2.1.2.2.2.1) = true then
     if (x.1.2.2.2.2.1 == x.2.1.2.2.2.2.1) = true then
      if (x.1.2.2.2.2.2.1 == x.2.1.2.2.2.2.2.1) = true then
       if (x.1.2.2.2.2.2.2.1 == x.2.1.2.2.2.2.2.2.1) = true then
        (F_cq (x.1.2.2.2.2.2.2.2.1, x.2.1.2.2.2.2.2.2.2.1, ())).bind fun r3 =>
        if r3.1.1 = true then
         (F_cq (x.1.2.2.2.2.2.2.2.2.1, x.2.1.2.2.2.2.2.2.2.2.1, ())).bind fun r4 =>
         some ((r4.1.1, ()), ())
        else
         some ((false, ()), ())
       else
        some ((false, ()), ())
      else
       some ((false, ()), ())
     else
      some ((false, ()), ())
    else
     some ((false, ()), ())
   else
    some ((false, ()), ())
  else
   some ((false, ()), ())
 else
  some ((false, ()), ())
abbrev C_cr : Con := ⟨P_cr, R_a, F_cr, false⟩
abbrev G_cr : Env := [(85, C_cq)]
theorem g_cr : Qh Tryz.prog G_cr := (Qa s_cq Qd)
theorem s_cr : Qb Tryz.prog 84 C_cr := fnC (L := []) hT g_cr Tryz.f84 okP fun _ => by kernel_rfl
abbrev P_cs : List PK := [.val Y92, .val Y92]
def F_cs (x : denP P_cs) : FO P_cs R_a :=
 (F_cr (x.1.1, x.2.1.1, ())).bind fun r1 =>
 if r1.1.1 = true then
  (F_cq (x.1.2.1, x.2.1.2.1, ())).bind fun r2 =>
  if r2.1.1 = true then
   (F_cq (x.1.2.2.1, x.2.1.2.2.1, ())).bind fun r3 =>
   some ((r3.1.1, ()), ())
  else
   some ((false, ()), ())
 else
  some ((false, ()), ())
abbrev C_cs : Con := ⟨P_cs, R_a, F_cs, false⟩
abbrev G_cs : Env := [(84, C_cr), (85, C_cq)]
theorem g_cs : Qh Tryz.prog G_cs := (Qa s_cr (Qa s_cq Qd))
theorem s_cs : Qb Tryz.prog 55 C_cs := fnC (L := []) hT g_cs Tryz.f55 okP fun _ => by kernel_rfl
abbrev P_ct : List PK := [.ptr Y34]
def F_ct (x : denP P_ct) : FO P_ct R_c :=
 if 0 ≤ x.1.2.2.2.1 then
  ((x.1.1.2.2.2.1)[(x.1.2.2.2.1).toNat]?).bind fun y1 =>
  some ((y1.1, ()), ())
 else none
abbrev C_ct : Con := ⟨P_ct, R_c, F_ct, false⟩
theorem s_ct : Qb Tryz.prog 45 C_ct := fnC (L := []) hT g_a Tryz.f45 okP fun _ => by kernel_rfl
abbrev P_cu : List PK := []
def F_cu (x : denP P_cu) : FO P_cu R_s :=
 some ((((-1 : Int), ((0 : Int), ())), ()), ())
abbrev C_cu : Con := ⟨P_cu, R_s, F_cu, false⟩
theorem s_cu : Qb Tryz.prog 73 C_cu := fnC (L := []) hT g_a Tryz.f73 okP fun _ => by kernel_rfl
abbrev P_cv : List PK := [.val (.int .u64), .val (.int .u64)]
abbrev R_cv : List VK := [.s (.dat (.int .u64)), .s (.dat (.int .u64))]
def F_cv (x : denP P_cv) : FO P_cv R_cv :=
 let v1 := (iand .u64 x.1 (4294967295 : Int))
 let v2 := ((x.1).fdiv (2 ^ 32))
 let v3 := (iand .u64 x.2.1 (4294967295 : Int))
 let v4 := ((x.2.1).fdiv (2 ^ 32))
 let v5 := (IntKind.u64.wrap (v1 * v3))
 let v6 := (IntKind.u64.wrap (v2 * v3))
 let v7 := ((v5).fdiv (2 ^ 32))
 let v8 := (IntKind.u64.wrap (v6 + v7))
 let v9 := (iand .u64 v8 (4294967295 : Int))
 let v10 := ((v8).fdiv (2 ^ 32))
 let v11 := (IntKind.u64.wrap (v1 * v4))
 let v12 := (IntKind.u64.wrap (v9 + v11))
 let v13 := (IntKind.u64.wrap (v2 * v4))
 let v14 := (IntKind.u64.wrap (v13 + v10))
 let v15 := ((v12).fdiv (2 ^ 32))
 let v16 := (IntKind.u64.wrap (v14 + v15))
 let v17 := (IntKind.u64.wrap (x.1 * x.2.1))
 some ((v16, v17, ()), ())
abbrev C_cv : Con := ⟨P_cv, R_cv, F_cv, false⟩
theorem s_cv : Qb Tryz.prog 127 C_cv := fnC (L := []) hT g_a Tryz.f127 okP fun _ => by kernel_rfl
def F_cw (x : denP P_cv) : FO P_cv R_cv :=
 (F_cv (x.1, x.2.1, ())).bind fun r1 =>
 some ((r1.1.1, r1.1.2.1, ()), ())
abbrev C_cw : Con := ⟨P_cv, R_cv, F_cw, false⟩
abbrev G_cw : Env := [(127, C_cv)]
theorem g_cw : Qh Tryz.prog G_cw := (Qa s_cv Qd)
theorem s_cw : Qb Tryz.prog 100 C_cw := fnC (L := []) hT g_cw Tryz.f100 okP fun _ => by kernel_rfl
abbrev P_cx : List PK := [.val Y26, .val YI]
abbrev R_cx : List VK := [.s (.own 84 Y70)]
abbrev i_cx_8 : Shp := { slots := [(7, .s (.own 84 Y70)), (8, .s (.dat YI))], boxes := [], rows := [] }
abbrev o_cx_8 : List (Ex × Shp) := [(.exit 0, { slots := [(7, .s (.own 84 Y70))], boxes := [], rows := [] })]
def l_cx_8 (rec : i_cx_8.den → Option (denO o_cx_8)) (u : i_cx_8.den) : Option (denO o_cx_8) :=
 let v8 := ((u.1.1.length : Nat) : Int)
 if (ltI u.1.2.1 v8) then
  if 0 ≤ u.1.2.1 ∧ u.1.2.1 ≤ ((u.1.1.length : Nat) : Int) ∧ ((u.1.1.length : Nat) : Int) ≤ ((u.1.1.length : Nat) : Int) then
   if 0 ≤ (0 : Int) ∧ (0 : Int) ≤ u.1.2.1 ∧ u.1.2.1 ≤ ((u.1.1.length : Nat) : Int) then
    if 0 < ((((u.1.1.length : Nat) : Int)).toNat - (u.1.2.1).toNat) ∧ 0 < ((u.1.1.drop (0 + ((0 : Int)).toNat)).take ((u.1.2.1).toNat - ((0 : Int)).toNat)).length then
     let v9 := (splc u.1.1 ((u.1.1.drop (0 + ((0 : Int)).toNat)).take ((u.1.2.1).toNat - ((0 : Int)).toNat)) (0 + (u.1.2.1).toNat) ((((u.1.1.length : Nat) : Int)).toNat - (u.1.2.1).toNat))
     let v10 := ((min ((((u.1.1.length : Nat) : Int)).toNat - (u.1.2.1).toNat) ((u.1.1.drop (0 + ((0 : Int)).toNat)).take ((u.1.2.1).toNat - ((0 : Int)).toNat)).length : Nat) : Int)
     let v11 := (IntKind.i64.wrap (u.1.2.1 + v10))
     rec ((v9, (v11, ())), ((), ()))
    else none
   else none
  else none
 else
  some (.inl ((u.1.1, ()), ((), ())))
def L_cx_8 (x : i_cx_8.den) : Option (denO o_cx_8) := Qc l_cx_8 lots x
def F_cx (x : denP P_cx) : FO P_cx R_cx :=
 if (ltI x.2.1 (0 : Int)) then none else
 let v1 := ((x.1.length : Nat) : Int)
 let v2 := (IntKind.u64.wrap v1)
 let v3 := (IntKind.u64.wrap x.2.1)
 (F_cw (v2, v3, ())).bind fun r4 =>
 if (ltI (0 : Int) r4.1.1) = false then
  if (ltI (9223372036854775807 : Int) r4.1.2.1) then none else
  let v5 := (IntKind.i64.wrap r4.1.2.1)
  if v5 = v5 ∧ 0 ≤ v5 ∧ v5 * 16 ≤ 140737488355328 ∧ v5 ≤ 9223372036854775807 then
   if 0 < (List.replicate (v5).toNat (QbO Y70)).length ∧ 0 < x.1.length then
    let v6 := (splc (List.replicate (v5).toNat (QbO Y70)) x.1 0 (List.replicate (v5).toNat (QbO Y70)).length)
    let v7 := ((min (List.replicate (v5).toNat (QbO Y70)).length x.1.length : Nat) : Int)
    (L_cx_8 ((v6, (v7, ())), ((), ()))).bind fun z12 =>
    match z12 with
    | .inl x13 =>
     some ((x13.1.1, ()), ())
    | .inr z12_ =>
     none
   else none
  else none
 else none
abbrev C_cx : Con := ⟨P_cx, R_cx, F_cx, false⟩
abbrev G_cx : Env := [(100, C_cw)]
theorem g_cx : Qh Tryz.prog G_cx := (Qa s_cw Qd)
abbrev c_cx_8 : Cut := ⟨i_cx_8, o_cx_8, fun x => Qc l_cx_8 lots x⟩
theorem k_cx_8 : Qz Tryz.prog 48 (.loop (nav Tryz.f72 [1, 1, 1, 1, 1, 1, 0, 0, 0])) c_cx_8 :=
  Qj (L := []) hT g_cx (fun _ _ => by kernel_rfl) okP _
theorem r_cx (x) : QL T G_cx [(8, c_cx_8)] Tryz.f72 C_cx.ps C_cx.rs x = C_cx.F x := by kernel_rfl
theorem s_cx : Qb Tryz.prog 72 C_cx := fnC (L := [(8, c_cx_8)]) hT g_cx Tryz.f72 (okS okP (okS okP (okS okP (okS okP (okS okP (okS okP (okS (okB (okU k_cx_8)) okP))))))) r_cx
abbrev i_cy_8 : Shp := { slots := [(1, .s (.dat YI)), (5, .s (.own 84 Y70)), (35, .s (.dat Y25)), (36, .s (.dat YI)), (37, .s (.dat YI))], boxes := [], rows := [] }
abbrev o_cy_8 : List (Ex × Shp) := [(.exit 2, { slots := [(5, .s (.own 84 Y70))], boxes := [], rows := [] })]
def l_cy_8 (rec : i_cy_8.den → Option (denO o_cy_8)) (u : i_cy_8.den) : Option (denO o_cy_8) :=
 if (ltI u.1.2.2.2.2.1 u.1.2.2.2.1) then
  if 0 ≤ u.1.2.2.2.2.1 then
   ((u.1.2.2.1)[(u.1.2.2.2.2.1).toNat]?).bind fun y18 =>
   if (y18.1 == u.1.1) then
    if 0 ≤ y18.2.2.2.1 ∧ y18.2.2.2.1 < ((u.1.2.1.length : Nat) : Int) then
     ((u.1.2.1)[(y18.2.2.2.1).toNat]?).bind fun y19 =>
     let v20 := (u.1.2.1.set (y18.2.2.2.1).toNat (y18.2.2.1, ((3 : Int), ())))
     if (y18.2.1 == u.1.1) then
      if 0 ≤ y18.2.2.2.2.1 ∧ y18.2.2.2.2.1 < ((v20.length : Nat) : Int) then
       ((v20)[(y18.2.2.2.2.1).toNat]?).bind fun y21 =>
       let v22 := (v20.set (y18.2.2.2.2.1).toNat (y18.2.2.1, ((1 : Int), ())))
       let v23 := (IntKind.i64.wrap (u.1.2.2.2.2.1 + (1 : Int)))
       rec ((u.1.1, (v22, (u.1.2.2.1, (u.1.2.2.2.1, (v23, ()))))), ((), ()))
      else none
     else
      let v24 := (IntKind.i64.wrap (u.1.2.2.2.2.1 + (1 : Int)))
      rec ((u.1.1, (v20, (u.1.2.2.1, (u.1.2.2.2.1, (v24, ()))))), ((), ()))
    else none
   else
    if (y18.2.1 == u.1.1) then
     if 0 ≤ y18.2.2.2.2.1 ∧ y18.2.2.2.2.1 < ((u.1.2.1.length : Nat) : Int) then
      ((u.1.2.1)[(y18.2.2.2.2.1).toNat]?).bind fun y25 =>
      let v26 := (u.1.2.1.set (y18.2.2.2.2.1).toNat (y18.2.2.1, ((1 : Int), ())))
      let v27 := (IntKind.i64.wrap (u.1.2.2.2.2.1 + (1 : Int)))
      rec ((u.1.1, (v26, (u.1.2.2.1, (u.1.2.2.2.1, (v27, ()))))), ((), ()))
     else none
    else
     let v28 := (IntKind.i64.wrap (u.1.2.2.2.2.1 + (1 : Int)))
     rec ((u.1.1, (u.1.2.1, (u.1.2.2.1, (u.1.2.2.2.1, (v28, ()))))), ((), ()))
  else none
 else
  some (.inl ((u.1.2.1, ()), ((), ())))
def L_cy_8 (x : i_cy_8.den) : Option (denO o_cy_8) := Qc l_cy_8 lots x
abbrev i_cy_3 : Shp := { slots := [(0, .s (.pd Y28)), (1, .s (.dat YI)), (5, .s (.own 84 Y70)), (19, .s (.dat Y32)), (20, .s (.dat YI)), (21, .s (.dat YI))], boxes := [], rows := [] }
abbrev o_cy_3 : List (Ex × Shp) := [(.exit 0, { slots := [(0, .s (.pd Y28)), (1, .s (.dat YI)), (5, .s (.own 84 Y70))], boxes := [], rows := [] })]
def l_cy_3 (rec : i_cy_3.den → Option (denO o_cy_3)) (u : i_cy_3.den) : Option (denO o_cy_3) :=
 if (ltI u.1.2.2.2.2.2.1 u.1.2.2.2.2.1) then
  if 0 ≤ u.1.2.2.2.2.2.1 then
   ((u.1.2.2.2.1)[(u.1.2.2.2.2.2.1).toNat]?).bind fun y7 =>
   if 0 ≤ u.1.2.2.2.2.2.1 ∧ u.1.2.2.2.2.2.1 < ((u.1.2.2.1.length : Nat) : Int) then
    ((u.1.2.2.1)[(u.1.2.2.2.2.2.1).toNat]?).bind fun y8 =>
    let v9 := (u.1.2.2.1.set (u.1.2.2.2.2.2.1).toNat (y7, ((7 : Int), ())))
    let v10 := (IntKind.i64.wrap (u.1.2.2.2.2.2.1 + (1 : Int)))
    rec ((u.1.1, (u.1.2.1, (v9, (u.1.2.2.2.1, (u.1.2.2.2.2.1, (v10, ())))))), ((), ()))
   else none
  else none
 else
  some (.inl ((u.1.1, (u.1.2.1, (u.1.2.2.1, ()))), ((), ())))
def L_cy_3 (x : i_cy_3.den) : Option (denO o_cy_3) := Qc l_cy_3 lots x
def F_cy (x : denP P_h) : FO P_h R_cx :=
 (F_cu ()).bind fun r1 =>
 (F_cx ([r1.1.1], (8 : Int), ())).bind fun r2 =>
 if 0 ≤ x.2.1 then
  ((x.1.1)[(x.2.1).toNat]?).bind fun y3 =>
  let v4 := ((y3.length : Nat) : Int)
  (L_cy_3 ((x.1, (x.2.1, (r2.1.1, (y3, (v4, ((0 : Int), ())))))), ((), ()))).bind fun z11 =>
  match z11 with
  | .inl x12 =>
   let v13 := ((x12.1.1.2.1.length : Nat) : Int)
   (L_cy_8 ((x12.1.2.1, (x12.1.2.2.1, (x12.1.1.2.1, (v13, ((0 : Int), ()))))), ((), ()))).bind fun z29 =>
   match z29 with
   | .inl x30 =>
    some ((x30.1.1, ()), ())
   | .inr z29_ =>
    none
  | .inr z11_ =>
   none
 else none
abbrev C_cy : Con := ⟨P_h, R_cx, F_cy, false⟩
abbrev G_cy : Env := [(72, C_cx), (73, C_cu)]
theorem g_cy : Qh Tryz.prog G_cy := (Qa s_cx (Qa s_cu Qd))
abbrev c_cy_8 : Cut := ⟨i_cy_8, o_cy_8, fun x => Qc l_cy_8 lots x⟩
theorem k_cy_8 : Qz Tryz.prog 65 (.loop (nav Tryz.f34 [1, 1, 1, 0, 1, 0, 0])) c_cy_8 :=
  Qj (L := []) hT g_cy (fun _ _ => by kernel_rfl) okP _
abbrev c_cy_3 : Cut := ⟨i_cy_3, o_cy_3, fun x => Qc l_cy_3 lots x⟩
theorem k_cy_3 : Qz Tryz.prog 65 (.loop (nav Tryz.f34 [1, 1, 0, 1, 0, 0])) c_cy_3 :=
  Qj (L := []) hT g_cy (fun _ _ => by kernel_rfl) okP _
theorem r_cy (x) : QL T G_cy [(8, c_cy_8), (3, c_cy_3)] Tryz.f34 C_cy.ps C_cy.rs x = C_cy.F x := by kernel_rfl
theorem s_cy : Qb Tryz.prog 34 C_cy := fnC (L := [(8, c_cy_8), (3, c_cy_3)]) hT g_cy Tryz.f34 (okS okP (okS okP (okS (okS okP (okB (okU k_cy_3))) (okS (okS okP (okB (okU k_cy_8))) okP)))) r_cy
abbrev P_cz : List PK := [.ptr Y46]
def F_cz (x : denP P_cz) : FO P_cz R_c :=
 ((x.1.2.2.1)[((9 : Int)).toNat]?).bind fun y1 =>
 if (y1 != (0 : Int)) = true then
  ((x.1.2.2.1)[((9 : Int)).toNat]?).bind fun y2 =>
  if (leI y2 x.1.2.2.2.2.2.2.1) then
   let v3 := (ior .i64 (0 : Int) (1 : Int))
   if x.1.2.2.2.2.2.1 then
    let v4 := (ior .i64 v3 (2 : Int))
    let v5 := ((x.1.2.2.2.2.2.2.2.1.length : Nat) : Int)
    if (ltI (0 : Int) v5) then
     let v6 := (ior .i64 v4 (4 : Int))
     some ((v6, ()), ())
    else
     some ((v4, ()), ())
   else
    let v7 := ((x.1.2.2.2.2.2.2.2.1.length : Nat) : Int)
    if (ltI (0 : Int) v7) then
     let v8 := (ior .i64 v3 (4 : Int))
     some ((v8, ()), ())
    else
     some ((v3, ()), ())
  else
   if x.1.2.2.2.2.2.1 then
    let v9 := (ior .i64 (0 : Int) (2 : Int))
    let v10 := ((x.1.2.2.2.2.2.2.2.1.length : Nat) : Int)
    if (ltI (0 : Int) v10) then
     let v11 := (ior .i64 v9 (4 : Int))
     some ((v11, ()), ())
    else
     some ((v9, ()), ())
   else
    let v12 := ((x.1.2.2.2.2.2.2.2.1.length : Nat) : Int)
    if (ltI (0 : Int) v12) then
     let v13 := (ior .i64 (0 : Int) (4 : Int))
     some ((v13, ()), ())
    else
     some (((0 : Int), ()), ())
 else
  if x.1.2.2.2.2.2.1 then
   let v14 := (ior .i64 (0 : Int) (2 : Int))
   let v15 := ((x.1.2.2.2.2.2.2.2.1.length : Nat) : Int)
   if (ltI (0 : Int) v15) then
    let v16 := (ior .i64 v14 (4 : Int))
    some ((v16, ()), ())
   else
    some ((v14, ()), ())
  else
   let v17 := ((x.1.2.2.2.2.2.2.2.1.length : Nat) : Int)
   if (ltI (0 : Int) v17) then
    let v18 := (ior .i64 (0 : Int) (4 : Int))
    some ((v18, ()), ())
   else
    some (((0 : Int), ()), ())
abbrev C_cz : Con := ⟨P_cz, R_c, F_cz, false⟩
theorem s_cz : Qb Tryz.prog 119 C_cz := fnC (L := []) hT g_a Tryz.f119 okP fun _ => by kernel_rfl
def tzF (n : Int) : Option Int := if n = 1 ∨ n = 3 ∨ n = 5 ∨ n = 7 then some 0 else if n = 2 ∨ n = 6 then some 1 else if n = 4 then some 2 else none
def F_da (x : denP P_bp) : FO P_bp R_c := match tzF x.1 with | some z => some ((z, ()), ()) | none => none
abbrev C_da : Con := ⟨P_bp, R_c, F_da, false⟩
theorem w_da (n : Int) (k : Nat) (z : Int) (hn : (n == 0) = false) (w : World) (hr : 0 ≤ IntKind.u64.wrap (bits BinOp.and IntKind.u64 n (IntKind.u64.wrap (-n)) * 285870213051353865) / 288230376151711744 ∧ IntKind.u64.wrap (bits BinOp.and IntKind.u64 n (IntKind.u64.wrap (-n)) * 285870213051353865) / 288230376151711744 < 64)
    (he : (IntKind.u64.wrap (bits BinOp.and IntKind.u64 n (IntKind.u64.wrap (-n)) * 285870213051353865) / 288230376151711744).toNat = k)
    (h : w.cell? { block := 0, off := k } = some (.int .u8 z)) (hz : IntKind.i64.wrap z = z) : Calls Tryz.prog 144 #[.int .u64 n] w fun e' w' => e' = .returned (.int .i64 z) ∧ w' = w := by
  go_enter Tryz.func144, Tryz.ntmps144
  go_wp2
  all_goals first | (go_ret; exact ⟨rfl, rfl⟩) | exact absurd hr ‹¬ _› | simp_all
theorem v_da {n z : Int} (h : tzF n = some z) {M : Nat → Nat → Prop} {w : World} (hl : Laid M w) : Calls Tryz.prog 144 #[.int .u64 n] w fun e' w' => e' = .returned (.int .i64 z) ∧ w' = w := by
  have hg : ∀ i v, (0, i, v) ∈ GL → w.cell? { block := 0, off := i } = some v := by
    intro i v hm
    obtain ⟨⟨c, e, fz, h1, h2⟩, _⟩ := hl _ hm
    simp only at h1 h2
    simp [World.cell?, h1, h2]
  have g0 := hg 0 (.int .u8 0) (by simp [GL])
  have g1 := hg 1 (.int .u8 1) (by simp [GL])
  have g3 := hg 3 (.int .u8 2) (by simp [GL])
  have key : ((n = 1 ∨ n = 3 ∨ n = 5 ∨ n = 7) ∧ z = 0) ∨ ((n = 2 ∨ n = 6) ∧ z = 1) ∨ (n = 4 ∧ z = 2) := by
    unfold tzF at h
    split at h
    · exact .inl ⟨‹_›, (Osj h).symm⟩
    · split at h
      · exact .inr (.inl ⟨‹_›, (Osj h).symm⟩)
      · split at h
        · exact .inr (.inr ⟨‹_›, (Osj h).symm⟩)
        · cases h
  clear h
  rcases key with ⟨h | h | h | h, rfl⟩ | ⟨h | h, rfl⟩ | ⟨h, rfl⟩ <;> subst h
  all_goals first
    | exact w_da _ 0 _ (by decide) w (by decide +kernel) (by decide +kernel) g0 (by decide +kernel)
    | exact w_da _ 1 _ (by decide) w (by decide +kernel) (by decide +kernel) g1 (by decide +kernel)
    | exact w_da _ 3 _ (by decide) w (by decide +kernel) (by decide +kernel) g3 (by decide +kernel)
theorem u_da : Qfx Tryz.prog 144 C_da := by
  intro x y hx w args S Q B M F hp ha _
  obtain ⟨v, vs', rfl, ⟨cs, h1, h2⟩, rfl, rfl⟩ := ha
  have e1 : v = .int .u64 x.1 := by
    have h1 : cs = [v] := h1
    subst h1
    simpa [Rp] using h2
  subst e1
  have hx : F_da x = some y := hx
  unfold F_da at hx
  split at hx
  · rename_i z hz
    obtain rfl := Osj hx
    refine (v_da hz hp.laid).mono fun r w' h => ?_
    obtain ⟨rfl, rfl⟩ := h
    refine ⟨_, rfl, Kept.refl M w', [.int .i64 z], [], [], rfl, ⟨_, [], [], [], rfl, rfl, ⟨⟨[.int .i64 z], rfl, rfl⟩, rfl⟩, rfl, rfl⟩, ⟨_, [], rfl, rfl, rfl⟩, List.nodup_nil, fun b hb => by cases hb⟩
  · cases hx
theorem s_da : Qb Tryz.prog 144 C_da := (u_da).ok (Qgt Tryz.func144 (by decide +kernel) (by kernel_rfl))
def F_db (x : denP P_cz) : FO P_cz R_c :=
 (F_cz (x.1, ())).bind fun r1 =>
 ((x.1.2.2.1)[((7 : Int)).toNat]?).bind fun y2 =>
 let v3 := (iand .i64 r1.1.1 y2)
 ((x.1.2.2.1)[((0 : Int)).toNat]?).bind fun y4 =>
 let v5 := ((y4).tmod (2 : Int))
 if (v5 == (0 : Int)) = false then
  if (v3 == (0 : Int)) then
   some (((-1 : Int), ()), ())
  else
   let v6 := (IntKind.u64.wrap v3)
   (F_da (v6, ())).bind fun r7 =>
   some ((r7.1.1, ()), ())
 else
  some (((-1 : Int), ()), ())
abbrev C_db : Con := ⟨P_cz, R_c, F_db, false⟩
abbrev G_db : Env := [(119, C_cz), (144, C_da)]
theorem g_db : Qh Tryz.prog G_db := (Qa s_cz (Qa s_da Qd))
theorem s_db : Qb Tryz.prog 117 C_db := fnC (L := []) hT g_db Tryz.f117 okP fun _ => by kernel_rfl
abbrev P_dc : List PK := [.box [.own 2 YI, .dat YI, .own 2 YI, .dat .bool, .dat .bool, .dat .bool, .dat YI, .own 2 YI, .own 2 YI] [.own 2 YI, .dat YI, .own 2 YI, .dat .bool, .dat .bool, .dat .bool, .dat YI, .own 2 YI, .own 2 YI], .val YI, .val YI]
def F_dc (x : denP P_dc) : FO P_dc R_br :=
 if 0 ≤ (2 : Int) ∧ (2 : Int) < ((x.1.2.2.1.length : Nat) : Int) then
  ((x.1.2.2.1)[((2 : Int)).toNat]?).bind fun y1 =>
  let v2 := (x.1.2.2.1.set ((2 : Int)).toNat x.1.2.1)
  if 0 ≤ (3 : Int) ∧ (3 : Int) < ((v2.length : Nat) : Int) then
   ((v2)[((3 : Int)).toNat]?).bind fun y3 =>
   let v4 := (v2.set ((3 : Int)).toNat x.2.1)
   if 0 ≤ (4 : Int) ∧ (4 : Int) < ((v4.length : Nat) : Int) then
    ((v4)[((4 : Int)).toNat]?).bind fun y5 =>
    let v6 := (v4.set ((4 : Int)).toNat x.2.2.1)
    if 0 ≤ (0 : Int) ∧ (0 : Int) < ((v6.length : Nat) : Int) then
     ((v6)[((0 : Int)).toNat]?).bind fun y7 =>
     let v8 := ((y7).tmod (2 : Int))
     let v9 := (IntKind.i64.wrap (v8 * (2 : Int)))
     if 0 ≤ (0 : Int) ∧ (0 : Int) < ((v6.length : Nat) : Int) then
      ((v6)[((0 : Int)).toNat]?).bind fun y10 =>
      let v11 := (v6.set ((0 : Int)).toNat v9)
      if 0 ≤ (1 : Int) ∧ (1 : Int) < ((v11.length : Nat) : Int) then
       ((v11)[((1 : Int)).toNat]?).bind fun y12 =>
       some ((), ((x.1.1, (y12, (v11, (x.1.2.2.2.1, (false, (x.1.2.2.2.2.2.1, (x.1.2.2.2.2.2.2.1, (x.1.2.2.2.2.2.2.2.1, (x.1.2.2.2.2.2.2.2.2.1, ()))))))))), ()))
      else none
     else none
    else none
   else none
  else none
 else none
abbrev C_dc : Con := ⟨P_dc, R_br, F_dc, false⟩
theorem s_dc : Qb Tryz.prog 145 C_dc := fnC (L := []) hT g_a Tryz.f145 okP fun _ => by kernel_rfl
abbrev P_dd : List PK := [.box [.own 2 YI, .dat YI, .own 2 YI, .dat .bool, .dat .bool, .dat .bool, .dat YI, .own 2 YI, .own 2 YI, .dat Y26, .own 2 YI, .dat YI, .dat YI] [.own 2 YI, .dat YI, .own 2 YI, .dat .bool, .dat .bool, .dat .bool, .dat YI, .own 2 YI, .own 2 YI, .dat Y26, .own 2 YI, .dat YI, .dat YI], .val YI, .val YI]
def F_dd (x : denP P_dd) : FO P_dd R_br :=
 (F_dc ((x.1.1, (x.1.2.1, (x.1.2.2.1, (x.1.2.2.2.1, (x.1.2.2.2.2.1, (x.1.2.2.2.2.2.1, (x.1.2.2.2.2.2.2.1, (x.1.2.2.2.2.2.2.2.1, (x.1.2.2.2.2.2.2.2.2.1, ()))))))))), x.2.1, x.2.2.1, ())).bind fun r1 =>
 some ((), ((r1.2.1.1, (r1.2.1.2.1, (r1.2.1.2.2.1, (r1.2.1.2.2.2.1, (r1.2.1.2.2.2.2.1, (r1.2.1.2.2.2.2.2.1, (r1.2.1.2.2.2.2.2.2.1, (r1.2.1.2.2.2.2.2.2.2.1, (r1.2.1.2.2.2.2.2.2.2.2.1, (x.1.2.2.2.2.2.2.2.2.2.1, (x.1.2.2.2.2.2.2.2.2.2.2.1, (x.2.1, (x.1.2.2.2.2.2.2.2.2.2.2.2.2.1, ()))))))))))))), ()))
abbrev C_dd : Con := ⟨P_dd, R_br, F_dd, false⟩
abbrev G_dd : Env := [(145, C_dc)]
theorem g_dd : Qh Tryz.prog G_dd := (Qa s_dc Qd)
theorem s_dd : Qb Tryz.prog 118 C_dd := fnC (L := []) hT g_dd Tryz.f118 okP fun _ => by kernel_rfl
def F_de (x : denP P_o) : FO P_o R_s :=
 let v1 := (IntKind.i64.wrap ((x.1).tdiv (8 : Int)))
 let v2 := ((x.1).tmod (8 : Int))
 if (v2 == (0 : Int)) = false then
  if (leI (8 : Int) v1) then
   (F_cu ()).bind fun r3 =>
   some ((r3.1.1, ()), ())
  else
   some (((v1, (v2, ())), ()), ())
 else
  (F_cu ()).bind fun r4 =>
  some ((r4.1.1, ()), ())
abbrev C_de : Con := ⟨P_o, R_s, F_de, false⟩
abbrev G_de : Env := [(73, C_cu)]
theorem g_de : Qh Tryz.prog G_de := (Qa s_cu Qd)
theorem s_de : Qb Tryz.prog 177 C_de := fnC (L := []) hT g_de Tryz.f177 okP fun _ => by kernel_rfl
end Go.Proofs.YtmoninjbahccoaaGreatDoor
