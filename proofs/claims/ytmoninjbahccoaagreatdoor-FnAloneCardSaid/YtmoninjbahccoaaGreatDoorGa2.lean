/- The functions of the laws, each as a plain function of data (F), and that the program's text does what F says. Printed by a program (wip/tools/gen.py). -/
import Derived.Test.YtmoninjbahccoaaGreatDoorGa1
namespace Go.Proofs.YtmoninjbahccoaaGreatDoor
open Go Go.RowKit S Go.Proofs
set_option maxRecDepth 100000
set_option linter.unusedVariables false
abbrev P_ax : List PK := [.val Y26]
abbrev R_ax : List VK := [.s (.own 112 Y70)]
def F_ax (x : denP P_ax) : FO P_ax R_ax :=
  if (([] : List (den Y70)).length + x.1.length) * 16 ≤ 140737488355328 then some (([] ++ x.1, ()), ()) else none
abbrev C_ax : Con := ⟨P_ax, R_ax, F_ax, false⟩
theorem s_ax : Qb Tryz.prog 59 C_ax :=
  QbZ hT (fn := Tryz.f59) (cn := C_ax) (c0 := nav Tryz.f59 [0]) (ca := nav Tryz.f59 [1, 0, 1, 0]) (cb := nav Tryz.f59 [1, 1]) (id := 1) (d := 4) (nm := 1032000) (o1 := Qdt Tryz.f59 [1, 0, 0] 0) (o2 := Qdt Tryz.f59 [1, 0, 0] 1)
    (t := 26) (t' := 26) (x := .tmp 3) (r := ⟨Y26, [], 112, 24, 0⟩) (u := Y70) (by kernel_rfl) (by kernel_rfl) (by kernel_rfl) ⟨by kernel_rfl, by kernel_rfl⟩ (fun y => by kernel_rfl) (by kernel_rfl) (by kernel_rfl) (by kernel_rfl) (by kernel_rfl) (by kernel_rfl) rfl
    (fun y => (st0 Tryz.f59 P_ax y).set 2 (.s .nls)) (fun y => ((st0 Tryz.f59 P_ax y).set 2 (.s .nls)).set 3 (.s (.d (.slice Y70) y.1))) (fun y => y.1)
    (fun y => by kernel_rfl) (fun y => by kernel_rfl) (fun y => by kernel_rfl) (fun y => Nat.le_of_ble_eq_true (by kernel_rfl)) (fun y => by kernel_rfl) (by kernel_rfl) (by kernel_rfl) (by kernel_rfl) (fun y => by kernel_rfl)
    (fun y h => by obtain ⟨l, v⟩ := y; have h : l = [] := h; subst h; show run _ _ _ _ _ _ = F_ax ([], v); kernel_rfl) (fun y => by kernel_rfl)
abbrev R_ay : List VK := [.s (.own 71 Y70)]
def F_ay (x : denP P_ax) : FO P_ax R_ay :=
  if (([] : List (den Y70)).length + x.1.length) * 16 ≤ 140737488355328 then some (([] ++ x.1, ()), ()) else none
abbrev C_ay : Con := ⟨P_ax, R_ay, F_ay, false⟩
theorem s_ay : Qb Tryz.prog 60 C_ay :=
  QbZ hT (fn := Tryz.f60) (cn := C_ay) (c0 := nav Tryz.f60 [0]) (ca := nav Tryz.f60 [1, 0, 1, 0]) (cb := nav Tryz.f60 [1, 1]) (id := 1) (d := 4) (nm := 1032000) (o1 := Qdt Tryz.f60 [1, 0, 0] 0) (o2 := Qdt Tryz.f60 [1, 0, 0] 1)
    (t := 27) (t' := 27) (x := .tmp 3) (r := ⟨Y26, [], 71, 24, 0⟩) (u := Y70) (by kernel_rfl) (by kernel_rfl) (by kernel_rfl) ⟨by kernel_rfl, by kernel_rfl⟩ (fun y => by kernel_rfl) (by kernel_rfl) (by kernel_rfl) (by kernel_rfl) (by kernel_rfl) (by kernel_rfl) rfl
    (fun y => (st0 Tryz.f60 P_ax y).set 2 (.s .nls)) (fun y => ((st0 Tryz.f60 P_ax y).set 2 (.s .nls)).set 3 (.s (.d (.slice Y70) y.1))) (fun y => y.1)
    (fun y => by kernel_rfl) (fun y => by kernel_rfl) (fun y => by kernel_rfl) (fun y => Nat.le_of_ble_eq_true (by kernel_rfl)) (fun y => by kernel_rfl) (by kernel_rfl) (by kernel_rfl) (by kernel_rfl) (fun y => by kernel_rfl)
    (fun y h => by obtain ⟨l, v⟩ := y; have h : l = [] := h; subst h; show run _ _ _ _ _ _ = F_ay ([], v); kernel_rfl) (fun y => by kernel_rfl)
abbrev i_az_3 : Shp := { slots := [(1, .s (.ptr 1 0)), (2, .s (.ptr 2 0)), (10, .s (.dat YI)), (11, .s (.dat YI))], boxes := [(1, [.own 32 Y32, .dat Y25, .dat Y26, .dat Y26]), (2, [.own 32 Y32, .own 42 Y41, .own 112 Y70, .own 71 Y70])], rows := [] }
abbrev o_az_3 : List (Ex × Shp) := [(.exit 0, { slots := [(1, .s (.ptr 1 0)), (2, .s (.ptr 2 0))], boxes := [(1, [.own 32 Y32, .dat Y25, .dat Y26, .dat Y26]), (2, [.own 32 Y32, .own 42 Y41, .own 112 Y70, .own 71 Y70])], rows := [] })]
def l_az_3 (rec : i_az_3.den → Option (denO o_az_3)) (u : i_az_3.den) : Option (denO o_az_3) :=
 if (ltI u.1.2.2.2.1 u.1.2.2.1) then
  if 0 ≤ u.1.2.2.2.1 ∧ u.1.2.2.2.1 < ((u.2.1.1.1.length : Nat) : Int) then
   ((u.2.1.1.1)[(u.1.2.2.2.1).toNat]?).bind fun y6 =>
   (F_av (y6, ())).bind fun r7 =>
   if 0 ≤ u.1.2.2.2.1 ∧ u.1.2.2.2.1 < ((u.2.1.1.1.length : Nat) : Int) then
    ((u.2.1.1.1)[(u.1.2.2.2.1).toNat]?).bind fun y8 =>
    let v9 := (u.2.1.1.1.set (u.1.2.2.2.1).toNat r7.1.1)
    let v10 := (IntKind.i64.wrap (u.1.2.2.2.1 + (1 : Int)))
    rec (((), ((), (u.1.2.2.1, (v10, ())))), (((v9, (u.2.1.1.2.1, (u.2.1.1.2.2.1, (u.2.1.1.2.2.2.1, ())))), (u.2.1.2.1, ())), ()))
   else none
  else none
 else
  some (.inl (((), ((), ())), ((u.2.1.1, (u.2.1.2.1, ())), ())))
def L_az_3 (x : i_az_3.den) : Option (denO o_az_3) := Qc l_az_3 lots x
def F_az (x : denP P_ar) : FO P_ar R_m :=
 (F_au (x.1.1, ())).bind fun r1 =>
 let v2 := ((r1.1.1.length : Nat) : Int)
 (L_az_3 (((), ((), (v2, ((0 : Int), ())))), (((r1.1.1, (x.1.2.1, (x.1.2.2.1, (x.1.2.2.2.1, ())))), ((([] : List (den Y32)), (([] : List (den Y41)), (([] : List (den Y70)), (([] : List (den Y70)), ())))), ())), ()))).bind fun z11 =>
 match z11 with
 | .inl x12 =>
  (F_aw (x12.2.1.1.2.1, ())).bind fun r13 =>
  (F_ax (x12.2.1.1.2.2.1, ())).bind fun r14 =>
  (F_ay (x12.2.1.1.2.2.2.1, ())).bind fun r15 =>
  some (((x12.2.1.1.1, (r13.1.1, (r14.1.1, (r15.1.1, ())))), ()), ())
 | .inr z11_ =>
  none
abbrev C_az : Con := ⟨P_ar, R_m, F_az, false⟩
abbrev G_az : Env := [(54, C_au), (57, C_av), (58, C_aw), (59, C_ax), (60, C_ay)]
theorem g_az : Qh Tryz.prog G_az := (Qa s_au (Qa s_av (Qa s_aw (Qa s_ax (Qa s_ay Qd)))))
abbrev c_az_3 : Cut := ⟨i_az_3, o_az_3, fun x => Qc l_az_3 lots x⟩
theorem k_az_3 : QB Tryz.prog 38 (.loop (nav Tryz.f24 [1, 1, 0, 1, 0, 0])) c_az_3 :=
  Qj (L := []) hT g_az (fun _ _ => by kernel_rfl) okP _
theorem r_az (x) : QL T G_az [(3, c_az_3)] Tryz.f24 C_az.ps C_az.rs x = C_az.F x := by kernel_rfl
theorem s_az : Qb Tryz.prog 24 C_az := fnC (L := [(3, c_az_3)]) hT g_az Tryz.f24 (okS okP (okS okP (okS (okS okP (okB (okU k_az_3))) okP))) r_az
def F_ba (x : denP P_o) : FO P_o R_a :=
 (F_z (x.1, (0 : Int), (4294967295 : Int), ())).bind fun r1 =>
 some ((r1.1.1, ()), ())
abbrev C_ba : Con := ⟨P_o, R_a, F_ba, false⟩
theorem g_ba : Qh Tryz.prog G_aa := (Qa s_z Qd)
theorem s_ba : Qb Tryz.prog 91 C_ba := fnC (L := []) hT g_ba Tryz.f91 okP fun _ => by kernel_rfl
def F_bb_1 (x : denP P_o) : FO P_o R_a :=
 (F_ba (x.1, ())).bind fun r1 =>
 some (((!r1.1.1), ()), ())
abbrev C_bb_1 : Con := ⟨P_o, R_a, F_bb_1, false⟩
abbrev G_bb_1 : Env := [(91, C_ba)]
theorem g_bb_1 : Qh Tryz.prog G_bb_1 := (Qa s_ba Qd)
theorem s_bb_1 : Qb Tryz.prog 90 C_bb_1 := fnC (L := []) hT g_bb_1 Tryz.f90 okP fun _ => by kernel_rfl
abbrev P_bc_1 : List PK := [.val Y32, .fn 90 []]
abbrev i_bd_2 : Shp := { slots := [(0, .s (.dat Y32)), (1, .s (.fn 90 [])), (7, .s (.dat YI)), (8, .s (.dat YI))], boxes := [], rows := [] }
def l_bd_2 (rec : i_bd_2.den → Option (denO o_j_2)) (u : i_bd_2.den) : Option (denO o_j_2) :=
 if (ltI u.1.2.2.2.1 u.1.2.2.1) then
  if 0 ≤ u.1.2.2.2.1 then
   ((u.1.1)[(u.1.2.2.2.1).toNat]?).bind fun y4 =>
   (F_bb_1 (y4, ())).bind fun r5 =>
   if r5.1.1 then
    some (.inr (.inl ((u.1.2.2.2.1, ()), ((), ()))))
   else
    let v6 := (IntKind.i64.wrap (u.1.2.2.2.1 + (1 : Int)))
    rec ((u.1.1, ((), (u.1.2.2.1, (v6, ())))), ((), ()))
  else none
 else
  some (.inl ((), ((), ())))
def L_bd_2 (x : i_bd_2.den) : Option (denO o_j_2) := Qc l_bd_2 lots x
def F_bc_1 (x : denP P_bc_1) : FO P_bc_1 R_c :=
 let v1 := ((x.1.length : Nat) : Int)
 (L_bd_2 ((x.1, ((), (v1, ((0 : Int), ())))), ((), ()))).bind fun z7 =>
 match z7 with
 | .inl x8 =>
  some (((-1 : Int), ()), ())
 | .inr z7_ =>
  match z7_ with
  | .inl x9 =>
   some ((x9.1.1, ()), ())
  | .inr z7__ =>
   none
abbrev C_bc_1 : Con := ⟨P_bc_1, R_c, F_bc_1, false⟩
abbrev G_bc_1 : Env := [(90, C_bb_1)]
theorem g_bc_1 : Qh Tryz.prog G_bc_1 := (Qa s_bb_1 Qd)
abbrev c_bd_2 : Cut := ⟨i_bd_2, o_j_2, fun x => Qc l_bd_2 lots x⟩
theorem k_bd_2 : QB Tryz.prog 19 (.loop (nav Tryz.f116 [1, 0, 1, 0, 0])) c_bd_2 :=
  Qj (L := []) hT g_bc_1 (fun _ _ => by kernel_rfl) okP _
theorem r_bc_1 (x) : QL T G_bc_1 [(2, c_bd_2)] Tryz.f116 C_bc_1.ps C_bc_1.rs x = C_bc_1.F x := by kernel_rfl
theorem s_bc_1 : Qb Tryz.prog 116 C_bc_1 := fnC (L := [(2, c_bd_2)]) hT g_bc_1 Tryz.f116 (okS okP (okS (okS okP (okB (okU k_bd_2))) okP)) r_bc_1
def F_be_1 (x : denP P_bc_1) : FO P_bc_1 R_a :=
 (F_bc_1 (x.1, (), ())).bind fun r1 =>
 some (((leI (0 : Int) r1.1.1), ()), ())
abbrev C_be_1 : Con := ⟨P_bc_1, R_a, F_be_1, false⟩
abbrev G_be_1 : Env := [(116, C_bc_1)]
theorem g_be_1 : Qh Tryz.prog G_be_1 := (Qa s_bc_1 Qd)
theorem s_be_1 : Qb Tryz.prog 89 C_be_1 := fnC (L := []) hT g_be_1 Tryz.f89 okP fun _ => by kernel_rfl
def F_bb (x : denP P_av) : FO P_av R_a :=
 (F_be_1 (x.1, (), ())).bind fun r1 =>
 some (((!r1.1.1), ()), ())
abbrev C_bb : Con := ⟨P_av, R_a, F_bb, false⟩
abbrev G_bb : Env := [(89, C_be_1)]
theorem g_bb : Qh Tryz.prog G_bb := (Qa s_be_1 Qd)
theorem s_bb : Qb Tryz.prog 61 C_bb := fnC (L := []) hT g_bb Tryz.f61 okP fun _ => by kernel_rfl
abbrev R_bf : List VK := [.g [.dat YI, .own 2 YI, .dat YI, .own 2 YI, .dat .bool, .dat .bool, .dat .bool, .dat YI, .own 2 YI, .own 2 YI]]
def F_bf (x : denP P_av) : FO P_av R_bf :=
 let v1 := ((x.1.length : Nat) : Int)
 if (ltI (40 : Int) v1) then
  some ((((2 : Int), (([] : List (den YI)), ((0 : Int), (([] : List (den YI)), (false, (false, (false, ((0 : Int), (([] : List (den YI)), (([] : List (den YI)), ())))))))))), ()), ())
 else
  (F_bb (x.1, ())).bind fun r2 =>
  if (!r2.1.1) then
   some ((((3 : Int), (([] : List (den YI)), ((0 : Int), (([] : List (den YI)), (false, (false, (false, ((0 : Int), (([] : List (den YI)), (([] : List (den YI)), ())))))))))), ()), ())
  else
   (F_av (x.1, ())).bind fun r3 =>
   some ((((0 : Int), ((List.replicate ((16 : Int)).toNat (QbB YI)), ((0 : Int), ((List.replicate ((11 : Int)).toNat (QbB YI)), (false, (false, (false, ((0 : Int), (r3.1.1, (([] : List (den YI)), ())))))))))), ()), ())
abbrev C_bf : Con := ⟨P_av, R_bf, F_bf, false⟩
abbrev G_bf : Env := [(57, C_av), (61, C_bb)]
theorem g_bf : Qh Tryz.prog G_bf := (Qa s_av (Qa s_bb Qd))
theorem s_bf : Qb Tryz.prog 25 C_bf := fnC (L := []) hT g_bf Tryz.f25 okP fun _ => by kernel_rfl
abbrev P_bg : List PK := [.val Y28, .val Y24, .val Y24]
abbrev R_bg : List VK := [.g [.dat YI, .own 32 Y32, .own 42 Y41, .own 112 Y70, .own 71 Y70, .own 2 YI, .own 47 Y46, .dat YI, .dat YI, .dat YI]]
abbrev i_bg_8 : Shp := { slots := [(6, .s (.ptr 6 0)), (8, .s (.ptr 8 0)), (38, .s (.dat Y24)), (39, .s (.dat YI)), (40, .s (.dat YI))], boxes := [(6, [.dat YI, .own 32 Y32, .own 42 Y41, .own 112 Y70, .own 71 Y70, .own 2 YI, .own 47 Y46, .dat YI, .dat YI, .dat YI]), (8, [.own 32 Y32, .own 42 Y41, .own 112 Y70, .own 71 Y70, .own 2 YI, .own 47 Y46, .dat YI, .dat YI, .dat YI])], rows := [] }
abbrev o_bg_8 : List (Ex × Shp) := [(.exit 0, { slots := [(6, .s (.ptr 6 0)), (8, .s (.ptr 8 0))], boxes := [(6, [.dat YI, .own 32 Y32, .own 42 Y41, .own 112 Y70, .own 71 Y70, .own 2 YI, .own 47 Y46, .dat YI, .dat YI, .dat YI]), (8, [.own 32 Y32, .own 42 Y41, .own 112 Y70, .own 71 Y70, .own 2 YI, .own 47 Y46, .dat YI, .dat YI, .dat YI])], rows := [] }), (.ret, { slots := [(6, .s (.ptr 6 0))], boxes := [(6, [.dat YI, .own 32 Y32, .own 42 Y41, .own 112 Y70, .own 71 Y70, .own 2 YI, .own 47 Y46, .dat YI, .dat YI, .dat YI])], rows := [] })]
def l_bg_8 (rec : i_bg_8.den → Option (denO o_bg_8)) (u : i_bg_8.den) : Option (denO o_bg_8) :=
 if (ltI u.1.2.2.2.2.1 u.1.2.2.2.1) then
  if 0 ≤ u.1.2.2.2.2.1 then
   ((u.1.2.2.1)[(u.1.2.2.2.2.1).toNat]?).bind fun y9 =>
   (F_bf (y9, ())).bind fun r10 =>
   if (r10.1.1.1 != (0 : Int)) then
    some (.inr (.inl (((), ()), (((r10.1.1.1, (([] : List (den Y32)), (([] : List (den Y41)), (([] : List (den Y70)), (([] : List (den Y70)), (([] : List (den YI)), (([] : List (den Y46)), ((0 : Int), ((0 : Int), ((0 : Int), ())))))))))), ()), ()))))
   else
    if (u.2.1.2.1.2.2.2.2.2.1.length + [(r10.1.1.2.1, (r10.1.1.2.2.1, (r10.1.1.2.2.2.1, (r10.1.1.2.2.2.2.1, (r10.1.1.2.2.2.2.2.1, (r10.1.1.2.2.2.2.2.2.1, (r10.1.1.2.2.2.2.2.2.2.1, (r10.1.1.2.2.2.2.2.2.2.2.1, (r10.1.1.2.2.2.2.2.2.2.2.2.1, ())))))))))].length) * 120 ≤ 140737488355328 then
     let v11 := (u.2.1.2.1.2.2.2.2.2.1 ++ [(r10.1.1.2.1, (r10.1.1.2.2.1, (r10.1.1.2.2.2.1, (r10.1.1.2.2.2.2.1, (r10.1.1.2.2.2.2.2.1, (r10.1.1.2.2.2.2.2.2.1, (r10.1.1.2.2.2.2.2.2.2.1, (r10.1.1.2.2.2.2.2.2.2.2.1, (r10.1.1.2.2.2.2.2.2.2.2.2.1, ())))))))))])
     let v12 := (IntKind.i64.wrap (u.1.2.2.2.2.1 + (1 : Int)))
     rec (((), ((), (u.1.2.2.1, (u.1.2.2.2.1, (v12, ()))))), ((u.2.1.1, ((u.2.1.2.1.1, (u.2.1.2.1.2.1, (u.2.1.2.1.2.2.1, (u.2.1.2.1.2.2.2.1, (u.2.1.2.1.2.2.2.2.1, (v11, (u.2.1.2.1.2.2.2.2.2.2.1, (u.2.1.2.1.2.2.2.2.2.2.2.1, (u.2.1.2.1.2.2.2.2.2.2.2.2.1, ()))))))))), ())), ()))
    else none
  else none
 else
  some (.inl (((), ((), ())), ((u.2.1.1, (u.2.1.2.1, ())), ())))
def L_bg_8 (x : i_bg_8.den) : Option (denO o_bg_8) := Qc l_bg_8 lots x
def F_bg (x : denP P_bg) : FO P_bg R_bg :=
 (F_at (x.1, x.2.1, ())).bind fun r1 =>
 if (r1.1.1.1 != (0 : Int)) then
  some (((r1.1.1.1, (([] : List (den Y32)), (([] : List (den Y41)), (([] : List (den Y70)), (([] : List (den Y70)), (([] : List (den YI)), (([] : List (den Y46)), ((0 : Int), ((0 : Int), ((0 : Int), ())))))))))), ()), ())
 else
  let v2 := ((x.2.2.1.length : Nat) : Int)
  let v3 := ((x.1.1.length : Nat) : Int)
  if (v2 != v3) then
   some ((((2 : Int), (([] : List (den Y32)), (([] : List (den Y41)), (([] : List (den Y70)), (([] : List (den Y70)), (([] : List (den YI)), (([] : List (den Y46)), ((0 : Int), ((0 : Int), ((0 : Int), ())))))))))), ()), ())
  else
   (F_az (x.1, ())).bind fun r4 =>
   ((x.1.2.2.2.1)[((0 : Int)).toNat]?).bind fun y5 =>
   let v6 := ((x.2.2.1.length : Nat) : Int)
   (L_bg_8 (((), ((), (x.2.2.1, (v6, ((0 : Int), ()))))), ((((0 : Int), (([] : List (den Y32)), (([] : List (den Y41)), (([] : List (den Y70)), (([] : List (den Y70)), (([] : List (den YI)), (([] : List (den Y46)), ((0 : Int), ((0 : Int), ((0 : Int), ())))))))))), ((r4.1.1.1, (r4.1.1.2.1, (r4.1.1.2.2.1, (r4.1.1.2.2.2.1, (r1.1.1.2.1, (([] : List (den Y46)), ((0 : Int), (y5.2.1, ((0 : Int), ()))))))))), ())), ()))).bind fun z13 =>
   match z13 with
   | .inl x14 =>
    some ((((0 : Int), x14.2.1.2.1), ()), ())
   | .inr z13_ =>
    match z13_ with
    | .inl x15 =>
     some ((x15.2.1.1, ()), ())
    | .inr z13__ =>
     none
abbrev C_bg : Con := ⟨P_bg, R_bg, F_bg, false⟩
abbrev G_bg : Env := [(23, C_at), (24, C_az), (25, C_bf)]
theorem g_bg : Qh Tryz.prog G_bg := (Qa s_at (Qa s_az (Qa s_bf Qd)))
abbrev c_bg_8 : Cut := ⟨i_bg_8, o_bg_8, fun x => Qc l_bg_8 lots x⟩
theorem k_bg_8 : QB Tryz.prog 62 (.loop (nav Tryz.f8 [1, 1, 1, 1, 1, 0, 1, 0, 0])) c_bg_8 :=
  Qj (L := []) hT g_bg (fun _ _ => by kernel_rfl) okP _
theorem r_bg (x) : QL T G_bg [(8, c_bg_8)] Tryz.f8 C_bg.ps C_bg.rs x = C_bg.F x := by kernel_rfl
theorem s_bg : Qb Tryz.prog 8 C_bg := fnC (L := [(8, c_bg_8)]) hT g_bg Tryz.f8 (okS okP (okS okP (okS okP (okS okP (okS okP (okS (okS okP (okB (okU k_bg_8))) okP)))))) r_bg
abbrev P_bh : List PK := [.val Y28, .val YI]
def F_bh (x : denP P_bh) : FO P_bh R_c :=
 (F_ar (x.1, ())).bind fun r1 =>
 if (r1.1.1 == (0 : Int)) = true then
  (F_ab (x.1, x.2.1, ())).bind fun r2 =>
  if (!r2.1.1) then
   some (((4 : Int), ()), ())
  else
   some ((r1.1.1, ()), ())
 else
  some ((r1.1.1, ()), ())
abbrev C_bh : Con := ⟨P_bh, R_c, F_bh, false⟩
abbrev G_bh : Env := [(30, C_ar), (33, C_ab)]
theorem g_bh : Qh Tryz.prog G_bh := (Qa s_ar (Qa s_ab Qd))
theorem s_bh : Qb Tryz.prog 38 C_bh := fnC (L := []) hT g_bh Tryz.f38 okP fun _ => by kernel_rfl
abbrev P_bi : List PK := []
def F_bi (x : denP P_bi) : FO P_bi R_s :=
 some ((((-1 : Int), ((0 : Int), ())), ()), ())
abbrev C_bi : Con := ⟨P_bi, R_s, F_bi, false⟩
theorem s_bi : Qb Tryz.prog 73 C_bi := fnC (L := []) hT g_a Tryz.f73 okP fun _ => by kernel_rfl
abbrev P_bj : List PK := [.val (.int .u64), .val (.int .u64)]
abbrev R_bj : List VK := [.s (.dat (.int .u64)), .s (.dat (.int .u64))]
def F_bj (x : denP P_bj) : FO P_bj R_bj :=
 let v1 := (iand .u64 x.1 (4294967295 : Int))
 let v2 := ((x.1).fdiv (2 ^ 32))
 let v3 := (iand .u64 x.2.1 (4294967295 : Int))
 let v4 := ((x.2.1).fdiv (2 ^ 32))
 let v5 := (IntKind.u64.wrap (v1 * v3))
 let v6 := (IntKind.u64.wrap (v2 * v3))
 let v7 := ((v5).fdiv (2 ^ 32))
 let v8 := (IntKind.u64.wrap (v6 + v7))
 let v9 := (iand .u64 v8 (4294967295 : Int))
 let v10 := ((v8).fdiv (2 ^ 32))
 let v11 := (IntKind.u64.wrap (v1 * v4))
 let v12 := (IntKind.u64.wrap (v9 + v11))
 let v13 := (IntKind.u64.wrap (v2 * v4))
 let v14 := (IntKind.u64.wrap (v13 + v10))
 let v15 := ((v12).fdiv (2 ^ 32))
 let v16 := (IntKind.u64.wrap (v14 + v15))
 let v17 := (IntKind.u64.wrap (x.1 * x.2.1))
 some ((v16, v17, ()), ())
abbrev C_bj : Con := ⟨P_bj, R_bj, F_bj, false⟩
theorem s_bj : Qb Tryz.prog 127 C_bj := fnC (L := []) hT g_a Tryz.f127 okP fun _ => by kernel_rfl
def F_bk (x : denP P_bj) : FO P_bj R_bj :=
 (F_bj (x.1, x.2.1, ())).bind fun r1 =>
 some ((r1.1.1, r1.1.2.1, ()), ())
abbrev C_bk : Con := ⟨P_bj, R_bj, F_bk, false⟩
abbrev G_bk : Env := [(127, C_bj)]
theorem g_bk : Qh Tryz.prog G_bk := (Qa s_bj Qd)
theorem s_bk : Qb Tryz.prog 100 C_bk := fnC (L := []) hT g_bk Tryz.f100 okP fun _ => by kernel_rfl
abbrev P_bl : List PK := [.val Y26, .val YI]
abbrev R_bl : List VK := [.s (.own 84 Y70)]
abbrev i_bl_8 : Shp := { slots := [(7, .s (.own 84 Y70)), (8, .s (.dat YI))], boxes := [], rows := [] }
abbrev o_bl_8 : List (Ex × Shp) := [(.exit 0, { slots := [(7, .s (.own 84 Y70))], boxes := [], rows := [] })]
def l_bl_8 (rec : i_bl_8.den → Option (denO o_bl_8)) (u : i_bl_8.den) : Option (denO o_bl_8) :=
 let v8 := ((u.1.1.length : Nat) : Int)
 if (ltI u.1.2.1 v8) then
  if 0 ≤ u.1.2.1 ∧ u.1.2.1 ≤ ((u.1.1.length : Nat) : Int) ∧ ((u.1.1.length : Nat) : Int) ≤ ((u.1.1.length : Nat) : Int) then
   if 0 ≤ (0 : Int) ∧ (0 : Int) ≤ u.1.2.1 ∧ u.1.2.1 ≤ ((u.1.1.length : Nat) : Int) then
    if 0 < ((((u.1.1.length : Nat) : Int)).toNat - (u.1.2.1).toNat) ∧ 0 < ((u.1.1.drop (0 + ((0 : Int)).toNat)).take ((u.1.2.1).toNat - ((0 : Int)).toNat)).length then
     let v9 := (splc u.1.1 ((u.1.1.drop (0 + ((0 : Int)).toNat)).take ((u.1.2.1).toNat - ((0 : Int)).toNat)) (0 + (u.1.2.1).toNat) ((((u.1.1.length : Nat) : Int)).toNat - (u.1.2.1).toNat))
     let v10 := ((min ((((u.1.1.length : Nat) : Int)).toNat - (u.1.2.1).toNat) ((u.1.1.drop (0 + ((0 : Int)).toNat)).take ((u.1.2.1).toNat - ((0 : Int)).toNat)).length : Nat) : Int)
     let v11 := (IntKind.i64.wrap (u.1.2.1 + v10))
     rec ((v9, (v11, ())), ((), ()))
    else none
   else none
  else none
 else
  some (.inl ((u.1.1, ()), ((), ())))
def L_bl_8 (x : i_bl_8.den) : Option (denO o_bl_8) := Qc l_bl_8 lots x
def F_bl (x : denP P_bl) : FO P_bl R_bl :=
 if (ltI x.2.1 (0 : Int)) then none else
 let v1 := ((x.1.length : Nat) : Int)
 let v2 := (IntKind.u64.wrap v1)
 let v3 := (IntKind.u64.wrap x.2.1)
 (F_bk (v2, v3, ())).bind fun r4 =>
 if (ltI (0 : Int) r4.1.1) = false then
  if (ltI (9223372036854775807 : Int) r4.1.2.1) then none else
  let v5 := (IntKind.i64.wrap r4.1.2.1)
  if v5 = v5 ∧ 0 ≤ v5 ∧ v5 * 16 ≤ 140737488355328 ∧ v5 ≤ 9223372036854775807 then
   if 0 < (List.replicate (v5).toNat (QbB Y70)).length ∧ 0 < x.1.length then
    let v6 := (splc (List.replicate (v5).toNat (QbB Y70)) x.1 0 (List.replicate (v5).toNat (QbB Y70)).length)
    let v7 := ((min (List.replicate (v5).toNat (QbB Y70)).length x.1.length : Nat) : Int)
    (L_bl_8 ((v6, (v7, ())), ((), ()))).bind fun z12 =>
    match z12 with
    | .inl x13 =>
     some ((x13.1.1, ()), ())
    | .inr z12_ =>
     none
   else none
  else none
 else none
abbrev C_bl : Con := ⟨P_bl, R_bl, F_bl, false⟩
abbrev G_bl : Env := [(100, C_bk)]
theorem g_bl : Qh Tryz.prog G_bl := (Qa s_bk Qd)
abbrev c_bl_8 : Cut := ⟨i_bl_8, o_bl_8, fun x => Qc l_bl_8 lots x⟩
theorem k_bl_8 : QB Tryz.prog 48 (.loop (nav Tryz.f72 [1, 1, 1, 1, 1, 1, 0, 0, 0])) c_bl_8 :=
  Qj (L := []) hT g_bl (fun _ _ => by kernel_rfl) okP _
theorem r_bl (x) : QL T G_bl [(8, c_bl_8)] Tryz.f72 C_bl.ps C_bl.rs x = C_bl.F x := by kernel_rfl
theorem s_bl : Qb Tryz.prog 72 C_bl := fnC (L := [(8, c_bl_8)]) hT g_bl Tryz.f72 (okS okP (okS okP (okS okP (okS okP (okS okP (okS okP (okS (okB (okU k_bl_8)) okP))))))) r_bl
abbrev i_bm_8 : Shp := { slots := [(1, .s (.dat YI)), (5, .s (.own 84 Y70)), (35, .s (.dat Y25)), (36, .s (.dat YI)), (37, .s (.dat YI))], boxes := [], rows := [] }
abbrev o_bm_8 : List (Ex × Shp) := [(.exit 2, { slots := [(5, .s (.own 84 Y70))], boxes := [], rows := [] })]
def l_bm_8 (rec : i_bm_8.den → Option (denO o_bm_8)) (u : i_bm_8.den) : Option (denO o_bm_8) :=
 if (ltI u.1.2.2.2.2.1 u.1.2.2.2.1) then
  if 0 ≤ u.1.2.2.2.2.1 then
   ((u.1.2.2.1)[(u.1.2.2.2.2.1).toNat]?).bind fun y18 =>
   if (y18.1 == u.1.1) then
    if 0 ≤ y18.2.2.2.1 ∧ y18.2.2.2.1 < ((u.1.2.1.length : Nat) : Int) then
     ((u.1.2.1)[(y18.2.2.2.1).toNat]?).bind fun y19 =>
     let v20 := (u.1.2.1.set (y18.2.2.2.1).toNat (y18.2.2.1, ((3 : Int), ())))
     if (y18.2.1 == u.1.1) then
      if 0 ≤ y18.2.2.2.2.1 ∧ y18.2.2.2.2.1 < ((v20.length : Nat) : Int) then
       ((v20)[(y18.2.2.2.2.1).toNat]?).bind fun y21 =>
       let v22 := (v20.set (y18.2.2.2.2.1).toNat (y18.2.2.1, ((1 : Int), ())))
       let v23 := (IntKind.i64.wrap (u.1.2.2.2.2.1 + (1 : Int)))
       rec ((u.1.1, (v22, (u.1.2.2.1, (u.1.2.2.2.1, (v23, ()))))), ((), ()))
      else none
     else
      let v24 := (IntKind.i64.wrap (u.1.2.2.2.2.1 + (1 : Int)))
      rec ((u.1.1, (v20, (u.1.2.2.1, (u.1.2.2.2.1, (v24, ()))))), ((), ()))
    else none
   else
    if (y18.2.1 == u.1.1) then
     if 0 ≤ y18.2.2.2.2.1 ∧ y18.2.2.2.2.1 < ((u.1.2.1.length : Nat) : Int) then
      ((u.1.2.1)[(y18.2.2.2.2.1).toNat]?).bind fun y25 =>
      let v26 := (u.1.2.1.set (y18.2.2.2.2.1).toNat (y18.2.2.1, ((1 : Int), ())))
      let v27 := (IntKind.i64.wrap (u.1.2.2.2.2.1 + (1 : Int)))
      rec ((u.1.1, (v26, (u.1.2.2.1, (u.1.2.2.2.1, (v27, ()))))), ((), ()))
     else none
    else
     let v28 := (IntKind.i64.wrap (u.1.2.2.2.2.1 + (1 : Int)))
     rec ((u.1.1, (u.1.2.1, (u.1.2.2.1, (u.1.2.2.2.1, (v28, ()))))), ((), ()))
  else none
 else
  some (.inl ((u.1.2.1, ()), ((), ())))
def L_bm_8 (x : i_bm_8.den) : Option (denO o_bm_8) := Qc l_bm_8 lots x
abbrev i_bm_3 : Shp := { slots := [(0, .s (.pd Y28)), (1, .s (.dat YI)), (5, .s (.own 84 Y70)), (19, .s (.dat Y32)), (20, .s (.dat YI)), (21, .s (.dat YI))], boxes := [], rows := [] }
abbrev o_bm_3 : List (Ex × Shp) := [(.exit 0, { slots := [(0, .s (.pd Y28)), (1, .s (.dat YI)), (5, .s (.own 84 Y70))], boxes := [], rows := [] })]
def l_bm_3 (rec : i_bm_3.den → Option (denO o_bm_3)) (u : i_bm_3.den) : Option (denO o_bm_3) :=
 if (ltI u.1.2.2.2.2.2.1 u.1.2.2.2.2.1) then
  if 0 ≤ u.1.2.2.2.2.2.1 then
   ((u.1.2.2.2.1)[(u.1.2.2.2.2.2.1).toNat]?).bind fun y7 =>
   if 0 ≤ u.1.2.2.2.2.2.1 ∧ u.1.2.2.2.2.2.1 < ((u.1.2.2.1.length : Nat) : Int) then
    ((u.1.2.2.1)[(u.1.2.2.2.2.2.1).toNat]?).bind fun y8 =>
    let v9 := (u.1.2.2.1.set (u.1.2.2.2.2.2.1).toNat (y7, ((7 : Int), ())))
    let v10 := (IntKind.i64.wrap (u.1.2.2.2.2.2.1 + (1 : Int)))
    rec ((u.1.1, (u.1.2.1, (v9, (u.1.2.2.2.1, (u.1.2.2.2.2.1, (v10, ())))))), ((), ()))
   else none
  else none
 else
  some (.inl ((u.1.1, (u.1.2.1, (u.1.2.2.1, ()))), ((), ())))
def L_bm_3 (x : i_bm_3.den) : Option (denO o_bm_3) := Qc l_bm_3 lots x
def F_bm (x : denP P_h) : FO P_h R_bl :=
 (F_bi ()).bind fun r1 =>
 (F_bl ([r1.1.1], (8 : Int), ())).bind fun r2 =>
 if 0 ≤ x.2.1 then
  ((x.1.1)[(x.2.1).toNat]?).bind fun y3 =>
  let v4 := ((y3.length : Nat) : Int)
  (L_bm_3 ((x.1, (x.2.1, (r2.1.1, (y3, (v4, ((0 : Int), ())))))), ((), ()))).bind fun z11 =>
  match z11 with
  | .inl x12 =>
   let v13 := ((x12.1.1.2.1.length : Nat) : Int)
   (L_bm_8 ((x12.1.2.1, (x12.1.2.2.1, (x12.1.1.2.1, (v13, ((0 : Int), ()))))), ((), ()))).bind fun z29 =>
   match z29 with
   | .inl x30 =>
    some ((x30.1.1, ()), ())
   | .inr z29_ =>
    none
  | .inr z11_ =>
   none
 else none
abbrev C_bm : Con := ⟨P_h, R_bl, F_bm, false⟩
abbrev G_bm : Env := [(72, C_bl), (73, C_bi)]
theorem g_bm : Qh Tryz.prog G_bm := (Qa s_bl (Qa s_bi Qd))
abbrev c_bm_8 : Cut := ⟨i_bm_8, o_bm_8, fun x => Qc l_bm_8 lots x⟩
theorem k_bm_8 : QB Tryz.prog 65 (.loop (nav Tryz.f34 [1, 1, 1, 0, 1, 0, 0])) c_bm_8 :=
  Qj (L := []) hT g_bm (fun _ _ => by kernel_rfl) okP _
abbrev c_bm_3 : Cut := ⟨i_bm_3, o_bm_3, fun x => Qc l_bm_3 lots x⟩
theorem k_bm_3 : QB Tryz.prog 65 (.loop (nav Tryz.f34 [1, 1, 0, 1, 0, 0])) c_bm_3 :=
  Qj (L := []) hT g_bm (fun _ _ => by kernel_rfl) okP _
theorem r_bm (x) : QL T G_bm [(8, c_bm_8), (3, c_bm_3)] Tryz.f34 C_bm.ps C_bm.rs x = C_bm.F x := by kernel_rfl
theorem s_bm : Qb Tryz.prog 34 C_bm := fnC (L := [(8, c_bm_8), (3, c_bm_3)]) hT g_bm Tryz.f34 (okS okP (okS okP (okS (okS okP (okB (okU k_bm_3))) (okS (okS okP (okB (okU k_bm_8))) okP)))) r_bm
abbrev i_bn_3 : Shp := { slots := [(5, .s (.own 84 Y70)), (11, .s (.dat YI)), (12, .s (.dat YI))], boxes := [], rows := [] }
abbrev o_bn_3 : List (Ex × Shp) := [(.exit 0, { slots := [(5, .s (.own 84 Y70))], boxes := [], rows := [] })]
def l_bn_3 (rec : i_bn_3.den → Option (denO o_bn_3)) (u : i_bn_3.den) : Option (denO o_bn_3) :=
 if (ltI u.1.2.2.1 u.1.2.1) then
  if 0 ≤ u.1.2.2.1 ∧ u.1.2.2.1 < ((u.1.1.length : Nat) : Int) then
   ((u.1.1)[(u.1.2.2.1).toNat]?).bind fun y5 =>
   if (leI (0 : Int) y5.1) then
    if 0 ≤ u.1.2.2.1 ∧ u.1.2.2.1 < ((u.1.1.length : Nat) : Int) then
     ((u.1.1)[(u.1.2.2.1).toNat]?).bind fun y6 =>
     let v7 := (u.1.1.set (u.1.2.2.1).toNat (u.1.2.2.1, y6.2))
     let v8 := (IntKind.i64.wrap (u.1.2.2.1 + (1 : Int)))
     rec ((v7, (u.1.2.1, (v8, ()))), ((), ()))
    else none
   else
    let v9 := (IntKind.i64.wrap (u.1.2.2.1 + (1 : Int)))
    rec ((u.1.1, (u.1.2.1, (v9, ()))), ((), ()))
  else none
 else
  some (.inl ((u.1.1, ()), ((), ())))
def L_bn_3 (x : i_bn_3.den) : Option (denO o_bn_3) := Qc l_bn_3 lots x
def F_bn (x : denP P_h) : FO P_h R_bl :=
 (F_bm (x.1, x.2.1, ())).bind fun r1 =>
 let v2 := ((r1.1.1.length : Nat) : Int)
 (L_bn_3 ((r1.1.1, (v2, ((0 : Int), ()))), ((), ()))).bind fun z10 =>
 match z10 with
 | .inl x11 =>
  some ((x11.1.1, ()), ())
 | .inr z10_ =>
  none
abbrev C_bn : Con := ⟨P_h, R_bl, F_bn, false⟩
abbrev G_bn : Env := [(34, C_bm)]
theorem g_bn : Qh Tryz.prog G_bn := (Qa s_bm Qd)
abbrev c_bn_3 : Cut := ⟨i_bn_3, o_bn_3, fun x => Qc l_bn_3 lots x⟩
theorem k_bn_3 : QB Tryz.prog 28 (.loop (nav Tryz.f36 [1, 1, 0, 1, 0, 0])) c_bn_3 :=
  Qj (L := []) hT g_bn (fun _ _ => by kernel_rfl) okP _
theorem r_bn (x) : QL T G_bn [(3, c_bn_3)] Tryz.f36 C_bn.ps C_bn.rs x = C_bn.F x := by kernel_rfl
theorem s_bn : Qb Tryz.prog 36 C_bn := fnC (L := [(3, c_bn_3)]) hT g_bn Tryz.f36 (okS okP (okS okP (okS (okS okP (okB (okU k_bn_3))) okP))) r_bn
abbrev P_bo : List PK := [.val Y28, .val YI, .val Y32, .val Y32]
abbrev R_bo : List VK := [.g [.dat YI, .own 2 YI, .dat YI, .own 2 YI, .dat .bool, .dat .bool, .dat .bool, .dat YI, .own 2 YI, .own 2 YI, .own 84 Y70, .own 2 YI]]
abbrev i_bo_11 : Shp := { slots := [(1, .s (.dat YI)), (4, .s (.ptr 4 0)), (8, .s (.ptr 8 0)), (10, .s (.ptr 10 0)), (11, .s (.own 2 YI)), (41, .s (.dat Y32)), (42, .s (.dat YI)), (43, .s (.dat YI))], boxes := [(4, [.dat Y24, .dat Y25, .dat Y26, .dat Y26]), (8, [.dat YI, .own 2 YI, .dat YI, .own 2 YI, .dat .bool, .dat .bool, .dat .bool, .dat YI, .own 2 YI, .own 2 YI, .own 84 Y70, .own 2 YI]), (10, [.dat YI, .own 2 YI, .dat YI, .own 2 YI, .dat .bool, .dat .bool, .dat .bool, .dat YI, .own 2 YI, .own 2 YI])], rows := [] }
abbrev o_bo_11 : List (Ex × Shp) := [(.exit 0, { slots := [(1, .s (.dat YI)), (4, .s (.ptr 4 0)), (8, .s (.ptr 8 0)), (10, .s (.ptr 10 0)), (11, .s (.own 2 YI))], boxes := [(4, [.dat Y24, .dat Y25, .dat Y26, .dat Y26]), (8, [.dat YI, .own 2 YI, .dat YI, .own 2 YI, .dat .bool, .dat .bool, .dat .bool, .dat YI, .own 2 YI, .own 2 YI, .own 84 Y70, .own 2 YI]), (10, [.dat YI, .own 2 YI, .dat YI, .own 2 YI, .dat .bool, .dat .bool, .dat .bool, .dat YI, .own 2 YI, .own 2 YI])], rows := [] })]
def l_bo_11 (rec : i_bo_11.den → Option (denO o_bo_11)) (u : i_bo_11.den) : Option (denO o_bo_11) :=
 if (ltI u.1.2.2.2.2.2.2.2.1 u.1.2.2.2.2.2.2.1) then
  if 0 ≤ u.1.2.2.2.2.2.2.2.1 then
   ((u.1.2.2.2.2.2.1)[(u.1.2.2.2.2.2.2.2.1).toNat]?).bind fun y11 =>
   (F_as (y11, ())).bind fun r12 =>
   if 0 ≤ u.1.2.2.2.2.2.2.2.1 ∧ u.1.2.2.2.2.2.2.2.1 < ((u.1.2.2.2.2.1.length : Nat) : Int) then
    ((u.1.2.2.2.2.1)[(u.1.2.2.2.2.2.2.2.1).toNat]?).bind fun y13 =>
    let v14 := (u.1.2.2.2.2.1.set (u.1.2.2.2.2.2.2.2.1).toNat r12.1.1)
    let v15 := (IntKind.i64.wrap (u.1.2.2.2.2.2.2.2.1 + (1 : Int)))
    rec ((u.1.1, ((), ((), ((), (v14, (u.1.2.2.2.2.2.1, (u.1.2.2.2.2.2.2.1, (v15, ())))))))), ((u.2.1.1, (u.2.1.2.1, (u.2.1.2.2.1, ()))), ()))
   else none
  else none
 else
  some (.inl ((u.1.1, ((), ((), ((), (u.1.2.2.2.2.1, ()))))), ((u.2.1.1, (u.2.1.2.1, (u.2.1.2.2.1, ()))), ())))
def L_bo_11 (x : i_bo_11.den) : Option (denO o_bo_11) := Qc l_bo_11 lots x
def F_bo (x : denP P_bo) : FO P_bo R_bo :=
 (F_bh (x.1, x.2.1, ())).bind fun r1 =>
 if (r1.1.1 != (0 : Int)) then
  some (((r1.1.1, (([] : List (den YI)), ((0 : Int), (([] : List (den YI)), (false, (false, (false, ((0 : Int), (([] : List (den YI)), (([] : List (den YI)), (([] : List (den Y70)), (([] : List (den YI)), ())))))))))))), ()), ())
 else
  let v2 := ((x.2.2.1.length : Nat) : Int)
  if 0 ≤ x.2.1 then
   ((x.1.1)[(x.2.1).toNat]?).bind fun y3 =>
   let v4 := ((y3.length : Nat) : Int)
   let v5 := (IntKind.i64.wrap (v4 * (8 : Int)))
   if (ltI v5 v2) then
    some ((((8 : Int), (([] : List (den YI)), ((0 : Int), (([] : List (den YI)), (false, (false, (false, ((0 : Int), (([] : List (den YI)), (([] : List (den YI)), (([] : List (den Y70)), (([] : List (den YI)), ())))))))))))), ()), ())
   else
    (F_bf (x.2.2.2.1, ())).bind fun r6 =>
    if (r6.1.1.1 != (0 : Int)) then
     some (((r6.1.1.1, (([] : List (den YI)), ((0 : Int), (([] : List (den YI)), (false, (false, (false, ((0 : Int), (([] : List (den YI)), (([] : List (den YI)), (([] : List (den Y70)), (([] : List (den YI)), ())))))))))))), ()), ())
    else
     let v7 := ((x.2.2.1.length : Nat) : Int)
     (L_bo_11 ((x.2.1, ((), ((), ((), ((List.replicate ((64 : Int)).toNat (QbB YI)), (x.2.2.1, (v7, ((0 : Int), ())))))))), (((x.1.1, (x.1.2.1, (x.1.2.2.1, (x.1.2.2.2.1, ())))), (((0 : Int), (([] : List (den YI)), ((0 : Int), (([] : List (den YI)), (false, (false, (false, ((0 : Int), (([] : List (den YI)), (([] : List (den YI)), (([] : List (den Y70)), (([] : List (den YI)), ())))))))))))), (r6.1.1, ()))), ()))).bind fun z16 =>
     match z16 with
     | .inl x17 =>
      (F_bn (x17.2.1.1, x17.1.1, ())).bind fun r18 =>
      some ((((0 : Int), (x17.2.1.2.2.1.2.1, (x17.2.1.2.2.1.2.2.1, (x17.2.1.2.2.1.2.2.2.1, (x17.2.1.2.2.1.2.2.2.2.1, (x17.2.1.2.2.1.2.2.2.2.2.1, (x17.2.1.2.2.1.2.2.2.2.2.2.1, (x17.2.1.2.2.1.2.2.2.2.2.2.2.1, (x17.2.1.2.2.1.2.2.2.2.2.2.2.2.1, (x17.2.1.2.2.1.2.2.2.2.2.2.2.2.2.1, (r18.1.1, (x17.1.2.2.2.2.1, ())))))))))))), ()), ())
     | .inr z16_ =>
      none
  else none
abbrev C_bo : Con := ⟨P_bo, R_bo, F_bo, false⟩
abbrev G_bo : Env := [(25, C_bf), (36, C_bn), (38, C_bh), (39, C_as)]
theorem g_bo : Qh Tryz.prog G_bo := (Qa s_bf (Qa s_bn (Qa s_bh (Qa s_as Qd))))
abbrev c_bo_11 : Cut := ⟨i_bo_11, o_bo_11, fun x => Qc l_bo_11 lots x⟩
theorem k_bo_11 : QB Tryz.prog 61 (.loop (nav Tryz.f15 [1, 1, 1, 1, 1, 1, 0, 1, 0, 0])) c_bo_11 :=
  Qj (L := []) hT g_bo (fun _ _ => by kernel_rfl) okP _
theorem r_bo (x) : QL T G_bo [(11, c_bo_11)] Tryz.f15 C_bo.ps C_bo.rs x = C_bo.F x := by kernel_rfl
theorem s_bo : Qb Tryz.prog 15 C_bo := fnC (L := [(11, c_bo_11)]) hT g_bo Tryz.f15 (okS okP (okS okP (okS okP (okS okP (okS okP (okS okP (okS (okS okP (okB (okU k_bo_11))) okP))))))) r_bo
def F_bp (x : denP P_av) : FO P_av R_c :=
 let v1 := ((x.1.length : Nat) : Int)
 if (v1 == (0 : Int)) = false then
  let v2 := ((x.1.length : Nat) : Int)
  if (ltI (192 : Int) v2) = false then
   let v3 := ((x.1.length : Nat) : Int)
   let v4 := ((v3).tmod (8 : Int))
   if (v4 != (0 : Int)) then
    some (((1 : Int), ()), ())
   else
    (F_bb (x.1, ())).bind fun r5 =>
    if (!r5.1.1) then
     some (((3 : Int), ()), ())
    else
     some (((0 : Int), ()), ())
  else
   some (((1 : Int), ()), ())
 else
  some (((1 : Int), ()), ())
abbrev C_bp : Con := ⟨P_av, R_c, F_bp, false⟩
abbrev G_bp : Env := [(61, C_bb)]
theorem g_bp : Qh Tryz.prog G_bp := (Qa s_bb Qd)
theorem s_bp : Qb Tryz.prog 71 C_bp := fnC (L := []) hT g_bp Tryz.f71 okP fun _ => by kernel_rfl
def F_bq (x : denP P_av) : FO P_av R_a :=
 (F_bp (x.1, ())).bind fun r1 =>
 if (r1.1.1 == (0 : Int)) = true then
  let v2 := ((x.1.length : Nat) : Int)
  some (((v2 == (192 : Int)), ()), ())
 else
  some ((false, ()), ())
abbrev C_bq : Con := ⟨P_av, R_a, F_bq, false⟩
abbrev G_bq : Env := [(71, C_bp)]
theorem g_bq : Qh Tryz.prog G_bq := (Qa s_bp Qd)
theorem s_bq : Qb Tryz.prog 31 C_bq := fnC (L := []) hT g_bq Tryz.f31 okP fun _ => by kernel_rfl
abbrev P_br : List PK := [.val Y46]
def F_br (x : denP P_br) : FO P_br R_c :=
 let v1 := ((x.1.1.length : Nat) : Int)
 if (v1 != (16 : Int)) = false then
  let v2 := ((x.1.2.2.1.length : Nat) : Int)
  if (v2 != (11 : Int)) = false then
   ((x.1.1)[((0 : Int)).toNat]?).bind fun y3 =>
   if (y3 != (0 : Int)) then
    some (((1 : Int), ()), ())
   else
    (F_bb (x.1.1, ())).bind fun r4 =>
    if (!r4.1.1) = false then
     (F_ba (x.1.2.1, ())).bind fun r5 =>
     if (!r5.1.1) = false then
      (F_bb (x.1.2.2.1, ())).bind fun r6 =>
      if (!r6.1.1) = false then
       (F_bb (x.1.2.2.2.2.2.2.2.1, ())).bind fun r7 =>
       if (!r7.1.1) = false then
        (F_bb (x.1.2.2.2.2.2.2.2.2.1, ())).bind fun r8 =>
        if (!r8.1.1) then
         some (((3 : Int), ()), ())
        else
         let v9 := ((x.1.2.2.2.2.2.2.2.1.length : Nat) : Int)
         if (ltI (40 : Int) v9) = false then
          let v10 := ((x.1.2.2.2.2.2.2.2.2.1.length : Nat) : Int)
          if (ltI (40 : Int) v10) then
           some (((2 : Int), ()), ())
          else
           (F_z (x.1.2.2.2.2.2.2.1, (0 : Int), (1000000000 : Int), ())).bind fun r11 =>
           if (!r11.1.1) then
            some (((3 : Int), ()), ())
           else
            ((x.1.2.2.1)[((0 : Int)).toNat]?).bind fun y12 =>
            if (ltI (3 : Int) y12) = false then
             ((x.1.2.2.1)[((7 : Int)).toNat]?).bind fun y13 =>
             if (ltI (7 : Int) y13) = false then
              ((x.1.2.2.1)[((10 : Int)).toNat]?).bind fun y14 =>
              if (ltI (8 : Int) y14) = false then
               ((x.1.2.2.1)[((6 : Int)).toNat]?).bind fun y15 =>
               if (y15 != (0 : Int)) = false then
                ((x.1.2.2.1)[((8 : Int)).toNat]?).bind fun y16 =>
                if (y16 != (0 : Int)) then
                 some (((1 : Int), ()), ())
                else
                 some (((0 : Int), ()), ())
               else
                some (((1 : Int), ()), ())
              else
               some (((1 : Int), ()), ())
             else
              some (((1 : Int), ()), ())
            else
             some (((1 : Int), ()), ())
         else
          some (((2 : Int), ()), ())
       else
        some (((3 : Int), ()), ())
      else
       some (((3 : Int), ()), ())
     else
      some (((3 : Int), ()), ())
    else
     some (((3 : Int), ()), ())
  else
   some (((1 : Int), ()), ())
 else
  some (((1 : Int), ()), ())
abbrev C_br : Con := ⟨P_br, R_c, F_br, false⟩
abbrev G_br : Env := [(27, C_z), (61, C_bb), (91, C_ba)]
theorem g_br : Qh Tryz.prog G_br := (Qa s_z (Qa s_bb (Qa s_ba Qd)))
theorem s_br : Qb Tryz.prog 62 C_br := fnC (L := []) hT g_br Tryz.f62 okP fun _ => by kernel_rfl
abbrev i_bs_3 : Shp := { slots := [(1, .s (.dat YI)), (5, .s (.dat YI)), (11, .s (.dat Y26)), (12, .s (.dat YI)), (13, .s (.dat YI))], boxes := [], rows := [] }
abbrev o_bs_3 : List (Ex × Shp) := [(.exit 0, { slots := [(5, .s (.dat YI))], boxes := [], rows := [] })]
def l_bs_3 (rec : i_bs_3.den → Option (denO o_bs_3)) (u : i_bs_3.den) : Option (denO o_bs_3) :=
 if (ltI u.1.2.2.2.2.1 u.1.2.2.2.1) then
  if 0 ≤ u.1.2.2.2.2.1 then
   ((u.1.2.2.1)[(u.1.2.2.2.2.1).toNat]?).bind fun y3 =>
   if (ltI u.1.1 (0 : Int)) = false then
    if (y3.1 == u.1.1) then
     let v4 := (IntKind.i64.wrap (u.1.2.1 + y3.2.1))
     let v5 := (IntKind.i64.wrap (u.1.2.2.2.2.1 + (1 : Int)))
     rec ((u.1.1, (v4, (u.1.2.2.1, (u.1.2.2.2.1, (v5, ()))))), ((), ()))
    else
     let v6 := (IntKind.i64.wrap (u.1.2.2.2.2.1 + (1 : Int)))
     rec ((u.1.1, (u.1.2.1, (u.1.2.2.1, (u.1.2.2.2.1, (v6, ()))))), ((), ()))
   else
    let v7 := (IntKind.i64.wrap (u.1.2.1 + y3.2.1))
    let v8 := (IntKind.i64.wrap (u.1.2.2.2.2.1 + (1 : Int)))
    rec ((u.1.1, (v7, (u.1.2.2.1, (u.1.2.2.2.1, (v8, ()))))), ((), ()))
  else none
 else
  some (.inl ((u.1.2.1, ()), ((), ())))
def L_bs_3 (x : i_bs_3.den) : Option (denO o_bs_3) := Qc l_bs_3 lots x
def F_bs (x : denP P_h) : FO P_h R_c :=
 let v1 := ((x.1.2.2.2.1.length : Nat) : Int)
 (L_bs_3 ((x.2.1, ((0 : Int), (x.1.2.2.2.1, (v1, ((0 : Int), ()))))), ((), ()))).bind fun z9 =>
 match z9 with
 | .inl x10 =>
  some ((x10.1.1, ()), ())
 | .inr z9_ =>
  none
abbrev C_bs : Con := ⟨P_h, R_c, F_bs, false⟩
abbrev c_bs_3 : Cut := ⟨i_bs_3, o_bs_3, fun x => Qc l_bs_3 lots x⟩
theorem k_bs_3 : QB Tryz.prog 31 (.loop (nav Tryz.f92 [1, 1, 0, 1, 0, 0])) c_bs_3 :=
  Qj (L := []) hT g_a (fun _ _ => by kernel_rfl) okP _
theorem r_bs (x) : QL T G_a [(3, c_bs_3)] Tryz.f92 C_bs.ps C_bs.rs x = C_bs.F x := by kernel_rfl
theorem s_bs : Qb Tryz.prog 92 C_bs := fnC (L := [(3, c_bs_3)]) hT g_a Tryz.f92 (okS okP (okS okP (okS (okS okP (okB (okU k_bs_3))) okP))) r_bs
abbrev R_bt : List VK := [.s (.dat YI), .s (.dat YI)]
abbrev i_bt_3 : Shp := { slots := [(0, .s (.pd Y28)), (1, .s (.dat YI)), (6, .s (.dat YI))], boxes := [], rows := [] }
abbrev o_bt_3 : List (Ex × Shp) := [(.exit 0, { slots := [(0, .s (.pd Y28)), (1, .s (.dat YI)), (6, .s (.dat YI))], boxes := [], rows := [] })]
def l_bt_3 (rec : i_bt_3.den → Option (denO o_bt_3)) (u : i_bt_3.den) : Option (denO o_bt_3) :=
 if 0 ≤ u.1.2.2.1 then
  ((u.1.1.2.2.2.1)[(u.1.2.2.1).toNat]?).bind fun y5 =>
  if (leI y5.2.1 u.1.2.1) then
   if 0 ≤ u.1.2.2.1 then
    ((u.1.1.2.2.2.1)[(u.1.2.2.1).toNat]?).bind fun y6 =>
    let v7 := (IntKind.i64.wrap (u.1.2.1 - y6.2.1))
    let v8 := (IntKind.i64.wrap (u.1.2.2.1 + (1 : Int)))
    rec ((u.1.1, (v7, (v8, ()))), ((), ()))
   else none
  else
   some (.inl ((u.1.1, (u.1.2.1, (u.1.2.2.1, ()))), ((), ())))
 else none
def L_bt_3 (x : i_bt_3.den) : Option (denO o_bt_3) := Qc l_bt_3 lots x
def F_bt (x : denP P_h) : FO P_h R_bt :=
 (F_bs (x.1, (-1 : Int), ())).bind fun r1 =>
 if r1.1.1 = 0 then none else
 let v2 := ((x.2.1).tmod r1.1.1)
 (L_bt_3 ((x.1, (v2, ((0 : Int), ()))), ((), ()))).bind fun z9 =>
 match z9 with
 | .inl x10 =>
  if 0 ≤ x10.1.2.2.1 then
   ((x10.1.1.2.2.2.1)[(x10.1.2.2.1).toNat]?).bind fun y11 =>
   let v12 := (IntKind.i64.wrap (y11.2.1 - x10.1.2.1))
   some ((x10.1.2.2.1, v12, ()), ())
  else none
 | .inr z9_ =>
  none
abbrev C_bt : Con := ⟨P_h, R_bt, F_bt, false⟩
abbrev G_bt : Env := [(92, C_bs)]
theorem g_bt : Qh Tryz.prog G_bt := (Qa s_bs Qd)
abbrev c_bt_3 : Cut := ⟨i_bt_3, o_bt_3, fun x => Qc l_bt_3 lots x⟩
theorem k_bt_3 : QB Tryz.prog 44 (.loop (nav Tryz.f63 [1, 1, 1, 0, 0, 0])) c_bt_3 :=
  Qj (L := []) hT g_bt (fun _ _ => by kernel_rfl) okP _
theorem r_bt (x) : QL T G_bt [(3, c_bt_3)] Tryz.f63 C_bt.ps C_bt.rs x = C_bt.F x := by kernel_rfl
theorem s_bt : Qb Tryz.prog 63 C_bt := fnC (L := [(3, c_bt_3)]) hT g_bt Tryz.f63 (okS okP (okS okP (okS okP (okS (okB (okU k_bt_3)) okP)))) r_bt
abbrev P_bu : List PK := [.val Y34]
abbrev i_bu_7 : Shp := { slots := [(1, .s (.ptr 1 0)), (30, .s (.dat Y33)), (31, .s (.dat YI)), (32, .s (.dat YI))], boxes := [(1, [.dat Y24, .dat Y25, .dat Y26, .dat Y26, .dat Y32, .dat Y33, .dat YI, .dat YI, .dat YI])], rows := [] }
abbrev o_bu_7 : List (Ex × Shp) := [(.exit 0, { slots := [(1, .s (.ptr 1 0))], boxes := [(1, [.dat Y24, .dat Y25, .dat Y26, .dat Y26, .dat Y32, .dat Y33, .dat YI, .dat YI, .dat YI])], rows := [] }), (.ret, { slots := [(2, .s (.dat YI))], boxes := [], rows := [] })]
def l_bu_7 (rec : i_bu_7.den → Option (denO o_bu_7)) (u : i_bu_7.den) : Option (denO o_bu_7) :=
 if (ltI u.1.2.2.2.1 u.1.2.2.1) then
  if 0 ≤ u.1.2.2.2.1 then
   ((u.1.2.1)[(u.1.2.2.2.1).toNat]?).bind fun y8 =>
   (F_br (y8, ())).bind fun r9 =>
   if (r9.1.1 != (0 : Int)) then
    some (.inr (.inl ((r9.1.1, ()), ((), ()))))
   else
    let v10 := (IntKind.i64.wrap (u.1.2.2.2.1 + (1 : Int)))
    rec (((), (u.1.2.1, (u.1.2.2.1, (v10, ())))), ((u.2.1.1, ()), ()))
  else none
 else
  some (.inl (((), ()), ((u.2.1.1, ()), ())))
def L_bu_7 (x : i_bu_7.den) : Option (denO o_bu_7) := Qc l_bu_7 lots x
def F_bu (x : denP P_bu) : FO P_bu R_c :=
 (F_ar (x.1.1, ())).bind fun r1 =>
 if (r1.1.1 != (0 : Int)) then
  some ((r1.1.1, ()), ())
 else
  (F_bq (x.1.2.1, ())).bind fun r2 =>
  if (!r2.1.1) = false then
   let v3 := ((x.1.2.2.1.length : Nat) : Int)
   let v4 := ((x.1.1.1.length : Nat) : Int)
   if (v3 != v4) then
    some (((1 : Int), ()), ())
   else
    let v5 := ((x.1.2.2.1.length : Nat) : Int)
    (L_bu_7 (((), (x.1.2.2.1, (v5, ((0 : Int), ())))), (((x.1.1.1, (x.1.1.2.1, (x.1.1.2.2.1, (x.1.1.2.2.2.1, (x.1.2.1, (x.1.2.2.1, (x.1.2.2.2.1, (x.1.2.2.2.2.1, (x.1.2.2.2.2.2.1, ()))))))))), ()), ()))).bind fun z11 =>
    match z11 with
    | .inl x12 =>
     (F_z (x12.2.1.1.2.2.2.2.2.2.2.2.1, (0 : Int), (1000000 : Int), ())).bind fun r13 =>
     if (!r13.1.1) then
      some (((3 : Int), ()), ())
     else
      (F_bt ((x12.2.1.1.1, (x12.2.1.1.2.1, (x12.2.1.1.2.2.1, (x12.2.1.1.2.2.2.1, ())))), x12.2.1.1.2.2.2.2.2.2.2.2.1, ())).bind fun r14 =>
      if (x12.2.1.1.2.2.2.2.2.2.1 != r14.1.1) = false then
       if (x12.2.1.1.2.2.2.2.2.2.2.1 != r14.1.2.1) then
        some (((1 : Int), ()), ())
       else
        some (((0 : Int), ()), ())
      else
       some (((1 : Int), ()), ())
    | .inr z11_ =>
     match z11_ with
     | .inl x15 =>
      some ((x15.1.1, ()), ())
     | .inr z11__ =>
      none
  else
   some (((1 : Int), ()), ())
abbrev C_bu : Con := ⟨P_bu, R_c, F_bu, false⟩
abbrev G_bu : Env := [(27, C_z), (30, C_ar), (31, C_bq), (62, C_br), (63, C_bt)]
theorem g_bu : Qh Tryz.prog G_bu := (Qa s_z (Qa s_ar (Qa s_bq (Qa s_br (Qa s_bt Qd)))))
abbrev c_bu_7 : Cut := ⟨i_bu_7, o_bu_7, fun x => Qc l_bu_7 lots x⟩
theorem k_bu_7 : QB Tryz.prog 63 (.loop (nav Tryz.f26 [1, 1, 1, 0, 1, 0, 0])) c_bu_7 :=
  Qj (L := []) hT g_bu (fun _ _ => by kernel_rfl) okP _
theorem r_bu (x) : QL T G_bu [(7, c_bu_7)] Tryz.f26 C_bu.ps C_bu.rs x = C_bu.F x := by kernel_rfl
theorem s_bu : Qb Tryz.prog 26 C_bu := fnC (L := [(7, c_bu_7)]) hT g_bu Tryz.f26 (okS okP (okS okP (okS okP (okS (okS okP (okB (okU k_bu_7))) okP)))) r_bu
abbrev i_bv_6 : Shp := { slots := [(1, .s (.dat YI)), (15, .s (.dat Y26)), (16, .s (.dat YI)), (17, .s (.dat YI))], boxes := [], rows := [] }
abbrev o_bv_6 : List (Ex × Shp) := [(.exit 1, { slots := [], boxes := [], rows := [] }), (.ret, { slots := [(4, .s (.dat YI))], boxes := [], rows := [] })]
def l_bv_6 (rec : i_bv_6.den → Option (denO o_bv_6)) (u : i_bv_6.den) : Option (denO o_bv_6) :=
 if (ltI u.1.2.2.2.1 u.1.2.2.1) then
  if 0 ≤ u.1.2.2.2.1 then
   ((u.1.2.1)[(u.1.2.2.2.1).toNat]?).bind fun y7 =>
   let v8 := (IntKind.i64.wrap (u.1.1 - (1 : Int)))
   (F_z (y7.1, (-1 : Int), v8, ())).bind fun r9 =>
   if (!r9.1.1) = false then
    (F_z (y7.2.1, (0 : Int), (7 : Int), ())).bind fun r10 =>
    if (!r10.1.1) then
     some (.inr (.inl (((3 : Int), ()), ((), ()))))
    else
     if (y7.1 == (-1 : Int)) = true then
      if (y7.2.1 != (0 : Int)) then
       some (.inr (.inl (((1 : Int), ()), ((), ()))))
      else
       let v11 := (IntKind.i64.wrap (u.1.2.2.2.1 + (1 : Int)))
       rec ((u.1.1, (u.1.2.1, (u.1.2.2.1, (v11, ())))), ((), ()))
     else
      let v12 := (IntKind.i64.wrap (u.1.2.2.2.1 + (1 : Int)))
      rec ((u.1.1, (u.1.2.1, (u.1.2.2.1, (v12, ())))), ((), ()))
   else
    some (.inr (.inl (((3 : Int), ()), ((), ()))))
  else none
 else
  some (.inl ((), ((), ())))
def L_bv_6 (x : i_bv_6.den) : Option (denO o_bv_6) := Qc l_bv_6 lots x
def F_bv (x : denP P_bl) : FO P_bl R_c :=
 (F_z (x.2.1, (1 : Int), (24 : Int), ())).bind fun r1 =>
 if (!r1.1.1) then
  some (((3 : Int), ()), ())
 else
  let v2 := ((x.1.length : Nat) : Int)
  if (v2 != (8 : Int)) then
   some (((1 : Int), ()), ())
  else
   let v3 := ((x.1.length : Nat) : Int)
   (L_bv_6 ((x.2.1, (x.1, (v3, ((0 : Int), ())))), ((), ()))).bind fun z13 =>
   match z13 with
   | .inl x14 =>
    some (((0 : Int), ()), ())
   | .inr z13_ =>
    match z13_ with
    | .inl x15 =>
     some ((x15.1.1, ()), ())
    | .inr z13__ =>
     none
abbrev C_bv : Con := ⟨P_bl, R_c, F_bv, false⟩
theorem g_bv : Qh Tryz.prog G_aa := (Qa s_z Qd)
abbrev c_bv_6 : Cut := ⟨i_bv_6, o_bv_6, fun x => Qc l_bv_6 lots x⟩
theorem k_bv_6 : QB Tryz.prog 44 (.loop (nav Tryz.f74 [1, 1, 0, 1, 0, 0])) c_bv_6 :=
  Qj (L := []) hT g_bv (fun _ _ => by kernel_rfl) okP _
theorem r_bv (x) : QL T G_aa [(6, c_bv_6)] Tryz.f74 C_bv.ps C_bv.rs x = C_bv.F x := by kernel_rfl
theorem s_bv : Qb Tryz.prog 74 C_bv := fnC (L := [(6, c_bv_6)]) hT g_bv Tryz.f74 (okS okP (okS okP (okS (okS okP (okB (okU k_bv_6))) okP))) r_bv
abbrev i_bw_2 : Shp := { slots := [(5, .s (.dat Y32)), (6, .s (.dat YI)), (7, .s (.dat YI))], boxes := [], rows := [] }
def l_bw_2 (rec : i_bw_2.den → Option (denO o_l_4)) (u : i_bw_2.den) : Option (denO o_l_4) :=
 if (ltI u.1.2.2.1 u.1.2.1) then
  if 0 ≤ u.1.2.2.1 then
   ((u.1.1)[(u.1.2.2.1).toNat]?).bind fun y3 =>
   if (y3 != (0 : Int)) then
    some (.inr (.inl ((y3, ()), ((), ()))))
   else
    let v4 := (IntKind.i64.wrap (u.1.2.2.1 + (1 : Int)))
    rec ((u.1.1, (u.1.2.1, (v4, ()))), ((), ()))
  else none
 else
  some (.inl ((), ((), ())))
def L_bw_2 (x : i_bw_2.den) : Option (denO o_l_4) := Qc l_bw_2 lots x
def F_bw (x : denP P_av) : FO P_av R_c :=
 let v1 := ((x.1.length : Nat) : Int)
 (L_bw_2 ((x.1, (v1, ((0 : Int), ()))), ((), ()))).bind fun z5 =>
 match z5 with
 | .inl x6 =>
  some (((0 : Int), ()), ())
 | .inr z5_ =>
  match z5_ with
  | .inl x7 =>
   some ((x7.1.1, ()), ())
  | .inr z5__ =>
   none
abbrev C_bw : Con := ⟨P_av, R_c, F_bw, false⟩
abbrev c_bw_2 : Cut := ⟨i_bw_2, o_l_4, fun x => Qc l_bw_2 lots x⟩
theorem k_bw_2 : QB Tryz.prog 15 (.loop (nav Tryz.f40 [1, 0, 1, 0, 0])) c_bw_2 :=
  Qj (L := []) hT g_a (fun _ _ => by kernel_rfl) okP _
theorem r_bw (x) : QL T G_a [(2, c_bw_2)] Tryz.f40 C_bw.ps C_bw.rs x = C_bw.F x := by kernel_rfl
theorem s_bw : Qb Tryz.prog 40 C_bw := fnC (L := [(2, c_bw_2)]) hT g_a Tryz.f40 (okS okP (okS (okS okP (okB (okU k_bw_2))) okP)) r_bw
abbrev P_bx : List PK := [.val Y49]
def F_bx (x : denP P_bx) : FO P_bx R_c :=
 (F_br (x.1.1, ())).bind fun r1 =>
 (F_bv (x.1.2.1, (8 : Int), ())).bind fun r2 =>
 (F_bw ([r1.1.1, r2.1.1], ())).bind fun r3 =>
 if (r3.1.1 != (0 : Int)) then
  some ((r3.1.1, ()), ())
 else
  (F_bp (x.1.2.2.1, ())).bind fun r4 =>
  if (r4.1.1 != (0 : Int)) = false then
   let v5 := ((x.1.2.2.1.length : Nat) : Int)
   if (v5 != (64 : Int)) then
    some (((1 : Int), ()), ())
   else
    some (((0 : Int), ()), ())
  else
   some (((1 : Int), ()), ())
abbrev C_bx : Con := ⟨P_bx, R_c, F_bx, false⟩
abbrev G_bx : Env := [(40, C_bw), (62, C_br), (71, C_bp), (74, C_bv)]
theorem g_bx : Qh Tryz.prog G_bx := (Qa s_bw (Qa s_br (Qa s_bp (Qa s_bv Qd))))
theorem s_bx : Qb Tryz.prog 37 C_bx := fnC (L := []) hT g_bx Tryz.f37 okP fun _ => by kernel_rfl
abbrev P_by_1 : List PK := [.val Y34, .ptr YI]
def F_by_1 (x : denP P_by_1) : FO P_by_1 R_a :=
 let v1 := (IntKind.i64.wrap (x.1.2.2.2.2.2.1 + x.2.1))
 some (((ltI (1000000 : Int) v1), ()), ())
abbrev C_by_1 : Con := ⟨P_by_1, R_a, F_by_1, false⟩
theorem s_by_1 : Qb Tryz.prog 76 C_by_1 := fnC (L := []) hT g_a Tryz.f76 okP fun _ => by kernel_rfl
abbrev P_bz_1 : List PK := [.val Y129, .fn 76 [YI]]
abbrev i_ca_2 : Shp := { slots := [(0, .s (.dat Y129)), (1, .s (.fn 76 [YI])), (7, .s (.dat YI)), (8, .s (.dat YI))], boxes := [], rows := [] }
def l_ca_2 (rec : i_ca_2.den → Option (denO o_j_2)) (u : i_ca_2.den) : Option (denO o_j_2) :=
 if (ltI u.1.2.2.2.1 u.1.2.2.1) then
  if 0 ≤ u.1.2.2.2.1 then
   ((u.1.1)[(u.1.2.2.2.1).toNat]?).bind fun y4 =>
   (F_by_1 (y4, u.1.2.1.1, ())).bind fun r5 =>
   if r5.1.1 then
    some (.inr (.inl ((u.1.2.2.2.1, ()), ((), ()))))
   else
    let v6 := (IntKind.i64.wrap (u.1.2.2.2.1 + (1 : Int)))
    rec ((u.1.1, ((u.1.2.1.1, ()), (u.1.2.2.1, (v6, ())))), ((), ()))
  else none
 else
  some (.inl ((), ((), ())))
def L_ca_2 (x : i_ca_2.den) : Option (denO o_j_2) := Qc l_ca_2 lots x
def F_bz_1 (x : denP P_bz_1) : FO P_bz_1 R_c :=
 let v1 := ((x.1.length : Nat) : Int)
 (L_ca_2 ((x.1, ((x.2.1.1, ()), (v1, ((0 : Int), ())))), ((), ()))).bind fun z7 =>
 match z7 with
 | .inl x8 =>
  some (((-1 : Int), ()), ())
 | .inr z7_ =>
  match z7_ with
  | .inl x9 =>
   some ((x9.1.1, ()), ())
  | .inr z7__ =>
   none
abbrev C_bz_1 : Con := ⟨P_bz_1, R_c, F_bz_1, false⟩
abbrev G_bz_1 : Env := [(76, C_by_1)]
theorem g_bz_1 : Qh Tryz.prog G_bz_1 := (Qa s_by_1 Qd)
abbrev c_ca_2 : Cut := ⟨i_ca_2, o_j_2, fun x => Qc l_ca_2 lots x⟩
theorem k_ca_2 : QB Tryz.prog 19 (.loop (nav Tryz.f101 [1, 0, 1, 0, 0])) c_ca_2 :=
  Qj (L := []) hT g_bz_1 (fun _ _ => by kernel_rfl) okP _
theorem r_bz_1 (x) : QL T G_bz_1 [(2, c_ca_2)] Tryz.f101 C_bz_1.ps C_bz_1.rs x = C_bz_1.F x := by kernel_rfl
theorem s_bz_1 : Qb Tryz.prog 101 C_bz_1 := fnC (L := [(2, c_ca_2)]) hT g_bz_1 Tryz.f101 (okS okP (okS (okS okP (okB (okU k_ca_2))) okP)) r_bz_1
def F_cb_1 (x : denP P_bz_1) : FO P_bz_1 R_a :=
 (F_bz_1 (x.1, (x.2.1.1, ()), ())).bind fun r1 =>
 some (((leI (0 : Int) r1.1.1), ()), ())
abbrev C_cb_1 : Con := ⟨P_bz_1, R_a, F_cb_1, false⟩
abbrev G_cb_1 : Env := [(101, C_bz_1)]
theorem g_cb_1 : Qh Tryz.prog G_cb_1 := (Qa s_bz_1 Qd)
theorem s_cb_1 : Qb Tryz.prog 75 C_cb_1 := fnC (L := []) hT g_cb_1 Tryz.f75 okP fun _ => by kernel_rfl
abbrev P_by : List PK := [.val YI, .val Y129]
def F_by (x : denP P_by) : FO P_by R_c :=
 (F_z (x.1, (0 : Int), (200 : Int), ())).bind fun r1 =>
 if (!r1.1.1) = false then
  (F_cb_1 (x.2.1, (x.1, ()), ())).bind fun r2 =>
  if r2.1.1 then
   some (((3 : Int), ()), ())
  else
   some (((0 : Int), ()), ())
 else
  some (((3 : Int), ()), ())
abbrev C_by : Con := ⟨P_by, R_c, F_by, false⟩
abbrev G_by : Env := [(27, C_z), (75, C_cb_1)]
theorem g_by : Qh Tryz.prog G_by := (Qa s_z (Qa s_cb_1 Qd))
theorem s_by : Qb Tryz.prog 41 C_by := fnC (L := []) hT g_by Tryz.f41 okP fun _ => by kernel_rfl
abbrev P_cc : List PK := [.val Y33]
abbrev R_cc : List VK := [.s (.own 47 Y46)]
def F_cc (x : denP P_cc) : FO P_cc R_cc :=
  if (([] : List (den Y46)).length + x.1.length) * 120 ≤ 140737488355328 then some (([] ++ x.1, ()), ()) else none
abbrev C_cc : Con := ⟨P_cc, R_cc, F_cc, false⟩
theorem s_cc : Qb Tryz.prog 64 C_cc :=
  QbZ hT (fn := Tryz.f64) (cn := C_cc) (c0 := nav Tryz.f64 [0]) (ca := nav Tryz.f64 [1, 0, 1, 0]) (cb := nav Tryz.f64 [1, 1]) (id := 1) (d := 4) (nm := 1032000) (o1 := Qdt Tryz.f64 [1, 0, 0] 0) (o2 := Qdt Tryz.f64 [1, 0, 0] 1)
    (t := 33) (t' := 33) (x := .tmp 3) (r := ⟨Y33, [], 47, 24, 3000047⟩) (u := Y46) (by kernel_rfl) (by kernel_rfl) (by kernel_rfl) ⟨by kernel_rfl, by kernel_rfl⟩ (fun y => by kernel_rfl) (by kernel_rfl) (by kernel_rfl) (by kernel_rfl) (by kernel_rfl) (by kernel_rfl) rfl
    (fun y => (st0 Tryz.f64 P_cc y).set 2 (.s .nls)) (fun y => ((st0 Tryz.f64 P_cc y).set 2 (.s .nls)).set 3 (.s (.d (.slice Y46) y.1))) (fun y => y.1)
    (fun y => by kernel_rfl) (fun y => by kernel_rfl) (fun y => by kernel_rfl) (fun y => Nat.le_of_ble_eq_true (by kernel_rfl)) (fun y => by kernel_rfl) (by kernel_rfl) (by kernel_rfl) (by kernel_rfl) (fun y => by kernel_rfl)
    (fun y h => by obtain ⟨l, v⟩ := y; have h : l = [] := h; subst h; show run _ _ _ _ _ _ = F_cc ([], v); kernel_rfl) (fun y => by kernel_rfl)
abbrev R_cd : List VK := [.g [.own 2 YI, .dat YI, .own 2 YI, .dat .bool, .dat .bool, .dat .bool, .dat YI, .own 2 YI, .own 2 YI]]
def F_cd (x : denP P_br) : FO P_br R_cd :=
 (F_av (x.1.1, ())).bind fun r1 =>
 (F_av (x.1.2.2.1, ())).bind fun r2 =>
 (F_av (x.1.2.2.2.2.2.2.2.1, ())).bind fun r3 =>
 (F_av (x.1.2.2.2.2.2.2.2.2.1, ())).bind fun r4 =>
 some (((r1.1.1, (x.1.2.1, (r2.1.1, (x.1.2.2.2.1, (x.1.2.2.2.2.1, (x.1.2.2.2.2.2.1, (x.1.2.2.2.2.2.2.1, (r3.1.1, (r4.1.1, ()))))))))), ()), ())
abbrev C_cd : Con := ⟨P_br, R_cd, F_cd, false⟩
abbrev G_cd : Env := [(57, C_av)]
theorem g_cd : Qh Tryz.prog G_cd := (Qa s_av Qd)
theorem s_cd : Qb Tryz.prog 35 C_cd := fnC (L := []) hT g_cd Tryz.f35 okP fun _ => by kernel_rfl
abbrev R_ce : List VK := [.g [.own 32 Y32, .own 42 Y41, .own 112 Y70, .own 71 Y70, .own 2 YI, .own 47 Y46, .dat YI, .dat YI, .dat YI]]
abbrev i_ce_5 : Shp := { slots := [(1, .s (.ptr 1 0)), (2, .s (.ptr 2 0)), (18, .s (.dat YI)), (19, .s (.dat YI))], boxes := [(1, [.own 32 Y32, .own 42 Y41, .own 112 Y70, .own 71 Y70, .own 2 YI, .own 47 Y46, .dat YI, .dat YI, .dat YI]), (2, [.own 32 Y32, .own 42 Y41, .own 112 Y70, .own 71 Y70, .own 2 YI, .own 47 Y46, .dat YI, .dat YI, .dat YI])], rows := [] }
abbrev o_ce_5 : List (Ex × Shp) := [(.exit 0, { slots := [(1, .s (.ptr 1 0)), (2, .s (.ptr 2 0))], boxes := [(1, [.own 32 Y32, .own 42 Y41, .own 112 Y70, .own 71 Y70, .own 2 YI, .own 47 Y46, .dat YI, .dat YI, .dat YI]), (2, [.own 32 Y32, .own 42 Y41, .own 112 Y70, .own 71 Y70, .own 2 YI, .own 47 Y46, .dat YI, .dat YI, .dat YI])], rows := [] })]
def l_ce_5 (rec : i_ce_5.den → Option (denO o_ce_5)) (u : i_ce_5.den) : Option (denO o_ce_5) :=
 if (ltI u.1.2.2.2.1 u.1.2.2.1) then
  if 0 ≤ u.1.2.2.2.1 ∧ u.1.2.2.2.1 < ((u.2.1.1.2.2.2.2.2.1.length : Nat) : Int) then
   ((u.2.1.1.2.2.2.2.2.1)[(u.1.2.2.2.1).toNat]?).bind fun y8 =>
   (F_cd (y8, ())).bind fun r9 =>
   if 0 ≤ u.1.2.2.2.1 ∧ u.1.2.2.2.1 < ((u.2.1.1.2.2.2.2.2.1.length : Nat) : Int) then
    ((u.2.1.1.2.2.2.2.2.1)[(u.1.2.2.2.1).toNat]?).bind fun y10 =>
    let v11 := (u.2.1.1.2.2.2.2.2.1.set (u.1.2.2.2.1).toNat r9.1.1)
    let v12 := (IntKind.i64.wrap (u.1.2.2.2.1 + (1 : Int)))
    rec (((), ((), (u.1.2.2.1, (v12, ())))), (((u.2.1.1.1, (u.2.1.1.2.1, (u.2.1.1.2.2.1, (u.2.1.1.2.2.2.1, (u.2.1.1.2.2.2.2.1, (v11, (u.2.1.1.2.2.2.2.2.2.1, (u.2.1.1.2.2.2.2.2.2.2.1, (u.2.1.1.2.2.2.2.2.2.2.2.1, ()))))))))), (u.2.1.2.1, ())), ()))
   else none
  else none
 else
  some (.inl (((), ((), ())), ((u.2.1.1, (u.2.1.2.1, ())), ())))
def L_ce_5 (x : i_ce_5.den) : Option (denO o_ce_5) := Qc l_ce_5 lots x
def F_ce (x : denP P_bu) : FO P_bu R_ce :=
 (F_az (x.1.1, ())).bind fun r1 =>
 (F_av (x.1.2.1, ())).bind fun r2 =>
 (F_cc (x.1.2.2.1, ())).bind fun r3 =>
 let v4 := ((r3.1.1.length : Nat) : Int)
 (L_ce_5 (((), ((), (v4, ((0 : Int), ())))), (((r1.1.1.1, (r1.1.1.2.1, (r1.1.1.2.2.1, (r1.1.1.2.2.2.1, (r2.1.1, (r3.1.1, (x.1.2.2.2.1, (x.1.2.2.2.2.1, (x.1.2.2.2.2.2.1, ()))))))))), ((([] : List (den Y32)), (([] : List (den Y41)), (([] : List (den Y70)), (([] : List (den Y70)), (([] : List (den YI)), (([] : List (den Y46)), ((0 : Int), ((0 : Int), ((0 : Int), ()))))))))), ())), ()))).bind fun z13 =>
 match z13 with
 | .inl x14 =>
  some ((x14.2.1.1, ()), ())
 | .inr z13_ =>
  none
abbrev C_ce : Con := ⟨P_bu, R_ce, F_ce, false⟩
abbrev G_ce : Env := [(24, C_az), (35, C_cd), (57, C_av), (64, C_cc)]
theorem g_ce : Qh Tryz.prog G_ce := (Qa s_az (Qa s_cd (Qa s_av (Qa s_cc Qd))))
abbrev c_ce_5 : Cut := ⟨i_ce_5, o_ce_5, fun x => Qc l_ce_5 lots x⟩
theorem k_ce_5 : QB Tryz.prog 34 (.loop (nav Tryz.f28 [1, 1, 1, 1, 0, 1, 0, 0])) c_ce_5 :=
  Qj (L := []) hT g_ce (fun _ _ => by kernel_rfl) okP _
theorem r_ce (x) : QL T G_ce [(5, c_ce_5)] Tryz.f28 C_ce.ps C_ce.rs x = C_ce.F x := by kernel_rfl
theorem s_ce : Qb Tryz.prog 28 C_ce := fnC (L := [(5, c_ce_5)]) hT g_ce Tryz.f28 (okS okP (okS okP (okS okP (okS okP (okS (okS okP (okB (okU k_ce_5))) okP))))) r_ce
def F_cf (x : denP P_f) : FO P_f R_v :=
 let v1 := (IntKind.i64.wrap (x.2.1 * (8 : Int)))
 let v2 := (IntKind.i64.wrap (x.2.1 + (1 : Int)))
 let v3 := (IntKind.i64.wrap (v2 * (8 : Int)))
 if 0 ≤ v1 ∧ v1 ≤ v3 ∧ v3 ≤ ((x.1.length : Nat) : Int) then
  let v4 := ((x.1.drop (v1).toNat).take ((v3).toNat - (v1).toNat))
  (F_av (v4, ())).bind fun r5 =>
  some ((r5.1.1, ()), ())
 else none
abbrev C_cf : Con := ⟨P_f, R_v, F_cf, false⟩
theorem g_cf : Qh Tryz.prog G_cd := (Qa s_av Qd)
theorem s_cf : Qb Tryz.prog 32 C_cf := fnC (L := []) hT g_cf Tryz.f32 okP fun _ => by kernel_rfl
abbrev P_cg : List PK := [.val Y32, .val Y32]
abbrev i_cg_3 : Shp := { slots := [(0, .s (.dat Y32)), (5, .s (.own 2 YI)), (9, .s (.dat Y32)), (10, .s (.dat YI)), (11, .s (.dat YI))], boxes := [], rows := [] }
abbrev o_cg_3 : List (Ex × Shp) := [(.exit 0, { slots := [(5, .s (.own 2 YI))], boxes := [], rows := [] })]
def l_cg_3 (rec : i_cg_3.den → Option (denO o_cg_3)) (u : i_cg_3.den) : Option (denO o_cg_3) :=
 if (ltI u.1.2.2.2.2.1 u.1.2.2.2.1) then
  if 0 ≤ u.1.2.2.2.2.1 then
   ((u.1.2.2.1)[(u.1.2.2.2.2.1).toNat]?).bind fun y4 =>
   (F_cf (u.1.1, y4, ())).bind fun r5 =>
   if (u.1.2.1.length + r5.1.1.length) * 8 ≤ 140737488355328 then
    let v6 := (u.1.2.1 ++ r5.1.1)
    let v7 := (IntKind.i64.wrap (u.1.2.2.2.2.1 + (1 : Int)))
    rec ((u.1.1, (v6, (u.1.2.2.1, (u.1.2.2.2.1, (v7, ()))))), ((), ()))
   else none
  else none
 else
  some (.inl ((u.1.2.1, ()), ((), ())))
def L_cg_3 (x : i_cg_3.den) : Option (denO o_cg_3) := Qc l_cg_3 lots x
def F_cg (x : denP P_cg) : FO P_cg R_v :=
 let v1 := ((x.2.1.length : Nat) : Int)
 (L_cg_3 ((x.1, (([] : List (den YI)), (x.2.1, (v1, ((0 : Int), ()))))), ((), ()))).bind fun z8 =>
 match z8 with
 | .inl x9 =>
  some ((x9.1.1, ()), ())
 | .inr z8_ =>
  none
abbrev C_cg : Con := ⟨P_cg, R_v, F_cg, false⟩
abbrev G_cg : Env := [(32, C_cf)]
theorem g_cg : Qh Tryz.prog G_cg := (Qa s_cf Qd)
abbrev c_cg_3 : Cut := ⟨i_cg_3, o_cg_3, fun x => Qc l_cg_3 lots x⟩
theorem k_cg_3 : QB Tryz.prog 22 (.loop (nav Tryz.f77 [1, 1, 0, 1, 0, 0])) c_cg_3 :=
  Qj (L := []) hT g_cg (fun _ _ => by kernel_rfl) okP _
theorem r_cg (x) : QL T G_cg [(3, c_cg_3)] Tryz.f77 C_cg.ps C_cg.rs x = C_cg.F x := by kernel_rfl
theorem s_cg : Qb Tryz.prog 77 C_cg := fnC (L := [(3, c_cg_3)]) hT g_cg Tryz.f77 (okS okP (okS okP (okS (okS okP (okB (okU k_cg_3))) okP))) r_cg
abbrev P_ch : List PK := [.ptr Y34, .val YI]
abbrev R_ch : List VK := [.g [.own 2 YI, .dat YI, .own 2 YI, .dat .bool, .dat .bool, .dat .bool, .dat YI, .own 2 YI, .own 2 YI, .own 2 YI, .own 2 YI]]
abbrev i_ch_3 : Shp := { slots := [(0, .s (.pd Y34)), (1, .s (.dat YI)), (4, .s (.ptr 4 0)), (5, .s (.ptr 5 0)), (34, .s (.dat Y25)), (35, .s (.dat YI)), (36, .s (.dat YI))], boxes := [(4, [.own 2 YI, .dat YI, .own 2 YI, .dat .bool, .dat .bool, .dat .bool, .dat YI, .own 2 YI, .own 2 YI, .own 2 YI, .own 2 YI]), (5, [.own 2 YI, .dat YI, .own 2 YI, .dat .bool, .dat .bool, .dat .bool, .dat YI, .own 2 YI, .own 2 YI, .own 2 YI, .own 2 YI])], rows := [] }
abbrev o_ch_3 : List (Ex × Shp) := [(.exit 0, { slots := [(4, .s (.ptr 4 0)), (5, .s (.ptr 5 0))], boxes := [(4, [.own 2 YI, .dat YI, .own 2 YI, .dat .bool, .dat .bool, .dat .bool, .dat YI, .own 2 YI, .own 2 YI, .own 2 YI, .own 2 YI]), (5, [.own 2 YI, .dat YI, .own 2 YI, .dat .bool, .dat .bool, .dat .bool, .dat YI, .own 2 YI, .own 2 YI, .own 2 YI, .own 2 YI])], rows := [] })]
def l_ch_3 (rec : i_ch_3.den → Option (denO o_ch_3)) (u : i_ch_3.den) : Option (denO o_ch_3) :=
 if (ltI u.1.2.2.2.2.2.2.1 u.1.2.2.2.2.2.1) then
  if 0 ≤ u.1.2.2.2.2.2.2.1 then
   ((u.1.2.2.2.2.1)[(u.1.2.2.2.2.2.2.1).toNat]?).bind fun y8 =>
   if (y8.1 == u.1.2.1) then
    (F_cf (u.1.1.2.1, y8.2.2.1, ())).bind fun r9 =>
    if (u.2.1.2.1.2.2.2.2.2.2.2.2.2.2.1.length + r9.1.1.length) * 8 ≤ 140737488355328 then
     let v10 := (u.2.1.2.1.2.2.2.2.2.2.2.2.2.2.1 ++ r9.1.1)
     let v11 := (IntKind.i64.wrap (u.1.2.2.2.2.2.2.1 + (1 : Int)))
     rec ((u.1.1, (u.1.2.1, ((), ((), (u.1.2.2.2.2.1, (u.1.2.2.2.2.2.1, (v11, ()))))))), ((u.2.1.1, ((u.2.1.2.1.1, (u.2.1.2.1.2.1, (u.2.1.2.1.2.2.1, (u.2.1.2.1.2.2.2.1, (u.2.1.2.1.2.2.2.2.1, (u.2.1.2.1.2.2.2.2.2.1, (u.2.1.2.1.2.2.2.2.2.2.1, (u.2.1.2.1.2.2.2.2.2.2.2.1, (u.2.1.2.1.2.2.2.2.2.2.2.2.1, (u.2.1.2.1.2.2.2.2.2.2.2.2.2.1, (v10, ()))))))))))), ())), ()))
    else none
   else
    let v12 := (IntKind.i64.wrap (u.1.2.2.2.2.2.2.1 + (1 : Int)))
    rec ((u.1.1, (u.1.2.1, ((), ((), (u.1.2.2.2.2.1, (u.1.2.2.2.2.2.1, (v12, ()))))))), ((u.2.1.1, (u.2.1.2.1, ())), ()))
  else none
 else
  some (.inl (((), ((), ())), ((u.2.1.1, (u.2.1.2.1, ())), ())))
def L_ch_3 (x : i_ch_3.den) : Option (denO o_ch_3) := Qc l_ch_3 lots x
def F_ch (x : denP P_ch) : FO P_ch R_ch :=
 if 0 ≤ x.2.1 then
  ((x.1.2.2.1)[(x.2.1).toNat]?).bind fun y1 =>
  (F_cd (y1, ())).bind fun r2 =>
  if 0 ≤ x.2.1 then
   ((x.1.1.1)[(x.2.1).toNat]?).bind fun y3 =>
   (F_cg (x.1.2.1, y3, ())).bind fun r4 =>
   let v5 := ((x.1.1.2.1.length : Nat) : Int)
   (L_ch_3 ((x.1, (x.2.1, ((), ((), (x.1.1.2.1, (v5, ((0 : Int), ()))))))), (((([] : List (den YI)), ((0 : Int), (([] : List (den YI)), (false, (false, (false, ((0 : Int), (([] : List (den YI)), (([] : List (den YI)), (([] : List (den YI)), (([] : List (den YI)), ()))))))))))), ((r2.1.1.1, (r2.1.1.2.1, (r2.1.1.2.2.1, (r2.1.1.2.2.2.1, (r2.1.1.2.2.2.2.1, (r2.1.1.2.2.2.2.2.1, (r2.1.1.2.2.2.2.2.2.1, (r2.1.1.2.2.2.2.2.2.2.1, (r2.1.1.2.2.2.2.2.2.2.2.1, (r4.1.1, (([] : List (den YI)), ()))))))))))), ())), ()))).bind fun z13 =>
   match z13 with
   | .inl x14 =>
    some ((x14.2.1.2.1, ()), ())
   | .inr z13_ =>
    none
  else none
 else none
abbrev C_ch : Con := ⟨P_ch, R_ch, F_ch, false⟩
abbrev G_ch : Env := [(32, C_cf), (35, C_cd), (77, C_cg)]
theorem g_ch : Qh Tryz.prog G_ch := (Qa s_cf (Qa s_cd (Qa s_cg Qd)))
abbrev c_ch_3 : Cut := ⟨i_ch_3, o_ch_3, fun x => Qc l_ch_3 lots x⟩
theorem k_ch_3 : QB Tryz.prog 57 (.loop (nav Tryz.f43 [1, 1, 0, 1, 0, 0])) c_ch_3 :=
  Qj (L := []) hT g_ch (fun _ _ => by kernel_rfl) okP _
theorem r_ch (x) : QL T G_ch [(3, c_ch_3)] Tryz.f43 C_ch.ps C_ch.rs x = C_ch.F x := by kernel_rfl
theorem s_ch : Qb Tryz.prog 43 C_ch := fnC (L := [(3, c_ch_3)]) hT g_ch Tryz.f43 (okS okP (okS okP (okS (okS okP (okB (okU k_ch_3))) okP))) r_ch
abbrev P_ci : List PK := [.val Y49, .ptr Y28, .val YI]
abbrev i_ci_3 : Shp := { slots := [(2, .s (.dat YI)), (3, .s (.ptr 3 0)), (6, .s (.ptr 6 0)), (7, .s (.ptr 7 0)), (30, .s (.dat Y25)), (31, .s (.dat YI)), (32, .s (.dat YI))], boxes := [(3, [.dat Y32, .dat YI, .dat Y32, .dat .bool, .dat .bool, .dat .bool, .dat YI, .dat Y32, .dat Y32, .dat Y26, .dat Y32]), (6, [.own 2 YI, .dat YI, .own 2 YI, .dat .bool, .dat .bool, .dat .bool, .dat YI, .own 2 YI, .own 2 YI, .own 2 YI, .own 2 YI]), (7, [.own 2 YI, .dat YI, .own 2 YI, .dat .bool, .dat .bool, .dat .bool, .dat YI, .own 2 YI, .own 2 YI, .own 2 YI, .own 2 YI])], rows := [] }
abbrev o_ci_3 : List (Ex × Shp) := [(.exit 0, { slots := [(6, .s (.ptr 6 0)), (7, .s (.ptr 7 0))], boxes := [(6, [.own 2 YI, .dat YI, .own 2 YI, .dat .bool, .dat .bool, .dat .bool, .dat YI, .own 2 YI, .own 2 YI, .own 2 YI, .own 2 YI]), (7, [.own 2 YI, .dat YI, .own 2 YI, .dat .bool, .dat .bool, .dat .bool, .dat YI, .own 2 YI, .own 2 YI, .own 2 YI, .own 2 YI])], rows := [] })]
def l_ci_3 (rec : i_ci_3.den → Option (denO o_ci_3)) (u : i_ci_3.den) : Option (denO o_ci_3) :=
 if (ltI u.1.2.2.2.2.2.2.1 u.1.2.2.2.2.2.1) then
  if 0 ≤ u.1.2.2.2.2.2.2.1 then
   ((u.1.2.2.2.2.1)[(u.1.2.2.2.2.2.2.1).toNat]?).bind fun y10 =>
   if (y10.1 == u.1.1) then
    (F_cf (u.2.1.1.2.2.2.2.2.2.2.2.2.2.1, y10.2.2.2.1, ())).bind fun r11 =>
    if (u.2.1.2.2.1.2.2.2.2.2.2.2.2.2.2.1.length + r11.1.1.length) * 8 ≤ 140737488355328 then
     let v12 := (u.2.1.2.2.1.2.2.2.2.2.2.2.2.2.2.1 ++ r11.1.1)
     let v13 := (IntKind.i64.wrap (u.1.2.2.2.2.2.2.1 + (1 : Int)))
     rec ((u.1.1, ((), ((), ((), (u.1.2.2.2.2.1, (u.1.2.2.2.2.2.1, (v13, ()))))))), ((u.2.1.1, (u.2.1.2.1, ((u.2.1.2.2.1.1, (u.2.1.2.2.1.2.1, (u.2.1.2.2.1.2.2.1, (u.2.1.2.2.1.2.2.2.1, (u.2.1.2.2.1.2.2.2.2.1, (u.2.1.2.2.1.2.2.2.2.2.1, (u.2.1.2.2.1.2.2.2.2.2.2.1, (u.2.1.2.2.1.2.2.2.2.2.2.2.1, (u.2.1.2.2.1.2.2.2.2.2.2.2.2.1, (u.2.1.2.2.1.2.2.2.2.2.2.2.2.2.1, (v12, ()))))))))))), ()))), ()))
    else none
   else
    let v14 := (IntKind.i64.wrap (u.1.2.2.2.2.2.2.1 + (1 : Int)))
    rec ((u.1.1, ((), ((), ((), (u.1.2.2.2.2.1, (u.1.2.2.2.2.2.1, (v14, ()))))))), ((u.2.1.1, (u.2.1.2.1, (u.2.1.2.2.1, ()))), ()))
  else none
 else
  some (.inl (((), ((), ())), ((u.2.1.2.1, (u.2.1.2.2.1, ())), ())))
def L_ci_3 (x : i_ci_3.den) : Option (denO o_ci_3) := Qc l_ci_3 lots x
def F_ci (x : denP P_ci) : FO P_ci R_ch :=
 (F_cd (x.1.1, ())).bind fun r1 =>
 if 0 ≤ x.2.2.1 then
  ((x.2.1.1)[(x.2.2.1).toNat]?).bind fun y2 =>
  let v3 := ((y2.length : Nat) : Int)
  let v4 := (IntKind.i64.wrap (v3 * (8 : Int)))
  if 0 ≤ (0 : Int) ∧ (0 : Int) ≤ v4 ∧ v4 ≤ ((x.1.2.2.1.length : Nat) : Int) then
   let v5 := ((x.1.2.2.1.drop ((0 : Int)).toNat).take ((v4).toNat - ((0 : Int)).toNat))
   (F_av (v5, ())).bind fun r6 =>
   let v7 := ((x.2.1.2.1.length : Nat) : Int)
   (L_ci_3 ((x.2.2.1, ((), ((), ((), (x.2.1.2.1, (v7, ((0 : Int), ()))))))), (((x.1.1.1, (x.1.1.2.1, (x.1.1.2.2.1, (x.1.1.2.2.2.1, (x.1.1.2.2.2.2.1, (x.1.1.2.2.2.2.2.1, (x.1.1.2.2.2.2.2.2.1, (x.1.1.2.2.2.2.2.2.2.1, (x.1.1.2.2.2.2.2.2.2.2.1, (x.1.2.1, (x.1.2.2.1, ()))))))))))), ((([] : List (den YI)), ((0 : Int), (([] : List (den YI)), (false, (false, (false, ((0 : Int), (([] : List (den YI)), (([] : List (den YI)), (([] : List (den YI)), (([] : List (den YI)), ()))))))))))), ((r1.1.1.1, (r1.1.1.2.1, (r1.1.1.2.2.1, (r1.1.1.2.2.2.1, (r1.1.1.2.2.2.2.1, (r1.1.1.2.2.2.2.2.1, (r1.1.1.2.2.2.2.2.2.1, (r1.1.1.2.2.2.2.2.2.2.1, (r1.1.1.2.2.2.2.2.2.2.2.1, (r6.1.1, (([] : List (den YI)), ()))))))))))), ()))), ()))).bind fun z15 =>
   match z15 with
   | .inl x16 =>
    some ((x16.2.1.2.1, ()), ())
   | .inr z15_ =>
    none
  else none
 else none
abbrev C_ci : Con := ⟨P_ci, R_ch, F_ci, false⟩
abbrev G_ci : Env := [(32, C_cf), (35, C_cd), (57, C_av)]
theorem g_ci : Qh Tryz.prog G_ci := (Qa s_cf (Qa s_cd (Qa s_av Qd)))
abbrev c_ci_3 : Cut := ⟨i_ci_3, o_ci_3, fun x => Qc l_ci_3 lots x⟩
theorem k_ci_3 : QB Tryz.prog 51 (.loop (nav Tryz.f44 [1, 1, 0, 1, 0, 0])) c_ci_3 :=
  Qj (L := []) hT g_ci (fun _ _ => by kernel_rfl) okP _
theorem r_ci (x) : QL T G_ci [(3, c_ci_3)] Tryz.f44 C_ci.ps C_ci.rs x = C_ci.F x := by kernel_rfl
theorem s_ci : Qb Tryz.prog 44 C_ci := fnC (L := [(3, c_ci_3)]) hT g_ci Tryz.f44 (okS okP (okS okP (okS (okS okP (okB (okU k_ci_3))) okP))) r_ci
abbrev i_cj_4 : Shp := { slots := [(0, .s (.dat Y32)), (1, .s (.dat Y32)), (12, .s (.dat YI)), (13, .s (.dat YI))], boxes := [], rows := [] }
def l_cj_4 (rec : i_cj_4.den → Option (denO o_f_2)) (u : i_cj_4.den) : Option (denO o_f_2) :=
 if (ltI u.1.2.2.2.1 u.1.2.2.1) then
  if 0 ≤ u.1.2.2.2.1 then
   ((u.1.1)[(u.1.2.2.2.1).toNat]?).bind fun y6 =>
   if 0 ≤ u.1.2.2.2.1 then
    ((u.1.2.1)[(u.1.2.2.2.1).toNat]?).bind fun y7 =>
    if (y6 != y7) then
     some (.inr (.inl ((false, ()), ((), ()))))
    else
     let v8 := (IntKind.i64.wrap (u.1.2.2.2.1 + (1 : Int)))
     rec ((u.1.1, (u.1.2.1, (u.1.2.2.1, (v8, ())))), ((), ()))
   else none
  else none
 else
  some (.inl ((), ((), ())))
def L_cj_4 (x : i_cj_4.den) : Option (denO o_f_2) := Qc l_cj_4 lots x
def F_cj (x : denP P_cg) : FO P_cg R_a :=
 let v1 := ((x.1.length : Nat) : Int)
 let v2 := ((x.2.1.length : Nat) : Int)
 if (v1 != v2) then
  some ((false, ()), ())
 else
  let v3 := ((x.1.length : Nat) : Int)
  (L_cj_4 ((x.1, (x.2.1, (v3, ((0 : Int), ())))), ((), ()))).bind fun z9 =>
  match z9 with
  | .inl x10 =>
   some ((true, ()), ())
  | .inr z9_ =>
   match z9_ with
   | .inl x11 =>
    some ((x11.1.1, ()), ())
   | .inr z9__ =>
    none
abbrev C_cj : Con := ⟨P_cg, R_a, F_cj, false⟩
abbrev c_cj_4 : Cut := ⟨i_cj_4, o_f_2, fun x => Qc l_cj_4 lots x⟩
theorem k_cj_4 : QB Tryz.prog 26 (.loop (nav Tryz.f85 [1, 1, 0, 1, 0, 0])) c_cj_4 :=
  Qj (L := []) hT g_a (fun _ _ => by kernel_rfl) okP _
theorem r_cj (x) : QL T G_a [(4, c_cj_4)] Tryz.f85 C_cj.ps C_cj.rs x = C_cj.F x := by kernel_rfl
theorem s_cj : Qb Tryz.prog 85 C_cj := fnC (L := [(4, c_cj_4)]) hT g_a Tryz.f85 (okS okP (okS okP (okS (okS okP (okB (okU k_cj_4))) okP))) r_cj
abbrev P_ck : List PK := [.val Y46, .val Y46]
def F_ck (x : denP P_ck) : FO P_ck R_a :=
 (F_cj (x.1.1, x.2.1.1, ())).bind fun r1 =>
 if r1.1.1 = true then
  if (x.1.2.1 == x.2.1.2.1) = true then
   (F_cj (x.1.2.2.1, x.2.1.2.2.1, ())).bind fun r2 =>
   if r2.1.1 = true then
    if (x.1.2.2.2.1 == x.2.1.2.2.2.1) = true then
     if (x.1.2.2.2.2.1 == x.2.1.2.2.2.2.1) = true then
      if (x.1.2.2.2.2.2.1 == x.2.1.2.2.2.2.2.1) = true then
       if (x.1.2.2.2.2.2.2.1 == x.2.1.2.2.2.2.2.2.1) = true then
        (F_cj (x.1.2.2.2.2.2.2.2.1, x.2.1.2.2.2.2.2.2.2.1, ())).bind fun r3 =>
        if r3.1.1 = true then
         (F_cj (x.1.2.2.2.2.2.2.2.2.1, x.2.1.2.2.2.2.2.2.2.2.1, ())).bind fun r4 =>
         some ((r4.1.1, ()), ())
        else
         some ((false, ()), ())
       else
        some ((false, ()), ())
      else
       some ((false, ()), ())
     else
      some ((false, ()), ())
    else
     some ((false, ()), ())
   else
    some ((false, ()), ())
  else
   some ((false, ()), ())
 else
  some ((false, ()), ())
abbrev C_ck : Con := ⟨P_ck, R_a, F_ck, false⟩
abbrev G_ck : Env := [(85, C_cj)]
theorem g_ck : Qh Tryz.prog G_ck := (Qa s_cj Qd)
theorem s_ck : Qb Tryz.prog 84 C_ck := fnC (L := []) hT g_ck Tryz.f84 okP fun _ => by kernel_rfl
abbrev P_cl : List PK := [.val Y92, .val Y92]
def F_cl (x : denP P_cl) : FO P_cl R_a :=
 (F_ck (x.1.1, x.2.1.1, ())).bind fun r1 =>
 if r1.1.1 = true then
  (F_cj (x.1.2.1, x.2.1.2.1, ())).bind fun r2 =>
  if r2.1.1 = true then
   (F_cj (x.1.2.2.1, x.2.1.2.2.1, ())).bind fun r3 =>
   some ((r3.1.1, ()), ())
  else
   some ((false, ()), ())
 else
  some ((false, ()), ())
abbrev C_cl : Con := ⟨P_cl, R_a, F_cl, false⟩
abbrev G_cl : Env := [(84, C_ck), (85, C_cj)]
theorem g_cl : Qh Tryz.prog G_cl := (Qa s_ck (Qa s_cj Qd))
theorem s_cl : Qb Tryz.prog 55 C_cl := fnC (L := []) hT g_cl Tryz.f55 okP fun _ => by kernel_rfl
def F_cm (x : denP P_cl) : FO P_cl R_a :=
 (F_cl (((x.1.1.1, (x.1.1.2.1, (x.1.1.2.2.1, (x.1.1.2.2.2.1, (x.1.1.2.2.2.2.1, (x.2.1.1.2.2.2.2.2.1, x.1.1.2.2.2.2.2.2)))))), x.1.2), x.2.1, ())).bind fun r1 =>
 some ((r1.1.1, ()), ())
abbrev C_cm : Con := ⟨P_cl, R_a, F_cm, false⟩
abbrev G_cm : Env := [(55, C_cl)]
theorem g_cm : Qh Tryz.prog G_cm := (Qa s_cl Qd)
theorem s_cm : Qb Tryz.prog 42 C_cm := fnC (L := []) hT g_cm Tryz.f42 okP fun _ => by kernel_rfl
abbrev P_cn : List PK := [.ptr Y34]
def F_cn (x : denP P_cn) : FO P_cn R_c :=
 if 0 ≤ x.1.2.2.2.1 then
  ((x.1.1.2.2.2.1)[(x.1.2.2.2.1).toNat]?).bind fun y1 =>
  some ((y1.1, ()), ())
 else none
abbrev C_cn : Con := ⟨P_cn, R_c, F_cn, false⟩
theorem s_cn : Qb Tryz.prog 45 C_cn := fnC (L := []) hT g_a Tryz.f45 okP fun _ => by kernel_rfl
def F_co (x : denP P_ax) : FO P_ax R_bl :=
  if (([] : List (den Y70)).length + x.1.length) * 16 ≤ 140737488355328 then some (([] ++ x.1, ()), ()) else none
abbrev C_co : Con := ⟨P_ax, R_bl, F_co, false⟩
theorem s_co : Qb Tryz.prog 128 C_co :=
  QbZ hT (fn := Tryz.f128) (cn := C_co) (c0 := nav Tryz.f128 [0]) (ca := nav Tryz.f128 [1, 0, 1, 0]) (cb := nav Tryz.f128 [1, 1]) (id := 1) (d := 4) (nm := 1032000) (o1 := Qdt Tryz.f128 [1, 0, 0] 0) (o2 := Qdt Tryz.f128 [1, 0, 0] 1)
    (t := 48) (t' := 48) (x := .tmp 3) (r := ⟨Y26, [], 84, 24, 0⟩) (u := Y70) (by kernel_rfl) (by kernel_rfl) (by kernel_rfl) ⟨by kernel_rfl, by kernel_rfl⟩ (fun y => by kernel_rfl) (by kernel_rfl) (by kernel_rfl) (by kernel_rfl) (by kernel_rfl) (by kernel_rfl) rfl
    (fun y => (st0 Tryz.f128 P_ax y).set 2 (.s .nls)) (fun y => ((st0 Tryz.f128 P_ax y).set 2 (.s .nls)).set 3 (.s (.d (.slice Y70) y.1))) (fun y => y.1)
    (fun y => by kernel_rfl) (fun y => by kernel_rfl) (fun y => by kernel_rfl) (fun y => Nat.le_of_ble_eq_true (by kernel_rfl)) (fun y => by kernel_rfl) (by kernel_rfl) (by kernel_rfl) (by kernel_rfl) (fun y => by kernel_rfl)
    (fun y h => by obtain ⟨l, v⟩ := y; have h : l = [] := h; subst h; show run _ _ _ _ _ _ = F_co ([], v); kernel_rfl) (fun y => by kernel_rfl)
def F_cp (x : denP P_ax) : FO P_ax R_bl :=
 (F_co (x.1, ())).bind fun r1 =>
 some ((r1.1.1, ()), ())
abbrev C_cp : Con := ⟨P_ax, R_bl, F_cp, false⟩
abbrev G_cp : Env := [(128, C_co)]
theorem g_cp : Qh Tryz.prog G_cp := (Qa s_co Qd)
theorem s_cp : Qb Tryz.prog 102 C_cp := fnC (L := []) hT g_cp Tryz.f102 okP fun _ => by kernel_rfl
abbrev P_cq : List PK := [.val Y49, .val YI, .val Y32]
abbrev R_cq : List VK := [.g [.own 2 YI, .dat YI, .own 2 YI, .dat .bool, .dat .bool, .dat .bool, .dat YI, .own 2 YI, .own 2 YI, .own 84 Y70, .own 2 YI]]
def F_cq (x : denP P_cq) : FO P_cq R_cq :=
 (F_av (x.1.2.2.1, ())).bind fun r1 =>
 let v2 := (IntKind.i64.wrap (x.2.1 * (8 : Int)))
 if 0 ≤ v2 ∧ v2 ≤ ((r1.1.1.length : Nat) : Int) ∧ ((r1.1.1.length : Nat) : Int) ≤ ((r1.1.1.length : Nat) : Int) then
  if 0 < ((((r1.1.1.length : Nat) : Int)).toNat - (v2).toNat) ∧ 0 < x.2.2.1.length then
   let v3 := (splc r1.1.1 x.2.2.1 (0 + (v2).toNat) ((((r1.1.1.length : Nat) : Int)).toNat - (v2).toNat))
   let v4 := ((min ((((r1.1.1.length : Nat) : Int)).toNat - (v2).toNat) x.2.2.1.length : Nat) : Int)
   (F_cd (x.1.1, ())).bind fun r5 =>
   (F_cp (x.1.2.1, ())).bind fun r6 =>
   some (((r5.1.1.1, (r5.1.1.2.1, (r5.1.1.2.2.1, (r5.1.1.2.2.2.1, (r5.1.1.2.2.2.2.1, (r5.1.1.2.2.2.2.2.1, (r5.1.1.2.2.2.2.2.2.1, (r5.1.1.2.2.2.2.2.2.2.1, (r5.1.1.2.2.2.2.2.2.2.2.1, (r6.1.1, (v3, ()))))))))))), ()), ())
  else none
 else none
abbrev C_cq : Con := ⟨P_cq, R_cq, F_cq, false⟩
abbrev G_cq : Env := [(35, C_cd), (57, C_av), (102, C_cp)]
theorem g_cq : Qh Tryz.prog G_cq := (Qa s_cd (Qa s_av (Qa s_cp Qd)))
theorem s_cq : Qb Tryz.prog 78 C_cq := fnC (L := []) hT g_cq Tryz.f78 okP fun _ => by kernel_rfl
abbrev P_cr : List PK := [.ptr Y46]
def F_cr (x : denP P_cr) : FO P_cr R_c :=
 ((x.1.2.2.1)[((9 : Int)).toNat]?).bind fun y1 =>
 if (y1 != (0 : Int)) = true then
  ((x.1.2.2.1)[((9 : Int)).toNat]?).bind fun y2 =>
  if (leI y2 x.1.2.2.2.2.2.2.1) then
   let v3 := (ior .i64 (0 : Int) (1 : Int))
   if x.1.2.2.2.2.2.1 then
    let v4 := (ior .i64 v3 (2 : Int))
    let v5 := ((x.1.2.2.2.2.2.2.2.1.length : Nat) : Int)
    if (ltI (0 : Int) v5) then
     let v6 := (ior .i64 v4 (4 : Int))
     some ((v6, ()), ())
    else
     some ((v4, ()), ())
   else
    let v7 := ((x.1.2.2.2.2.2.2.2.1.length : Nat) : Int)
    if (ltI (0 : Int) v7) then
     let v8 := (ior .i64 v3 (4 : Int))
     some ((v8, ()), ())
    else
     some ((v3, ()), ())
  else
   if x.1.2.2.2.2.2.1 then
    let v9 := (ior .i64 (0 : Int) (2 : Int))
    let v10 := ((x.1.2.2.2.2.2.2.2.1.length : Nat) : Int)
    if (ltI (0 : Int) v10) then
     let v11 := (ior .i64 v9 (4 : Int))
     some ((v11, ()), ())
    else
     some ((v9, ()), ())
   else
    let v12 := ((x.1.2.2.2.2.2.2.2.1.length : Nat) : Int)
    if (ltI (0 : Int) v12) then
     let v13 := (ior .i64 (0 : Int) (4 : Int))
     some ((v13, ()), ())
    else
     some (((0 : Int), ()), ())
 else
  if x.1.2.2.2.2.2.1 then
   let v14 := (ior .i64 (0 : Int) (2 : Int))
   let v15 := ((x.1.2.2.2.2.2.2.2.1.length : Nat) : Int)
   if (ltI (0 : Int) v15) then
    let v16 := (ior .i64 v14 (4 : Int))
    some ((v16, ()), ())
   else
    some ((v14, ()), ())
  else
   let v17 := ((x.1.2.2.2.2.2.2.2.1.length : Nat) : Int)
   if (ltI (0 : Int) v17) then
    let v18 := (ior .i64 (0 : Int) (4 : Int))
    some ((v18, ()), ())
   else
    some (((0 : Int), ()), ())
abbrev C_cr : Con := ⟨P_cr, R_c, F_cr, false⟩
theorem s_cr : Qb Tryz.prog 119 C_cr := fnC (L := []) hT g_a Tryz.f119 okP fun _ => by kernel_rfl
abbrev P_cs : List PK := [.val (.int .u64)]
def tzF (n : Int) : Option Int := if n = 1 ∨ n = 3 ∨ n = 5 ∨ n = 7 then some 0 else if n = 2 ∨ n = 6 then some 1 else if n = 4 then some 2 else none
def F_cs (x : denP P_cs) : FO P_cs R_c := match tzF x.1 with | some z => some ((z, ()), ()) | none => none
abbrev C_cs : Con := ⟨P_cs, R_c, F_cs, false⟩
theorem w_cs (n : Int) (k : Nat) (z : Int) (hn : (n == 0) = false) (w : World) (hr : 0 ≤ IntKind.u64.wrap (bits BinOp.and IntKind.u64 n (IntKind.u64.wrap (-n)) * 285870213051353865) / 288230376151711744 ∧ IntKind.u64.wrap (bits BinOp.and IntKind.u64 n (IntKind.u64.wrap (-n)) * 285870213051353865) / 288230376151711744 < 64)
    (he : (IntKind.u64.wrap (bits BinOp.and IntKind.u64 n (IntKind.u64.wrap (-n)) * 285870213051353865) / 288230376151711744).toNat = k)
    (h : w.cell? { block := 0, off := k } = some (.int .u8 z)) (hz : IntKind.i64.wrap z = z) : Calls Tryz.prog 144 #[.int .u64 n] w fun e' w' => e' = .returned (.int .i64 z) ∧ w' = w := by
  go_enter Tryz.func144, Tryz.ntmps144
  go_wp2
  all_goals first | (go_ret; exact ⟨rfl, rfl⟩) | exact absurd hr ‹¬ _› | simp_all
theorem v_cs {n z : Int} (h : tzF n = some z) {M : Nat → Nat → Prop} {w : World} (hl : Laid M w) : Calls Tryz.prog 144 #[.int .u64 n] w fun e' w' => e' = .returned (.int .i64 z) ∧ w' = w := by
  have hg : ∀ i v, (0, i, v) ∈ GL → w.cell? { block := 0, off := i } = some v := by
    intro i v hm
    obtain ⟨⟨c, e, fz, h1, h2⟩, _⟩ := hl _ hm
    simp only at h1 h2
    simp [World.cell?, h1, h2]
  have g0 := hg 0 (.int .u8 0) (by simp [GL])
  have g1 := hg 1 (.int .u8 1) (by simp [GL])
  have g3 := hg 3 (.int .u8 2) (by simp [GL])
  have key : ((n = 1 ∨ n = 3 ∨ n = 5 ∨ n = 7) ∧ z = 0) ∨ ((n = 2 ∨ n = 6) ∧ z = 1) ∨ (n = 4 ∧ z = 2) := by
    unfold tzF at h
    split at h
    · exact .inl ⟨‹_›, (Osj h).symm⟩
    · split at h
      · exact .inr (.inl ⟨‹_›, (Osj h).symm⟩)
      · split at h
        · exact .inr (.inr ⟨‹_›, (Osj h).symm⟩)
        · cases h
  clear h
  rcases key with ⟨h | h | h | h, rfl⟩ | ⟨h | h, rfl⟩ | ⟨h, rfl⟩ <;> subst h
  all_goals first
    | exact w_cs _ 0 _ (by decide) w (by decide +kernel) (by decide +kernel) g0 (by decide +kernel)
    | exact w_cs _ 1 _ (by decide) w (by decide +kernel) (by decide +kernel) g1 (by decide +kernel)
    | exact w_cs _ 3 _ (by decide) w (by decide +kernel) (by decide +kernel) g3 (by decide +kernel)
theorem u_cs : Qfp Tryz.prog 144 C_cs := by
  intro x y hx w args S Q B M F hp ha _
  obtain ⟨v, vs', rfl, ⟨cs, h1, h2⟩, rfl, rfl⟩ := ha
  have e1 : v = .int .u64 x.1 := by
    have h1 : cs = [v] := h1
    subst h1
    simpa [Rp] using h2
  subst e1
  have hx : F_cs x = some y := hx
  unfold F_cs at hx
  split at hx
  · rename_i z hz
    obtain rfl := Osj hx
    refine (v_cs hz hp.laid).mono fun r w' h => ?_
    obtain ⟨rfl, rfl⟩ := h
    refine ⟨_, rfl, Kept.refl M w', [.int .i64 z], [], [], rfl, ⟨_, [], [], [], rfl, rfl, ⟨⟨[.int .i64 z], rfl, rfl⟩, rfl⟩, rfl, rfl⟩, ⟨_, [], rfl, rfl, rfl⟩, List.nodup_nil, fun b hb => by cases hb⟩
  · cases hx
theorem s_cs : Qb Tryz.prog 144 C_cs := (u_cs).ok (Qgh Tryz.func144 (by decide +kernel) (by kernel_rfl))
def F_ct (x : denP P_cr) : FO P_cr R_c :=
 (F_cr (x.1, ())).bind fun r1 =>
 ((x.1.2.2.1)[((7 : Int)).toNat]?).bind fun y2 =>
 let v3 := (iand .i64 r1.1.1 y2)
 ((x.1.2.2.1)[((0 : Int)).toNat]?).bind fun y4 =>
 let v5 := ((y4).tmod (2 : Int))
 if (v5 == (0 : Int)) = false then
  if (v3 == (0 : Int)) then
   some (((-1 : Int), ()), ())
  else
   let v6 := (IntKind.u64.wrap v3)
   (F_cs (v6, ())).bind fun r7 =>
   some ((r7.1.1, ()), ())
 else
  some (((-1 : Int), ()), ())
abbrev C_ct : Con := ⟨P_cr, R_c, F_ct, false⟩
abbrev G_ct : Env := [(119, C_cr), (144, C_cs)]
theorem g_ct : Qh Tryz.prog G_ct := (Qa s_cr (Qa s_cs Qd))
theorem s_ct : Qb Tryz.prog 117 C_ct := fnC (L := []) hT g_ct Tryz.f117 okP fun _ => by kernel_rfl
abbrev P_cu : List PK := [.box [.own 2 YI, .dat YI, .own 2 YI, .dat .bool, .dat .bool, .dat .bool, .dat YI, .own 2 YI, .own 2 YI] [.own 2 YI, .dat YI, .own 2 YI, .dat .bool, .dat .bool, .dat .bool, .dat YI, .own 2 YI, .own 2 YI], .val YI, .val YI]
abbrev R_cu : List VK := []
def F_cu (x : denP P_cu) : FO P_cu R_cu :=
 if 0 ≤ (2 : Int) ∧ (2 : Int) < ((x.1.2.2.1.length : Nat) : Int) then
  ((x.1.2.2.1)[((2 : Int)).toNat]?).bind fun y1 =>
  let v2 := (x.1.2.2.1.set ((2 : Int)).toNat x.1.2.1)
  if 0 ≤ (3 : Int) ∧ (3 : Int) < ((v2.length : Nat) : Int) then
   ((v2)[((3 : Int)).toNat]?).bind fun y3 =>
   let v4 := (v2.set ((3 : Int)).toNat x.2.1)
   if 0 ≤ (4 : Int) ∧ (4 : Int) < ((v4.length : Nat) : Int) then
    ((v4)[((4 : Int)).toNat]?).bind fun y5 =>
    let v6 := (v4.set ((4 : Int)).toNat x.2.2.1)
    if 0 ≤ (0 : Int) ∧ (0 : Int) < ((v6.length : Nat) : Int) then
     ((v6)[((0 : Int)).toNat]?).bind fun y7 =>
     let v8 := ((y7).tmod (2 : Int))
     let v9 := (IntKind.i64.wrap (v8 * (2 : Int)))
     if 0 ≤ (0 : Int) ∧ (0 : Int) < ((v6.length : Nat) : Int) then
      ((v6)[((0 : Int)).toNat]?).bind fun y10 =>
      let v11 := (v6.set ((0 : Int)).toNat v9)
      if 0 ≤ (1 : Int) ∧ (1 : Int) < ((v11.length : Nat) : Int) then
       ((v11)[((1 : Int)).toNat]?).bind fun y12 =>
       some ((), ((x.1.1, (y12, (v11, (x.1.2.2.2.1, (false, (x.1.2.2.2.2.2.1, (x.1.2.2.2.2.2.2.1, (x.1.2.2.2.2.2.2.2.1, (x.1.2.2.2.2.2.2.2.2.1, ()))))))))), ()))
      else none
     else none
    else none
   else none
  else none
 else none
abbrev C_cu : Con := ⟨P_cu, R_cu, F_cu, false⟩
theorem s_cu : Qb Tryz.prog 145 C_cu := fnC (L := []) hT g_a Tryz.f145 okP fun _ => by kernel_rfl
abbrev P_cv : List PK := [.box [.own 2 YI, .dat YI, .own 2 YI, .dat .bool, .dat .bool, .dat .bool, .dat YI, .own 2 YI, .own 2 YI, .dat Y26, .own 2 YI, .dat YI, .dat YI] [.own 2 YI, .dat YI, .own 2 YI, .dat .bool, .dat .bool, .dat .bool, .dat YI, .own 2 YI, .own 2 YI, .dat Y26, .own 2 YI, .dat YI, .dat YI], .val YI, .val YI]
def F_cv (x : denP P_cv) : FO P_cv R_cu :=
 (F_cu ((x.1.1, (x.1.2.1, (x.1.2.2.1, (x.1.2.2.2.1, (x.1.2.2.2.2.1, (x.1.2.2.2.2.2.1, (x.1.2.2.2.2.2.2.1, (x.1.2.2.2.2.2.2.2.1, (x.1.2.2.2.2.2.2.2.2.1, ()))))))))), x.2.1, x.2.2.1, ())).bind fun r1 =>
 some ((), ((r1.2.1.1, (r1.2.1.2.1, (r1.2.1.2.2.1, (r1.2.1.2.2.2.1, (r1.2.1.2.2.2.2.1, (r1.2.1.2.2.2.2.2.1, (r1.2.1.2.2.2.2.2.2.1, (r1.2.1.2.2.2.2.2.2.2.1, (r1.2.1.2.2.2.2.2.2.2.2.1, (x.1.2.2.2.2.2.2.2.2.2.1, (x.1.2.2.2.2.2.2.2.2.2.2.1, (x.2.1, (x.1.2.2.2.2.2.2.2.2.2.2.2.2.1, ()))))))))))))), ()))
abbrev C_cv : Con := ⟨P_cv, R_cu, F_cv, false⟩
abbrev G_cv : Env := [(145, C_cu)]
theorem g_cv : Qh Tryz.prog G_cv := (Qa s_cu Qd)
theorem s_cv : Qb Tryz.prog 118 C_cv := fnC (L := []) hT g_cv Tryz.f118 okP fun _ => by kernel_rfl
def F_cw (x : denP P_o) : FO P_o R_s :=
 let v1 := (IntKind.i64.wrap ((x.1).tdiv (8 : Int)))
 let v2 := ((x.1).tmod (8 : Int))
 if (v2 == (0 : Int)) = false then
  if (leI (8 : Int) v1) then
   (F_bi ()).bind fun r3 =>
   some ((r3.1.1, ()), ())
  else
   some (((v1, (v2, ())), ()), ())
 else
  (F_bi ()).bind fun r4 =>
  some ((r4.1.1, ()), ())
abbrev C_cw : Con := ⟨P_o, R_s, F_cw, false⟩
abbrev G_cw : Env := [(73, C_bi)]
theorem g_cw : Qh Tryz.prog G_cw := (Qa s_bi Qd)
theorem s_cw : Qb Tryz.prog 177 C_cw := fnC (L := []) hT g_cw Tryz.f177 okP fun _ => by kernel_rfl
abbrev R_cx : List VK := [.g [.dat YI, .own 84 Y70]]
abbrev i_cx_7 : Shp := { slots := [(2, .s (.ptr 2 0)), (3, .s (.own 84 Y70)), (15, .s (.dat Y32)), (16, .s (.dat YI)), (17, .s (.dat YI))], boxes := [(2, [.dat YI, .own 84 Y70])], rows := [] }
abbrev o_cx_7 : List (Ex × Shp) := [(.exit 0, { slots := [(2, .s (.ptr 2 0)), (3, .s (.own 84 Y70))], boxes := [(2, [.dat YI, .own 84 Y70])], rows := [] })]
def l_cx_7 (rec : i_cx_7.den → Option (denO o_cx_7)) (u : i_cx_7.den) : Option (denO o_cx_7) :=
 if (ltI u.1.2.2.2.2.1 u.1.2.2.2.1) then
  if 0 ≤ u.1.2.2.2.2.1 then
   ((u.1.2.2.1)[(u.1.2.2.2.2.1).toNat]?).bind fun y6 =>
   (F_cw (y6, ())).bind fun r7 =>
   if (u.1.2.1.length + [r7.1.1].length) * 16 ≤ 140737488355328 then
    let v8 := (u.1.2.1 ++ [r7.1.1])
    let v9 := (IntKind.i64.wrap (u.1.2.2.2.2.1 + (1 : Int)))
    rec (((), (v8, (u.1.2.2.1, (u.1.2.2.2.1, (v9, ()))))), ((u.2.1.1, ()), ()))
   else none
  else none
 else
  some (.inl (((), (u.1.2.1, ())), ((u.2.1.1, ()), ())))
def L_cx_7 (x : i_cx_7.den) : Option (denO o_cx_7) := Qc l_cx_7 lots x
def F_cx (x : denP P_av) : FO P_av R_cx :=
 let v1 := ((x.1.length : Nat) : Int)
 if (v1 != (8 : Int)) then
  some ((((1 : Int), (([] : List (den Y70)), ())), ()), ())
 else
  (F_bb (x.1, ())).bind fun r2 =>
  if (!r2.1.1) then
   some ((((3 : Int), (([] : List (den Y70)), ())), ()), ())
  else
   let v3 := ((x.1.length : Nat) : Int)
   (L_cx_7 (((), (([] : List (den Y70)), (x.1, (v3, ((0 : Int), ()))))), ((((0 : Int), (([] : List (den Y70)), ())), ()), ()))).bind fun z10 =>
   match z10 with
   | .inl x11 =>
    some ((((0 : Int), (x11.1.2.1, ())), ()), ())
   | .inr z10_ =>
    none
abbrev C_cx : Con := ⟨P_av, R_cx, F_cx, false⟩
abbrev G_cx : Env := [(61, C_bb), (177, C_cw)]
theorem g_cx : Qh Tryz.prog G_cx := (Qa s_bb (Qa s_cw Qd))
abbrev c_cx_7 : Cut := ⟨i_cx_7, o_cx_7, fun x => Qc l_cx_7 lots x⟩
theorem k_cx_7 : QB Tryz.prog 29 (.loop (nav Tryz.f166 [1, 1, 1, 1, 0, 1, 0, 0])) c_cx_7 :=
  Qj (L := []) hT g_cx (fun _ _ => by kernel_rfl) okP _
theorem r_cx (x) : QL T G_cx [(7, c_cx_7)] Tryz.f166 C_cx.ps C_cx.rs x = C_cx.F x := by kernel_rfl
theorem s_cx : Qb Tryz.prog 166 C_cx := fnC (L := [(7, c_cx_7)]) hT g_cx Tryz.f166 (okS okP (okS okP (okS okP (okS okP (okS (okS okP (okB (okU k_cx_7))) okP))))) r_cx
abbrev P_cy : List PK := [.ptr Y46, .val Y26, .val Y32]
abbrev i_cy_5 : Shp := { slots := [(6, .s (.ptr 6 0)), (8, .s (.own 84 Y70)), (20, .s (.dat YI))], boxes := [(6, [.dat YI, .own 84 Y70])], rows := [] }
abbrev o_cy_5 : List (Ex × Shp) := [(.exit 0, { slots := [(6, .s (.ptr 6 0)), (8, .s (.own 84 Y70))], boxes := [(6, [.dat YI, .own 84 Y70])], rows := [] })]
def l_cy_5 (rec : i_cy_5.den → Option (denO o_cy_5)) (u : i_cy_5.den) : Option (denO o_cy_5) :=
 if (ltI u.1.2.2.1 (8 : Int)) then
  if (u.1.2.1.length + [(u.1.2.2.1, ((7 : Int), ()))].length) * 16 ≤ 140737488355328 then
   let v3 := (u.1.2.1 ++ [(u.1.2.2.1, ((7 : Int), ()))])
   let v4 := (IntKind.i64.wrap (u.1.2.2.1 + (1 : Int)))
   rec (((), (v3, (v4, ()))), ((u.2.1.1, ()), ()))
  else none
 else
  some (.inl (((), (u.1.2.1, ())), ((u.2.1.1, ()), ())))
def L_cy_5 (x : i_cy_5.den) : Option (denO o_cy_5) := Qc l_cy_5 lots x
def F_cy (x : denP P_cy) : FO P_cy R_cx :=
 ((x.1.2.2.1)[((10 : Int)).toNat]?).bind fun y1 =>
 let v2 := (IntKind.i64.wrap (y1 - (1 : Int)))
 if (ltI v2 (0 : Int)) then
  (L_cy_5 (((), (([] : List (den Y70)), ((0 : Int), ()))), ((((0 : Int), (([] : List (den Y70)), ())), ()), ()))).bind fun z5 =>
  match z5 with
  | .inl x6 =>
   some ((((0 : Int), (x6.1.2.1, ())), ()), ())
  | .inr z5_ =>
   none
 else
  if 0 ≤ v2 then
   ((x.2.1)[(v2).toNat]?).bind fun y7 =>
   if (ltI y7.1 (0 : Int)) = false then
    if 0 ≤ v2 then
     ((x.2.1)[(v2).toNat]?).bind fun y8 =>
     let v9 := (iand .i64 y8.2.1 (1 : Int))
     if (v9 == (0 : Int)) = false then
      if (v2 == (7 : Int)) then
       some ((((7 : Int), (([] : List (den Y70)), ())), ()), ())
      else
       if 0 ≤ v2 then
        ((x.2.1)[(v2).toNat]?).bind fun y10 =>
        (F_cf (x.2.2.1, y10.1, ())).bind fun r11 =>
        (F_cx (r11.1.1, ())).bind fun r12 =>
        some ((r12.1.1, ()), ())
       else none
     else
      some ((((7 : Int), (([] : List (den Y70)), ())), ()), ())
    else none
   else
    some ((((7 : Int), (([] : List (den Y70)), ())), ()), ())
  else none
abbrev C_cy : Con := ⟨P_cy, R_cx, F_cy, false⟩
abbrev G_cy : Env := [(32, C_cf), (166, C_cx)]
theorem g_cy : Qh Tryz.prog G_cy := (Qa s_cf (Qa s_cx Qd))
abbrev c_cy_5 : Cut := ⟨i_cy_5, o_cy_5, fun x => Qc l_cy_5 lots x⟩
theorem k_cy_5 : QB Tryz.prog 59 (.loop (nav Tryz.f146 [1, 1, 0, 1, 0, 1, 0, 1, 0, 0])) c_cy_5 :=
  Qj (L := []) hT g_cy (fun _ _ => by kernel_rfl) okP _
theorem r_cy (x) : QL T G_cy [(5, c_cy_5)] Tryz.f146 C_cy.ps C_cy.rs x = C_cy.F x := by kernel_rfl
theorem s_cy : Qb Tryz.prog 146 C_cy := fnC (L := [(5, c_cy_5)]) hT g_cy Tryz.f146 (okS okP (okS okP (okS (okS okP (okI (okS okP (okS (okS okP (okB (okU k_cy_5))) okP)) okP)) okP))) r_cy
def F_cz (x : denP P_o) : FO P_o R_a :=
 (F_z (x.1, (0 : Int), (63 : Int), ())).bind fun r1 =>
 some ((r1.1.1, ()), ())
abbrev C_cz : Con := ⟨P_o, R_a, F_cz, false⟩
theorem g_cz : Qh Tryz.prog G_aa := (Qa s_z Qd)
theorem s_cz : Qb Tryz.prog 167 C_cz := fnC (L := []) hT g_cz Tryz.f167 okP fun _ => by kernel_rfl
def F_da (x : denP P_o) : FO P_o R_c :=
 if (x.1 == (1 : Int)) then
  some (((7 : Int), ()), ())
 else
  if (x.1 == (2 : Int)) then
   some (((8 : Int), ()), ())
  else
   if (x.1 == (4 : Int)) then
    some (((9 : Int), ()), ())
   else
    some (((0 : Int), ()), ())
abbrev C_da : Con := ⟨P_o, R_c, F_da, false⟩
theorem s_da : Qb Tryz.prog 168 C_da := fnC (L := []) hT g_a Tryz.f168 okP fun _ => by kernel_rfl
abbrev P_db : List PK := [.val Y26, .val YI, .val YI]
def F_db (x : denP P_db) : FO P_db R_s :=
 (F_cz (x.2.1, ())).bind fun r1 =>
 if (!r1.1.1) = false then
  let v2 := (IntKind.i64.wrap ((x.2.1).tdiv (8 : Int)))
  if 0 ≤ v2 then
   ((x.1)[(v2).toNat]?).bind fun y3 =>
   if (ltI y3.1 (0 : Int)) = false then
    let v4 := (IntKind.i64.wrap ((x.2.1).tdiv (8 : Int)))
    if 0 ≤ v4 then
     ((x.1)[(v4).toNat]?).bind fun y5 =>
     let v6 := (iand .i64 y5.2.1 x.2.2.1)
     if (v6 == (0 : Int)) then
      (F_da (x.2.2.1, ())).bind fun r7 =>
      some (((r7.1.1, ((0 : Int), ())), ()), ())
     else
      let v8 := (IntKind.i64.wrap ((x.2.1).tdiv (8 : Int)))
      if 0 ≤ v8 then
       ((x.1)[(v8).toNat]?).bind fun y9 =>
       let v10 := (IntKind.i64.wrap (y9.1 * (8 : Int)))
       let v11 := ((x.2.1).tmod (8 : Int))
       let v12 := (IntKind.i64.wrap (v10 + v11))
       some ((((0 : Int), (v12, ())), ()), ())
      else none
    else none
   else
    (F_da (x.2.2.1, ())).bind fun r13 =>
    some (((r13.1.1, ((0 : Int), ())), ()), ())
  else none
 else
  (F_da (x.2.2.1, ())).bind fun r14 =>
  some (((r14.1.1, ((0 : Int), ())), ()), ())
abbrev C_db : Con := ⟨P_db, R_s, F_db, false⟩
abbrev G_db : Env := [(167, C_cz), (168, C_da)]
theorem g_db : Qh Tryz.prog G_db := (Qa s_cz (Qa s_da Qd))
theorem s_db : Qb Tryz.prog 147 C_db := fnC (L := []) hT g_db Tryz.f147 okP fun _ => by kernel_rfl
abbrev P_dc : List PK := [.ptr Y46, .val Y26, .val Y32, .val YI, .val YI]
def F_dc (x : denP P_dc) : FO P_dc R_s :=
 (F_cy (x.1, x.2.1, x.2.2.1, ())).bind fun r1 =>
 if (r1.1.1.1 != (0 : Int)) then
  some (((r1.1.1.1, ((0 : Int), ())), ()), ())
 else
  (F_db (r1.1.1.2.1, x.2.2.2.1, x.2.2.2.2.1, ())).bind fun r2 =>
  if (r2.1.1.1 != (0 : Int)) then
   some ((r2.1.1, ()), ())
  else
   let v3 := (IntKind.i64.wrap ((r2.1.1.2.1).tdiv (8 : Int)))
   if (v3 != (7 : Int)) then
    (F_db (x.2.1, r2.1.1.2.1, x.2.2.2.2.1, ())).bind fun r4 =>
    some ((r4.1.1, ()), ())
   else
    if (x.2.2.2.2.1 == (4 : Int)) then
     some ((((9 : Int), ((0 : Int), ())), ()), ())
    else
     let v5 := ((r2.1.1.2.1).tmod (8 : Int))
     let v6 := (IntKind.i64.wrap ((1000 : Int) + v5))
     some ((((0 : Int), (v6, ())), ()), ())
abbrev C_dc : Con := ⟨P_dc, R_s, F_dc, false⟩
abbrev G_dc : Env := [(146, C_cy), (147, C_db)]
theorem g_dc : Qh Tryz.prog G_dc := (Qa s_cy (Qa s_db Qd))
theorem s_dc : Qb Tryz.prog 120 C_dc := fnC (L := []) hT g_dc Tryz.f120 okP fun _ => by kernel_rfl
def F_dd (x : denP P_r) : FO P_r R_c :=
 (F_z (x.1.1, (1 : Int), (26 : Int), ())).bind fun r1 =>
 if (!r1.1.1) = false then
  (F_z (x.1.2.1, (0 : Int), (15 : Int), ())).bind fun r2 =>
  if (!r2.1.1) = false then
   (F_z (x.1.2.2.1, (0 : Int), (15 : Int), ())).bind fun r3 =>
   if (!r3.1.1) = false then
    (F_z (x.1.2.2.2.1, (0 : Int), (65535 : Int), ())).bind fun r4 =>
    if (!r4.1.1) then
     some (((3 : Int), ()), ())
    else
     if (leI x.1.1 (11 : Int)) then
      if (ltI (15 : Int) x.1.2.2.2.1) then
       some (((1 : Int), ()), ())
      else
       some (((0 : Int), ()), ())
     else
      if (x.1.1 == (13 : Int)) then
       if (x.1.2.2.1 != (0 : Int)) then
        some (((1 : Int), ()), ())
       else
        some (((0 : Int), ()), ())
      else
       if (x.1.1 == (19 : Int)) then
        if (x.1.2.2.1 != (0 : Int)) then
         some (((1 : Int), ()), ())
        else
         some (((0 : Int), ()), ())
       else
        if (x.1.1 == (21 : Int)) then
         if (ltI (10 : Int) x.1.2.2.2.1) = false then
          if (x.1.2.2.1 != (0 : Int)) then
           some (((1 : Int), ()), ())
          else
           some (((0 : Int), ()), ())
         else
          some (((1 : Int), ()), ())
        else
         if (x.1.1 == (22 : Int)) then
          if (ltI (10 : Int) x.1.2.2.2.1) = false then
           if (x.1.2.1 != (0 : Int)) then
            some (((1 : Int), ()), ())
           else
            some (((0 : Int), ()), ())
          else
           some (((1 : Int), ()), ())
         else
          if (leI (23 : Int) x.1.1) then
           if (x.1.2.1 != (0 : Int)) = false then
            if (x.1.2.2.1 != (0 : Int)) = false then
             if (x.1.2.2.2.1 != (0 : Int)) then
              some (((1 : Int), ()), ())
             else
              some (((0 : Int), ()), ())
            else
             some (((1 : Int), ()), ())
           else
            some (((1 : Int), ()), ())
          else
           some (((0 : Int), ()), ())
   else
    some (((3 : Int), ()), ())
  else
   some (((3 : Int), ()), ())
 else
  some (((3 : Int), ()), ())
abbrev C_dd : Con := ⟨P_r, R_c, F_dd, false⟩
theorem g_dd : Qh Tryz.prog G_aa := (Qa s_z Qd)
theorem s_dd : Qb Tryz.prog 148 C_dd := fnC (L := []) hT g_dd Tryz.f148 okP fun _ => by kernel_rfl
abbrev R_de : List VK := [.s (.dat Y174)]
def F_de (x : denP P_o) : FO P_o R_de :=
 let v1 := ((x.1).fdiv (2 ^ 24))
 let v2 := ((x.1).fdiv (2 ^ 20))
 let v3 := (iand .i64 v2 (15 : Int))
 let v4 := ((x.1).fdiv (2 ^ 16))
 let v5 := (iand .i64 v4 (15 : Int))
 let v6 := (iand .i64 x.1 (65535 : Int))
 (F_dd ((v1, (v3, (v5, (v6, ())))), ())).bind fun r7 =>
 if (r7.1.1 != (0 : Int)) then
  some ((((5 : Int), (((0 : Int), ((0 : Int), ((0 : Int), ((0 : Int), ())))), ())), ()), ())
 else
  some ((((0 : Int), ((v1, (v3, (v5, (v6, ())))), ())), ()), ())
abbrev C_de : Con := ⟨P_o, R_de, F_de, false⟩
abbrev G_de : Env := [(148, C_dd)]
theorem g_de : Qh Tryz.prog G_de := (Qa s_dd Qd)
theorem s_de : Qb Tryz.prog 121 C_de := fnC (L := []) hT g_de Tryz.f121 okP fun _ => by kernel_rfl
abbrev P_df : List PK := [.val YI, .val YI]
def F_df (x : denP P_df) : FO P_df R_c :=
 (F_as (x.1, ())).bind fun r1 =>
 (F_as (x.2.1, ())).bind fun r2 =>
 let v3 := (IntKind.i64.wrap (r1.1.1 + r2.1.1))
 (F_as (v3, ())).bind fun r4 =>
 some ((r4.1.1, ()), ())
abbrev C_df : Con := ⟨P_df, R_c, F_df, false⟩
abbrev G_df : Env := [(39, C_as)]
theorem g_df : Qh Tryz.prog G_df := (Qa s_as Qd)
theorem s_df : Qb Tryz.prog 149 C_df := fnC (L := []) hT g_df Tryz.f149 okP fun _ => by kernel_rfl
def F_dg (x : denP P_o) : FO P_o R_c :=
 let v1 := (iand .i64 x.1 (65535 : Int))
 if (leI (32768 : Int) v1) then
  let v2 := (IntKind.i64.wrap (v1 - (65536 : Int)))
  some ((v2, ()), ())
 else
  some ((v1, ()), ())
abbrev C_dg : Con := ⟨P_o, R_c, F_dg, false⟩
theorem s_dg : Qb Tryz.prog 150 C_dg := fnC (L := []) hT g_a Tryz.f150 okP fun _ => by kernel_rfl
abbrev P_dh : List PK := [.box [.own 2 YI, .dat YI, .own 2 YI, .dat .bool, .dat .bool, .dat .bool, .dat YI, .own 2 YI, .own 2 YI] [.own 2 YI, .dat YI, .own 2 YI, .dat .bool, .dat .bool, .dat .bool, .dat YI, .own 2 YI, .own 2 YI], .val YI]
def F_dh (x : denP P_dh) : FO P_dh R_c :=
 if (x.2.1 == (1 : Int)) then
  let v1 := ((x.1.2.2.2.2.2.2.2.1.length : Nat) : Int)
  if (ltI (0 : Int) v1) then
   if 0 ≤ (0 : Int) ∧ (0 : Int) < ((x.1.2.2.2.2.2.2.2.1.length : Nat) : Int) then
    ((x.1.2.2.2.2.2.2.2.1)[((0 : Int)).toNat]?).bind fun y2 =>
    if 0 ≤ (1 : Int) ∧ (1 : Int) ≤ ((x.1.2.2.2.2.2.2.2.1.length : Nat) : Int) ∧ ((x.1.2.2.2.2.2.2.2.1.length : Nat) : Int) ≤ ((x.1.2.2.2.2.2.2.2.1.length : Nat) : Int) then
     (F_av (((x.1.2.2.2.2.2.2.2.1.drop (0 + ((1 : Int)).toNat)).take ((((x.1.2.2.2.2.2.2.2.1.length : Nat) : Int)).toNat - ((1 : Int)).toNat)), ())).bind fun r3 =>
     some ((y2, ()), ((x.1.1, (x.1.2.1, (x.1.2.2.1, (x.1.2.2.2.1, (x.1.2.2.2.2.1, (x.1.2.2.2.2.2.1, (x.1.2.2.2.2.2.2.1, (r3.1.1, (x.1.2.2.2.2.2.2.2.2.1, ()))))))))), ()))
    else none
   else none
  else
   some (((0 : Int), ()), (x.1, ()))
 else
  if (x.2.1 == (2 : Int)) then
   some ((x.1.2.2.2.2.2.2.1, ()), (x.1, ()))
  else
   if (x.2.1 == (3 : Int)) then
    if 0 ≤ (9 : Int) ∧ (9 : Int) < ((x.1.2.2.1.length : Nat) : Int) then
     ((x.1.2.2.1)[((9 : Int)).toNat]?).bind fun y4 =>
     some ((y4, ()), (x.1, ()))
    else none
   else
    if (x.2.1 == (4 : Int)) then
     (F_cr (x.1, ())).bind fun r5 =>
     some ((r5.1.1, ()), (x.1, ()))
    else
     if (x.2.1 == (6 : Int)) then
      let v6 := ((x.1.2.2.2.2.2.2.2.1.length : Nat) : Int)
      some ((v6, ()), (x.1, ()))
     else
      some (((0 : Int), ()), (x.1, ()))
abbrev C_dh : Con := ⟨P_dh, R_c, F_dh, false⟩
abbrev G_dh : Env := [(57, C_av), (119, C_cr)]
theorem g_dh : Qh Tryz.prog G_dh := (Qa s_av (Qa s_cr Qd))
theorem s_dh : Qb Tryz.prog 169 C_dh := fnC (L := []) hT g_dh Tryz.f169 okP fun _ => by kernel_rfl
abbrev P_di : List PK := [.box [.own 2 YI, .dat YI, .own 2 YI, .dat .bool, .dat .bool, .dat .bool, .dat YI, .own 2 YI, .own 2 YI, .dat Y26, .own 2 YI, .dat YI, .dat YI] [.own 2 YI, .dat YI, .own 2 YI, .dat .bool, .dat .bool, .dat .bool, .dat YI, .own 2 YI, .own 2 YI, .dat Y26, .own 2 YI, .dat YI, .dat YI], .val YI]
abbrev R_di : List VK := [.s (.dat YI), .s (.dat .bool)]
def F_di (x : denP P_di) : FO P_di R_di :=
 (F_dc ((x.1.1, (x.1.2.1, (x.1.2.2.1, (x.1.2.2.2.1, (x.1.2.2.2.2.1, (x.1.2.2.2.2.2.1, (x.1.2.2.2.2.2.2.1, (x.1.2.2.2.2.2.2.2.1, (x.1.2.2.2.2.2.2.2.2.1, ()))))))))), x.1.2.2.2.2.2.2.2.2.2.1, x.1.2.2.2.2.2.2.2.2.2.2.1, x.2.1, (1 : Int), ())).bind fun r1 =>
 if (r1.1.1.1 != (0 : Int)) then
  (F_cv (x.1, (3 : Int), x.2.1, ())).bind fun r2 =>
  some (((0 : Int), false, ()), (r2.2.1, ()))
 else
  if (leI (1000 : Int) r1.1.1.2.1) then
   let v3 := (IntKind.i64.wrap (r1.1.1.2.1 - (1000 : Int)))
   (F_dh ((x.1.1, (x.1.2.1, (x.1.2.2.1, (x.1.2.2.2.1, (x.1.2.2.2.2.1, (x.1.2.2.2.2.2.1, (x.1.2.2.2.2.2.2.1, (x.1.2.2.2.2.2.2.2.1, (x.1.2.2.2.2.2.2.2.2.1, ()))))))))), v3, ())).bind fun r4 =>
   some ((r4.1.1, true, ()), ((r4.2.1.1, (r4.2.1.2.1, (r4.2.1.2.2.1, (r4.2.1.2.2.2.1, (r4.2.1.2.2.2.2.1, (r4.2.1.2.2.2.2.2.1, (r4.2.1.2.2.2.2.2.2.1, (r4.2.1.2.2.2.2.2.2.2.1, (r4.2.1.2.2.2.2.2.2.2.2.1, (x.1.2.2.2.2.2.2.2.2.2.1, (x.1.2.2.2.2.2.2.2.2.2.2.1, (x.1.2.2.2.2.2.2.2.2.2.2.2.1, (x.1.2.2.2.2.2.2.2.2.2.2.2.2.1, ()))))))))))))), ()))
  else
   if 0 ≤ r1.1.1.2.1 ∧ r1.1.1.2.1 < ((x.1.2.2.2.2.2.2.2.2.2.2.1.length : Nat) : Int) then
    ((x.1.2.2.2.2.2.2.2.2.2.2.1)[(r1.1.1.2.1).toNat]?).bind fun y5 =>
    some ((y5, true, ()), (x.1, ()))
   else none
abbrev C_di : Con := ⟨P_di, R_di, F_di, false⟩
abbrev G_di : Env := [(118, C_cv), (120, C_dc), (169, C_dh)]
theorem g_di : Qh Tryz.prog G_di := (Qa s_cv (Qa s_dc (Qa s_dh Qd)))
theorem s_di : Qb Tryz.prog 151 C_di := fnC (L := []) hT g_di Tryz.f151 okP fun _ => by kernel_rfl
end Go.Proofs.YtmoninjbahccoaaGreatDoor
