/- The functions of the laws, each as a plain function of data (F), and that the program's text does what F says. Printed by a program (wip/tools/gen.py). -/
import Derived.Test.YtajnommlfjfgpaaGreatDoorGa2
namespace Go.Proofs.YtajnommlfjfgpaaGreatDoor
open Go Go.RowKit S Go.Proofs
set_option maxRecDepth 100000
set_option linter.unusedVariables false
abbrev P_go : List PK := [.val Y62]
abbrev R_go : List VK := [.s (.dat YI)]
abbrev i_go_7 : Shp := { slots := [(1, .s (.ptr 1 0)), (30, .s (.dat Y61)), (31, .s (.dat YI)), (32, .s (.dat YI))], boxes := [(1, [.dat Y53, .dat Y54, .dat Y27, .dat Y27, .dat Y24, .dat Y61, .dat YI, .dat YI, .dat YI])], rows := [] }
abbrev o_go_7 : List (Ex × Shp) := [(.exit 0, { slots := [(1, .s (.ptr 1 0))], boxes := [(1, [.dat Y53, .dat Y54, .dat Y27, .dat Y27, .dat Y24, .dat Y61, .dat YI, .dat YI, .dat YI])], rows := [] }), (.ret, { slots := [(2, .s (.dat YI))], boxes := [], rows := [] })]
def l_go_7 (rec : i_go_7.den → Option (denO o_go_7)) (u7 : i_go_7.den) : Option (denO o_go_7) :=
 if (ltI u7.1.2.2.2.1 u7.1.2.2.1) then
  if 0 ≤ u7.1.2.2.2.1 then
   ((u7.1.2.1)[(u7.1.2.2.2.1).toNat]?).bind fun y8 =>
   (F_ah (y8, ())).bind fun r9 =>
   if (r9.1.1 != (0 : Int)) then
    some (.inr (.inl ((r9.1.1, ()), ((), ()))))
   else
    let v10 := (IntKind.i64.wrap (u7.1.2.2.2.1 + (1 : Int)))
    rec (((), (u7.1.2.1, (u7.1.2.2.1, (v10, ())))), ((u7.2.1.1, ()), ()))
  else none
 else
  some (.inl (((), ()), ((u7.2.1.1, ()), ())))
def L_go_7 (x : i_go_7.den) : Option (denO o_go_7) := Qd l_go_7 lots x
def F_go (x : denP P_go) : Option (denV R_go × denQ P_go) :=
 (F_gk (x.1.1, ())).bind fun r1 =>
 if (r1.1.1 != (0 : Int)) then
  some ((r1.1.1, ()), ())
 else
  (F_gl (x.1.2.1, ())).bind fun r2 =>
  if (!r2.1.1) = false then
   let v3 := ((x.1.2.2.1.length : Nat) : Int)
   let v4 := ((x.1.1.1.length : Nat) : Int)
   if (v3 != v4) then
    some (((1 : Int), ()), ())
   else
    let v5 := ((x.1.2.2.1.length : Nat) : Int)
    (L_go_7 (((), (x.1.2.2.1, (v5, ((0 : Int), ())))), (((x.1.1.1, (x.1.1.2.1, (x.1.1.2.2.1, (x.1.1.2.2.2.1, (x.1.2.1, (x.1.2.2.1, (x.1.2.2.2.1, (x.1.2.2.2.2.1, (x.1.2.2.2.2.2.1, ()))))))))), ()), ()))).bind fun z11 =>
    match z11 with
    | .inl x12 =>
     (F_ab (x12.2.1.1.2.2.2.2.2.2.2.2.1, (0 : Int), (1000000 : Int), ())).bind fun r13 =>
     if (!r13.1.1) then
      some (((3 : Int), ()), ())
     else
      (F_gn ((x12.2.1.1.1, (x12.2.1.1.2.1, (x12.2.1.1.2.2.1, (x12.2.1.1.2.2.2.1, ())))), x12.2.1.1.2.2.2.2.2.2.2.2.1, ())).bind fun r14 =>
      if (x12.2.1.1.2.2.2.2.2.2.1 != r14.1.1) = false then
       if (x12.2.1.1.2.2.2.2.2.2.2.1 != r14.1.2.1) then
        some (((1 : Int), ()), ())
       else
        some (((0 : Int), ()), ())
      else
       some (((1 : Int), ()), ())
    | .inr z11_ =>
     match z11_ with
     | .inl x15 =>
      some ((x15.1.1, ()), ())
     | .inr z11__ =>
      none
  else
   some (((1 : Int), ()), ())
abbrev C_go : Con := ⟨P_go, R_go, F_go, false⟩
abbrev G_go : Env := [(20, C_ah), (56, C_ab), (78, C_gk), (79, C_gl), (166, C_gn)]
theorem g_go : Qe Tryz.prog G_go := (Qa s_ah (Qa s_ab (Qa s_gk (Qa s_gl (Qa s_gn Qc)))))
abbrev c_go_7 : Cut := ⟨i_go_7, o_go_7, fun x => Qd l_go_7 lots x⟩
theorem t_go_7 (rec x) : run T G_go [] (nav Tryz.f75 [1, 1, 1, 0, 1, 0, 0]) (mk 63 i_go_7 x) (Qx i_go_7 o_go_7 rec) = l_go_7 rec x := by kernel_rfl
theorem k_go_7 : Qu Tryz.prog 63 (.loop (nav Tryz.f75 [1, 1, 1, 0, 1, 0, 0])) c_go_7 :=
  Qh (L := []) hT g_go t_go_7 okP _
theorem r_go (x) : Qf T G_go [(7, c_go_7)] Tryz.f75 C_go.ps C_go.rs x = C_go.F x := by kernel_rfl
theorem s_go : Qb Tryz.prog 75 C_go := fnC (L := [(7, c_go_7)]) hT g_go Tryz.f75 (okS okP (okS okP (okS okP (okS (okS okP (okB (okU k_go_7))) okP)))) r_go
abbrev P_aj : List PK := [.val Y24]
abbrev R_aj : List VK := [.s (.dat YI)]
abbrev i_aj_2 : Shp := { slots := [(5, .s (.dat Y24)), (6, .s (.dat YI)), (7, .s (.dat YI))], boxes := [], rows := [] }
abbrev o_aj_2 : List (Ex × Shp) := [(.exit 0, { slots := [], boxes := [], rows := [] }), (.ret, { slots := [(2, .s (.dat YI))], boxes := [], rows := [] })]
def l_aj_2 (rec : i_aj_2.den → Option (denO o_aj_2)) (u2 : i_aj_2.den) : Option (denO o_aj_2) :=
 if (ltI u2.1.2.2.1 u2.1.2.1) then
  if 0 ≤ u2.1.2.2.1 then
   ((u2.1.1)[(u2.1.2.2.1).toNat]?).bind fun y3 =>
   if (y3 != (0 : Int)) then
    some (.inr (.inl ((y3, ()), ((), ()))))
   else
    let v4 := (IntKind.i64.wrap (u2.1.2.2.1 + (1 : Int)))
    rec ((u2.1.1, (u2.1.2.1, (v4, ()))), ((), ()))
  else none
 else
  some (.inl ((), ((), ())))
def L_aj_2 (x : i_aj_2.den) : Option (denO o_aj_2) := Qd l_aj_2 lots x
def F_aj (x : denP P_aj) : Option (denV R_aj × denQ P_aj) :=
 let v1 := ((x.1.length : Nat) : Int)
 (L_aj_2 ((x.1, (v1, ((0 : Int), ()))), ((), ()))).bind fun z5 =>
 match z5 with
 | .inl x6 =>
  some (((0 : Int), ()), ())
 | .inr z5_ =>
  match z5_ with
  | .inl x7 =>
   some ((x7.1.1, ()), ())
  | .inr z5__ =>
   none
abbrev C_aj : Con := ⟨P_aj, R_aj, F_aj, false⟩
abbrev G_aj : Env := []
theorem g_aj : Qe Tryz.prog G_aj := Qc
abbrev c_aj_2 : Cut := ⟨i_aj_2, o_aj_2, fun x => Qd l_aj_2 lots x⟩
theorem t_aj_2 (rec x) : run T G_aj [] (nav Tryz.f87 [1, 0, 1, 0, 0]) (mk 15 i_aj_2 x) (Qx i_aj_2 o_aj_2 rec) = l_aj_2 rec x := by kernel_rfl
theorem k_aj_2 : Qu Tryz.prog 15 (.loop (nav Tryz.f87 [1, 0, 1, 0, 0])) c_aj_2 :=
  Qh (L := []) hT g_aj t_aj_2 okP _
theorem r_aj (x) : Qf T G_aj [(2, c_aj_2)] Tryz.f87 C_aj.ps C_aj.rs x = C_aj.F x := by kernel_rfl
theorem s_aj : Qb Tryz.prog 87 C_aj := fnC (L := [(2, c_aj_2)]) hT g_aj Tryz.f87 (okS okP (okS (okS okP (okB (okU k_aj_2))) okP)) r_aj
abbrev P_gp_1 : List PK := [.val Y62, .ptr YI]
abbrev R_gp_1 : List VK := [.s (.dat .bool)]
def F_gp_1 (x : denP P_gp_1) : Option (denV R_gp_1 × denQ P_gp_1) :=
 let v1 := (IntKind.i64.wrap (x.1.2.2.2.2.2.1 + x.2.1))
 some (((ltI (1000000 : Int) v1), ()), ())
abbrev C_gp_1 : Con := ⟨P_gp_1, R_gp_1, F_gp_1, false⟩
abbrev G_gp_1 : Env := []
theorem g_gp_1 : Qe Tryz.prog G_gp_1 := Qc
theorem r_gp_1 (x) : Qf T G_gp_1 [] Tryz.f176 C_gp_1.ps C_gp_1.rs x = C_gp_1.F x := by kernel_rfl
theorem s_gp_1 : Qb Tryz.prog 176 C_gp_1 := fnC (L := []) hT g_gp_1 Tryz.f176 okP r_gp_1
abbrev P_gq_1 : List PK := [.val Y234, .fn 176 [YI]]
abbrev R_gq_1 : List VK := [.s (.dat YI)]
abbrev i_gr_2 : Shp := { slots := [(0, .s (.dat Y234)), (1, .s (.fn 176 [YI])), (7, .s (.dat YI)), (8, .s (.dat YI))], boxes := [], rows := [] }
abbrev o_gr_2 : List (Ex × Shp) := [(.exit 0, { slots := [], boxes := [], rows := [] }), (.ret, { slots := [(4, .s (.dat YI))], boxes := [], rows := [] })]
def l_gr_2 (rec : i_gr_2.den → Option (denO o_gr_2)) (u2 : i_gr_2.den) : Option (denO o_gr_2) :=
 if (ltI u2.1.2.2.2.1 u2.1.2.2.1) then
  if 0 ≤ u2.1.2.2.2.1 then
   ((u2.1.1)[(u2.1.2.2.2.1).toNat]?).bind fun y4 =>
   (F_gp_1 (y4, u2.1.2.1.1, ())).bind fun r5 =>
   if r5.1.1 then
    some (.inr (.inl ((u2.1.2.2.2.1, ()), ((), ()))))
   else
    let v6 := (IntKind.i64.wrap (u2.1.2.2.2.1 + (1 : Int)))
    rec ((u2.1.1, ((u2.1.2.1.1, ()), (u2.1.2.2.1, (v6, ())))), ((), ()))
  else none
 else
  some (.inl ((), ((), ())))
def L_gr_2 (x : i_gr_2.den) : Option (denO o_gr_2) := Qd l_gr_2 lots x
def F_gq_1 (x : denP P_gq_1) : Option (denV R_gq_1 × denQ P_gq_1) :=
 let v1 := ((x.1.length : Nat) : Int)
 (L_gr_2 ((x.1, ((x.2.1.1, ()), (v1, ((0 : Int), ())))), ((), ()))).bind fun z7 =>
 match z7 with
 | .inl x8 =>
  some (((-1 : Int), ()), ())
 | .inr z7_ =>
  match z7_ with
  | .inl x9 =>
   some ((x9.1.1, ()), ())
  | .inr z7__ =>
   none
abbrev C_gq_1 : Con := ⟨P_gq_1, R_gq_1, F_gq_1, false⟩
abbrev G_gq_1 : Env := [(176, C_gp_1)]
theorem g_gq_1 : Qe Tryz.prog G_gq_1 := (Qa s_gp_1 Qc)
abbrev c_gr_2 : Cut := ⟨i_gr_2, o_gr_2, fun x => Qd l_gr_2 lots x⟩
theorem t_gr_2 (rec x) : run T G_gq_1 [] (nav Tryz.f244 [1, 0, 1, 0, 0]) (mk 19 i_gr_2 x) (Qx i_gr_2 o_gr_2 rec) = l_gr_2 rec x := by kernel_rfl
theorem k_gr_2 : Qu Tryz.prog 19 (.loop (nav Tryz.f244 [1, 0, 1, 0, 0])) c_gr_2 :=
  Qh (L := []) hT g_gq_1 t_gr_2 okP _
theorem r_gq_1 (x) : Qf T G_gq_1 [(2, c_gr_2)] Tryz.f244 C_gq_1.ps C_gq_1.rs x = C_gq_1.F x := by kernel_rfl
theorem s_gq_1 : Qb Tryz.prog 244 C_gq_1 := fnC (L := [(2, c_gr_2)]) hT g_gq_1 Tryz.f244 (okS okP (okS (okS okP (okB (okU k_gr_2))) okP)) r_gq_1
abbrev P_gs_1 : List PK := [.val Y234, .fn 176 [YI]]
abbrev R_gs_1 : List VK := [.s (.dat .bool)]
def F_gs_1 (x : denP P_gs_1) : Option (denV R_gs_1 × denQ P_gs_1) :=
 (F_gq_1 (x.1, (x.2.1.1, ()), ())).bind fun r1 =>
 some (((leI (0 : Int) r1.1.1), ()), ())
abbrev C_gs_1 : Con := ⟨P_gs_1, R_gs_1, F_gs_1, false⟩
abbrev G_gs_1 : Env := [(244, C_gq_1)]
theorem g_gs_1 : Qe Tryz.prog G_gs_1 := (Qa s_gq_1 Qc)
theorem r_gs_1 (x) : Qf T G_gs_1 [] Tryz.f175 C_gs_1.ps C_gs_1.rs x = C_gs_1.F x := by kernel_rfl
theorem s_gs_1 : Qb Tryz.prog 175 C_gs_1 := fnC (L := []) hT g_gs_1 Tryz.f175 okP r_gs_1
abbrev P_gp : List PK := [.val YI, .val Y234]
abbrev R_gp : List VK := [.s (.dat YI)]
def F_gp (x : denP P_gp) : Option (denV R_gp × denQ P_gp) :=
 (F_ab (x.1, (0 : Int), (200 : Int), ())).bind fun r1 =>
 if (!r1.1.1) = false then
  (F_gs_1 (x.2.1, (x.1, ()), ())).bind fun r2 =>
  if r2.1.1 then
   some (((3 : Int), ()), ())
  else
   some (((0 : Int), ()), ())
 else
  some (((3 : Int), ()), ())
abbrev C_gp : Con := ⟨P_gp, R_gp, F_gp, false⟩
abbrev G_gp : Env := [(56, C_ab), (175, C_gs_1)]
theorem g_gp : Qe Tryz.prog G_gp := (Qa s_ab (Qa s_gs_1 Qc))
theorem r_gp (x) : Qf T G_gp [] Tryz.f88 C_gp.ps C_gp.rs x = C_gp.F x := by kernel_rfl
theorem s_gp : Qb Tryz.prog 88 C_gp := fnC (L := []) hT g_gp Tryz.f88 okP r_gp
abbrev P_gt : List PK := [.val Y53]
abbrev R_gt : List VK := [.s (.own 24 Y24)]
def F_gt (x : denP P_gt) : Option (denV R_gt × denQ P_gt) :=
  if (([] : List (den Y24)).length + x.1.length) * 24 ≤ 140737488355328 then some (([] ++ x.1, ()), ()) else none
abbrev C_gt : Con := ⟨P_gt, R_gt, F_gt, false⟩
theorem s_gt : Qb Tryz.prog 99 C_gt :=
  QcE hT (fn := Tryz.f99) (cn := C_gt) (c0 := nav Tryz.f99 [0]) (ca := nav Tryz.f99 [1, 0, 1, 0]) (cb := nav Tryz.f99 [1, 1]) (id := 1) (d := 4) (nm := 1032000) (o1 := Qea Tryz.f99 [1, 0, 0] 0) (o2 := Qea Tryz.f99 [1, 0, 0] 1)
    (t := 53) (t' := 53) (x := .tmp 3) (r := ⟨Y53, [], 24, 24, 3000024⟩) (u := Y24) (by kernel_rfl) (by kernel_rfl) (by kernel_rfl) ⟨by kernel_rfl, by kernel_rfl⟩ (fun y => by kernel_rfl) (by kernel_rfl) (by kernel_rfl) (by kernel_rfl) (by kernel_rfl) (by kernel_rfl) rfl
    (fun y => (st0 Tryz.f99 P_gt y).set 2 (.s .nls)) (fun y => ((st0 Tryz.f99 P_gt y).set 2 (.s .nls)).set 3 (.s (.d (.slice Y24) y.1))) (fun y => y.1)
    (fun y => by kernel_rfl) (fun y => by kernel_rfl) (fun y => by kernel_rfl) (fun y => Nat.le_of_ble_eq_true (by kernel_rfl)) (fun y => by kernel_rfl) (by kernel_rfl) (by kernel_rfl) (by kernel_rfl) (fun y => by kernel_rfl)
    (fun y h => by obtain ⟨l, v⟩ := y; have h : l = [] := h; subst h; show run _ _ _ _ _ _ = F_gt ([], v); kernel_rfl) (fun y => by kernel_rfl)
abbrev P_ap : List PK := [.val Y24]
abbrev R_ap : List VK := [.s (.own 2 YI)]
def F_ap (x : denP P_ap) : Option (denV R_ap × denQ P_ap) :=
  if (([] : List (den YI)).length + x.1.length) * 8 ≤ 140737488355328 then some (([] ++ x.1, ()), ()) else none
abbrev C_ap : Con := ⟨P_ap, R_ap, F_ap, false⟩
theorem s_ap : Qb Tryz.prog 139 C_ap :=
  QcE hT (fn := Tryz.f139) (cn := C_ap) (c0 := nav Tryz.f139 [0]) (ca := nav Tryz.f139 [1, 0, 1, 0]) (cb := nav Tryz.f139 [1, 1]) (id := 1) (d := 4) (nm := 1032000) (o1 := Qea Tryz.f139 [1, 0, 0] 0) (o2 := Qea Tryz.f139 [1, 0, 0] 1)
    (t := 24) (t' := 24) (x := .tmp 3) (r := ⟨Y24, [], 2, 24, 0⟩) (u := YI) (by kernel_rfl) (by kernel_rfl) (by kernel_rfl) ⟨by kernel_rfl, by kernel_rfl⟩ (fun y => by kernel_rfl) (by kernel_rfl) (by kernel_rfl) (by kernel_rfl) (by kernel_rfl) (by kernel_rfl) rfl
    (fun y => (st0 Tryz.f139 P_ap y).set 2 (.s .nls)) (fun y => ((st0 Tryz.f139 P_ap y).set 2 (.s .nls)).set 3 (.s (.d (.slice YI) y.1))) (fun y => y.1)
    (fun y => by kernel_rfl) (fun y => by kernel_rfl) (fun y => by kernel_rfl) (fun y => Nat.le_of_ble_eq_true (by kernel_rfl)) (fun y => by kernel_rfl) (by kernel_rfl) (by kernel_rfl) (by kernel_rfl) (fun y => by kernel_rfl)
    (fun y h => by obtain ⟨l, v⟩ := y; have h : l = [] := h; subst h; show run _ _ _ _ _ _ = F_ap ([], v); kernel_rfl) (fun y => by kernel_rfl)
abbrev P_gu : List PK := [.val Y54]
abbrev R_gu : List VK := [.s (.own 69 Y68)]
def F_gu (x : denP P_gu) : Option (denV R_gu × denQ P_gu) :=
  if (([] : List (den Y68)).length + x.1.length) * 40 ≤ 140737488355328 then some (([] ++ x.1, ()), ()) else none
abbrev C_gu : Con := ⟨P_gu, R_gu, F_gu, false⟩
theorem s_gu : Qb Tryz.prog 163 C_gu :=
  QcE hT (fn := Tryz.f163) (cn := C_gu) (c0 := nav Tryz.f163 [0]) (ca := nav Tryz.f163 [1, 0, 1, 0]) (cb := nav Tryz.f163 [1, 1]) (id := 1) (d := 4) (nm := 1032000) (o1 := Qea Tryz.f163 [1, 0, 0] 0) (o2 := Qea Tryz.f163 [1, 0, 0] 1)
    (t := 54) (t' := 54) (x := .tmp 3) (r := ⟨Y54, [], 69, 24, 0⟩) (u := Y68) (by kernel_rfl) (by kernel_rfl) (by kernel_rfl) ⟨by kernel_rfl, by kernel_rfl⟩ (fun y => by kernel_rfl) (by kernel_rfl) (by kernel_rfl) (by kernel_rfl) (by kernel_rfl) (by kernel_rfl) rfl
    (fun y => (st0 Tryz.f163 P_gu y).set 2 (.s .nls)) (fun y => ((st0 Tryz.f163 P_gu y).set 2 (.s .nls)).set 3 (.s (.d (.slice Y68) y.1))) (fun y => y.1)
    (fun y => by kernel_rfl) (fun y => by kernel_rfl) (fun y => by kernel_rfl) (fun y => Nat.le_of_ble_eq_true (by kernel_rfl)) (fun y => by kernel_rfl) (by kernel_rfl) (by kernel_rfl) (by kernel_rfl) (fun y => by kernel_rfl)
    (fun y h => by obtain ⟨l, v⟩ := y; have h : l = [] := h; subst h; show run _ _ _ _ _ _ = F_gu ([], v); kernel_rfl) (fun y => by kernel_rfl)
abbrev P_gv : List PK := [.val Y27]
abbrev R_gv : List VK := [.s (.own 225 Y40)]
def F_gv (x : denP P_gv) : Option (denV R_gv × denQ P_gv) :=
  if (([] : List (den Y40)).length + x.1.length) * 16 ≤ 140737488355328 then some (([] ++ x.1, ()), ()) else none
abbrev C_gv : Con := ⟨P_gv, R_gv, F_gv, false⟩
theorem s_gv : Qb Tryz.prog 164 C_gv :=
  QcE hT (fn := Tryz.f164) (cn := C_gv) (c0 := nav Tryz.f164 [0]) (ca := nav Tryz.f164 [1, 0, 1, 0]) (cb := nav Tryz.f164 [1, 1]) (id := 1) (d := 4) (nm := 1032000) (o1 := Qea Tryz.f164 [1, 0, 0] 0) (o2 := Qea Tryz.f164 [1, 0, 0] 1)
    (t := 55) (t' := 55) (x := .tmp 3) (r := ⟨Y27, [], 225, 24, 0⟩) (u := Y40) (by kernel_rfl) (by kernel_rfl) (by kernel_rfl) ⟨by kernel_rfl, by kernel_rfl⟩ (fun y => by kernel_rfl) (by kernel_rfl) (by kernel_rfl) (by kernel_rfl) (by kernel_rfl) (by kernel_rfl) rfl
    (fun y => (st0 Tryz.f164 P_gv y).set 2 (.s .nls)) (fun y => ((st0 Tryz.f164 P_gv y).set 2 (.s .nls)).set 3 (.s (.d (.slice Y40) y.1))) (fun y => y.1)
    (fun y => by kernel_rfl) (fun y => by kernel_rfl) (fun y => by kernel_rfl) (fun y => Nat.le_of_ble_eq_true (by kernel_rfl)) (fun y => by kernel_rfl) (by kernel_rfl) (by kernel_rfl) (by kernel_rfl) (fun y => by kernel_rfl)
    (fun y h => by obtain ⟨l, v⟩ := y; have h : l = [] := h; subst h; show run _ _ _ _ _ _ = F_gv ([], v); kernel_rfl) (fun y => by kernel_rfl)
abbrev P_gw : List PK := [.val Y27]
abbrev R_gw : List VK := [.s (.own 136 Y40)]
def F_gw (x : denP P_gw) : Option (denV R_gw × denQ P_gw) :=
  if (([] : List (den Y40)).length + x.1.length) * 16 ≤ 140737488355328 then some (([] ++ x.1, ()), ()) else none
abbrev C_gw : Con := ⟨P_gw, R_gw, F_gw, false⟩
theorem s_gw : Qb Tryz.prog 165 C_gw :=
  QcE hT (fn := Tryz.f165) (cn := C_gw) (c0 := nav Tryz.f165 [0]) (ca := nav Tryz.f165 [1, 0, 1, 0]) (cb := nav Tryz.f165 [1, 1]) (id := 1) (d := 4) (nm := 1032000) (o1 := Qea Tryz.f165 [1, 0, 0] 0) (o2 := Qea Tryz.f165 [1, 0, 0] 1)
    (t := 56) (t' := 56) (x := .tmp 3) (r := ⟨Y27, [], 136, 24, 0⟩) (u := Y40) (by kernel_rfl) (by kernel_rfl) (by kernel_rfl) ⟨by kernel_rfl, by kernel_rfl⟩ (fun y => by kernel_rfl) (by kernel_rfl) (by kernel_rfl) (by kernel_rfl) (by kernel_rfl) (by kernel_rfl) rfl
    (fun y => (st0 Tryz.f165 P_gw y).set 2 (.s .nls)) (fun y => ((st0 Tryz.f165 P_gw y).set 2 (.s .nls)).set 3 (.s (.d (.slice Y40) y.1))) (fun y => y.1)
    (fun y => by kernel_rfl) (fun y => by kernel_rfl) (fun y => by kernel_rfl) (fun y => Nat.le_of_ble_eq_true (by kernel_rfl)) (fun y => by kernel_rfl) (by kernel_rfl) (by kernel_rfl) (by kernel_rfl) (fun y => by kernel_rfl)
    (fun y h => by obtain ⟨l, v⟩ := y; have h : l = [] := h; subst h; show run _ _ _ _ _ _ = F_gw ([], v); kernel_rfl) (fun y => by kernel_rfl)
abbrev P_gx : List PK := [.val Y57]
abbrev R_gx : List VK := [.g [.own 24 Y24, .own 69 Y68, .own 225 Y40, .own 136 Y40]]
abbrev i_gx_3 : Shp := { slots := [(1, .s (.ptr 1 0)), (2, .s (.ptr 2 0)), (10, .s (.dat YI)), (11, .s (.dat YI))], boxes := [(1, [.own 24 Y24, .dat Y54, .dat Y27, .dat Y27]), (2, [.own 24 Y24, .own 69 Y68, .own 225 Y40, .own 136 Y40])], rows := [] }
abbrev o_gx_3 : List (Ex × Shp) := [(.exit 0, { slots := [(1, .s (.ptr 1 0)), (2, .s (.ptr 2 0))], boxes := [(1, [.own 24 Y24, .dat Y54, .dat Y27, .dat Y27]), (2, [.own 24 Y24, .own 69 Y68, .own 225 Y40, .own 136 Y40])], rows := [] })]
def l_gx_3 (rec : i_gx_3.den → Option (denO o_gx_3)) (u3 : i_gx_3.den) : Option (denO o_gx_3) :=
 if (ltI u3.1.2.2.2.1 u3.1.2.2.1) then
  if 0 ≤ u3.1.2.2.2.1 ∧ u3.1.2.2.2.1 < ((u3.2.1.1.1.length : Nat) : Int) then
   ((u3.2.1.1.1)[(u3.1.2.2.2.1).toNat]?).bind fun y6 =>
   (F_ap (y6, ())).bind fun r7 =>
   if 0 ≤ u3.1.2.2.2.1 ∧ u3.1.2.2.2.1 < ((u3.2.1.1.1.length : Nat) : Int) then
    ((u3.2.1.1.1)[(u3.1.2.2.2.1).toNat]?).bind fun y8 =>
    let v9 := (u3.2.1.1.1.set (u3.1.2.2.2.1).toNat r7.1.1)
    let v10 := (IntKind.i64.wrap (u3.1.2.2.2.1 + (1 : Int)))
    rec (((), ((), (u3.1.2.2.1, (v10, ())))), (((v9, (u3.2.1.1.2.1, (u3.2.1.1.2.2.1, (u3.2.1.1.2.2.2.1, ())))), (u3.2.1.2.1, ())), ()))
   else none
  else none
 else
  some (.inl (((), ((), ())), ((u3.2.1.1, (u3.2.1.2.1, ())), ())))
def L_gx_3 (x : i_gx_3.den) : Option (denO o_gx_3) := Qd l_gx_3 lots x
def F_gx (x : denP P_gx) : Option (denV R_gx × denQ P_gx) :=
 (F_gt (x.1.1, ())).bind fun r1 =>
 let v2 := ((r1.1.1.length : Nat) : Int)
 (L_gx_3 (((), ((), (v2, ((0 : Int), ())))), (((r1.1.1, (x.1.2.1, (x.1.2.2.1, (x.1.2.2.2.1, ())))), ((([] : List (den Y24)), (([] : List (den Y68)), (([] : List (den Y40)), (([] : List (den Y40)), ())))), ())), ()))).bind fun z11 =>
 match z11 with
 | .inl x12 =>
  (F_gu (x12.2.1.1.2.1, ())).bind fun r13 =>
  (F_gv (x12.2.1.1.2.2.1, ())).bind fun r14 =>
  (F_gw (x12.2.1.1.2.2.2.1, ())).bind fun r15 =>
  some (((x12.2.1.1.1, (r13.1.1, (r14.1.1, (r15.1.1, ())))), ()), ())
 | .inr z11_ =>
  none
abbrev C_gx : Con := ⟨P_gx, R_gx, F_gx, false⟩
abbrev G_gx : Env := [(99, C_gt), (139, C_ap), (163, C_gu), (164, C_gv), (165, C_gw)]
theorem g_gx : Qe Tryz.prog G_gx := (Qa s_gt (Qa s_ap (Qa s_gu (Qa s_gv (Qa s_gw Qc)))))
abbrev c_gx_3 : Cut := ⟨i_gx_3, o_gx_3, fun x => Qd l_gx_3 lots x⟩
theorem t_gx_3 (rec x) : run T G_gx [] (nav Tryz.f73 [1, 1, 0, 1, 0, 0]) (mk 38 i_gx_3 x) (Qx i_gx_3 o_gx_3 rec) = l_gx_3 rec x := by kernel_rfl
theorem k_gx_3 : Qu Tryz.prog 38 (.loop (nav Tryz.f73 [1, 1, 0, 1, 0, 0])) c_gx_3 :=
  Qh (L := []) hT g_gx t_gx_3 okP _
theorem r_gx (x) : Qf T G_gx [(3, c_gx_3)] Tryz.f73 C_gx.ps C_gx.rs x = C_gx.F x := by kernel_rfl
theorem s_gx : Qb Tryz.prog 73 C_gx := fnC (L := [(3, c_gx_3)]) hT g_gx Tryz.f73 (okS okP (okS okP (okS (okS okP (okB (okU k_gx_3))) okP))) r_gx
abbrev P_gy : List PK := [.val Y61]
abbrev R_gy : List VK := [.s (.own 26 Y25)]
def F_gy (x : denP P_gy) : Option (denV R_gy × denQ P_gy) :=
  if (([] : List (den Y25)).length + x.1.length) * 120 ≤ 140737488355328 then some (([] ++ x.1, ()), ()) else none
abbrev C_gy : Con := ⟨P_gy, R_gy, F_gy, false⟩
theorem s_gy : Qb Tryz.prog 167 C_gy :=
  QcE hT (fn := Tryz.f167) (cn := C_gy) (c0 := nav Tryz.f167 [0]) (ca := nav Tryz.f167 [1, 0, 1, 0]) (cb := nav Tryz.f167 [1, 1]) (id := 1) (d := 4) (nm := 1032000) (o1 := Qea Tryz.f167 [1, 0, 0] 0) (o2 := Qea Tryz.f167 [1, 0, 0] 1)
    (t := 61) (t' := 61) (x := .tmp 3) (r := ⟨Y61, [], 26, 24, 3000026⟩) (u := Y25) (by kernel_rfl) (by kernel_rfl) (by kernel_rfl) ⟨by kernel_rfl, by kernel_rfl⟩ (fun y => by kernel_rfl) (by kernel_rfl) (by kernel_rfl) (by kernel_rfl) (by kernel_rfl) (by kernel_rfl) rfl
    (fun y => (st0 Tryz.f167 P_gy y).set 2 (.s .nls)) (fun y => ((st0 Tryz.f167 P_gy y).set 2 (.s .nls)).set 3 (.s (.d (.slice Y25) y.1))) (fun y => y.1)
    (fun y => by kernel_rfl) (fun y => by kernel_rfl) (fun y => by kernel_rfl) (fun y => Nat.le_of_ble_eq_true (by kernel_rfl)) (fun y => by kernel_rfl) (by kernel_rfl) (by kernel_rfl) (by kernel_rfl) (fun y => by kernel_rfl)
    (fun y h => by obtain ⟨l, v⟩ := y; have h : l = [] := h; subst h; show run _ _ _ _ _ _ = F_gy ([], v); kernel_rfl) (fun y => by kernel_rfl)
abbrev P_aq : List PK := [.val Y25]
abbrev R_aq : List VK := [.g [.own 2 YI, .dat YI, .own 2 YI, .dat .bool, .dat .bool, .dat .bool, .dat YI, .own 2 YI, .own 2 YI]]
def F_aq (x : denP P_aq) : Option (denV R_aq × denQ P_aq) :=
 (F_ap (x.1.1, ())).bind fun r1 =>
 (F_ap (x.1.2.2.1, ())).bind fun r2 =>
 (F_ap (x.1.2.2.2.2.2.2.2.1, ())).bind fun r3 =>
 (F_ap (x.1.2.2.2.2.2.2.2.2.1, ())).bind fun r4 =>
 some (((r1.1.1, (x.1.2.1, (r2.1.1, (x.1.2.2.2.1, (x.1.2.2.2.2.1, (x.1.2.2.2.2.2.1, (x.1.2.2.2.2.2.2.1, (r3.1.1, (r4.1.1, ()))))))))), ()), ())
abbrev C_aq : Con := ⟨P_aq, R_aq, F_aq, false⟩
abbrev G_aq : Env := [(139, C_ap)]
theorem g_aq : Qe Tryz.prog G_aq := (Qa s_ap Qc)
theorem r_aq (x) : Qf T G_aq [] Tryz.f83 C_aq.ps C_aq.rs x = C_aq.F x := by kernel_rfl
theorem s_aq : Qb Tryz.prog 83 C_aq := fnC (L := []) hT g_aq Tryz.f83 okP r_aq
abbrev P_gz : List PK := [.val Y62]
abbrev R_gz : List VK := [.g [.own 24 Y24, .own 69 Y68, .own 225 Y40, .own 136 Y40, .own 2 YI, .own 26 Y25, .dat YI, .dat YI, .dat YI]]
abbrev i_gz_5 : Shp := { slots := [(1, .s (.ptr 1 0)), (2, .s (.ptr 2 0)), (18, .s (.dat YI)), (19, .s (.dat YI))], boxes := [(1, [.own 24 Y24, .own 69 Y68, .own 225 Y40, .own 136 Y40, .own 2 YI, .own 26 Y25, .dat YI, .dat YI, .dat YI]), (2, [.own 24 Y24, .own 69 Y68, .own 225 Y40, .own 136 Y40, .own 2 YI, .own 26 Y25, .dat YI, .dat YI, .dat YI])], rows := [] }
abbrev o_gz_5 : List (Ex × Shp) := [(.exit 0, { slots := [(1, .s (.ptr 1 0)), (2, .s (.ptr 2 0))], boxes := [(1, [.own 24 Y24, .own 69 Y68, .own 225 Y40, .own 136 Y40, .own 2 YI, .own 26 Y25, .dat YI, .dat YI, .dat YI]), (2, [.own 24 Y24, .own 69 Y68, .own 225 Y40, .own 136 Y40, .own 2 YI, .own 26 Y25, .dat YI, .dat YI, .dat YI])], rows := [] })]
def l_gz_5 (rec : i_gz_5.den → Option (denO o_gz_5)) (u5 : i_gz_5.den) : Option (denO o_gz_5) :=
 if (ltI u5.1.2.2.2.1 u5.1.2.2.1) then
  if 0 ≤ u5.1.2.2.2.1 ∧ u5.1.2.2.2.1 < ((u5.2.1.1.2.2.2.2.2.1.length : Nat) : Int) then
   ((u5.2.1.1.2.2.2.2.2.1)[(u5.1.2.2.2.1).toNat]?).bind fun y8 =>
   (F_aq (y8, ())).bind fun r9 =>
   if 0 ≤ u5.1.2.2.2.1 ∧ u5.1.2.2.2.1 < ((u5.2.1.1.2.2.2.2.2.1.length : Nat) : Int) then
    ((u5.2.1.1.2.2.2.2.2.1)[(u5.1.2.2.2.1).toNat]?).bind fun y10 =>
    let v11 := (u5.2.1.1.2.2.2.2.2.1.set (u5.1.2.2.2.1).toNat r9.1.1)
    let v12 := (IntKind.i64.wrap (u5.1.2.2.2.1 + (1 : Int)))
    rec (((), ((), (u5.1.2.2.1, (v12, ())))), (((u5.2.1.1.1, (u5.2.1.1.2.1, (u5.2.1.1.2.2.1, (u5.2.1.1.2.2.2.1, (u5.2.1.1.2.2.2.2.1, (v11, (u5.2.1.1.2.2.2.2.2.2.1, (u5.2.1.1.2.2.2.2.2.2.2.1, (u5.2.1.1.2.2.2.2.2.2.2.2.1, ()))))))))), (u5.2.1.2.1, ())), ()))
   else none
  else none
 else
  some (.inl (((), ((), ())), ((u5.2.1.1, (u5.2.1.2.1, ())), ())))
def L_gz_5 (x : i_gz_5.den) : Option (denO o_gz_5) := Qd l_gz_5 lots x
def F_gz (x : denP P_gz) : Option (denV R_gz × denQ P_gz) :=
 (F_gx (x.1.1, ())).bind fun r1 =>
 (F_ap (x.1.2.1, ())).bind fun r2 =>
 (F_gy (x.1.2.2.1, ())).bind fun r3 =>
 let v4 := ((r3.1.1.length : Nat) : Int)
 (L_gz_5 (((), ((), (v4, ((0 : Int), ())))), (((r1.1.1.1, (r1.1.1.2.1, (r1.1.1.2.2.1, (r1.1.1.2.2.2.1, (r2.1.1, (r3.1.1, (x.1.2.2.2.1, (x.1.2.2.2.2.1, (x.1.2.2.2.2.2.1, ()))))))))), ((([] : List (den Y24)), (([] : List (den Y68)), (([] : List (den Y40)), (([] : List (den Y40)), (([] : List (den YI)), (([] : List (den Y25)), ((0 : Int), ((0 : Int), ((0 : Int), ()))))))))), ())), ()))).bind fun z13 =>
 match z13 with
 | .inl x14 =>
  some ((x14.2.1.1, ()), ())
 | .inr z13_ =>
  none
abbrev C_gz : Con := ⟨P_gz, R_gz, F_gz, false⟩
abbrev G_gz : Env := [(73, C_gx), (83, C_aq), (139, C_ap), (167, C_gy)]
theorem g_gz : Qe Tryz.prog G_gz := (Qa s_gx (Qa s_aq (Qa s_ap (Qa s_gy Qc))))
abbrev c_gz_5 : Cut := ⟨i_gz_5, o_gz_5, fun x => Qd l_gz_5 lots x⟩
theorem t_gz_5 (rec x) : run T G_gz [] (nav Tryz.f76 [1, 1, 1, 1, 0, 1, 0, 0]) (mk 34 i_gz_5 x) (Qx i_gz_5 o_gz_5 rec) = l_gz_5 rec x := by kernel_rfl
theorem k_gz_5 : Qu Tryz.prog 34 (.loop (nav Tryz.f76 [1, 1, 1, 1, 0, 1, 0, 0])) c_gz_5 :=
  Qh (L := []) hT g_gz t_gz_5 okP _
theorem r_gz (x) : Qf T G_gz [(5, c_gz_5)] Tryz.f76 C_gz.ps C_gz.rs x = C_gz.F x := by kernel_rfl
theorem s_gz : Qb Tryz.prog 76 C_gz := fnC (L := [(5, c_gz_5)]) hT g_gz Tryz.f76 (okS okP (okS okP (okS okP (okS okP (okS (okS okP (okB (okU k_gz_5))) okP))))) r_gz
abbrev P_aw : List PK := [.val Y24, .val YI]
abbrev R_aw : List VK := [.s (.own 2 YI)]
def F_aw (x : denP P_aw) : Option (denV R_aw × denQ P_aw) :=
 let v1 := (IntKind.i64.wrap (x.2.1 * (8 : Int)))
 let v2 := (IntKind.i64.wrap (x.2.1 + (1 : Int)))
 let v3 := (IntKind.i64.wrap (v2 * (8 : Int)))
 if 0 ≤ v1 ∧ v1 ≤ v3 ∧ v3 ≤ ((x.1.length : Nat) : Int) then
  let v4 := ((x.1.drop (v1).toNat).take ((v3).toNat - (v1).toNat))
  (F_ap (v4, ())).bind fun r5 =>
  some ((r5.1.1, ()), ())
 else none
abbrev C_aw : Con := ⟨P_aw, R_aw, F_aw, false⟩
abbrev G_aw : Env := [(139, C_ap)]
theorem g_aw : Qe Tryz.prog G_aw := (Qa s_ap Qc)
theorem r_aw (x) : Qf T G_aw [] Tryz.f80 C_aw.ps C_aw.rs x = C_aw.F x := by kernel_rfl
theorem s_aw : Qb Tryz.prog 80 C_aw := fnC (L := []) hT g_aw Tryz.f80 okP r_aw
abbrev P_ha : List PK := [.val Y24, .val Y24]
abbrev R_ha : List VK := [.s (.own 2 YI)]
abbrev i_ha_3 : Shp := { slots := [(0, .s (.dat Y24)), (5, .s (.own 2 YI)), (9, .s (.dat Y24)), (10, .s (.dat YI)), (11, .s (.dat YI))], boxes := [], rows := [] }
abbrev o_ha_3 : List (Ex × Shp) := [(.exit 0, { slots := [(5, .s (.own 2 YI))], boxes := [], rows := [] })]
def l_ha_3 (rec : i_ha_3.den → Option (denO o_ha_3)) (u3 : i_ha_3.den) : Option (denO o_ha_3) :=
 if (ltI u3.1.2.2.2.2.1 u3.1.2.2.2.1) then
  if 0 ≤ u3.1.2.2.2.2.1 then
   ((u3.1.2.2.1)[(u3.1.2.2.2.2.1).toNat]?).bind fun y4 =>
   (F_aw (u3.1.1, y4, ())).bind fun r5 =>
   if (u3.1.2.1.length + r5.1.1.length) * 8 ≤ 140737488355328 then
    let v6 := (u3.1.2.1 ++ r5.1.1)
    let v7 := (IntKind.i64.wrap (u3.1.2.2.2.2.1 + (1 : Int)))
    rec ((u3.1.1, (v6, (u3.1.2.2.1, (u3.1.2.2.2.1, (v7, ()))))), ((), ()))
   else none
  else none
 else
  some (.inl ((u3.1.2.1, ()), ((), ())))
def L_ha_3 (x : i_ha_3.den) : Option (denO o_ha_3) := Qd l_ha_3 lots x
def F_ha (x : denP P_ha) : Option (denV R_ha × denQ P_ha) :=
 let v1 := ((x.2.1.length : Nat) : Int)
 (L_ha_3 ((x.1, (([] : List (den YI)), (x.2.1, (v1, ((0 : Int), ()))))), ((), ()))).bind fun z8 =>
 match z8 with
 | .inl x9 =>
  some ((x9.1.1, ()), ())
 | .inr z8_ =>
  none
abbrev C_ha : Con := ⟨P_ha, R_ha, F_ha, false⟩
abbrev G_ha : Env := [(80, C_aw)]
theorem g_ha : Qe Tryz.prog G_ha := (Qa s_aw Qc)
abbrev c_ha_3 : Cut := ⟨i_ha_3, o_ha_3, fun x => Qd l_ha_3 lots x⟩
theorem t_ha_3 (rec x) : run T G_ha [] (nav Tryz.f177 [1, 1, 0, 1, 0, 0]) (mk 22 i_ha_3 x) (Qx i_ha_3 o_ha_3 rec) = l_ha_3 rec x := by kernel_rfl
theorem k_ha_3 : Qu Tryz.prog 22 (.loop (nav Tryz.f177 [1, 1, 0, 1, 0, 0])) c_ha_3 :=
  Qh (L := []) hT g_ha t_ha_3 okP _
theorem r_ha (x) : Qf T G_ha [(3, c_ha_3)] Tryz.f177 C_ha.ps C_ha.rs x = C_ha.F x := by kernel_rfl
theorem s_ha : Qb Tryz.prog 177 C_ha := fnC (L := [(3, c_ha_3)]) hT g_ha Tryz.f177 (okS okP (okS okP (okS (okS okP (okB (okU k_ha_3))) okP))) r_ha
abbrev P_hb : List PK := [.ptr Y62, .val YI]
abbrev R_hb : List VK := [.g [.own 2 YI, .dat YI, .own 2 YI, .dat .bool, .dat .bool, .dat .bool, .dat YI, .own 2 YI, .own 2 YI, .own 2 YI, .own 2 YI]]
abbrev i_hb_3 : Shp := { slots := [(0, .s (.pd Y62)), (1, .s (.dat YI)), (4, .s (.ptr 4 0)), (5, .s (.ptr 5 0)), (34, .s (.dat Y54)), (35, .s (.dat YI)), (36, .s (.dat YI))], boxes := [(4, [.own 2 YI, .dat YI, .own 2 YI, .dat .bool, .dat .bool, .dat .bool, .dat YI, .own 2 YI, .own 2 YI, .own 2 YI, .own 2 YI]), (5, [.own 2 YI, .dat YI, .own 2 YI, .dat .bool, .dat .bool, .dat .bool, .dat YI, .own 2 YI, .own 2 YI, .own 2 YI, .own 2 YI])], rows := [] }
abbrev o_hb_3 : List (Ex × Shp) := [(.exit 0, { slots := [(4, .s (.ptr 4 0)), (5, .s (.ptr 5 0))], boxes := [(4, [.own 2 YI, .dat YI, .own 2 YI, .dat .bool, .dat .bool, .dat .bool, .dat YI, .own 2 YI, .own 2 YI, .own 2 YI, .own 2 YI]), (5, [.own 2 YI, .dat YI, .own 2 YI, .dat .bool, .dat .bool, .dat .bool, .dat YI, .own 2 YI, .own 2 YI, .own 2 YI, .own 2 YI])], rows := [] })]
def l_hb_3 (rec : i_hb_3.den → Option (denO o_hb_3)) (u3 : i_hb_3.den) : Option (denO o_hb_3) :=
 if (ltI u3.1.2.2.2.2.2.2.1 u3.1.2.2.2.2.2.1) then
  if 0 ≤ u3.1.2.2.2.2.2.2.1 then
   ((u3.1.2.2.2.2.1)[(u3.1.2.2.2.2.2.2.1).toNat]?).bind fun y8 =>
   if (y8.1 == u3.1.2.1) then
    (F_aw (u3.1.1.2.1, y8.2.2.1, ())).bind fun r9 =>
    if (u3.2.1.2.1.2.2.2.2.2.2.2.2.2.2.1.length + r9.1.1.length) * 8 ≤ 140737488355328 then
     let v10 := (u3.2.1.2.1.2.2.2.2.2.2.2.2.2.2.1 ++ r9.1.1)
     let v11 := (IntKind.i64.wrap (u3.1.2.2.2.2.2.2.1 + (1 : Int)))
     rec ((u3.1.1, (u3.1.2.1, ((), ((), (u3.1.2.2.2.2.1, (u3.1.2.2.2.2.2.1, (v11, ()))))))), ((u3.2.1.1, ((u3.2.1.2.1.1, (u3.2.1.2.1.2.1, (u3.2.1.2.1.2.2.1, (u3.2.1.2.1.2.2.2.1, (u3.2.1.2.1.2.2.2.2.1, (u3.2.1.2.1.2.2.2.2.2.1, (u3.2.1.2.1.2.2.2.2.2.2.1, (u3.2.1.2.1.2.2.2.2.2.2.2.1, (u3.2.1.2.1.2.2.2.2.2.2.2.2.1, (u3.2.1.2.1.2.2.2.2.2.2.2.2.2.1, (v10, ()))))))))))), ())), ()))
    else none
   else
    let v12 := (IntKind.i64.wrap (u3.1.2.2.2.2.2.2.1 + (1 : Int)))
    rec ((u3.1.1, (u3.1.2.1, ((), ((), (u3.1.2.2.2.2.1, (u3.1.2.2.2.2.2.1, (v12, ()))))))), ((u3.2.1.1, (u3.2.1.2.1, ())), ()))
  else none
 else
  some (.inl (((), ((), ())), ((u3.2.1.1, (u3.2.1.2.1, ())), ())))
def L_hb_3 (x : i_hb_3.den) : Option (denO o_hb_3) := Qd l_hb_3 lots x
def F_hb (x : denP P_hb) : Option (denV R_hb × denQ P_hb) :=
 if 0 ≤ x.2.1 then
  ((x.1.2.2.1)[(x.2.1).toNat]?).bind fun y1 =>
  (F_aq (y1, ())).bind fun r2 =>
  if 0 ≤ x.2.1 then
   ((x.1.1.1)[(x.2.1).toNat]?).bind fun y3 =>
   (F_ha (x.1.2.1, y3, ())).bind fun r4 =>
   let v5 := ((x.1.1.2.1.length : Nat) : Int)
   (L_hb_3 ((x.1, (x.2.1, ((), ((), (x.1.1.2.1, (v5, ((0 : Int), ()))))))), (((([] : List (den YI)), ((0 : Int), (([] : List (den YI)), (false, (false, (false, ((0 : Int), (([] : List (den YI)), (([] : List (den YI)), (([] : List (den YI)), (([] : List (den YI)), ()))))))))))), ((r2.1.1.1, (r2.1.1.2.1, (r2.1.1.2.2.1, (r2.1.1.2.2.2.1, (r2.1.1.2.2.2.2.1, (r2.1.1.2.2.2.2.2.1, (r2.1.1.2.2.2.2.2.2.1, (r2.1.1.2.2.2.2.2.2.2.1, (r2.1.1.2.2.2.2.2.2.2.2.1, (r4.1.1, (([] : List (den YI)), ()))))))))))), ())), ()))).bind fun z13 =>
   match z13 with
   | .inl x14 =>
    some ((x14.2.1.2.1, ()), ())
   | .inr z13_ =>
    none
  else none
 else none
abbrev C_hb : Con := ⟨P_hb, R_hb, F_hb, false⟩
abbrev G_hb : Env := [(80, C_aw), (83, C_aq), (177, C_ha)]
theorem g_hb : Qe Tryz.prog G_hb := (Qa s_aw (Qa s_aq (Qa s_ha Qc)))
abbrev c_hb_3 : Cut := ⟨i_hb_3, o_hb_3, fun x => Qd l_hb_3 lots x⟩
theorem t_hb_3 (rec x) : run T G_hb [] (nav Tryz.f90 [1, 1, 0, 1, 0, 0]) (mk 57 i_hb_3 x) (Qx i_hb_3 o_hb_3 rec) = l_hb_3 rec x := by kernel_rfl
theorem k_hb_3 : Qu Tryz.prog 57 (.loop (nav Tryz.f90 [1, 1, 0, 1, 0, 0])) c_hb_3 :=
  Qh (L := []) hT g_hb t_hb_3 okP _
theorem r_hb (x) : Qf T G_hb [(3, c_hb_3)] Tryz.f90 C_hb.ps C_hb.rs x = C_hb.F x := by kernel_rfl
theorem s_hb : Qb Tryz.prog 90 C_hb := fnC (L := [(3, c_hb_3)]) hT g_hb Tryz.f90 (okS okP (okS okP (okS (okS okP (okB (okU k_hb_3))) okP))) r_hb
abbrev P_hc : List PK := [.val Y24, .val Y24]
abbrev R_hc : List VK := [.s (.dat .bool)]
abbrev i_hc_4 : Shp := { slots := [(0, .s (.dat Y24)), (1, .s (.dat Y24)), (12, .s (.dat YI)), (13, .s (.dat YI))], boxes := [], rows := [] }
abbrev o_hc_4 : List (Ex × Shp) := [(.exit 0, { slots := [], boxes := [], rows := [] }), (.ret, { slots := [(4, .s (.dat .bool))], boxes := [], rows := [] })]
def l_hc_4 (rec : i_hc_4.den → Option (denO o_hc_4)) (u4 : i_hc_4.den) : Option (denO o_hc_4) :=
 if (ltI u4.1.2.2.2.1 u4.1.2.2.1) then
  if 0 ≤ u4.1.2.2.2.1 then
   ((u4.1.1)[(u4.1.2.2.2.1).toNat]?).bind fun y6 =>
   if 0 ≤ u4.1.2.2.2.1 then
    ((u4.1.2.1)[(u4.1.2.2.2.1).toNat]?).bind fun y7 =>
    if (y6 != y7) then
     some (.inr (.inl ((false, ()), ((), ()))))
    else
     let v8 := (IntKind.i64.wrap (u4.1.2.2.2.1 + (1 : Int)))
     rec ((u4.1.1, (u4.1.2.1, (u4.1.2.2.1, (v8, ())))), ((), ()))
   else none
  else none
 else
  some (.inl ((), ((), ())))
def L_hc_4 (x : i_hc_4.den) : Option (denO o_hc_4) := Qd l_hc_4 lots x
def F_hc (x : denP P_hc) : Option (denV R_hc × denQ P_hc) :=
 let v1 := ((x.1.length : Nat) : Int)
 let v2 := ((x.2.1.length : Nat) : Int)
 if (v1 != v2) then
  some ((false, ()), ())
 else
  let v3 := ((x.1.length : Nat) : Int)
  (L_hc_4 ((x.1, (x.2.1, (v3, ((0 : Int), ())))), ((), ()))).bind fun z9 =>
  match z9 with
  | .inl x10 =>
   some ((true, ()), ())
  | .inr z9_ =>
   match z9_ with
   | .inl x11 =>
    some ((x11.1.1, ()), ())
   | .inr z9__ =>
    none
abbrev C_hc : Con := ⟨P_hc, R_hc, F_hc, false⟩
abbrev G_hc : Env := []
theorem g_hc : Qe Tryz.prog G_hc := Qc
abbrev c_hc_4 : Cut := ⟨i_hc_4, o_hc_4, fun x => Qd l_hc_4 lots x⟩
theorem t_hc_4 (rec x) : run T G_hc [] (nav Tryz.f184 [1, 1, 0, 1, 0, 0]) (mk 26 i_hc_4 x) (Qx i_hc_4 o_hc_4 rec) = l_hc_4 rec x := by kernel_rfl
theorem k_hc_4 : Qu Tryz.prog 26 (.loop (nav Tryz.f184 [1, 1, 0, 1, 0, 0])) c_hc_4 :=
  Qh (L := []) hT g_hc t_hc_4 okP _
theorem r_hc (x) : Qf T G_hc [(4, c_hc_4)] Tryz.f184 C_hc.ps C_hc.rs x = C_hc.F x := by kernel_rfl
theorem s_hc : Qb Tryz.prog 184 C_hc := fnC (L := [(4, c_hc_4)]) hT g_hc Tryz.f184 (okS okP (okS okP (okS (okS okP (okB (okU k_hc_4))) okP))) r_hc
abbrev P_hd : List PK := [.val Y25, .val Y25]
abbrev R_hd : List VK := [.s (.dat .bool)]
def F_hd (x : denP P_hd) : Option (denV R_hd × denQ P_hd) :=
 (F_hc (x.1.1, x.2.1.1, ())).bind fun r1 =>
 if r1.1.1 = true then
  if (x.1.2.1 == x.2.1.2.1) = true then
   (F_hc (x.1.2.2.1, x.2.1.2.2.1, ())).bind fun r2 =>
   if r2.1.1 = true then
    if (x.1.2.2.2.1 == x.2.1.2.2.2.1) = true then
     if (x.1.2.2.2.2.1 == x.2.1.2.2.2.2.1) = true then
      if (x.1.2.2.2.2.2.1 == x.2.1.2.2.2.2.2.1) = true then
       if (x.1.2.2.2.2.2.2.1 == x.2.1.2.2.2.2.2.2.1) = true then
        (F_hc (x.1.2.2.2.2.2.2.2.1, x.2.1.2.2.2.2.2.2.2.1, ())).bind fun r3 =>
        if r3.1.1 = true then
         (F_hc (x.1.2.2.2.2.2.2.2.2.1, x.2.1.2.2.2.2.2.2.2.2.1, ())).bind fun r4 =>
         some ((r4.1.1, ()), ())
        else
         some ((false, ()), ())
       else
        some ((false, ()), ())
      else
       some ((false, ()), ())
     else
      some ((false, ()), ())
    else
     some ((false, ()), ())
   else
    some ((false, ()), ())
  else
   some ((false, ()), ())
 else
  some ((false, ()), ())
abbrev C_hd : Con := ⟨P_hd, R_hd, F_hd, false⟩
abbrev G_hd : Env := [(184, C_hc)]
theorem g_hd : Qe Tryz.prog G_hd := (Qa s_hc Qc)
theorem r_hd (x) : Qf T G_hd [] Tryz.f183 C_hd.ps C_hd.rs x = C_hd.F x := by kernel_rfl
theorem s_hd : Qb Tryz.prog 183 C_hd := fnC (L := []) hT g_hd Tryz.f183 okP r_hd
abbrev P_he : List PK := [.val Y151, .val Y151]
abbrev R_he : List VK := [.s (.dat .bool)]
def F_he (x : denP P_he) : Option (denV R_he × denQ P_he) :=
 (F_hd (x.1.1, x.2.1.1, ())).bind fun r1 =>
 if r1.1.1 = true then
  (F_hc (x.1.2.1, x.2.1.2.1, ())).bind fun r2 =>
  if r2.1.1 = true then
   (F_hc (x.1.2.2.1, x.2.1.2.2.1, ())).bind fun r3 =>
   some ((r3.1.1, ()), ())
  else
   some ((false, ()), ())
 else
  some ((false, ()), ())
abbrev C_he : Con := ⟨P_he, R_he, F_he, false⟩
abbrev G_he : Env := [(183, C_hd), (184, C_hc)]
theorem g_he : Qe Tryz.prog G_he := (Qa s_hd (Qa s_hc Qc))
theorem r_he (x) : Qf T G_he [] Tryz.f100 C_he.ps C_he.rs x = C_he.F x := by kernel_rfl
theorem s_he : Qb Tryz.prog 100 C_he := fnC (L := []) hT g_he Tryz.f100 okP r_he
abbrev P_hf : List PK := [.ptr Y62]
abbrev R_hf : List VK := [.s (.dat YI)]
def F_hf (x : denP P_hf) : Option (denV R_hf × denQ P_hf) :=
 if 0 ≤ x.1.2.2.2.1 then
  ((x.1.1.2.2.2.1)[(x.1.2.2.2.1).toNat]?).bind fun y1 =>
  some ((y1.1, ()), ())
 else none
abbrev C_hf : Con := ⟨P_hf, R_hf, F_hf, false⟩
abbrev G_hf : Env := []
theorem g_hf : Qe Tryz.prog G_hf := Qc
theorem r_hf (x) : Qf T G_hf [] Tryz.f92 C_hf.ps C_hf.rs x = C_hf.F x := by kernel_rfl
theorem s_hf : Qb Tryz.prog 92 C_hf := fnC (L := []) hT g_hf Tryz.f92 okP r_hf
abbrev P_ax : List PK := []
abbrev R_ax : List VK := [.s (.dat Y40)]
def F_ax (x : denP P_ax) : Option (denV R_ax × denQ P_ax) :=
 some ((((-1 : Int), ((0 : Int), ())), ()), ())
abbrev C_ax : Con := ⟨P_ax, R_ax, F_ax, false⟩
abbrev G_ax : Env := []
theorem g_ax : Qe Tryz.prog G_ax := Qc
theorem r_ax (x) : Qf T G_ax [] Tryz.f174 C_ax.ps C_ax.rs x = C_ax.F x := by kernel_rfl
theorem s_ax : Qb Tryz.prog 174 C_ax := fnC (L := []) hT g_ax Tryz.f174 okP r_ax
abbrev P_hg : List PK := [.val (.int .u64), .val (.int .u64)]
abbrev R_hg : List VK := [.s (.dat (.int .u64)), .s (.dat (.int .u64))]
def F_hg (x : denP P_hg) : Option (denV R_hg × denQ P_hg) :=
 let v1 := (iand .u64 x.1 (4294967295 : Int))
 let v2 := ((x.1).fdiv (2 ^ 32))
 let v3 := (iand .u64 x.2.1 (4294967295 : Int))
 let v4 := ((x.2.1).fdiv (2 ^ 32))
 let v5 := (IntKind.u64.wrap (v1 * v3))
 let v6 := (IntKind.u64.wrap (v2 * v3))
 let v7 := ((v5).fdiv (2 ^ 32))
 let v8 := (IntKind.u64.wrap (v6 + v7))
 let v9 := (iand .u64 v8 (4294967295 : Int))
 let v10 := ((v8).fdiv (2 ^ 32))
 let v11 := (IntKind.u64.wrap (v1 * v4))
 let v12 := (IntKind.u64.wrap (v9 + v11))
 let v13 := (IntKind.u64.wrap (v2 * v4))
 let v14 := (IntKind.u64.wrap (v13 + v10))
 let v15 := ((v12).fdiv (2 ^ 32))
 let v16 := (IntKind.u64.wrap (v14 + v15))
 let v17 := (IntKind.u64.wrap (x.1 * x.2.1))
 some ((v16, v17, ()), ())
abbrev C_hg : Con := ⟨P_hg, R_hg, F_hg, false⟩
abbrev G_hg : Env := []
theorem g_hg : Qe Tryz.prog G_hg := Qc
theorem r_hg (x) : Qf T G_hg [] Tryz.f290 C_hg.ps C_hg.rs x = C_hg.F x := by kernel_rfl
theorem s_hg : Qb Tryz.prog 290 C_hg := fnC (L := []) hT g_hg Tryz.f290 okP r_hg
abbrev P_hh : List PK := [.val (.int .u64), .val (.int .u64)]
abbrev R_hh : List VK := [.s (.dat (.int .u64)), .s (.dat (.int .u64))]
def F_hh (x : denP P_hh) : Option (denV R_hh × denQ P_hh) :=
 (F_hg (x.1, x.2.1, ())).bind fun r1 =>
 some ((r1.1.1, r1.1.2.1, ()), ())
abbrev C_hh : Con := ⟨P_hh, R_hh, F_hh, false⟩
abbrev G_hh : Env := [(290, C_hg)]
theorem g_hh : Qe Tryz.prog G_hh := (Qa s_hg Qc)
theorem r_hh (x) : Qf T G_hh [] Tryz.f243 C_hh.ps C_hh.rs x = C_hh.F x := by kernel_rfl
theorem s_hh : Qb Tryz.prog 243 C_hh := fnC (L := []) hT g_hh Tryz.f243 okP r_hh
abbrev P_hi : List PK := [.val Y27, .val YI]
abbrev R_hi : List VK := [.s (.own 41 Y40)]
abbrev i_hi_8 : Shp := { slots := [(7, .s (.own 41 Y40)), (8, .s (.dat YI))], boxes := [], rows := [] }
abbrev o_hi_8 : List (Ex × Shp) := [(.exit 0, { slots := [(7, .s (.own 41 Y40))], boxes := [], rows := [] })]
def l_hi_8 (rec : i_hi_8.den → Option (denO o_hi_8)) (u8 : i_hi_8.den) : Option (denO o_hi_8) :=
 let v8 := ((u8.1.1.length : Nat) : Int)
 if (ltI u8.1.2.1 v8) then
  if 0 ≤ u8.1.2.1 ∧ u8.1.2.1 ≤ ((u8.1.1.length : Nat) : Int) ∧ ((u8.1.1.length : Nat) : Int) ≤ ((u8.1.1.length : Nat) : Int) then
   if 0 ≤ (0 : Int) ∧ (0 : Int) ≤ u8.1.2.1 ∧ u8.1.2.1 ≤ ((u8.1.1.length : Nat) : Int) then
    if 0 < ((((u8.1.1.length : Nat) : Int)).toNat - (u8.1.2.1).toNat) ∧ 0 < ((u8.1.1.drop (0 + ((0 : Int)).toNat)).take ((u8.1.2.1).toNat - ((0 : Int)).toNat)).length then
     let v9 := (splc u8.1.1 ((u8.1.1.drop (0 + ((0 : Int)).toNat)).take ((u8.1.2.1).toNat - ((0 : Int)).toNat)) (0 + (u8.1.2.1).toNat) ((((u8.1.1.length : Nat) : Int)).toNat - (u8.1.2.1).toNat))
     let v10 := ((min ((((u8.1.1.length : Nat) : Int)).toNat - (u8.1.2.1).toNat) ((u8.1.1.drop (0 + ((0 : Int)).toNat)).take ((u8.1.2.1).toNat - ((0 : Int)).toNat)).length : Nat) : Int)
     let v11 := (IntKind.i64.wrap (u8.1.2.1 + v10))
     rec ((v9, (v11, ())), ((), ()))
    else none
   else none
  else none
 else
  some (.inl ((u8.1.1, ()), ((), ())))
def L_hi_8 (x : i_hi_8.den) : Option (denO o_hi_8) := Qd l_hi_8 lots x
def F_hi (x : denP P_hi) : Option (denV R_hi × denQ P_hi) :=
 if (ltI x.2.1 (0 : Int)) then none else
 let v1 := ((x.1.length : Nat) : Int)
 let v2 := (IntKind.u64.wrap v1)
 let v3 := (IntKind.u64.wrap x.2.1)
 (F_hh (v2, v3, ())).bind fun r4 =>
 if (ltI (0 : Int) r4.1.1) = false then
  if (ltI (9223372036854775807 : Int) r4.1.2.1) then none else
  let v5 := (IntKind.i64.wrap r4.1.2.1)
  if v5 = v5 ∧ 0 ≤ v5 ∧ v5 * 16 ≤ 140737488355328 ∧ v5 ≤ 9223372036854775807 then
   if 0 < (List.replicate (v5).toNat (QbG Y40)).length ∧ 0 < x.1.length then
    let v6 := (splc (List.replicate (v5).toNat (QbG Y40)) x.1 0 (List.replicate (v5).toNat (QbG Y40)).length)
    let v7 := ((min (List.replicate (v5).toNat (QbG Y40)).length x.1.length : Nat) : Int)
    (L_hi_8 ((v6, (v7, ())), ((), ()))).bind fun z12 =>
    match z12 with
    | .inl x13 =>
     some ((x13.1.1, ()), ())
    | .inr z12_ =>
     none
   else none
  else none
 else none
abbrev C_hi : Con := ⟨P_hi, R_hi, F_hi, false⟩
abbrev G_hi : Env := [(243, C_hh)]
theorem g_hi : Qe Tryz.prog G_hi := (Qa s_hh Qc)
abbrev c_hi_8 : Cut := ⟨i_hi_8, o_hi_8, fun x => Qd l_hi_8 lots x⟩
theorem t_hi_8 (rec x) : run T G_hi [] (nav Tryz.f173 [1, 1, 1, 1, 1, 1, 0, 0, 0]) (mk 48 i_hi_8 x) (Qx i_hi_8 o_hi_8 rec) = l_hi_8 rec x := by kernel_rfl
theorem k_hi_8 : Qu Tryz.prog 48 (.loop (nav Tryz.f173 [1, 1, 1, 1, 1, 1, 0, 0, 0])) c_hi_8 :=
  Qh (L := []) hT g_hi t_hi_8 okP _
theorem r_hi (x) : Qf T G_hi [(8, c_hi_8)] Tryz.f173 C_hi.ps C_hi.rs x = C_hi.F x := by kernel_rfl
theorem s_hi : Qb Tryz.prog 173 C_hi := fnC (L := [(8, c_hi_8)]) hT g_hi Tryz.f173 (okS okP (okS okP (okS okP (okS okP (okS okP (okS okP (okS (okB (okU k_hi_8)) okP))))))) r_hi
abbrev P_hj : List PK := [.ptr Y57, .val YI]
abbrev R_hj : List VK := [.s (.own 41 Y40)]
abbrev i_hj_8 : Shp := { slots := [(1, .s (.dat YI)), (5, .s (.own 41 Y40)), (35, .s (.dat Y54)), (36, .s (.dat YI)), (37, .s (.dat YI))], boxes := [], rows := [] }
abbrev o_hj_8 : List (Ex × Shp) := [(.exit 2, { slots := [(5, .s (.own 41 Y40))], boxes := [], rows := [] })]
def l_hj_8 (rec : i_hj_8.den → Option (denO o_hj_8)) (u8 : i_hj_8.den) : Option (denO o_hj_8) :=
 if (ltI u8.1.2.2.2.2.1 u8.1.2.2.2.1) then
  if 0 ≤ u8.1.2.2.2.2.1 then
   ((u8.1.2.2.1)[(u8.1.2.2.2.2.1).toNat]?).bind fun y18 =>
   if (y18.1 == u8.1.1) then
    if 0 ≤ y18.2.2.2.1 ∧ y18.2.2.2.1 < ((u8.1.2.1.length : Nat) : Int) then
     ((u8.1.2.1)[(y18.2.2.2.1).toNat]?).bind fun y19 =>
     let v20 := (u8.1.2.1.set (y18.2.2.2.1).toNat (y18.2.2.1, ((3 : Int), ())))
     if (y18.2.1 == u8.1.1) then
      if 0 ≤ y18.2.2.2.2.1 ∧ y18.2.2.2.2.1 < ((v20.length : Nat) : Int) then
       ((v20)[(y18.2.2.2.2.1).toNat]?).bind fun y21 =>
       let v22 := (v20.set (y18.2.2.2.2.1).toNat (y18.2.2.1, ((1 : Int), ())))
       let v23 := (IntKind.i64.wrap (u8.1.2.2.2.2.1 + (1 : Int)))
       rec ((u8.1.1, (v22, (u8.1.2.2.1, (u8.1.2.2.2.1, (v23, ()))))), ((), ()))
      else none
     else
      let v24 := (IntKind.i64.wrap (u8.1.2.2.2.2.1 + (1 : Int)))
      rec ((u8.1.1, (v20, (u8.1.2.2.1, (u8.1.2.2.2.1, (v24, ()))))), ((), ()))
    else none
   else
    if (y18.2.1 == u8.1.1) then
     if 0 ≤ y18.2.2.2.2.1 ∧ y18.2.2.2.2.1 < ((u8.1.2.1.length : Nat) : Int) then
      ((u8.1.2.1)[(y18.2.2.2.2.1).toNat]?).bind fun y25 =>
      let v26 := (u8.1.2.1.set (y18.2.2.2.2.1).toNat (y18.2.2.1, ((1 : Int), ())))
      let v27 := (IntKind.i64.wrap (u8.1.2.2.2.2.1 + (1 : Int)))
      rec ((u8.1.1, (v26, (u8.1.2.2.1, (u8.1.2.2.2.1, (v27, ()))))), ((), ()))
     else none
    else
     let v28 := (IntKind.i64.wrap (u8.1.2.2.2.2.1 + (1 : Int)))
     rec ((u8.1.1, (u8.1.2.1, (u8.1.2.2.1, (u8.1.2.2.2.1, (v28, ()))))), ((), ()))
  else none
 else
  some (.inl ((u8.1.2.1, ()), ((), ())))
def L_hj_8 (x : i_hj_8.den) : Option (denO o_hj_8) := Qd l_hj_8 lots x
abbrev i_hj_3 : Shp := { slots := [(0, .s (.pd Y57)), (1, .s (.dat YI)), (5, .s (.own 41 Y40)), (19, .s (.dat Y24)), (20, .s (.dat YI)), (21, .s (.dat YI))], boxes := [], rows := [] }
abbrev o_hj_3 : List (Ex × Shp) := [(.exit 0, { slots := [(0, .s (.pd Y57)), (1, .s (.dat YI)), (5, .s (.own 41 Y40))], boxes := [], rows := [] })]
def l_hj_3 (rec : i_hj_3.den → Option (denO o_hj_3)) (u3 : i_hj_3.den) : Option (denO o_hj_3) :=
 if (ltI u3.1.2.2.2.2.2.1 u3.1.2.2.2.2.1) then
  if 0 ≤ u3.1.2.2.2.2.2.1 then
   ((u3.1.2.2.2.1)[(u3.1.2.2.2.2.2.1).toNat]?).bind fun y7 =>
   if 0 ≤ u3.1.2.2.2.2.2.1 ∧ u3.1.2.2.2.2.2.1 < ((u3.1.2.2.1.length : Nat) : Int) then
    ((u3.1.2.2.1)[(u3.1.2.2.2.2.2.1).toNat]?).bind fun y8 =>
    let v9 := (u3.1.2.2.1.set (u3.1.2.2.2.2.2.1).toNat (y7, ((7 : Int), ())))
    let v10 := (IntKind.i64.wrap (u3.1.2.2.2.2.2.1 + (1 : Int)))
    rec ((u3.1.1, (u3.1.2.1, (v9, (u3.1.2.2.2.1, (u3.1.2.2.2.2.1, (v10, ())))))), ((), ()))
   else none
  else none
 else
  some (.inl ((u3.1.1, (u3.1.2.1, (u3.1.2.2.1, ()))), ((), ())))
def L_hj_3 (x : i_hj_3.den) : Option (denO o_hj_3) := Qd l_hj_3 lots x
def F_hj (x : denP P_hj) : Option (denV R_hj × denQ P_hj) :=
 (F_ax ()).bind fun r1 =>
 (F_hi ([r1.1.1], (8 : Int), ())).bind fun r2 =>
 if 0 ≤ x.2.1 then
  ((x.1.1)[(x.2.1).toNat]?).bind fun y3 =>
  let v4 := ((y3.length : Nat) : Int)
  (L_hj_3 ((x.1, (x.2.1, (r2.1.1, (y3, (v4, ((0 : Int), ())))))), ((), ()))).bind fun z11 =>
  match z11 with
  | .inl x12 =>
   let v13 := ((x12.1.1.2.1.length : Nat) : Int)
   (L_hj_8 ((x12.1.2.1, (x12.1.2.2.1, (x12.1.1.2.1, (v13, ((0 : Int), ()))))), ((), ()))).bind fun z29 =>
   match z29 with
   | .inl x30 =>
    some ((x30.1.1, ()), ())
   | .inr z29_ =>
    none
  | .inr z11_ =>
   none
 else none
abbrev C_hj : Con := ⟨P_hj, R_hj, F_hj, false⟩
abbrev G_hj : Env := [(173, C_hi), (174, C_ax)]
theorem g_hj : Qe Tryz.prog G_hj := (Qa s_hi (Qa s_ax Qc))
abbrev c_hj_8 : Cut := ⟨i_hj_8, o_hj_8, fun x => Qd l_hj_8 lots x⟩
theorem t_hj_8 (rec x) : run T G_hj [] (nav Tryz.f82 [1, 1, 1, 0, 1, 0, 0]) (mk 65 i_hj_8 x) (Qx i_hj_8 o_hj_8 rec) = l_hj_8 rec x := by kernel_rfl
theorem k_hj_8 : Qu Tryz.prog 65 (.loop (nav Tryz.f82 [1, 1, 1, 0, 1, 0, 0])) c_hj_8 :=
  Qh (L := []) hT g_hj t_hj_8 okP _
abbrev c_hj_3 : Cut := ⟨i_hj_3, o_hj_3, fun x => Qd l_hj_3 lots x⟩
theorem t_hj_3 (rec x) : run T G_hj [] (nav Tryz.f82 [1, 1, 0, 1, 0, 0]) (mk 65 i_hj_3 x) (Qx i_hj_3 o_hj_3 rec) = l_hj_3 rec x := by kernel_rfl
theorem k_hj_3 : Qu Tryz.prog 65 (.loop (nav Tryz.f82 [1, 1, 0, 1, 0, 0])) c_hj_3 :=
  Qh (L := []) hT g_hj t_hj_3 okP _
theorem r_hj (x) : Qf T G_hj [(8, c_hj_8), (3, c_hj_3)] Tryz.f82 C_hj.ps C_hj.rs x = C_hj.F x := by kernel_rfl
theorem s_hj : Qb Tryz.prog 82 C_hj := fnC (L := [(8, c_hj_8), (3, c_hj_3)]) hT g_hj Tryz.f82 (okS okP (okS okP (okS (okS okP (okB (okU k_hj_3))) (okS (okS okP (okB (okU k_hj_8))) okP)))) r_hj
abbrev P_ar : List PK := [.ptr Y25]
abbrev R_ar : List VK := [.s (.dat YI)]
def F_ar (x : denP P_ar) : Option (denV R_ar × denQ P_ar) :=
 ((x.1.2.2.1)[((9 : Int)).toNat]?).bind fun y1 =>
 if (y1 != (0 : Int)) = true then
  ((x.1.2.2.1)[((9 : Int)).toNat]?).bind fun y2 =>
  if (leI y2 x.1.2.2.2.2.2.2.1) then
   let v3 := (ior .i64 (0 : Int) (1 : Int))
   if x.1.2.2.2.2.2.1 then
    let v4 := (ior .i64 v3 (2 : Int))
    let v5 := ((x.1.2.2.2.2.2.2.2.1.length : Nat) : Int)
    if (ltI (0 : Int) v5) then
     let v6 := (ior .i64 v4 (4 : Int))
     some ((v6, ()), ())
    else
     some ((v4, ()), ())
   else
    let v7 := ((x.1.2.2.2.2.2.2.2.1.length : Nat) : Int)
    if (ltI (0 : Int) v7) then
     let v8 := (ior .i64 v3 (4 : Int))
     some ((v8, ()), ())
    else
     some ((v3, ()), ())
  else
   if x.1.2.2.2.2.2.1 then
    let v9 := (ior .i64 (0 : Int) (2 : Int))
    let v10 := ((x.1.2.2.2.2.2.2.2.1.length : Nat) : Int)
    if (ltI (0 : Int) v10) then
     let v11 := (ior .i64 v9 (4 : Int))
     some ((v11, ()), ())
    else
     some ((v9, ()), ())
   else
    let v12 := ((x.1.2.2.2.2.2.2.2.1.length : Nat) : Int)
    if (ltI (0 : Int) v12) then
     let v13 := (ior .i64 (0 : Int) (4 : Int))
     some ((v13, ()), ())
    else
     some (((0 : Int), ()), ())
 else
  if x.1.2.2.2.2.2.1 then
   let v14 := (ior .i64 (0 : Int) (2 : Int))
   let v15 := ((x.1.2.2.2.2.2.2.2.1.length : Nat) : Int)
   if (ltI (0 : Int) v15) then
    let v16 := (ior .i64 v14 (4 : Int))
    some ((v16, ()), ())
   else
    some ((v14, ()), ())
  else
   let v17 := ((x.1.2.2.2.2.2.2.2.1.length : Nat) : Int)
   if (ltI (0 : Int) v17) then
    let v18 := (ior .i64 (0 : Int) (4 : Int))
    some ((v18, ()), ())
   else
    some (((0 : Int), ()), ())
abbrev C_ar : Con := ⟨P_ar, R_ar, F_ar, false⟩
abbrev G_ar : Env := []
theorem g_ar : Qe Tryz.prog G_ar := Qc
theorem r_ar (x) : Qf T G_ar [] Tryz.f158 C_ar.ps C_ar.rs x = C_ar.F x := by kernel_rfl
theorem s_ar : Qb Tryz.prog 158 C_ar := fnC (L := []) hT g_ar Tryz.f158 okP r_ar
abbrev P_as : List PK := [.val (.int .u64)]
abbrev R_as : List VK := [.s (.dat YI)]
def tzF (n : Int) : Option Int := if n = 1 ∨ n = 3 ∨ n = 5 ∨ n = 7 then some 0 else if n = 2 ∨ n = 6 then some 1 else if n = 4 then some 2 else none
def F_as (x : denP P_as) : Option (denV R_as × denQ P_as) := match tzF x.1 with | some z => some ((z, ()), ()) | none => none
abbrev C_as : Con := ⟨P_as, R_as, F_as, false⟩
theorem w_as (n : Int) (k : Nat) (z : Int) (hn : (n == 0) = false) (w : World) (hr : 0 ≤ IntKind.u64.wrap (bits BinOp.and IntKind.u64 n (IntKind.u64.wrap (-n)) * 285870213051353865) / 288230376151711744 ∧ IntKind.u64.wrap (bits BinOp.and IntKind.u64 n (IntKind.u64.wrap (-n)) * 285870213051353865) / 288230376151711744 < 64)
    (he : (IntKind.u64.wrap (bits BinOp.and IntKind.u64 n (IntKind.u64.wrap (-n)) * 285870213051353865) / 288230376151711744).toNat = k)
    (h : w.cell? { block := 0, off := k } = some (.int .u8 z)) (hz : IntKind.i64.wrap z = z) : Calls Tryz.prog 159 #[.int .u64 n] w fun e' w' => e' = .returned (.int .i64 z) ∧ w' = w := by
  go_enter Tryz.func159, Tryz.ntmps159
  go_wp2
  all_goals first | (go_ret; exact ⟨rfl, rfl⟩) | exact absurd hr ‹¬ _› | simp_all
theorem v_as {n z : Int} (h : tzF n = some z) {M : Nat → Nat → Prop} {w : World} (hl : Laid M w) : Calls Tryz.prog 159 #[.int .u64 n] w fun e' w' => e' = .returned (.int .i64 z) ∧ w' = w := by
  have hg : ∀ i v, (0, i, v) ∈ GL → w.cell? { block := 0, off := i } = some v := by
    intro i v hm
    obtain ⟨⟨c, e, fz, h1, h2⟩, _⟩ := hl _ hm
    simp only at h1 h2
    simp [World.cell?, h1, h2]
  have g0 := hg 0 (.int .u8 0) (by simp [GL])
  have g1 := hg 1 (.int .u8 1) (by simp [GL])
  have g3 := hg 3 (.int .u8 2) (by simp [GL])
  have key : ((n = 1 ∨ n = 3 ∨ n = 5 ∨ n = 7) ∧ z = 0) ∨ ((n = 2 ∨ n = 6) ∧ z = 1) ∨ (n = 4 ∧ z = 2) := by
    unfold tzF at h
    split at h
    · exact .inl ⟨‹_›, (Option.some.inj h).symm⟩
    · split at h
      · exact .inr (.inl ⟨‹_›, (Option.some.inj h).symm⟩)
      · split at h
        · exact .inr (.inr ⟨‹_›, (Option.some.inj h).symm⟩)
        · cases h
  clear h
  rcases key with ⟨h | h | h | h, rfl⟩ | ⟨h | h, rfl⟩ | ⟨h, rfl⟩ <;> subst h
  all_goals first
    | exact w_as _ 0 _ (by decide) w (by decide +kernel) (by decide +kernel) g0 (by decide +kernel)
    | exact w_as _ 1 _ (by decide) w (by decide +kernel) (by decide +kernel) g1 (by decide +kernel)
    | exact w_as _ 3 _ (by decide) w (by decide +kernel) (by decide +kernel) g3 (by decide +kernel)
theorem u_as : QeZ Tryz.prog 159 C_as := by
  intro x y hx w args S Q B M F hp ha _
  obtain ⟨v, vs', rfl, ⟨cs, h1, h2⟩, rfl, rfl⟩ := ha
  have e1 : v = .int .u64 x.1 := by
    have h1 : cs = [v] := h1
    subst h1
    simpa [Rp] using h2
  subst e1
  have hx : F_as x = some y := hx
  unfold F_as at hx
  split at hx
  · rename_i z hz
    obtain rfl := Option.some.inj hx
    refine (v_as hz hp.laid).mono fun r w' h => ?_
    obtain ⟨rfl, rfl⟩ := h
    refine ⟨_, rfl, Kept.refl M w', [.int .i64 z], [], [], rfl, ⟨_, [], [], [], rfl, rfl, ⟨⟨[.int .i64 z], rfl, rfl⟩, rfl⟩, rfl, rfl⟩, ⟨_, [], rfl, rfl, rfl⟩, List.nodup_nil, fun b hb => by cases hb⟩
  · cases hx
theorem s_as : Qb Tryz.prog 159 C_as := (u_as).ok (QfQ Tryz.func159 (by decide +kernel) (by kernel_rfl))
abbrev P_at : List PK := [.ptr Y25]
abbrev R_at : List VK := [.s (.dat YI)]
def F_at (x : denP P_at) : Option (denV R_at × denQ P_at) :=
 (F_ar (x.1, ())).bind fun r1 =>
 ((x.1.2.2.1)[((7 : Int)).toNat]?).bind fun y2 =>
 let v3 := (iand .i64 r1.1.1 y2)
 ((x.1.2.2.1)[((0 : Int)).toNat]?).bind fun y4 =>
 let v5 := ((y4).tmod (2 : Int))
 if (v5 == (0 : Int)) = false then
  if (v3 == (0 : Int)) then
   some (((-1 : Int), ()), ())
  else
   let v6 := (IntKind.u64.wrap v3)
   (F_as (v6, ())).bind fun r7 =>
   some ((r7.1.1, ()), ())
 else
  some (((-1 : Int), ()), ())
abbrev C_at : Con := ⟨P_at, R_at, F_at, false⟩
abbrev G_at : Env := [(158, C_ar), (159, C_as)]
theorem g_at : Qe Tryz.prog G_at := (Qa s_ar (Qa s_as Qc))
theorem r_at (x) : Qf T G_at [] Tryz.f67 C_at.ps C_at.rs x = C_at.F x := by kernel_rfl
theorem s_at : Qb Tryz.prog 67 C_at := fnC (L := []) hT g_at Tryz.f67 okP r_at
abbrev P_au : List PK := [.box [.own 2 YI, .dat YI, .own 2 YI, .dat .bool, .dat .bool, .dat .bool, .dat YI, .own 2 YI, .own 2 YI] [.own 2 YI, .dat YI, .own 2 YI, .dat .bool, .dat .bool, .dat .bool, .dat YI, .own 2 YI, .own 2 YI], .val YI, .val YI]
abbrev R_au : List VK := []
def F_au (x : denP P_au) : Option (denV R_au × denQ P_au) :=
 if 0 ≤ (2 : Int) ∧ (2 : Int) < ((x.1.2.2.1.length : Nat) : Int) then
  ((x.1.2.2.1)[((2 : Int)).toNat]?).bind fun y1 =>
  let v2 := (x.1.2.2.1.set ((2 : Int)).toNat x.1.2.1)
  if 0 ≤ (3 : Int) ∧ (3 : Int) < ((v2.length : Nat) : Int) then
   ((v2)[((3 : Int)).toNat]?).bind fun y3 =>
   let v4 := (v2.set ((3 : Int)).toNat x.2.1)
   if 0 ≤ (4 : Int) ∧ (4 : Int) < ((v4.length : Nat) : Int) then
    ((v4)[((4 : Int)).toNat]?).bind fun y5 =>
    let v6 := (v4.set ((4 : Int)).toNat x.2.2.1)
    if 0 ≤ (0 : Int) ∧ (0 : Int) < ((v6.length : Nat) : Int) then
     ((v6)[((0 : Int)).toNat]?).bind fun y7 =>
     let v8 := ((y7).tmod (2 : Int))
     let v9 := (IntKind.i64.wrap (v8 * (2 : Int)))
     if 0 ≤ (0 : Int) ∧ (0 : Int) < ((v6.length : Nat) : Int) then
      ((v6)[((0 : Int)).toNat]?).bind fun y10 =>
      let v11 := (v6.set ((0 : Int)).toNat v9)
      if 0 ≤ (1 : Int) ∧ (1 : Int) < ((v11.length : Nat) : Int) then
       ((v11)[((1 : Int)).toNat]?).bind fun y12 =>
       some ((), ((x.1.1, (y12, (v11, (x.1.2.2.2.1, (false, (x.1.2.2.2.2.2.1, (x.1.2.2.2.2.2.2.1, (x.1.2.2.2.2.2.2.2.1, (x.1.2.2.2.2.2.2.2.2.1, ()))))))))), ()))
      else none
     else none
    else none
   else none
  else none
 else none
abbrev C_au : Con := ⟨P_au, R_au, F_au, false⟩
abbrev G_au : Env := []
theorem g_au : Qe Tryz.prog G_au := Qc
theorem r_au (x) : Qf T G_au [] Tryz.f261 C_au.ps C_au.rs x = C_au.F x := by kernel_rfl
theorem s_au : Qb Tryz.prog 261 C_au := fnC (L := []) hT g_au Tryz.f261 okP r_au
abbrev P_av : List PK := [.box [.own 2 YI, .dat YI, .own 2 YI, .dat .bool, .dat .bool, .dat .bool, .dat YI, .own 2 YI, .own 2 YI, .dat Y27, .own 2 YI, .dat YI, .dat YI] [.own 2 YI, .dat YI, .own 2 YI, .dat .bool, .dat .bool, .dat .bool, .dat YI, .own 2 YI, .own 2 YI, .dat Y27, .own 2 YI, .dat YI, .dat YI], .val YI, .val YI]
abbrev R_av : List VK := []
def F_av (x : denP P_av) : Option (denV R_av × denQ P_av) :=
 (F_au ((x.1.1, (x.1.2.1, (x.1.2.2.1, (x.1.2.2.2.1, (x.1.2.2.2.2.1, (x.1.2.2.2.2.2.1, (x.1.2.2.2.2.2.2.1, (x.1.2.2.2.2.2.2.2.1, (x.1.2.2.2.2.2.2.2.2.1, ()))))))))), x.2.1, x.2.2.1, ())).bind fun r1 =>
 some ((), ((r1.2.1.1, (r1.2.1.2.1, (r1.2.1.2.2.1, (r1.2.1.2.2.2.1, (r1.2.1.2.2.2.2.1, (r1.2.1.2.2.2.2.2.1, (r1.2.1.2.2.2.2.2.2.1, (r1.2.1.2.2.2.2.2.2.2.1, (r1.2.1.2.2.2.2.2.2.2.2.1, (x.1.2.2.2.2.2.2.2.2.2.1, (x.1.2.2.2.2.2.2.2.2.2.2.1, (x.2.1, (x.1.2.2.2.2.2.2.2.2.2.2.2.2.1, ()))))))))))))), ()))
abbrev C_av : Con := ⟨P_av, R_av, F_av, false⟩
abbrev G_av : Env := [(261, C_au)]
theorem g_av : Qe Tryz.prog G_av := (Qa s_au Qc)
theorem r_av (x) : Qf T G_av [] Tryz.f215 C_av.ps C_av.rs x = C_av.F x := by kernel_rfl
theorem s_av : Qb Tryz.prog 215 C_av := fnC (L := []) hT g_av Tryz.f215 okP r_av
abbrev P_ay : List PK := [.val YI]
abbrev R_ay : List VK := [.s (.dat Y40)]
def F_ay (x : denP P_ay) : Option (denV R_ay × denQ P_ay) :=
 let v1 := (IntKind.i64.wrap ((x.1).tdiv (8 : Int)))
 let v2 := ((x.1).tmod (8 : Int))
 if (v2 == (0 : Int)) = false then
  if (leI (8 : Int) v1) then
   (F_ax ()).bind fun r3 =>
   some ((r3.1.1, ()), ())
  else
   some (((v1, (v2, ())), ()), ())
 else
  (F_ax ()).bind fun r4 =>
  some ((r4.1.1, ()), ())
abbrev C_ay : Con := ⟨P_ay, R_ay, F_ay, false⟩
abbrev G_ay : Env := [(174, C_ax)]
theorem g_ay : Qe Tryz.prog G_ay := (Qa s_ax Qc)
theorem r_ay (x) : Qf T G_ay [] Tryz.f281 C_ay.ps C_ay.rs x = C_ay.F x := by kernel_rfl
theorem s_ay : Qb Tryz.prog 281 C_ay := fnC (L := []) hT g_ay Tryz.f281 okP r_ay
abbrev P_az : List PK := [.val Y24]
abbrev R_az : List VK := [.g [.dat YI, .own 41 Y40]]
abbrev i_az_7 : Shp := { slots := [(2, .s (.ptr 2 0)), (3, .s (.own 41 Y40)), (15, .s (.dat Y24)), (16, .s (.dat YI)), (17, .s (.dat YI))], boxes := [(2, [.dat YI, .own 41 Y40])], rows := [] }
abbrev o_az_7 : List (Ex × Shp) := [(.exit 0, { slots := [(2, .s (.ptr 2 0)), (3, .s (.own 41 Y40))], boxes := [(2, [.dat YI, .own 41 Y40])], rows := [] })]
def l_az_7 (rec : i_az_7.den → Option (denO o_az_7)) (u7 : i_az_7.den) : Option (denO o_az_7) :=
 if (ltI u7.1.2.2.2.2.1 u7.1.2.2.2.1) then
  if 0 ≤ u7.1.2.2.2.2.1 then
   ((u7.1.2.2.1)[(u7.1.2.2.2.2.1).toNat]?).bind fun y6 =>
   (F_ay (y6, ())).bind fun r7 =>
   if (u7.1.2.1.length + [r7.1.1].length) * 16 ≤ 140737488355328 then
    let v8 := (u7.1.2.1 ++ [r7.1.1])
    let v9 := (IntKind.i64.wrap (u7.1.2.2.2.2.1 + (1 : Int)))
    rec (((), (v8, (u7.1.2.2.1, (u7.1.2.2.2.1, (v9, ()))))), ((u7.2.1.1, ()), ()))
   else none
  else none
 else
  some (.inl (((), (u7.1.2.1, ())), ((u7.2.1.1, ()), ())))
def L_az_7 (x : i_az_7.den) : Option (denO o_az_7) := Qd l_az_7 lots x
def F_az (x : denP P_az) : Option (denV R_az × denQ P_az) :=
 let v1 := ((x.1.length : Nat) : Int)
 if (v1 != (8 : Int)) then
  some ((((1 : Int), (([] : List (den Y40)), ())), ()), ())
 else
  (F_ad (x.1, ())).bind fun r2 =>
  if (!r2.1.1) then
   some ((((3 : Int), (([] : List (den Y40)), ())), ()), ())
  else
   let v3 := ((x.1.length : Nat) : Int)
   (L_az_7 (((), (([] : List (den Y40)), (x.1, (v3, ((0 : Int), ()))))), ((((0 : Int), (([] : List (den Y40)), ())), ()), ()))).bind fun z10 =>
   match z10 with
   | .inl x11 =>
    some ((((0 : Int), (x11.1.2.1, ())), ()), ())
   | .inr z10_ =>
    none
abbrev C_az : Con := ⟨P_az, R_az, F_az, false⟩
abbrev G_az : Env := [(62, C_ad), (281, C_ay)]
theorem g_az : Qe Tryz.prog G_az := (Qa s_ad (Qa s_ay Qc))
abbrev c_az_7 : Cut := ⟨i_az_7, o_az_7, fun x => Qd l_az_7 lots x⟩
theorem t_az_7 (rec x) : run T G_az [] (nav Tryz.f232 [1, 1, 1, 1, 0, 1, 0, 0]) (mk 29 i_az_7 x) (Qx i_az_7 o_az_7 rec) = l_az_7 rec x := by kernel_rfl
theorem k_az_7 : Qu Tryz.prog 29 (.loop (nav Tryz.f232 [1, 1, 1, 1, 0, 1, 0, 0])) c_az_7 :=
  Qh (L := []) hT g_az t_az_7 okP _
theorem r_az (x) : Qf T G_az [(7, c_az_7)] Tryz.f232 C_az.ps C_az.rs x = C_az.F x := by kernel_rfl
theorem s_az : Qb Tryz.prog 232 C_az := fnC (L := [(7, c_az_7)]) hT g_az Tryz.f232 (okS okP (okS okP (okS okP (okS okP (okS (okS okP (okB (okU k_az_7))) okP))))) r_az
abbrev P_ba : List PK := [.ptr Y25, .val Y27, .val Y24]
abbrev R_ba : List VK := [.g [.dat YI, .own 41 Y40]]
abbrev i_ba_5 : Shp := { slots := [(6, .s (.ptr 6 0)), (8, .s (.own 41 Y40)), (20, .s (.dat YI))], boxes := [(6, [.dat YI, .own 41 Y40])], rows := [] }
abbrev o_ba_5 : List (Ex × Shp) := [(.exit 0, { slots := [(6, .s (.ptr 6 0)), (8, .s (.own 41 Y40))], boxes := [(6, [.dat YI, .own 41 Y40])], rows := [] })]
def l_ba_5 (rec : i_ba_5.den → Option (denO o_ba_5)) (u5 : i_ba_5.den) : Option (denO o_ba_5) :=
 if (ltI u5.1.2.2.1 (8 : Int)) then
  if (u5.1.2.1.length + [(u5.1.2.2.1, ((7 : Int), ()))].length) * 16 ≤ 140737488355328 then
   let v3 := (u5.1.2.1 ++ [(u5.1.2.2.1, ((7 : Int), ()))])
   let v4 := (IntKind.i64.wrap (u5.1.2.2.1 + (1 : Int)))
   rec (((), (v3, (v4, ()))), ((u5.2.1.1, ()), ()))
  else none
 else
  some (.inl (((), (u5.1.2.1, ())), ((u5.2.1.1, ()), ())))
def L_ba_5 (x : i_ba_5.den) : Option (denO o_ba_5) := Qd l_ba_5 lots x
def F_ba (x : denP P_ba) : Option (denV R_ba × denQ P_ba) :=
 ((x.1.2.2.1)[((10 : Int)).toNat]?).bind fun y1 =>
 let v2 := (IntKind.i64.wrap (y1 - (1 : Int)))
 if (ltI v2 (0 : Int)) then
  (L_ba_5 (((), (([] : List (den Y40)), ((0 : Int), ()))), ((((0 : Int), (([] : List (den Y40)), ())), ()), ()))).bind fun z5 =>
  match z5 with
  | .inl x6 =>
   some ((((0 : Int), (x6.1.2.1, ())), ()), ())
  | .inr z5_ =>
   none
 else
  if 0 ≤ v2 then
   ((x.2.1)[(v2).toNat]?).bind fun y7 =>
   if (ltI y7.1 (0 : Int)) = false then
    if 0 ≤ v2 then
     ((x.2.1)[(v2).toNat]?).bind fun y8 =>
     let v9 := (iand .i64 y8.2.1 (1 : Int))
     if (v9 == (0 : Int)) = false then
      if (v2 == (7 : Int)) then
       some ((((7 : Int), (([] : List (den Y40)), ())), ()), ())
      else
       if 0 ≤ v2 then
        ((x.2.1)[(v2).toNat]?).bind fun y10 =>
        (F_aw (x.2.2.1, y10.1, ())).bind fun r11 =>
        (F_az (r11.1.1, ())).bind fun r12 =>
        some ((r12.1.1, ()), ())
       else none
     else
      some ((((7 : Int), (([] : List (den Y40)), ())), ()), ())
    else none
   else
    some ((((7 : Int), (([] : List (den Y40)), ())), ()), ())
  else none
abbrev C_ba : Con := ⟨P_ba, R_ba, F_ba, false⟩
abbrev G_ba : Env := [(80, C_aw), (232, C_az)]
theorem g_ba : Qe Tryz.prog G_ba := (Qa s_aw (Qa s_az Qc))
abbrev c_ba_5 : Cut := ⟨i_ba_5, o_ba_5, fun x => Qd l_ba_5 lots x⟩
theorem t_ba_5 (rec x) : run T G_ba [] (nav Tryz.f160 [1, 1, 0, 1, 0, 1, 0, 1, 0, 0]) (mk 59 i_ba_5 x) (Qx i_ba_5 o_ba_5 rec) = l_ba_5 rec x := by kernel_rfl
theorem k_ba_5 : Qu Tryz.prog 59 (.loop (nav Tryz.f160 [1, 1, 0, 1, 0, 1, 0, 1, 0, 0])) c_ba_5 :=
  Qh (L := []) hT g_ba t_ba_5 okP _
theorem r_ba (x) : Qf T G_ba [(5, c_ba_5)] Tryz.f160 C_ba.ps C_ba.rs x = C_ba.F x := by kernel_rfl
theorem s_ba : Qb Tryz.prog 160 C_ba := fnC (L := [(5, c_ba_5)]) hT g_ba Tryz.f160 (okS okP (okS okP (okS (okS okP (okI (okS okP (okS (okS okP (okB (okU k_ba_5))) okP)) okP)) okP))) r_ba
abbrev P_bb : List PK := [.val YI]
abbrev R_bb : List VK := [.s (.dat .bool)]
def F_bb (x : denP P_bb) : Option (denV R_bb × denQ P_bb) :=
 (F_ab (x.1, (0 : Int), (63 : Int), ())).bind fun r1 =>
 some ((r1.1.1, ()), ())
abbrev C_bb : Con := ⟨P_bb, R_bb, F_bb, false⟩
abbrev G_bb : Env := [(56, C_ab)]
theorem g_bb : Qe Tryz.prog G_bb := (Qa s_ab Qc)
theorem r_bb (x) : Qf T G_bb [] Tryz.f233 C_bb.ps C_bb.rs x = C_bb.F x := by kernel_rfl
theorem s_bb : Qb Tryz.prog 233 C_bb := fnC (L := []) hT g_bb Tryz.f233 okP r_bb
abbrev P_bc : List PK := [.val YI]
abbrev R_bc : List VK := [.s (.dat YI)]
def F_bc (x : denP P_bc) : Option (denV R_bc × denQ P_bc) :=
 if (x.1 == (1 : Int)) then
  some (((7 : Int), ()), ())
 else
  if (x.1 == (2 : Int)) then
   some (((8 : Int), ()), ())
  else
   if (x.1 == (4 : Int)) then
    some (((9 : Int), ()), ())
   else
    some (((0 : Int), ()), ())
abbrev C_bc : Con := ⟨P_bc, R_bc, F_bc, false⟩
abbrev G_bc : Env := []
theorem g_bc : Qe Tryz.prog G_bc := Qc
theorem r_bc (x) : Qf T G_bc [] Tryz.f68 C_bc.ps C_bc.rs x = C_bc.F x := by kernel_rfl
theorem s_bc : Qb Tryz.prog 68 C_bc := fnC (L := []) hT g_bc Tryz.f68 okP r_bc
abbrev P_bd : List PK := [.val Y27, .val YI, .val YI]
abbrev R_bd : List VK := [.s (.dat Y40)]
def F_bd (x : denP P_bd) : Option (denV R_bd × denQ P_bd) :=
 (F_bb (x.2.1, ())).bind fun r1 =>
 if (!r1.1.1) = false then
  let v2 := (IntKind.i64.wrap ((x.2.1).tdiv (8 : Int)))
  if 0 ≤ v2 then
   ((x.1)[(v2).toNat]?).bind fun y3 =>
   if (ltI y3.1 (0 : Int)) = false then
    let v4 := (IntKind.i64.wrap ((x.2.1).tdiv (8 : Int)))
    if 0 ≤ v4 then
     ((x.1)[(v4).toNat]?).bind fun y5 =>
     let v6 := (iand .i64 y5.2.1 x.2.2.1)
     if (v6 == (0 : Int)) then
      (F_bc (x.2.2.1, ())).bind fun r7 =>
      some (((r7.1.1, ((0 : Int), ())), ()), ())
     else
      let v8 := (IntKind.i64.wrap ((x.2.1).tdiv (8 : Int)))
      if 0 ≤ v8 then
       ((x.1)[(v8).toNat]?).bind fun y9 =>
       let v10 := (IntKind.i64.wrap (y9.1 * (8 : Int)))
       let v11 := ((x.2.1).tmod (8 : Int))
       let v12 := (IntKind.i64.wrap (v10 + v11))
       some ((((0 : Int), (v12, ())), ()), ())
      else none
    else none
   else
    (F_bc (x.2.2.1, ())).bind fun r13 =>
    some (((r13.1.1, ((0 : Int), ())), ()), ())
  else none
 else
  (F_bc (x.2.2.1, ())).bind fun r14 =>
  some (((r14.1.1, ((0 : Int), ())), ()), ())
abbrev C_bd : Con := ⟨P_bd, R_bd, F_bd, false⟩
abbrev G_bd : Env := [(68, C_bc), (233, C_bb)]
theorem g_bd : Qe Tryz.prog G_bd := (Qa s_bc (Qa s_bb Qc))
theorem r_bd (x) : Qf T G_bd [] Tryz.f161 C_bd.ps C_bd.rs x = C_bd.F x := by kernel_rfl
theorem s_bd : Qb Tryz.prog 161 C_bd := fnC (L := []) hT g_bd Tryz.f161 okP r_bd
abbrev P_be : List PK := [.ptr Y25, .val Y27, .val Y24, .val YI, .val YI]
abbrev R_be : List VK := [.s (.dat Y40)]
def F_be (x : denP P_be) : Option (denV R_be × denQ P_be) :=
 (F_ba (x.1, x.2.1, x.2.2.1, ())).bind fun r1 =>
 if (r1.1.1.1 != (0 : Int)) then
  some (((r1.1.1.1, ((0 : Int), ())), ()), ())
 else
  (F_bd (r1.1.1.2.1, x.2.2.2.1, x.2.2.2.2.1, ())).bind fun r2 =>
  if (r2.1.1.1 != (0 : Int)) then
   some ((r2.1.1, ()), ())
  else
   let v3 := (IntKind.i64.wrap ((r2.1.1.2.1).tdiv (8 : Int)))
   if (v3 != (7 : Int)) then
    (F_bd (x.2.1, r2.1.1.2.1, x.2.2.2.2.1, ())).bind fun r4 =>
    some ((r4.1.1, ()), ())
   else
    if (x.2.2.2.2.1 == (4 : Int)) then
     some ((((9 : Int), ((0 : Int), ())), ()), ())
    else
     let v5 := ((r2.1.1.2.1).tmod (8 : Int))
     let v6 := (IntKind.i64.wrap ((1000 : Int) + v5))
     some ((((0 : Int), (v6, ())), ()), ())
abbrev C_be : Con := ⟨P_be, R_be, F_be, false⟩
abbrev G_be : Env := [(160, C_ba), (161, C_bd)]
theorem g_be : Qe Tryz.prog G_be := (Qa s_ba (Qa s_bd Qc))
theorem r_be (x) : Qf T G_be [] Tryz.f69 C_be.ps C_be.rs x = C_be.F x := by kernel_rfl
theorem s_be : Qb Tryz.prog 69 C_be := fnC (L := []) hT g_be Tryz.f69 okP r_be
abbrev P_bf : List PK := [.val Y42]
abbrev R_bf : List VK := [.s (.dat YI)]
def F_bf (x : denP P_bf) : Option (denV R_bf × denQ P_bf) :=
 (F_ab (x.1.1, (1 : Int), (26 : Int), ())).bind fun r1 =>
 if (!r1.1.1) = false then
  (F_ab (x.1.2.1, (0 : Int), (15 : Int), ())).bind fun r2 =>
  if (!r2.1.1) = false then
   (F_ab (x.1.2.2.1, (0 : Int), (15 : Int), ())).bind fun r3 =>
   if (!r3.1.1) = false then
    (F_ab (x.1.2.2.2.1, (0 : Int), (65535 : Int), ())).bind fun r4 =>
    if (!r4.1.1) then
     some (((3 : Int), ()), ())
    else
     if (leI x.1.1 (11 : Int)) then
      if (ltI (15 : Int) x.1.2.2.2.1) then
       some (((1 : Int), ()), ())
      else
       some (((0 : Int), ()), ())
     else
      if (x.1.1 == (13 : Int)) then
       if (x.1.2.2.1 != (0 : Int)) then
        some (((1 : Int), ()), ())
       else
        some (((0 : Int), ()), ())
      else
       if (x.1.1 == (19 : Int)) then
        if (x.1.2.2.1 != (0 : Int)) then
         some (((1 : Int), ()), ())
        else
         some (((0 : Int), ()), ())
       else
        if (x.1.1 == (21 : Int)) then
         if (ltI (10 : Int) x.1.2.2.2.1) = false then
          if (x.1.2.2.1 != (0 : Int)) then
           some (((1 : Int), ()), ())
          else
           some (((0 : Int), ()), ())
         else
          some (((1 : Int), ()), ())
        else
         if (x.1.1 == (22 : Int)) then
          if (ltI (10 : Int) x.1.2.2.2.1) = false then
           if (x.1.2.1 != (0 : Int)) then
            some (((1 : Int), ()), ())
           else
            some (((0 : Int), ()), ())
          else
           some (((1 : Int), ()), ())
         else
          if (leI (23 : Int) x.1.1) then
           if (x.1.2.1 != (0 : Int)) = false then
            if (x.1.2.2.1 != (0 : Int)) = false then
             if (x.1.2.2.2.1 != (0 : Int)) then
              some (((1 : Int), ()), ())
             else
              some (((0 : Int), ()), ())
            else
             some (((1 : Int), ()), ())
           else
            some (((1 : Int), ()), ())
          else
           some (((0 : Int), ()), ())
   else
    some (((3 : Int), ()), ())
  else
   some (((3 : Int), ()), ())
 else
  some (((3 : Int), ()), ())
abbrev C_bf : Con := ⟨P_bf, R_bf, F_bf, false⟩
abbrev G_bf : Env := [(56, C_ab)]
theorem g_bf : Qe Tryz.prog G_bf := (Qa s_ab Qc)
theorem r_bf (x) : Qf T G_bf [] Tryz.f154 C_bf.ps C_bf.rs x = C_bf.F x := by kernel_rfl
theorem s_bf : Qb Tryz.prog 154 C_bf := fnC (L := []) hT g_bf Tryz.f154 okP r_bf
abbrev P_bg : List PK := [.val YI]
abbrev R_bg : List VK := [.s (.dat Y44)]
def F_bg (x : denP P_bg) : Option (denV R_bg × denQ P_bg) :=
 let v1 := ((x.1).fdiv (2 ^ 24))
 let v2 := ((x.1).fdiv (2 ^ 20))
 let v3 := (iand .i64 v2 (15 : Int))
 let v4 := ((x.1).fdiv (2 ^ 16))
 let v5 := (iand .i64 v4 (15 : Int))
 let v6 := (iand .i64 x.1 (65535 : Int))
 (F_bf ((v1, (v3, (v5, (v6, ())))), ())).bind fun r7 =>
 if (r7.1.1 != (0 : Int)) then
  some ((((5 : Int), (((0 : Int), ((0 : Int), ((0 : Int), ((0 : Int), ())))), ())), ()), ())
 else
  some ((((0 : Int), ((v1, (v3, (v5, (v6, ())))), ())), ()), ())
abbrev C_bg : Con := ⟨P_bg, R_bg, F_bg, false⟩
abbrev G_bg : Env := [(154, C_bf)]
theorem g_bg : Qe Tryz.prog G_bg := (Qa s_bf Qc)
theorem r_bg (x) : Qf T G_bg [] Tryz.f64 C_bg.ps C_bg.rs x = C_bg.F x := by kernel_rfl
theorem s_bg : Qb Tryz.prog 64 C_bg := fnC (L := []) hT g_bg Tryz.f64 okP r_bg
abbrev P_bh : List PK := [.val YI]
abbrev R_bh : List VK := [.s (.dat YI)]
def F_bh (x : denP P_bh) : Option (denV R_bh × denQ P_bh) :=
 let v1 := (iand .i64 x.1 (4294967295 : Int))
 some ((v1, ()), ())
abbrev C_bh : Con := ⟨P_bh, R_bh, F_bh, false⟩
abbrev G_bh : Env := []
theorem g_bh : Qe Tryz.prog G_bh := Qc
theorem r_bh (x) : Qf T G_bh [] Tryz.f70 C_bh.ps C_bh.rs x = C_bh.F x := by kernel_rfl
theorem s_bh : Qb Tryz.prog 70 C_bh := fnC (L := []) hT g_bh Tryz.f70 okP r_bh
abbrev P_bi : List PK := [.val YI, .val YI]
abbrev R_bi : List VK := [.s (.dat YI)]
def F_bi (x : denP P_bi) : Option (denV R_bi × denQ P_bi) :=
 (F_bh (x.1, ())).bind fun r1 =>
 (F_bh (x.2.1, ())).bind fun r2 =>
 let v3 := (IntKind.i64.wrap (r1.1.1 + r2.1.1))
 (F_bh (v3, ())).bind fun r4 =>
 some ((r4.1.1, ()), ())
abbrev C_bi : Con := ⟨P_bi, R_bi, F_bi, false⟩
abbrev G_bi : Env := [(70, C_bh)]
theorem g_bi : Qe Tryz.prog G_bi := (Qa s_bh Qc)
theorem r_bi (x) : Qf T G_bi [] Tryz.f27 C_bi.ps C_bi.rs x = C_bi.F x := by kernel_rfl
theorem s_bi : Qb Tryz.prog 27 C_bi := fnC (L := []) hT g_bi Tryz.f27 okP r_bi
abbrev P_bj : List PK := [.val YI]
abbrev R_bj : List VK := [.s (.dat YI)]
def F_bj (x : denP P_bj) : Option (denV R_bj × denQ P_bj) :=
 let v1 := (iand .i64 x.1 (65535 : Int))
 if (leI (32768 : Int) v1) then
  let v2 := (IntKind.i64.wrap (v1 - (65536 : Int)))
  some ((v2, ()), ())
 else
  some ((v1, ()), ())
abbrev C_bj : Con := ⟨P_bj, R_bj, F_bj, false⟩
abbrev G_bj : Env := []
theorem g_bj : Qe Tryz.prog G_bj := Qc
theorem r_bj (x) : Qf T G_bj [] Tryz.f28 C_bj.ps C_bj.rs x = C_bj.F x := by kernel_rfl
theorem s_bj : Qb Tryz.prog 28 C_bj := fnC (L := []) hT g_bj Tryz.f28 okP r_bj
abbrev P_bk : List PK := [.box [.own 2 YI, .dat YI, .own 2 YI, .dat .bool, .dat .bool, .dat .bool, .dat YI, .own 2 YI, .own 2 YI] [.own 2 YI, .dat YI, .own 2 YI, .dat .bool, .dat .bool, .dat .bool, .dat YI, .own 2 YI, .own 2 YI], .val YI]
abbrev R_bk : List VK := [.s (.dat YI)]
def F_bk (x : denP P_bk) : Option (denV R_bk × denQ P_bk) :=
 if (x.2.1 == (1 : Int)) then
  let v1 := ((x.1.2.2.2.2.2.2.2.1.length : Nat) : Int)
  if (ltI (0 : Int) v1) then
   if 0 ≤ (0 : Int) ∧ (0 : Int) < ((x.1.2.2.2.2.2.2.2.1.length : Nat) : Int) then
    ((x.1.2.2.2.2.2.2.2.1)[((0 : Int)).toNat]?).bind fun y2 =>
    if 0 ≤ (1 : Int) ∧ (1 : Int) ≤ ((x.1.2.2.2.2.2.2.2.1.length : Nat) : Int) ∧ ((x.1.2.2.2.2.2.2.2.1.length : Nat) : Int) ≤ ((x.1.2.2.2.2.2.2.2.1.length : Nat) : Int) then
     (F_ap (((x.1.2.2.2.2.2.2.2.1.drop (0 + ((1 : Int)).toNat)).take ((((x.1.2.2.2.2.2.2.2.1.length : Nat) : Int)).toNat - ((1 : Int)).toNat)), ())).bind fun r3 =>
     some ((y2, ()), ((x.1.1, (x.1.2.1, (x.1.2.2.1, (x.1.2.2.2.1, (x.1.2.2.2.2.1, (x.1.2.2.2.2.2.1, (x.1.2.2.2.2.2.2.1, (r3.1.1, (x.1.2.2.2.2.2.2.2.2.1, ()))))))))), ()))
    else none
   else none
  else
   some (((0 : Int), ()), (x.1, ()))
 else
  if (x.2.1 == (2 : Int)) then
   some ((x.1.2.2.2.2.2.2.1, ()), (x.1, ()))
  else
   if (x.2.1 == (3 : Int)) then
    if 0 ≤ (9 : Int) ∧ (9 : Int) < ((x.1.2.2.1.length : Nat) : Int) then
     ((x.1.2.2.1)[((9 : Int)).toNat]?).bind fun y4 =>
     some ((y4, ()), (x.1, ()))
    else none
   else
    if (x.2.1 == (4 : Int)) then
     (F_ar (x.1, ())).bind fun r5 =>
     some ((r5.1.1, ()), (x.1, ()))
    else
     if (x.2.1 == (6 : Int)) then
      let v6 := ((x.1.2.2.2.2.2.2.2.1.length : Nat) : Int)
      some ((v6, ()), (x.1, ()))
     else
      some (((0 : Int), ()), (x.1, ()))
abbrev C_bk : Con := ⟨P_bk, R_bk, F_bk, false⟩
abbrev G_bk : Env := [(139, C_ap), (158, C_ar)]
theorem g_bk : Qe Tryz.prog G_bk := (Qa s_ap (Qa s_ar Qc))
theorem r_bk (x) : Qf T G_bk [] Tryz.f304 C_bk.ps C_bk.rs x = C_bk.F x := by kernel_rfl
theorem s_bk : Qb Tryz.prog 304 C_bk := fnC (L := []) hT g_bk Tryz.f304 okP r_bk
abbrev P_bl : List PK := [.box [.own 2 YI, .dat YI, .own 2 YI, .dat .bool, .dat .bool, .dat .bool, .dat YI, .own 2 YI, .own 2 YI, .dat Y27, .own 2 YI, .dat YI, .dat YI] [.own 2 YI, .dat YI, .own 2 YI, .dat .bool, .dat .bool, .dat .bool, .dat YI, .own 2 YI, .own 2 YI, .dat Y27, .own 2 YI, .dat YI, .dat YI], .val YI]
abbrev R_bl : List VK := [.s (.dat YI), .s (.dat .bool)]
def F_bl (x : denP P_bl) : Option (denV R_bl × denQ P_bl) :=
 (F_be ((x.1.1, (x.1.2.1, (x.1.2.2.1, (x.1.2.2.2.1, (x.1.2.2.2.2.1, (x.1.2.2.2.2.2.1, (x.1.2.2.2.2.2.2.1, (x.1.2.2.2.2.2.2.2.1, (x.1.2.2.2.2.2.2.2.2.1, ()))))))))), x.1.2.2.2.2.2.2.2.2.2.1, x.1.2.2.2.2.2.2.2.2.2.2.1, x.2.1, (1 : Int), ())).bind fun r1 =>
 if (r1.1.1.1 != (0 : Int)) then
  (F_av (x.1, (3 : Int), x.2.1, ())).bind fun r2 =>
  some (((0 : Int), false, ()), (r2.2.1, ()))
 else
  if (leI (1000 : Int) r1.1.1.2.1) then
   let v3 := (IntKind.i64.wrap (r1.1.1.2.1 - (1000 : Int)))
   (F_bk ((x.1.1, (x.1.2.1, (x.1.2.2.1, (x.1.2.2.2.1, (x.1.2.2.2.2.1, (x.1.2.2.2.2.2.1, (x.1.2.2.2.2.2.2.1, (x.1.2.2.2.2.2.2.2.1, (x.1.2.2.2.2.2.2.2.2.1, ()))))))))), v3, ())).bind fun r4 =>
   some ((r4.1.1, true, ()), ((r4.2.1.1, (r4.2.1.2.1, (r4.2.1.2.2.1, (r4.2.1.2.2.2.1, (r4.2.1.2.2.2.2.1, (r4.2.1.2.2.2.2.2.1, (r4.2.1.2.2.2.2.2.2.1, (r4.2.1.2.2.2.2.2.2.2.1, (r4.2.1.2.2.2.2.2.2.2.2.1, (x.1.2.2.2.2.2.2.2.2.2.1, (x.1.2.2.2.2.2.2.2.2.2.2.1, (x.1.2.2.2.2.2.2.2.2.2.2.2.1, (x.1.2.2.2.2.2.2.2.2.2.2.2.2.1, ()))))))))))))), ()))
  else
   if 0 ≤ r1.1.1.2.1 ∧ r1.1.1.2.1 < ((x.1.2.2.2.2.2.2.2.2.2.2.1.length : Nat) : Int) then
    ((x.1.2.2.2.2.2.2.2.2.2.2.1)[(r1.1.1.2.1).toNat]?).bind fun y5 =>
    some ((y5, true, ()), (x.1, ()))
   else none
abbrev C_bl : Con := ⟨P_bl, R_bl, F_bl, false⟩
abbrev G_bl : Env := [(69, C_be), (215, C_av), (304, C_bk)]
theorem g_bl : Qe Tryz.prog G_bl := (Qa s_be (Qa s_av (Qa s_bk Qc)))
theorem r_bl (x) : Qf T G_bl [] Tryz.f262 C_bl.ps C_bl.rs x = C_bl.F x := by kernel_rfl
theorem s_bl : Qb Tryz.prog 262 C_bl := fnC (L := []) hT g_bl Tryz.f262 okP r_bl
abbrev P_bm : List PK := [.box [.own 2 YI, .dat YI, .own 2 YI, .dat .bool, .dat .bool, .dat .bool, .dat YI, .own 2 YI, .own 2 YI] [.own 2 YI, .dat YI, .own 2 YI, .dat .bool, .dat .bool, .dat .bool, .dat YI, .own 2 YI, .own 2 YI], .val YI, .val YI]
abbrev R_bm : List VK := []
def F_bm (x : denP P_bm) : Option (denV R_bm × denQ P_bm) :=
 (F_bh (x.2.2.1, ())).bind fun r1 =>
 if (x.2.1 == (0 : Int)) then
  let v2 := ((r1.1.1).tmod (4 : Int))
  if 0 ≤ x.2.1 ∧ x.2.1 < ((x.1.2.2.1.length : Nat) : Int) then
   ((x.1.2.2.1)[(x.2.1).toNat]?).bind fun y3 =>
   let v4 := (x.1.2.2.1.set (x.2.1).toNat v2)
   some ((), ((x.1.1, (x.1.2.1, (v4, (x.1.2.2.2.1, (x.1.2.2.2.2.1, (x.1.2.2.2.2.2.1, (x.1.2.2.2.2.2.2.1, (x.1.2.2.2.2.2.2.2.1, (x.1.2.2.2.2.2.2.2.2.1, ()))))))))), ()))
  else none
 else
  if (x.2.1 == (7 : Int)) then
   let v5 := ((r1.1.1).tmod (8 : Int))
   if 0 ≤ x.2.1 ∧ x.2.1 < ((x.1.2.2.1.length : Nat) : Int) then
    ((x.1.2.2.1)[(x.2.1).toNat]?).bind fun y6 =>
    let v7 := (x.1.2.2.1.set (x.2.1).toNat v5)
    some ((), ((x.1.1, (x.1.2.1, (v7, (x.1.2.2.2.1, (x.1.2.2.2.2.1, (x.1.2.2.2.2.2.1, (x.1.2.2.2.2.2.2.1, (x.1.2.2.2.2.2.2.2.1, (x.1.2.2.2.2.2.2.2.2.1, ()))))))))), ()))
   else none
  else
   if (x.2.1 == (10 : Int)) then
    if 0 ≤ x.2.1 ∧ x.2.1 < ((x.1.2.2.1.length : Nat) : Int) then
     ((x.1.2.2.1)[(x.2.1).toNat]?).bind fun y8 =>
     let v9 := (x.1.2.2.1.set (x.2.1).toNat (0 : Int))
     if (leI r1.1.1 (8 : Int)) then
      if 0 ≤ x.2.1 ∧ x.2.1 < ((v9.length : Nat) : Int) then
       ((v9)[(x.2.1).toNat]?).bind fun y10 =>
       let v11 := (v9.set (x.2.1).toNat r1.1.1)
       some ((), ((x.1.1, (x.1.2.1, (v11, (x.1.2.2.2.1, (x.1.2.2.2.2.1, (x.1.2.2.2.2.2.1, (x.1.2.2.2.2.2.2.1, (x.1.2.2.2.2.2.2.2.1, (x.1.2.2.2.2.2.2.2.2.1, ()))))))))), ()))
      else none
     else
      some ((), ((x.1.1, (x.1.2.1, (v9, (x.1.2.2.2.1, (x.1.2.2.2.2.1, (x.1.2.2.2.2.2.1, (x.1.2.2.2.2.2.2.1, (x.1.2.2.2.2.2.2.2.1, (x.1.2.2.2.2.2.2.2.2.1, ()))))))))), ()))
    else none
   else
    if (x.2.1 == (6 : Int)) then
     let v12 := ((r1.1.1).tmod (4 : Int))
     if (leI (2 : Int) v12) then
      some ((), ((x.1.1, (x.1.2.1, (x.1.2.2.1, (x.1.2.2.2.1, (x.1.2.2.2.2.1, (false, (x.1.2.2.2.2.2.2.1, (x.1.2.2.2.2.2.2.2.1, (x.1.2.2.2.2.2.2.2.2.1, ()))))))))), ()))
     else
      some ((), (x.1, ()))
    else
     if (x.2.1 == (8 : Int)) then
      some ((), (x.1, ()))
     else
      if 0 ≤ x.2.1 ∧ x.2.1 < ((x.1.2.2.1.length : Nat) : Int) then
       ((x.1.2.2.1)[(x.2.1).toNat]?).bind fun y13 =>
       let v14 := (x.1.2.2.1.set (x.2.1).toNat r1.1.1)
       some ((), ((x.1.1, (x.1.2.1, (v14, (x.1.2.2.2.1, (x.1.2.2.2.2.1, (x.1.2.2.2.2.2.1, (x.1.2.2.2.2.2.2.1, (x.1.2.2.2.2.2.2.2.1, (x.1.2.2.2.2.2.2.2.2.1, ()))))))))), ()))
      else none
abbrev C_bm : Con := ⟨P_bm, R_bm, F_bm, false⟩
abbrev G_bm : Env := [(70, C_bh)]
theorem g_bm : Qe Tryz.prog G_bm := (Qa s_bh Qc)
theorem r_bm (x) : Qf T G_bm [] Tryz.f266 C_bm.ps C_bm.rs x = C_bm.F x := by kernel_rfl
theorem s_bm : Qb Tryz.prog 266 C_bm := fnC (L := []) hT g_bm Tryz.f266 okP r_bm
abbrev P_bn : List PK := [.box [.own 2 YI, .dat YI, .own 2 YI, .dat .bool, .dat .bool, .dat .bool, .dat YI, .own 2 YI, .own 2 YI] [.own 2 YI, .dat YI, .own 2 YI, .dat .bool, .dat .bool, .dat .bool, .dat YI, .own 2 YI, .own 2 YI], .val YI, .val YI]
abbrev R_bn : List VK := [.s (.dat YI)]
def F_bn (x : denP P_bn) : Option (denV R_bn × denQ P_bn) :=
 (F_bh (x.2.2.1, ())).bind fun r1 =>
 if (x.2.1 == (0 : Int)) then
  let v2 := ((x.1.2.2.2.2.2.2.2.2.1.length : Nat) : Int)
  if (ltI v2 (40 : Int)) then
   (F_ap (x.1.2.2.2.2.2.2.2.2.1, ())).bind fun r3 =>
   if (r3.1.1.length + [r1.1.1].length) * 8 ≤ 140737488355328 then
    let v4 := (r3.1.1 ++ [r1.1.1])
    some (((-1 : Int), ()), ((x.1.1, (x.1.2.1, (x.1.2.2.1, (x.1.2.2.2.1, (x.1.2.2.2.2.1, (x.1.2.2.2.2.2.1, (x.1.2.2.2.2.2.2.1, (x.1.2.2.2.2.2.2.2.1, (v4, ()))))))))), ()))
   else none
  else
   some (((-1 : Int), ()), (x.1, ()))
 else
  if (x.2.1 == (3 : Int)) then
   (F_bm (x.1, (9 : Int), r1.1.1, ())).bind fun r5 =>
   some (((-1 : Int), ()), (r5.2.1, ()))
  else
   if (x.2.1 == (4 : Int)) then
    (F_bm (x.1, (6 : Int), r1.1.1, ())).bind fun r6 =>
    some (((-1 : Int), ()), (r6.2.1, ()))
   else
    if (x.2.1 == (5 : Int)) then
     some ((r1.1.1, ()), (x.1, ()))
    else
     some (((-1 : Int), ()), (x.1, ()))
abbrev C_bn : Con := ⟨P_bn, R_bn, F_bn, false⟩
abbrev G_bn : Env := [(70, C_bh), (139, C_ap), (266, C_bm)]
theorem g_bn : Qe Tryz.prog G_bn := (Qa s_bh (Qa s_ap (Qa s_bm Qc)))
theorem r_bn (x) : Qf T G_bn [] Tryz.f305 C_bn.ps C_bn.rs x = C_bn.F x := by kernel_rfl
theorem s_bn : Qb Tryz.prog 305 C_bn := fnC (L := []) hT g_bn Tryz.f305 okP r_bn
abbrev P_bo : List PK := [.box [.own 2 YI, .dat YI, .own 2 YI, .dat .bool, .dat .bool, .dat .bool, .dat YI, .own 2 YI, .own 2 YI, .dat Y27, .own 2 YI, .dat YI, .dat YI] [.own 2 YI, .dat YI, .own 2 YI, .dat .bool, .dat .bool, .dat .bool, .dat YI, .own 2 YI, .own 2 YI, .dat Y27, .own 2 YI, .dat YI, .dat YI], .val YI, .val YI]
abbrev R_bo : List VK := [.s (.dat .bool)]
def F_bo (x : denP P_bo) : Option (denV R_bo × denQ P_bo) :=
 (F_be ((x.1.1, (x.1.2.1, (x.1.2.2.1, (x.1.2.2.2.1, (x.1.2.2.2.2.1, (x.1.2.2.2.2.2.1, (x.1.2.2.2.2.2.2.1, (x.1.2.2.2.2.2.2.2.1, (x.1.2.2.2.2.2.2.2.2.1, ()))))))))), x.1.2.2.2.2.2.2.2.2.2.1, x.1.2.2.2.2.2.2.2.2.2.2.1, x.2.1, (2 : Int), ())).bind fun r1 =>
 if (r1.1.1.1 != (0 : Int)) then
  (F_av (x.1, (4 : Int), x.2.1, ())).bind fun r2 =>
  some ((false, ()), (r2.2.1, ()))
 else
  if (leI (1000 : Int) r1.1.1.2.1) then
   let v3 := (IntKind.i64.wrap (r1.1.1.2.1 - (1000 : Int)))
   (F_bn ((x.1.1, (x.1.2.1, (x.1.2.2.1, (x.1.2.2.2.1, (x.1.2.2.2.2.1, (x.1.2.2.2.2.2.1, (x.1.2.2.2.2.2.2.1, (x.1.2.2.2.2.2.2.2.1, (x.1.2.2.2.2.2.2.2.2.1, ()))))))))), v3, x.2.2.1, ())).bind fun r4 =>
   some ((true, ()), ((r4.2.1.1, (r4.2.1.2.1, (r4.2.1.2.2.1, (r4.2.1.2.2.2.1, (r4.2.1.2.2.2.2.1, (r4.2.1.2.2.2.2.2.1, (r4.2.1.2.2.2.2.2.2.1, (r4.2.1.2.2.2.2.2.2.2.1, (r4.2.1.2.2.2.2.2.2.2.2.1, (x.1.2.2.2.2.2.2.2.2.2.1, (x.1.2.2.2.2.2.2.2.2.2.2.1, (x.1.2.2.2.2.2.2.2.2.2.2.2.1, (r4.1.1, ()))))))))))))), ()))
  else
   if 0 ≤ r1.1.1.2.1 ∧ r1.1.1.2.1 < ((x.1.2.2.2.2.2.2.2.2.2.2.1.length : Nat) : Int) then
    ((x.1.2.2.2.2.2.2.2.2.2.2.1)[(r1.1.1.2.1).toNat]?).bind fun y5 =>
    let v6 := (x.1.2.2.2.2.2.2.2.2.2.2.1.set (r1.1.1.2.1).toNat x.2.2.1)
    some ((true, ()), ((x.1.1, (x.1.2.1, (x.1.2.2.1, (x.1.2.2.2.1, (x.1.2.2.2.2.1, (x.1.2.2.2.2.2.1, (x.1.2.2.2.2.2.2.1, (x.1.2.2.2.2.2.2.2.1, (x.1.2.2.2.2.2.2.2.2.1, (x.1.2.2.2.2.2.2.2.2.2.1, (v6, (x.1.2.2.2.2.2.2.2.2.2.2.2.1, (x.1.2.2.2.2.2.2.2.2.2.2.2.2.1, ()))))))))))))), ()))
   else none
abbrev C_bo : Con := ⟨P_bo, R_bo, F_bo, false⟩
abbrev G_bo : Env := [(69, C_be), (215, C_av), (305, C_bn)]
theorem g_bo : Qe Tryz.prog G_bo := (Qa s_be (Qa s_av (Qa s_bn Qc)))
theorem r_bo (x) : Qf T G_bo [] Tryz.f263 C_bo.ps C_bo.rs x = C_bo.F x := by kernel_rfl
theorem s_bo : Qb Tryz.prog 263 C_bo := fnC (L := []) hT g_bo Tryz.f263 okP r_bo
abbrev P_bp : List PK := [.val YI]
abbrev R_bp : List VK := [.s (.dat YI)]
def F_bp (x : denP P_bp) : Option (denV R_bp × denQ P_bp) :=
 (F_bh (x.1, ())).bind fun r1 =>
 if (ltI r1.1.1 (2147483648 : Int)) then
  some ((r1.1.1, ()), ())
 else
  let v2 := (IntKind.i64.wrap (r1.1.1 - (4294967295 : Int)))
  let v3 := (IntKind.i64.wrap (v2 - (1 : Int)))
  some ((v3, ()), ())
abbrev C_bp : Con := ⟨P_bp, R_bp, F_bp, false⟩
abbrev G_bp : Env := [(70, C_bh)]
theorem g_bp : Qe Tryz.prog G_bp := (Qa s_bh Qc)
theorem r_bp (x) : Qf T G_bp [] Tryz.f264 C_bp.ps C_bp.rs x = C_bp.F x := by kernel_rfl
theorem s_bp : Qb Tryz.prog 264 C_bp := fnC (L := []) hT g_bp Tryz.f264 okP r_bp
abbrev P_bq : List PK := [.ptr Y25, .val YI]
abbrev R_bq : List VK := [.s (.dat YI)]
def F_bq (x : denP P_bq) : Option (denV R_bq × denQ P_bq) :=
 if (x.2.1 == (6 : Int)) then
  (F_ar (x.1, ())).bind fun r1 =>
  some ((r1.1.1, ()), ())
 else
  if (x.2.1 == (8 : Int)) then
   some ((x.1.2.2.2.2.2.2.1, ()), ())
  else
   if 0 ≤ x.2.1 then
    ((x.1.2.2.1)[(x.2.1).toNat]?).bind fun y2 =>
    some ((y2, ()), ())
   else none
abbrev C_bq : Con := ⟨P_bq, R_bq, F_bq, false⟩
abbrev G_bq : Env := [(158, C_ar)]
theorem g_bq : Qe Tryz.prog G_bq := (Qa s_ar Qc)
theorem r_bq (x) : Qf T G_bq [] Tryz.f265 C_bq.ps C_bq.rs x = C_bq.F x := by kernel_rfl
theorem s_bq : Qb Tryz.prog 265 C_bq := fnC (L := []) hT g_bq Tryz.f265 okP r_bq
abbrev P_br : List PK := [.box [.own 2 YI, .dat YI, .own 2 YI, .dat .bool, .dat .bool, .dat .bool, .dat YI, .own 2 YI, .own 2 YI] [.own 2 YI, .dat YI, .own 2 YI, .dat .bool, .dat .bool, .dat .bool, .dat YI, .own 2 YI, .own 2 YI]]
abbrev R_br : List VK := []
def F_br (x : denP P_br) : Option (denV R_br × denQ P_br) :=
 if 0 ≤ (2 : Int) ∧ (2 : Int) < ((x.1.2.2.1.length : Nat) : Int) then
  ((x.1.2.2.1)[((2 : Int)).toNat]?).bind fun y1 =>
  if 0 ≤ (0 : Int) ∧ (0 : Int) < ((x.1.2.2.1.length : Nat) : Int) then
   ((x.1.2.2.1)[((0 : Int)).toNat]?).bind fun y2 =>
   let v3 := (IntKind.i64.wrap ((y2).tdiv (2 : Int)))
   let v4 := (IntKind.i64.wrap ((2 : Int) + v3))
   if 0 ≤ (0 : Int) ∧ (0 : Int) < ((x.1.2.2.1.length : Nat) : Int) then
    ((x.1.2.2.1)[((0 : Int)).toNat]?).bind fun y5 =>
    let v6 := (x.1.2.2.1.set ((0 : Int)).toNat v4)
    some ((), ((x.1.1, (y1, (v6, (x.1.2.2.2.1, (x.1.2.2.2.2.1, (x.1.2.2.2.2.2.1, (x.1.2.2.2.2.2.2.1, (x.1.2.2.2.2.2.2.2.1, (x.1.2.2.2.2.2.2.2.2.1, ()))))))))), ()))
   else none
  else none
 else none
abbrev C_br : Con := ⟨P_br, R_br, F_br, false⟩
abbrev G_br : Env := []
theorem g_br : Qe Tryz.prog G_br := Qc
theorem r_br (x) : Qf T G_br [] Tryz.f267 C_br.ps C_br.rs x = C_br.F x := by kernel_rfl
theorem s_br : Qb Tryz.prog 267 C_br := fnC (L := []) hT g_br Tryz.f267 okP r_br
abbrev P_bs : List PK := [.val YI, .val YI]
abbrev R_bs : List VK := [.s (.dat YI)]
def F_bs (x : denP P_bs) : Option (denV R_bs × denQ P_bs) :=
 let v1 := (IntKind.u32.wrap x.1)
 let v2 := (IntKind.u32.wrap x.2.1)
 let v3 := (IntKind.u32.wrap (v1 * v2))
 let v4 := (IntKind.i64.wrap v3)
 some ((v4, ()), ())
abbrev C_bs : Con := ⟨P_bs, R_bs, F_bs, false⟩
abbrev G_bs : Env := []
theorem g_bs : Qe Tryz.prog G_bs := Qc
theorem r_bs (x) : Qf T G_bs [] Tryz.f306 C_bs.ps C_bs.rs x = C_bs.F x := by kernel_rfl
theorem s_bs : Qb Tryz.prog 306 C_bs := fnC (L := []) hT g_bs Tryz.f306 okP r_bs
abbrev P_bt : List PK := [.val YI, .val YI]
abbrev R_bt : List VK := [.s (.dat YI)]
def F_bt (x : denP P_bt) : Option (denV R_bt × denQ P_bt) :=
 (F_bp (x.1, ())).bind fun r1 =>
 (F_bp (x.2.1, ())).bind fun r2 =>
 if (r2.1.1 == (0 : Int)) then
  some (((4294967295 : Int), ()), ())
 else
  if r2.1.1 = 0 then none else
  let v3 := (IntKind.i64.wrap ((r1.1.1).tdiv r2.1.1))
  (F_bh (v3, ())).bind fun r4 =>
  some ((r4.1.1, ()), ())
abbrev C_bt : Con := ⟨P_bt, R_bt, F_bt, false⟩
abbrev G_bt : Env := [(70, C_bh), (264, C_bp)]
theorem g_bt : Qe Tryz.prog G_bt := (Qa s_bh (Qa s_bp Qc))
theorem r_bt (x) : Qf T G_bt [] Tryz.f307 C_bt.ps C_bt.rs x = C_bt.F x := by kernel_rfl
theorem s_bt : Qb Tryz.prog 307 C_bt := fnC (L := []) hT g_bt Tryz.f307 okP r_bt
abbrev P_bu : List PK := [.val YI, .val YI]
abbrev R_bu : List VK := [.s (.dat YI)]
def F_bu (x : denP P_bu) : Option (denV R_bu × denQ P_bu) :=
 (F_bp (x.1, ())).bind fun r1 =>
 (F_bp (x.2.1, ())).bind fun r2 =>
 if (r2.1.1 == (0 : Int)) then
  (F_bh (x.1, ())).bind fun r3 =>
  some ((r3.1.1, ()), ())
 else
  if r2.1.1 = 0 then none else
  let v4 := ((r1.1.1).tmod r2.1.1)
  (F_bh (v4, ())).bind fun r5 =>
  some ((r5.1.1, ()), ())
abbrev C_bu : Con := ⟨P_bu, R_bu, F_bu, false⟩
abbrev G_bu : Env := [(70, C_bh), (264, C_bp)]
theorem g_bu : Qe Tryz.prog G_bu := (Qa s_bh (Qa s_bp Qc))
theorem r_bu (x) : Qf T G_bu [] Tryz.f308 C_bu.ps C_bu.rs x = C_bu.F x := by kernel_rfl
theorem s_bu : Qb Tryz.prog 308 C_bu := fnC (L := []) hT g_bu Tryz.f308 okP r_bu
abbrev P_bv : List PK := [.val YI, .val YI, .val YI]
abbrev R_bv : List VK := [.s (.dat Y40)]
def F_bv (x : denP P_bv) : Option (denV R_bv × denQ P_bv) :=
 (F_bh (x.2.1, ())).bind fun r1 =>
 (F_bh (x.2.2.1, ())).bind fun r2 =>
 if (x.1 == (1 : Int)) then
  let v3 := (iand .i64 r1.1.1 r2.1.1)
  some ((((0 : Int), (v3, ())), ()), ())
 else
  if (x.1 == (2 : Int)) then
   let v4 := (ior .i64 r1.1.1 r2.1.1)
   some ((((0 : Int), (v4, ())), ()), ())
  else
   if (x.1 == (3 : Int)) then
    let v5 := (ixor .i64 r1.1.1 r2.1.1)
    some ((((0 : Int), (v5, ())), ()), ())
   else
    some ((((3 : Int), ((0 : Int), ())), ()), ())
abbrev C_bv : Con := ⟨P_bv, R_bv, F_bv, false⟩
abbrev G_bv : Env := [(70, C_bh)]
theorem g_bv : Qe Tryz.prog G_bv := (Qa s_bh Qc)
theorem r_bv (x) : Qf T G_bv [] Tryz.f309 C_bv.ps C_bv.rs x = C_bv.F x := by kernel_rfl
theorem s_bv : Qb Tryz.prog 309 C_bv := fnC (L := []) hT g_bv Tryz.f309 okP r_bv
abbrev P_bw : List PK := [.val YI, .val YI, .val .bool]
abbrev R_bw : List VK := [.s (.dat YI)]
def F_bw (x : denP P_bw) : Option (denV R_bw × denQ P_bw) :=
 (F_bh (x.1, ())).bind fun r1 =>
 (F_bh (x.2.1, ())).bind fun r2 =>
 let v3 := ((r2.1.1).tmod (32 : Int))
 if x.2.2.1 then
  if v3 < 0 then none else
  let v4 := (IntKind.i64.wrap (r1.1.1 * 2 ^ (min (v3).toNat 64)))
  (F_bh (v4, ())).bind fun r5 =>
  some ((r5.1.1, ()), ())
 else
  if v3 < 0 then none else
  let v6 := ((r1.1.1).fdiv (2 ^ (min (v3).toNat 64)))
  some ((v6, ()), ())
abbrev C_bw : Con := ⟨P_bw, R_bw, F_bw, false⟩
abbrev G_bw : Env := [(70, C_bh)]
theorem g_bw : Qe Tryz.prog G_bw := (Qa s_bh Qc)
theorem r_bw (x) : Qf T G_bw [] Tryz.f310 C_bw.ps C_bw.rs x = C_bw.F x := by kernel_rfl
theorem s_bw : Qb Tryz.prog 310 C_bw := fnC (L := []) hT g_bw Tryz.f310 okP r_bw
abbrev P_bx : List PK := [.val YI, .val YI, .val YI]
abbrev R_bx : List VK := [.s (.dat Y40)]
def F_bx (x : denP P_bx) : Option (denV R_bx × denQ P_bx) :=
 (F_bh (x.2.1, ())).bind fun r1 =>
 (F_bh (x.2.2.1, ())).bind fun r2 =>
 if (x.1 == (1 : Int)) then
  (F_bi (r1.1.1, r2.1.1, ())).bind fun r3 =>
  some ((((0 : Int), (r3.1.1, ())), ()), ())
 else
  if (x.1 == (2 : Int)) then
   let v4 := (IntKind.i64.wrap (r1.1.1 - r2.1.1))
   (F_bh (v4, ())).bind fun r5 =>
   some ((((0 : Int), (r5.1.1, ())), ()), ())
  else
   if (x.1 == (3 : Int)) then
    (F_bs (r1.1.1, r2.1.1, ())).bind fun r6 =>
    some ((((0 : Int), (r6.1.1, ())), ()), ())
   else
    if (x.1 == (4 : Int)) then
     (F_bt (r1.1.1, r2.1.1, ())).bind fun r7 =>
     some ((((0 : Int), (r7.1.1, ())), ()), ())
    else
     if (x.1 == (5 : Int)) then
      (F_bu (r1.1.1, r2.1.1, ())).bind fun r8 =>
      some ((((0 : Int), (r8.1.1, ())), ()), ())
     else
      if (x.1 == (6 : Int)) then
       let v9 := (IntKind.i64.wrap (x.1 - (6 : Int)))
       let v10 := (IntKind.i64.wrap (v9 + (1 : Int)))
       (F_bv (v10, r1.1.1, r2.1.1, ())).bind fun r11 =>
       some ((r11.1.1, ()), ())
      else
       if (x.1 == (7 : Int)) then
        let v12 := (IntKind.i64.wrap (x.1 - (6 : Int)))
        let v13 := (IntKind.i64.wrap (v12 + (1 : Int)))
        (F_bv (v13, r1.1.1, r2.1.1, ())).bind fun r14 =>
        some ((r14.1.1, ()), ())
       else
        if (x.1 == (8 : Int)) then
         let v15 := (IntKind.i64.wrap (x.1 - (6 : Int)))
         let v16 := (IntKind.i64.wrap (v15 + (1 : Int)))
         (F_bv (v16, r1.1.1, r2.1.1, ())).bind fun r17 =>
         some ((r17.1.1, ()), ())
        else
         if (x.1 == (9 : Int)) then
          (F_bw (r1.1.1, r2.1.1, (x.1 == (9 : Int)), ())).bind fun r18 =>
          some ((((0 : Int), (r18.1.1, ())), ()), ())
         else
          if (x.1 == (10 : Int)) then
           (F_bw (r1.1.1, r2.1.1, (x.1 == (9 : Int)), ())).bind fun r19 =>
           some ((((0 : Int), (r19.1.1, ())), ()), ())
          else
           if (x.1 == (11 : Int)) then
            (F_bp (r1.1.1, ())).bind fun r20 =>
            (F_bp (r2.1.1, ())).bind fun r21 =>
            if (ltI r20.1.1 r21.1.1) then
             some ((((0 : Int), ((1 : Int), ())), ()), ())
            else
             some ((((0 : Int), ((0 : Int), ())), ()), ())
           else
            some ((((3 : Int), ((0 : Int), ())), ()), ())
abbrev C_bx : Con := ⟨P_bx, R_bx, F_bx, false⟩
abbrev G_bx : Env := [(27, C_bi), (70, C_bh), (264, C_bp), (306, C_bs), (307, C_bt), (308, C_bu), (309, C_bv), (310, C_bw)]
theorem g_bx : Qe Tryz.prog G_bx := (Qa s_bi (Qa s_bh (Qa s_bp (Qa s_bs (Qa s_bt (Qa s_bu (Qa s_bv (Qa s_bw Qc))))))))
theorem r_bx (x) : Qf T G_bx [] Tryz.f268 C_bx.ps C_bx.rs x = C_bx.F x := by kernel_rfl
theorem s_bx : Qb Tryz.prog 268 C_bx := fnC (L := []) hT g_bx Tryz.f268 okP r_bx
abbrev P_by : List PK := [.val YI]
abbrev R_by : List VK := [.s (.dat .bool)]
def F_by (x : denP P_by) : Option (denV R_by × denQ P_by) :=
 (F_ab (x.1, (1 : Int), (14 : Int), ())).bind fun r1 =>
 if r1.1.1 = false then
  (F_ab (x.1, (19 : Int), (21 : Int), ())).bind fun r2 =>
  some ((r2.1.1, ()), ())
 else
  some ((true, ()), ())
abbrev C_by : Con := ⟨P_by, R_by, F_by, false⟩
abbrev G_by : Env := [(56, C_ab)]
theorem g_by : Qe Tryz.prog G_by := (Qa s_ab Qc)
theorem r_by (x) : Qf T G_by [] Tryz.f269 C_by.ps C_by.rs x = C_by.F x := by kernel_rfl
theorem s_by : Qb Tryz.prog 269 C_by := fnC (L := []) hT g_by Tryz.f269 okP r_by
abbrev P_bz : List PK := [.box [.own 2 YI, .dat YI, .own 2 YI, .dat .bool, .dat .bool, .dat .bool, .dat YI, .own 2 YI, .own 2 YI, .dat Y27, .own 2 YI, .dat YI, .dat YI] [.own 2 YI, .dat YI, .own 2 YI, .dat .bool, .dat .bool, .dat .bool, .dat YI, .own 2 YI, .own 2 YI, .dat Y27, .own 2 YI, .dat YI, .dat YI], .val Y42]
abbrev R_bz : List VK := [.s (.dat .bool)]
abbrev i_bz_100000 : Shp := { slots := [(0, .s (.ptr 9000000 0)), (3, .s (.ptr 3 0)), (5, .s (.dat YI)), (6, .s (.dat YI)), (7, .s (.dat YI)), (8, .s (.dat YI)), (9, .s (.dat YI)), (10, .s (.dat YI)), (11, .s (.dat YI)), (12, .s (.dat YI)), (56, .s (.dat YI))], boxes := [(3, [.dat YI, .dat YI, .dat YI, .dat YI]), (9000000, [.own 2 YI, .dat YI, .own 2 YI, .dat .bool, .dat .bool, .dat .bool, .dat YI, .own 2 YI, .own 2 YI, .dat Y27, .own 2 YI, .dat YI, .dat YI])], rows := [] }
abbrev o_bz_100000 : List (Ex × Shp) := [(.normal, { slots := [(0, .s (.ptr 9000000 0)), (3, .s (.ptr 3 0)), (6, .s (.dat YI)), (11, .s (.dat YI))], boxes := [(3, [.dat YI, .dat YI, .dat YI, .dat YI]), (9000000, [.own 2 YI, .dat YI, .own 2 YI, .dat .bool, .dat .bool, .dat .bool, .dat YI, .own 2 YI, .own 2 YI, .dat Y27, .own 2 YI, .dat YI, .dat YI])], rows := [] }), (.ret, { slots := [(4, .s (.dat .bool))], boxes := [(9000000, [.own 2 YI, .dat YI, .own 2 YI, .dat .bool, .dat .bool, .dat .bool, .dat YI, .own 2 YI, .own 2 YI, .dat Y27, .own 2 YI, .dat YI, .dat YI])], rows := [] })]
def L_bz_100000 (u100000 : i_bz_100000.den) : Option (denO o_bz_100000) :=
 if (u100000.1.2.2.2.2.2.2.2.2.2.2.1 == (12 : Int)) then
  some (.inl (((), ((), (u100000.1.2.2.2.1, (u100000.1.2.2.2.2.2.2.2.1, ())))), ((u100000.2.1.1, (u100000.2.1.2.1, ())), ())))
 else
  if (u100000.1.2.2.2.2.2.2.2.2.2.2.1 == (13 : Int)) then
   let v40 := (IntKind.i64.wrap (u100000.2.1.1.2.2.2.1 * (65536 : Int)))
   some (.inl (((), ((), (u100000.1.2.2.2.1, (v40, ())))), ((u100000.2.1.1, (u100000.2.1.2.1, ())), ())))
  else
   if (u100000.1.2.2.2.2.2.2.2.2.2.2.1 == (14 : Int)) then
    (F_bl (u100000.2.1.2.1, u100000.1.2.2.2.2.2.2.2.1, ())).bind fun r41 =>
    if (!r41.1.2.1) then
     some (.inr (.inl ((false, ()), ((r41.2.1, ()), ()))))
    else
     some (.inl (((), ((), (u100000.1.2.2.2.1, (r41.1.1, ())))), ((u100000.2.1.1, (r41.2.1, ())), ())))
   else
    if (u100000.1.2.2.2.2.2.2.2.2.2.2.1 == (15 : Int)) then
     (F_bo (u100000.2.1.2.1, u100000.1.2.2.2.2.2.2.2.1, u100000.1.2.2.2.2.2.1, ())).bind fun r42 =>
     if (!r42.1.1) then
      some (.inr (.inl ((false, ()), ((r42.2.1, ()), ()))))
     else
      some (.inl (((), ((), (u100000.1.2.2.2.1, (u100000.1.2.2.2.2.2.2.2.2.1, ())))), ((u100000.2.1.1, (r42.2.1, ())), ())))
    else
     if (u100000.1.2.2.2.2.2.2.2.2.2.2.1 == (16 : Int)) then
      if (u100000.1.2.2.2.2.2.2.2.2.2.1 == (16 : Int)) = true then
       if (u100000.1.2.2.2.2.2.1 == u100000.1.2.2.2.2.2.2.1) = false then
        if (u100000.1.2.2.2.2.2.2.2.2.2.1 == (17 : Int)) = true then
         if (u100000.1.2.2.2.2.2.1 != u100000.1.2.2.2.2.2.2.1) = false then
          if (u100000.1.2.2.2.2.2.2.2.2.2.1 == (18 : Int)) = true then
           (F_bp (u100000.1.2.2.2.2.2.1, ())).bind fun r43 =>
           (F_bp (u100000.1.2.2.2.2.2.2.1, ())).bind fun r44 =>
           if (ltI r43.1.1 r44.1.1) then
            some (.inl (((), ((), (u100000.1.2.2.2.2.1, (u100000.1.2.2.2.2.2.2.2.2.1, ())))), ((u100000.2.1.1, (u100000.2.1.2.1, ())), ())))
           else
            some (.inl (((), ((), (u100000.1.2.2.2.1, (u100000.1.2.2.2.2.2.2.2.2.1, ())))), ((u100000.2.1.1, (u100000.2.1.2.1, ())), ())))
          else
           some (.inl (((), ((), (u100000.1.2.2.2.1, (u100000.1.2.2.2.2.2.2.2.2.1, ())))), ((u100000.2.1.1, (u100000.2.1.2.1, ())), ())))
         else
          some (.inl (((), ((), (u100000.1.2.2.2.2.1, (u100000.1.2.2.2.2.2.2.2.2.1, ())))), ((u100000.2.1.1, (u100000.2.1.2.1, ())), ())))
        else
         if (u100000.1.2.2.2.2.2.2.2.2.2.1 == (18 : Int)) = true then
          (F_bp (u100000.1.2.2.2.2.2.1, ())).bind fun r45 =>
          (F_bp (u100000.1.2.2.2.2.2.2.1, ())).bind fun r46 =>
          if (ltI r45.1.1 r46.1.1) then
           some (.inl (((), ((), (u100000.1.2.2.2.2.1, (u100000.1.2.2.2.2.2.2.2.2.1, ())))), ((u100000.2.1.1, (u100000.2.1.2.1, ())), ())))
          else
           some (.inl (((), ((), (u100000.1.2.2.2.1, (u100000.1.2.2.2.2.2.2.2.2.1, ())))), ((u100000.2.1.1, (u100000.2.1.2.1, ())), ())))
         else
          some (.inl (((), ((), (u100000.1.2.2.2.1, (u100000.1.2.2.2.2.2.2.2.2.1, ())))), ((u100000.2.1.1, (u100000.2.1.2.1, ())), ())))
       else
        some (.inl (((), ((), (u100000.1.2.2.2.2.1, (u100000.1.2.2.2.2.2.2.2.2.1, ())))), ((u100000.2.1.1, (u100000.2.1.2.1, ())), ())))
      else
       if (u100000.1.2.2.2.2.2.2.2.2.2.1 == (17 : Int)) = true then
        if (u100000.1.2.2.2.2.2.1 != u100000.1.2.2.2.2.2.2.1) = false then
         if (u100000.1.2.2.2.2.2.2.2.2.2.1 == (18 : Int)) = true then
          (F_bp (u100000.1.2.2.2.2.2.1, ())).bind fun r47 =>
          (F_bp (u100000.1.2.2.2.2.2.2.1, ())).bind fun r48 =>
          if (ltI r47.1.1 r48.1.1) then
           some (.inl (((), ((), (u100000.1.2.2.2.2.1, (u100000.1.2.2.2.2.2.2.2.2.1, ())))), ((u100000.2.1.1, (u100000.2.1.2.1, ())), ())))
          else
           some (.inl (((), ((), (u100000.1.2.2.2.1, (u100000.1.2.2.2.2.2.2.2.2.1, ())))), ((u100000.2.1.1, (u100000.2.1.2.1, ())), ())))
         else
          some (.inl (((), ((), (u100000.1.2.2.2.1, (u100000.1.2.2.2.2.2.2.2.2.1, ())))), ((u100000.2.1.1, (u100000.2.1.2.1, ())), ())))
        else
         some (.inl (((), ((), (u100000.1.2.2.2.2.1, (u100000.1.2.2.2.2.2.2.2.2.1, ())))), ((u100000.2.1.1, (u100000.2.1.2.1, ())), ())))
       else
        if (u100000.1.2.2.2.2.2.2.2.2.2.1 == (18 : Int)) = true then
         (F_bp (u100000.1.2.2.2.2.2.1, ())).bind fun r49 =>
         (F_bp (u100000.1.2.2.2.2.2.2.1, ())).bind fun r50 =>
         if (ltI r49.1.1 r50.1.1) then
          some (.inl (((), ((), (u100000.1.2.2.2.2.1, (u100000.1.2.2.2.2.2.2.2.2.1, ())))), ((u100000.2.1.1, (u100000.2.1.2.1, ())), ())))
         else
          some (.inl (((), ((), (u100000.1.2.2.2.1, (u100000.1.2.2.2.2.2.2.2.2.1, ())))), ((u100000.2.1.1, (u100000.2.1.2.1, ())), ())))
        else
         some (.inl (((), ((), (u100000.1.2.2.2.1, (u100000.1.2.2.2.2.2.2.2.2.1, ())))), ((u100000.2.1.1, (u100000.2.1.2.1, ())), ())))
     else
      if (u100000.1.2.2.2.2.2.2.2.2.2.2.1 == (17 : Int)) then
       if (u100000.1.2.2.2.2.2.2.2.2.2.1 == (16 : Int)) = true then
        if (u100000.1.2.2.2.2.2.1 == u100000.1.2.2.2.2.2.2.1) = false then
         if (u100000.1.2.2.2.2.2.2.2.2.2.1 == (17 : Int)) = true then
          if (u100000.1.2.2.2.2.2.1 != u100000.1.2.2.2.2.2.2.1) = false then
           if (u100000.1.2.2.2.2.2.2.2.2.2.1 == (18 : Int)) = true then
            (F_bp (u100000.1.2.2.2.2.2.1, ())).bind fun r51 =>
            (F_bp (u100000.1.2.2.2.2.2.2.1, ())).bind fun r52 =>
            if (ltI r51.1.1 r52.1.1) then
             some (.inl (((), ((), (u100000.1.2.2.2.2.1, (u100000.1.2.2.2.2.2.2.2.2.1, ())))), ((u100000.2.1.1, (u100000.2.1.2.1, ())), ())))
            else
             some (.inl (((), ((), (u100000.1.2.2.2.1, (u100000.1.2.2.2.2.2.2.2.2.1, ())))), ((u100000.2.1.1, (u100000.2.1.2.1, ())), ())))
           else
            some (.inl (((), ((), (u100000.1.2.2.2.1, (u100000.1.2.2.2.2.2.2.2.2.1, ())))), ((u100000.2.1.1, (u100000.2.1.2.1, ())), ())))
          else
           some (.inl (((), ((), (u100000.1.2.2.2.2.1, (u100000.1.2.2.2.2.2.2.2.2.1, ())))), ((u100000.2.1.1, (u100000.2.1.2.1, ())), ())))
         else
          if (u100000.1.2.2.2.2.2.2.2.2.2.1 == (18 : Int)) = true then
           (F_bp (u100000.1.2.2.2.2.2.1, ())).bind fun r53 =>
           (F_bp (u100000.1.2.2.2.2.2.2.1, ())).bind fun r54 =>
           if (ltI r53.1.1 r54.1.1) then
            some (.inl (((), ((), (u100000.1.2.2.2.2.1, (u100000.1.2.2.2.2.2.2.2.2.1, ())))), ((u100000.2.1.1, (u100000.2.1.2.1, ())), ())))
           else
            some (.inl (((), ((), (u100000.1.2.2.2.1, (u100000.1.2.2.2.2.2.2.2.2.1, ())))), ((u100000.2.1.1, (u100000.2.1.2.1, ())), ())))
          else
           some (.inl (((), ((), (u100000.1.2.2.2.1, (u100000.1.2.2.2.2.2.2.2.2.1, ())))), ((u100000.2.1.1, (u100000.2.1.2.1, ())), ())))
        else
         some (.inl (((), ((), (u100000.1.2.2.2.2.1, (u100000.1.2.2.2.2.2.2.2.2.1, ())))), ((u100000.2.1.1, (u100000.2.1.2.1, ())), ())))
       else
        if (u100000.1.2.2.2.2.2.2.2.2.2.1 == (17 : Int)) = true then
         if (u100000.1.2.2.2.2.2.1 != u100000.1.2.2.2.2.2.2.1) = false then
          if (u100000.1.2.2.2.2.2.2.2.2.2.1 == (18 : Int)) = true then
           (F_bp (u100000.1.2.2.2.2.2.1, ())).bind fun r55 =>
           (F_bp (u100000.1.2.2.2.2.2.2.1, ())).bind fun r56 =>
           if (ltI r55.1.1 r56.1.1) then
            some (.inl (((), ((), (u100000.1.2.2.2.2.1, (u100000.1.2.2.2.2.2.2.2.2.1, ())))), ((u100000.2.1.1, (u100000.2.1.2.1, ())), ())))
           else
            some (.inl (((), ((), (u100000.1.2.2.2.1, (u100000.1.2.2.2.2.2.2.2.2.1, ())))), ((u100000.2.1.1, (u100000.2.1.2.1, ())), ())))
          else
           some (.inl (((), ((), (u100000.1.2.2.2.1, (u100000.1.2.2.2.2.2.2.2.2.1, ())))), ((u100000.2.1.1, (u100000.2.1.2.1, ())), ())))
         else
          some (.inl (((), ((), (u100000.1.2.2.2.2.1, (u100000.1.2.2.2.2.2.2.2.2.1, ())))), ((u100000.2.1.1, (u100000.2.1.2.1, ())), ())))
        else
         if (u100000.1.2.2.2.2.2.2.2.2.2.1 == (18 : Int)) = true then
          (F_bp (u100000.1.2.2.2.2.2.1, ())).bind fun r57 =>
          (F_bp (u100000.1.2.2.2.2.2.2.1, ())).bind fun r58 =>
          if (ltI r57.1.1 r58.1.1) then
           some (.inl (((), ((), (u100000.1.2.2.2.2.1, (u100000.1.2.2.2.2.2.2.2.2.1, ())))), ((u100000.2.1.1, (u100000.2.1.2.1, ())), ())))
          else
           some (.inl (((), ((), (u100000.1.2.2.2.1, (u100000.1.2.2.2.2.2.2.2.2.1, ())))), ((u100000.2.1.1, (u100000.2.1.2.1, ())), ())))
         else
          some (.inl (((), ((), (u100000.1.2.2.2.1, (u100000.1.2.2.2.2.2.2.2.2.1, ())))), ((u100000.2.1.1, (u100000.2.1.2.1, ())), ())))
      else
       if (u100000.1.2.2.2.2.2.2.2.2.2.2.1 == (18 : Int)) then
        if (u100000.1.2.2.2.2.2.2.2.2.2.1 == (16 : Int)) = true then
         if (u100000.1.2.2.2.2.2.1 == u100000.1.2.2.2.2.2.2.1) = false then
          if (u100000.1.2.2.2.2.2.2.2.2.2.1 == (17 : Int)) = true then
           if (u100000.1.2.2.2.2.2.1 != u100000.1.2.2.2.2.2.2.1) = false then
            if (u100000.1.2.2.2.2.2.2.2.2.2.1 == (18 : Int)) = true then
             (F_bp (u100000.1.2.2.2.2.2.1, ())).bind fun r59 =>
             (F_bp (u100000.1.2.2.2.2.2.2.1, ())).bind fun r60 =>
             if (ltI r59.1.1 r60.1.1) then
              some (.inl (((), ((), (u100000.1.2.2.2.2.1, (u100000.1.2.2.2.2.2.2.2.2.1, ())))), ((u100000.2.1.1, (u100000.2.1.2.1, ())), ())))
             else
              some (.inl (((), ((), (u100000.1.2.2.2.1, (u100000.1.2.2.2.2.2.2.2.2.1, ())))), ((u100000.2.1.1, (u100000.2.1.2.1, ())), ())))
            else
             some (.inl (((), ((), (u100000.1.2.2.2.1, (u100000.1.2.2.2.2.2.2.2.2.1, ())))), ((u100000.2.1.1, (u100000.2.1.2.1, ())), ())))
           else
            some (.inl (((), ((), (u100000.1.2.2.2.2.1, (u100000.1.2.2.2.2.2.2.2.2.1, ())))), ((u100000.2.1.1, (u100000.2.1.2.1, ())), ())))
          else
           if (u100000.1.2.2.2.2.2.2.2.2.2.1 == (18 : Int)) = true then
            (F_bp (u100000.1.2.2.2.2.2.1, ())).bind fun r61 =>
            (F_bp (u100000.1.2.2.2.2.2.2.1, ())).bind fun r62 =>
            if (ltI r61.1.1 r62.1.1) then
             some (.inl (((), ((), (u100000.1.2.2.2.2.1, (u100000.1.2.2.2.2.2.2.2.2.1, ())))), ((u100000.2.1.1, (u100000.2.1.2.1, ())), ())))
            else
             some (.inl (((), ((), (u100000.1.2.2.2.1, (u100000.1.2.2.2.2.2.2.2.2.1, ())))), ((u100000.2.1.1, (u100000.2.1.2.1, ())), ())))
           else
            some (.inl (((), ((), (u100000.1.2.2.2.1, (u100000.1.2.2.2.2.2.2.2.2.1, ())))), ((u100000.2.1.1, (u100000.2.1.2.1, ())), ())))
         else
          some (.inl (((), ((), (u100000.1.2.2.2.2.1, (u100000.1.2.2.2.2.2.2.2.2.1, ())))), ((u100000.2.1.1, (u100000.2.1.2.1, ())), ())))
        else
         if (u100000.1.2.2.2.2.2.2.2.2.2.1 == (17 : Int)) = true then
          if (u100000.1.2.2.2.2.2.1 != u100000.1.2.2.2.2.2.2.1) = false then
           if (u100000.1.2.2.2.2.2.2.2.2.2.1 == (18 : Int)) = true then
            (F_bp (u100000.1.2.2.2.2.2.1, ())).bind fun r63 =>
            (F_bp (u100000.1.2.2.2.2.2.2.1, ())).bind fun r64 =>
            if (ltI r63.1.1 r64.1.1) then
             some (.inl (((), ((), (u100000.1.2.2.2.2.1, (u100000.1.2.2.2.2.2.2.2.2.1, ())))), ((u100000.2.1.1, (u100000.2.1.2.1, ())), ())))
            else
             some (.inl (((), ((), (u100000.1.2.2.2.1, (u100000.1.2.2.2.2.2.2.2.2.1, ())))), ((u100000.2.1.1, (u100000.2.1.2.1, ())), ())))
           else
            some (.inl (((), ((), (u100000.1.2.2.2.1, (u100000.1.2.2.2.2.2.2.2.2.1, ())))), ((u100000.2.1.1, (u100000.2.1.2.1, ())), ())))
          else
           some (.inl (((), ((), (u100000.1.2.2.2.2.1, (u100000.1.2.2.2.2.2.2.2.2.1, ())))), ((u100000.2.1.1, (u100000.2.1.2.1, ())), ())))
         else
          if (u100000.1.2.2.2.2.2.2.2.2.2.1 == (18 : Int)) = true then
           (F_bp (u100000.1.2.2.2.2.2.1, ())).bind fun r65 =>
           (F_bp (u100000.1.2.2.2.2.2.2.1, ())).bind fun r66 =>
           if (ltI r65.1.1 r66.1.1) then
            some (.inl (((), ((), (u100000.1.2.2.2.2.1, (u100000.1.2.2.2.2.2.2.2.2.1, ())))), ((u100000.2.1.1, (u100000.2.1.2.1, ())), ())))
           else
            some (.inl (((), ((), (u100000.1.2.2.2.1, (u100000.1.2.2.2.2.2.2.2.2.1, ())))), ((u100000.2.1.1, (u100000.2.1.2.1, ())), ())))
          else
           some (.inl (((), ((), (u100000.1.2.2.2.1, (u100000.1.2.2.2.2.2.2.2.2.1, ())))), ((u100000.2.1.1, (u100000.2.1.2.1, ())), ())))
       else
        if (u100000.1.2.2.2.2.2.2.2.2.2.2.1 == (19 : Int)) then
         some (.inl (((), ((), (u100000.1.2.2.2.2.1, (u100000.1.2.2.2.1, ())))), ((u100000.2.1.1, (u100000.2.1.2.1, ())), ())))
        else
         if (u100000.1.2.2.2.2.2.2.2.2.2.2.1 == (20 : Int)) then
          some (.inl (((), ((), (u100000.1.2.2.2.2.2.2.2.1, (u100000.1.2.2.2.1, ())))), ((u100000.2.1.1, (u100000.2.1.2.1, ())), ())))
         else
          if (u100000.1.2.2.2.2.2.2.2.2.2.2.1 == (21 : Int)) then
           (F_bq ((u100000.2.1.2.1.1, (u100000.2.1.2.1.2.1, (u100000.2.1.2.1.2.2.1, (u100000.2.1.2.1.2.2.2.1, (u100000.2.1.2.1.2.2.2.2.1, (u100000.2.1.2.1.2.2.2.2.2.1, (u100000.2.1.2.1.2.2.2.2.2.2.1, (u100000.2.1.2.1.2.2.2.2.2.2.2.1, (u100000.2.1.2.1.2.2.2.2.2.2.2.2.1, ()))))))))), u100000.2.1.1.2.2.2.1, ())).bind fun r67 =>
           some (.inl (((), ((), (u100000.1.2.2.2.1, (r67.1.1, ())))), ((u100000.2.1.1, (u100000.2.1.2.1, ())), ())))
          else
           if (u100000.1.2.2.2.2.2.2.2.2.2.2.1 == (22 : Int)) then
            (F_bm ((u100000.2.1.2.1.1, (u100000.2.1.2.1.2.1, (u100000.2.1.2.1.2.2.1, (u100000.2.1.2.1.2.2.2.1, (u100000.2.1.2.1.2.2.2.2.1, (u100000.2.1.2.1.2.2.2.2.2.1, (u100000.2.1.2.1.2.2.2.2.2.2.1, (u100000.2.1.2.1.2.2.2.2.2.2.2.1, (u100000.2.1.2.1.2.2.2.2.2.2.2.2.1, ()))))))))), u100000.2.1.1.2.2.2.1, u100000.1.2.2.2.2.2.2.1, ())).bind fun r68 =>
            some (.inl (((), ((), (u100000.1.2.2.2.1, (u100000.1.2.2.2.2.2.2.2.2.1, ())))), ((u100000.2.1.1, ((r68.2.1.1, (r68.2.1.2.1, (r68.2.1.2.2.1, (r68.2.1.2.2.2.1, (r68.2.1.2.2.2.2.1, (r68.2.1.2.2.2.2.2.1, (r68.2.1.2.2.2.2.2.2.1, (r68.2.1.2.2.2.2.2.2.2.1, (r68.2.1.2.2.2.2.2.2.2.2.1, (u100000.2.1.2.1.2.2.2.2.2.2.2.2.2.1, (u100000.2.1.2.1.2.2.2.2.2.2.2.2.2.2.1, (u100000.2.1.2.1.2.2.2.2.2.2.2.2.2.2.2.1, (u100000.2.1.2.1.2.2.2.2.2.2.2.2.2.2.2.2.1, ()))))))))))))), ())), ())))
           else
            if (u100000.1.2.2.2.2.2.2.2.2.2.2.1 == (23 : Int)) then
             (F_av (u100000.2.1.2.1, (5 : Int), (0 : Int), ())).bind fun r69 =>
             some (.inr (.inl ((false, ()), ((r69.2.1, ()), ()))))
            else
             if (u100000.1.2.2.2.2.2.2.2.2.2.2.1 == (24 : Int)) then
              (F_br ((u100000.2.1.2.1.1, (u100000.2.1.2.1.2.1, (u100000.2.1.2.1.2.2.1, (u100000.2.1.2.1.2.2.2.1, (u100000.2.1.2.1.2.2.2.2.1, (u100000.2.1.2.1.2.2.2.2.2.1, (u100000.2.1.2.1.2.2.2.2.2.2.1, (u100000.2.1.2.1.2.2.2.2.2.2.2.1, (u100000.2.1.2.1.2.2.2.2.2.2.2.2.1, ()))))))))), ())).bind fun r70 =>
              some (.inl (((), ((), (r70.2.1.2.1, (u100000.1.2.2.2.2.2.2.2.2.1, ())))), ((u100000.2.1.1, ((r70.2.1.1, (r70.2.1.2.1, (r70.2.1.2.2.1, (r70.2.1.2.2.2.1, (r70.2.1.2.2.2.2.1, (r70.2.1.2.2.2.2.2.1, (r70.2.1.2.2.2.2.2.2.1, (r70.2.1.2.2.2.2.2.2.2.1, (r70.2.1.2.2.2.2.2.2.2.2.1, (u100000.2.1.2.1.2.2.2.2.2.2.2.2.2.1, (u100000.2.1.2.1.2.2.2.2.2.2.2.2.2.2.1, (u100000.2.1.2.1.2.2.2.2.2.2.2.2.2.2.2.1, (u100000.2.1.2.1.2.2.2.2.2.2.2.2.2.2.2.2.1, ()))))))))))))), ())), ())))
             else
              if (u100000.1.2.2.2.2.2.2.2.2.2.2.1 == (25 : Int)) then
               some (.inl (((), ((), (u100000.1.2.2.2.1, (u100000.1.2.2.2.2.2.2.2.2.1, ())))), ((u100000.2.1.1, ((u100000.2.1.2.1.1, (u100000.2.1.2.1.2.1, (u100000.2.1.2.1.2.2.1, (u100000.2.1.2.1.2.2.2.1, (true, (u100000.2.1.2.1.2.2.2.2.2.1, (u100000.2.1.2.1.2.2.2.2.2.2.1, (u100000.2.1.2.1.2.2.2.2.2.2.2.1, (u100000.2.1.2.1.2.2.2.2.2.2.2.2.1, (u100000.2.1.2.1.2.2.2.2.2.2.2.2.2.1, (u100000.2.1.2.1.2.2.2.2.2.2.2.2.2.2.1, (u100000.2.1.2.1.2.2.2.2.2.2.2.2.2.2.2.1, (u100000.2.1.2.1.2.2.2.2.2.2.2.2.2.2.2.2.1, ()))))))))))))), ())), ())))
              else
               if (u100000.1.2.2.2.2.2.2.2.2.2.2.1 == (26 : Int)) then
                some (.inl (((), ((), (u100000.1.2.2.1, (u100000.1.2.2.2.2.2.2.2.2.1, ())))), ((u100000.2.1.1, ((u100000.2.1.2.1.1, (u100000.2.1.2.1.2.1, (u100000.2.1.2.1.2.2.1, (true, (u100000.2.1.2.1.2.2.2.2.1, (u100000.2.1.2.1.2.2.2.2.2.1, (u100000.2.1.2.1.2.2.2.2.2.2.1, (u100000.2.1.2.1.2.2.2.2.2.2.2.1, (u100000.2.1.2.1.2.2.2.2.2.2.2.2.1, (u100000.2.1.2.1.2.2.2.2.2.2.2.2.2.1, (u100000.2.1.2.1.2.2.2.2.2.2.2.2.2.2.1, (u100000.2.1.2.1.2.2.2.2.2.2.2.2.2.2.2.1, (u100000.2.1.2.1.2.2.2.2.2.2.2.2.2.2.2.2.1, ()))))))))))))), ())), ())))
               else
                if 0 ≤ u100000.2.1.1.2.2.2.1 ∧ u100000.2.1.1.2.2.2.1 < ((u100000.2.1.2.1.1.length : Nat) : Int) then
                 ((u100000.2.1.2.1.1)[(u100000.2.1.1.2.2.2.1).toNat]?).bind fun y71 =>
                 (F_bx (u100000.1.2.2.2.2.2.2.2.2.2.1, u100000.1.2.2.2.2.2.2.1, y71, ())).bind fun r72 =>
                 some (.inl (((), ((), (u100000.1.2.2.2.1, (r72.1.1.2.1, ())))), ((u100000.2.1.1, (u100000.2.1.2.1, ())), ())))
                else none
def F_bz (x : denP P_bz) : Option (denV R_bz × denQ P_bz) :=
 (F_bi (x.1.2.1, (1 : Int), ())).bind fun r1 =>
 (F_bj (x.2.1.2.2.2.1, ())).bind fun r2 =>
 (F_bi (x.1.2.1, r2.1.1, ())).bind fun r3 =>
 if 0 ≤ x.2.1.2.1 ∧ x.2.1.2.1 < ((x.1.1.length : Nat) : Int) then
  ((x.1.1)[(x.2.1.2.1).toNat]?).bind fun y4 =>
  if 0 ≤ x.2.1.2.2.1 ∧ x.2.1.2.2.1 < ((x.1.1.length : Nat) : Int) then
   ((x.1.1)[(x.2.1.2.2.1).toNat]?).bind fun y5 =>
   (F_bj (x.2.1.2.2.2.1, ())).bind fun r6 =>
   (F_bi (y5, r6.1.1, ())).bind fun r7 =>
   (L_bz_100000 (((), ((), (x.1.2.1, (r1.1.1, (r3.1.1, (y4, (y5, (r7.1.1, ((0 : Int), (x.2.1.1, (x.2.1.1, ()))))))))))), (((x.2.1.1, (x.2.1.2.1, (x.2.1.2.2.1, (x.2.1.2.2.2.1, ())))), (x.1, ())), ()))).bind fun z73 =>
   match z73 with
   | .inl x74 =>
    (F_by (x74.2.1.1.1, ())).bind fun r75 =>
    if r75.1.1 = true then
     if (ltI (0 : Int) x74.2.1.1.2.1) then
      if 0 ≤ x74.2.1.1.2.1 ∧ x74.2.1.1.2.1 < ((x74.2.1.2.1.1.length : Nat) : Int) then
       ((x74.2.1.2.1.1)[(x74.2.1.1.2.1).toNat]?).bind fun y76 =>
       let v77 := (x74.2.1.2.1.1.set (x74.2.1.1.2.1).toNat x74.1.2.2.2.1)
       let v78 := (IntKind.i64.wrap (x74.2.1.2.1.2.2.2.2.2.2.1 + (1 : Int)))
       let v79 := (if (1000000000 : Int) < v78 then (1000000000 : Int) else v78)
       some ((true, ()), ((v77, (x74.1.2.2.1, (x74.2.1.2.1.2.2.1, (x74.2.1.2.1.2.2.2.1, (x74.2.1.2.1.2.2.2.2.1, (x74.2.1.2.1.2.2.2.2.2.1, (v79, (x74.2.1.2.1.2.2.2.2.2.2.2.1, (x74.2.1.2.1.2.2.2.2.2.2.2.2.1, (x74.2.1.2.1.2.2.2.2.2.2.2.2.2.1, (x74.2.1.2.1.2.2.2.2.2.2.2.2.2.2.1, (x74.2.1.2.1.2.2.2.2.2.2.2.2.2.2.2.1, (x74.2.1.2.1.2.2.2.2.2.2.2.2.2.2.2.2.1, ()))))))))))))), ()))
      else none
     else
      let v80 := (IntKind.i64.wrap (x74.2.1.2.1.2.2.2.2.2.2.1 + (1 : Int)))
      let v81 := (if (1000000000 : Int) < v80 then (1000000000 : Int) else v80)
      some ((true, ()), ((x74.2.1.2.1.1, (x74.1.2.2.1, (x74.2.1.2.1.2.2.1, (x74.2.1.2.1.2.2.2.1, (x74.2.1.2.1.2.2.2.2.1, (x74.2.1.2.1.2.2.2.2.2.1, (v81, (x74.2.1.2.1.2.2.2.2.2.2.2.1, (x74.2.1.2.1.2.2.2.2.2.2.2.2.1, (x74.2.1.2.1.2.2.2.2.2.2.2.2.2.1, (x74.2.1.2.1.2.2.2.2.2.2.2.2.2.2.1, (x74.2.1.2.1.2.2.2.2.2.2.2.2.2.2.2.1, (x74.2.1.2.1.2.2.2.2.2.2.2.2.2.2.2.2.1, ()))))))))))))), ()))
    else
     let v82 := (IntKind.i64.wrap (x74.2.1.2.1.2.2.2.2.2.2.1 + (1 : Int)))
     let v83 := (if (1000000000 : Int) < v82 then (1000000000 : Int) else v82)
     some ((true, ()), ((x74.2.1.2.1.1, (x74.1.2.2.1, (x74.2.1.2.1.2.2.1, (x74.2.1.2.1.2.2.2.1, (x74.2.1.2.1.2.2.2.2.1, (x74.2.1.2.1.2.2.2.2.2.1, (v83, (x74.2.1.2.1.2.2.2.2.2.2.2.1, (x74.2.1.2.1.2.2.2.2.2.2.2.2.1, (x74.2.1.2.1.2.2.2.2.2.2.2.2.2.1, (x74.2.1.2.1.2.2.2.2.2.2.2.2.2.2.1, (x74.2.1.2.1.2.2.2.2.2.2.2.2.2.2.2.1, (x74.2.1.2.1.2.2.2.2.2.2.2.2.2.2.2.2.1, ()))))))))))))), ()))
   | .inr z73_ =>
    match z73_ with
    | .inl x84 =>
     some ((x84.1.1, ()), (x84.2.1.1, ()))
    | .inr z73__ =>
     none
  else none
 else none
abbrev C_bz : Con := ⟨P_bz, R_bz, F_bz, false⟩
abbrev G_bz : Env := [(27, C_bi), (28, C_bj), (215, C_av), (262, C_bl), (263, C_bo), (264, C_bp), (265, C_bq), (266, C_bm), (267, C_br), (268, C_bx), (269, C_by)]
theorem g_bz : Qe Tryz.prog G_bz := (Qa s_bi (Qa s_bj (Qa s_av (Qa s_bl (Qa s_bo (Qa s_bp (Qa s_bq (Qa s_bm (Qa s_br (Qa s_bx (Qa s_by Qc)))))))))))
abbrev c_bz_100000 : Cut := ⟨i_bz_100000, o_bz_100000, L_bz_100000⟩
theorem t_bz_100000 (x) : run T G_bz [] (nav Tryz.f216 [1, 1, 1, 1, 1, 1, 0, 1, 1, 0]) (mk 214 i_bz_100000 x) (QmN 0 o_bz_100000) = L_bz_100000 x := by kernel_rfl
theorem k_bz_100000 : Qu Tryz.prog 214 (.block 0 (nav Tryz.f216 [1, 1, 1, 1, 1, 1, 0, 1, 1, 0])) c_bz_100000 :=
  Qpe (L := []) hT g_bz t_bz_100000 okP
theorem r_bz (x) : Qf T G_bz [(100000, c_bz_100000)] Tryz.f216 C_bz.ps C_bz.rs x = C_bz.F x := by kernel_rfl
theorem s_bz : Qb Tryz.prog 216 C_bz := fnC (L := [(100000, c_bz_100000)]) hT g_bz Tryz.f216 (okS okP (okS okP (okS okP (okS okP (okS okP (okS okP (okS (okS okP (okS okP (okX k_bz_100000))) okP))))))) r_bz
end Go.Proofs.YtajnommlfjfgpaaGreatDoor
