/- The functions of the laws, each as a plain function of data (F), and that the program's text does what F says. Printed by a program (wip/tools/gen.py). -/
import Derived.Test.YtilcgnimcdkfiaaGa1
namespace Go.Proofs.Ytilcgnimcdkfiaa
open Go Go.RowKit S Go.Proofs
set_option maxRecDepth 100000
set_option linter.unusedVariables false
/-! slices.insertionSortOrdered[int64] -/
abbrev P_bh : List PK := [.row 2 YI, .val YI, .val YI]
abbrev R_bh : List VK := []
abbrev i_bh_4 : Shp := { slots := [(0, .s (.ref 9000100)), (1, .s (.dat YI)), (2, .s (.dat YI)), (6, .s (.dat YI)), (7, .s (.dat YI))], boxes := [], rows := [(9000100, 2, YI)] }
abbrev o_bh_4 : List (Ex × Shp) := [(.exit 2, { slots := [(0, .s (.ref 9000100)), (1, .s (.dat YI)), (2, .s (.dat YI)), (6, .s (.dat YI))], boxes := [], rows := [(9000100, 2, YI)] })]
def l_bh_4 (rec : i_bh_4.den → Option (denO o_bh_4)) (u4 : i_bh_4.den) : Option (denO o_bh_4) :=
 if (ltI u4.1.2.1 u4.1.2.2.2.2.1) = true then
  if 0 ≤ u4.1.2.2.2.2.1 ∧ u4.1.2.2.2.2.1 < ((u4.2.2.1.length : Nat) : Int) then
   ((u4.2.2.1)[(u4.1.2.2.2.2.1).toNat]?).bind fun y18 =>
   let v19 := (IntKind.i64.wrap (u4.1.2.2.2.2.1 - (1 : Int)))
   if 0 ≤ v19 ∧ v19 < ((u4.2.2.1.length : Nat) : Int) then
    ((u4.2.2.1)[(v19).toNat]?).bind fun y20 =>
    (F_cmp_Less_int64 (y18, y20, ())).bind fun r21 =>
    if r21.1.1 then
     let v22 := (IntKind.i64.wrap (u4.1.2.2.2.2.1 - (1 : Int)))
     let v23 := (IntKind.i64.wrap (u4.1.2.2.2.2.1 - (1 : Int)))
     if 0 ≤ v23 ∧ v23 < ((u4.2.2.1.length : Nat) : Int) then
      ((u4.2.2.1)[(v23).toNat]?).bind fun y24 =>
      if 0 ≤ u4.1.2.2.2.2.1 ∧ u4.1.2.2.2.2.1 < ((u4.2.2.1.length : Nat) : Int) then
       ((u4.2.2.1)[(u4.1.2.2.2.2.1).toNat]?).bind fun y25 =>
       if 0 ≤ u4.1.2.2.2.2.1 ∧ u4.1.2.2.2.2.1 < ((u4.2.2.1.length : Nat) : Int) then
        ((u4.2.2.1)[(u4.1.2.2.2.2.1).toNat]?).bind fun y26 =>
        let v27 := (u4.2.2.1.set (u4.1.2.2.2.2.1).toNat y24)
        if 0 ≤ v22 ∧ v22 < ((v27.length : Nat) : Int) then
         ((v27)[(v22).toNat]?).bind fun y28 =>
         let v29 := (v27.set (v22).toNat y25)
         let v30 := (IntKind.i64.wrap (u4.1.2.2.2.2.1 - (1 : Int)))
         rec (((), (u4.1.2.1, (u4.1.2.2.1, (u4.1.2.2.2.1, (v30, ()))))), ((), (v29, ())))
        else none
       else none
      else none
     else none
    else
     some (.inl (((), (u4.1.2.1, (u4.1.2.2.1, (u4.1.2.2.2.1, ())))), ((), (u4.2.2.1, ()))))
   else none
  else none
 else
  some (.inl (((), (u4.1.2.1, (u4.1.2.2.1, (u4.1.2.2.2.1, ())))), ((), (u4.2.2.1, ()))))
def L_bh_4 (x : i_bh_4.den) : Option (denO o_bh_4) := iterF l_bh_4 lots x
abbrev i_bh_1 : Shp := { slots := [(0, .s (.ref 9000100)), (1, .s (.dat YI)), (2, .s (.dat YI)), (6, .s (.dat YI))], boxes := [], rows := [(9000100, 2, YI)] }
abbrev o_bh_1 : List (Ex × Shp) := [(.exit 0, { slots := [], boxes := [], rows := [(9000100, 2, YI)] })]
def l_bh_1 (rec : i_bh_1.den → Option (denO o_bh_1)) (u1 : i_bh_1.den) : Option (denO o_bh_1) :=
 if (ltI u1.1.2.2.2.1 u1.1.2.2.1) then
  (L_bh_4 (((), (u1.1.2.1, (u1.1.2.2.1, (u1.1.2.2.2.1, (u1.1.2.2.2.1, ()))))), ((), (u1.2.2.1, ())))).bind fun z31 =>
  match z31 with
  | .inl x32 =>
   let v33 := (IntKind.i64.wrap (x32.1.2.2.2.1 + (1 : Int)))
   rec (((), (x32.1.2.1, (x32.1.2.2.1, (v33, ())))), ((), (x32.2.2.1, ())))
  | .inr z31_ =>
   none
 else
  some (.inl ((), ((), (u1.2.2.1, ()))))
def L_bh_1 (x : i_bh_1.den) : Option (denO o_bh_1) := iterF l_bh_1 lots x
def F_bh (x : denP P_bh) : Option (denV R_bh × denQ P_bh) :=
 let v1 := (IntKind.i64.wrap (x.2.1 + (1 : Int)))
 (L_bh_1 (((), (x.2.1, (x.2.2.1, (v1, ())))), ((), (x.1, ())))).bind fun z34 =>
 match z34 with
 | .inl x35 =>
  if (x.1.length == x35.2.2.1.length && true) = true then
   some ((), (x35.2.2.1, ()))
  else none
 | .inr z34_ =>
  none
abbrev C_bh : Con := ⟨P_bh, R_bh, F_bh, false⟩
abbrev G_bh : Env := [(112, C_cmp_Less_int64)]
theorem g_bh : EnvOk Try.prog G_bh := (env_cons s_cmp_Less_int64 env_nil)
abbrev c_bh_4 : Cut := ⟨i_bh_4, o_bh_4, fun x => iterF l_bh_4 lots x⟩
theorem t_bh_4 (rec x) : run T G_bh [] (nav Try.f106 [1, 0, 0, 1, 0, 0, 1, 0, 0]) (mk 49 i_bh_4 x) (loopK i_bh_4 o_bh_4 rec) = l_bh_4 rec x := by kernel_rfl
theorem k_bh_4 : CutOk Try.prog 49 (.loop (nav Try.f106 [1, 0, 0, 1, 0, 0, 1, 0, 0])) c_bh_4 :=
  loop_cut (L := []) hT g_bh t_bh_4 okP _
abbrev c_bh_1 : Cut := ⟨i_bh_1, o_bh_1, fun x => iterF l_bh_1 lots x⟩
theorem t_bh_1 (rec x) : run T G_bh [(4, c_bh_4)] (nav Try.f106 [1, 0, 0]) (mk 49 i_bh_1 x) (loopK i_bh_1 o_bh_1 rec) = l_bh_1 rec x := by kernel_rfl
theorem k_bh_1 : CutOk Try.prog 49 (.loop (nav Try.f106 [1, 0, 0])) c_bh_1 :=
  loop_cut (L := [(4, c_bh_4)]) hT g_bh t_bh_1 (okS okP (okS (okB (okS okP (okB (okU k_bh_4)))) okP)) _
theorem r_bh (x) : runFn T G_bh [(4, c_bh_4), (1, c_bh_1)] Try.f106 C_bh.ps C_bh.rs x = C_bh.F x := by kernel_rfl
theorem s_bh : CallsOk Try.prog 106 C_bh := fnC (L := [(4, c_bh_4), (1, c_bh_1)]) hT g_bh Try.f106 (okS okP (okB (okU k_bh_1))) r_bh
/-! slices.pdqsortOrdered[int64] -/
abbrev P_bi : List PK := [.row 2 YI, .val YI, .val YI, .val YI]
abbrev R_bi : List VK := []
abbrev i_bi_2 : Shp := { slots := [(0, .s (.ref 9000100)), (1, .s (.dat YI)), (2, .s (.dat YI)), (3, .s (.dat YI)), (8, .s (.dat .bool)), (9, .s (.dat .bool))], boxes := [], rows := [(9000100, 2, YI)] }
abbrev o_bi_2 : List (Ex × Shp) := [(.ret, { slots := [], boxes := [], rows := [(9000100, 2, YI)] })]
def l_bi_2 (rec : i_bi_2.den → Option (denO o_bi_2)) (u2 : i_bi_2.den) : Option (denO o_bi_2) :=
 let v2 := (IntKind.i64.wrap (u2.1.2.2.1 - u2.1.2.1))
 if (leI v2 (12 : Int)) then
  (F_bh (u2.2.2.1, u2.1.2.1, u2.1.2.2.1, ())).bind fun r3 =>
  if ((u2.2.2.1.length == r3.2.1.length && true) && true) = true then
   some (.inl ((), ((), (r3.2.1, ()))))
  else none
 else
  if (u2.1.2.2.2.1 == (0 : Int)) then none else
  if (!u2.1.2.2.2.2.1) then
   none
  else none
def L_bi_2 (x : i_bi_2.den) : Option (denO o_bi_2) := iterF l_bi_2 lots x
def F_bi (x : denP P_bi) : Option (denV R_bi × denQ P_bi) :=
 (L_bi_2 (((), (x.2.1, (x.2.2.1, (x.2.2.2.1, (true, (true, ())))))), ((), (x.1, ())))).bind fun z4 =>
 match z4 with
 | .inl x5 =>
  if (x.1.length == x5.2.2.1.length && true) = true then
   some ((), (x5.2.2.1, ()))
  else none
 | .inr z4_ =>
  none
abbrev C_bi : Con := ⟨P_bi, R_bi, F_bi, false⟩
abbrev G_bi : Env := [(106, C_bh)]
theorem g_bi : EnvOk Try.prog G_bi := (env_cons s_bh env_nil)
abbrev c_bi_2 : Cut := ⟨i_bi_2, o_bi_2, fun x => iterF l_bi_2 lots x⟩
theorem t_bi_2 (rec x) : run T G_bi [] (nav Try.f89 [1, 1, 0, 0]) (mk 134 i_bi_2 x) (loopK i_bi_2 o_bi_2 rec) = l_bi_2 rec x := by kernel_rfl
theorem k_bi_2 : CutOk Try.prog 134 (.loop (nav Try.f89 [1, 1, 0, 0])) c_bi_2 :=
  loop_cut (L := []) hT g_bi t_bi_2 okP _
theorem r_bi (x) : runFn T G_bi [(2, c_bi_2)] Try.f89 C_bi.ps C_bi.rs x = C_bi.F x := by kernel_rfl
theorem s_bi : CallsOk Try.prog 89 C_bi := fnC (L := [(2, c_bi_2)]) hT g_bi Try.f89 (okS okP (okS okP (okB (okU k_bi_2)))) r_bi
/-! slices.Sort[int64,int64] -/
abbrev P_bj : List PK := [.row 2 YI]
abbrev R_bj : List VK := []
def F_bj (x : denP P_bj) : Option (denV R_bj × denQ P_bj) :=
 let v1 := ((x.1.length : Nat) : Int)
 let v2 := (IntKind.u64.wrap v1)
 (F_bg (v2, ())).bind fun r3 =>
 (F_bi (x.1, (0 : Int), v1, r3.1.1, ())).bind fun r4 =>
 if ((x.1.length == r4.2.1.length && true) && true) = true then
  if (x.1.length == r4.2.1.length && true) = true then
   some ((), (r4.2.1, ()))
  else none
 else none
abbrev C_bj : Con := ⟨P_bj, R_bj, F_bj, false⟩
abbrev G_bj : Env := [(89, C_bi), (90, C_bg)]
theorem g_bj : EnvOk Try.prog G_bj := (env_cons s_bi (env_cons s_bg env_nil))
theorem r_bj (x) : runFn T G_bj [] Try.f62 C_bj.ps C_bj.rs x = C_bj.F x := by kernel_rfl
theorem s_bj : CallsOk Try.prog 62 C_bj := fnC (L := []) hT g_bj Try.f62 okP r_bj
/-! (*impl.Policy).reachTo -/
abbrev P_bk : List PK := [.ptr Y28, .val YI]
abbrev R_bk : List VK := [.s (.own 2 YI)]
abbrev i_bk_6 : Shp := { slots := [(0, .s (.pd Y28)), (5, .s (.own 2 YI)), (6, .s (.dat YI)), (23, .s (.own 2 YI)), (24, .s (.dat YI)), (25, .s (.dat YI))], boxes := [], rows := [] }
abbrev o_bk_6 : List (Ex × Shp) := [(.exit 2, { slots := [(0, .s (.pd Y28)), (5, .s (.own 2 YI)), (6, .s (.dat YI))], boxes := [], rows := [] })]
def l_bk_6 (rec : i_bk_6.den → Option (denO o_bk_6)) (u6 : i_bk_6.den) : Option (denO o_bk_6) :=
 if (ltI u6.1.2.2.2.2.2.1 u6.1.2.2.2.2.1) then
  if 0 ≤ u6.1.2.2.2.2.2.1 ∧ u6.1.2.2.2.2.2.1 < ((u6.1.2.2.2.1.length : Nat) : Int) then
   ((u6.1.2.2.2.1)[(u6.1.2.2.2.2.2.1).toNat]?).bind fun y14 =>
   (F_aj (u6.1.2.1, y14, ())).bind fun r15 =>
   if (!r15.1.1) then
    if (u6.1.2.1.length + [y14].length) * 8 ≤ 140737488355328 then
     let v16 := (u6.1.2.1 ++ [y14])
     let v17 := (IntKind.i64.wrap (u6.1.2.2.2.2.2.1 + (1 : Int)))
     rec ((u6.1.1, (v16, (u6.1.2.2.1, (u6.1.2.2.2.1, (u6.1.2.2.2.2.1, (v17, ())))))), ((), ()))
    else none
   else
    let v18 := (IntKind.i64.wrap (u6.1.2.2.2.2.2.1 + (1 : Int)))
    rec ((u6.1.1, (u6.1.2.1, (u6.1.2.2.1, (u6.1.2.2.2.1, (u6.1.2.2.2.2.1, (v18, ())))))), ((), ()))
  else none
 else
  some (.inl ((u6.1.1, (u6.1.2.1, (u6.1.2.2.1, ()))), ((), ())))
def L_bk_6 (x : i_bk_6.den) : Option (denO o_bk_6) := iterF l_bk_6 lots x
abbrev i_bk_3 : Shp := { slots := [(0, .s (.pd Y28)), (5, .s (.own 2 YI)), (6, .s (.dat YI))], boxes := [], rows := [] }
abbrev o_bk_3 : List (Ex × Shp) := [(.exit 0, { slots := [(5, .s (.own 2 YI))], boxes := [], rows := [] })]
def l_bk_3 (rec : i_bk_3.den → Option (denO o_bk_3)) (u3 : i_bk_3.den) : Option (denO o_bk_3) :=
 let v8 := ((u3.1.2.1.length : Nat) : Int)
 if (ltI u3.1.2.2.1 v8) then
  if 0 ≤ u3.1.2.2.1 ∧ u3.1.2.2.1 < ((u3.1.2.1.length : Nat) : Int) then
   ((u3.1.2.1)[(u3.1.2.2.1).toNat]?).bind fun y9 =>
   (F_bc (u3.1.1, y9, ())).bind fun r10 =>
   let v11 := ((r10.1.1.length : Nat) : Int)
   (L_bk_6 ((u3.1.1, (u3.1.2.1, (u3.1.2.2.1, (r10.1.1, (v11, ((0 : Int), ())))))), ((), ()))).bind fun z19 =>
   match z19 with
   | .inl x20 =>
    let v21 := (IntKind.i64.wrap (x20.1.2.2.1 + (1 : Int)))
    rec ((x20.1.1, (x20.1.2.1, (v21, ()))), ((), ()))
   | .inr z19_ =>
    none
  else none
 else
  some (.inl ((u3.1.2.1, ()), ((), ())))
def L_bk_3 (x : i_bk_3.den) : Option (denO o_bk_3) := iterF l_bk_3 lots x
def F_bk (x : denP P_bk) : Option (denV R_bk × denQ P_bk) :=
 (F_bc (x.1, x.2.1, ())).bind fun r1 =>
 (L_bk_3 ((x.1, (r1.1.1, ((0 : Int), ()))), ((), ()))).bind fun z22 =>
 match z22 with
 | .inl x23 =>
  (F_bj (x23.1.1, ())).bind fun r24 =>
  if ((x23.1.1.length == r24.2.1.length && true) && true) = true then
   some ((r24.2.1, ()), ())
  else none
 | .inr z22_ =>
  none
abbrev C_bk : Con := ⟨P_bk, R_bk, F_bk, false⟩
abbrev G_bk : Env := [(47, C_aj), (62, C_bj), (81, C_bc)]
theorem g_bk : EnvOk Try.prog G_bk := (env_cons s_aj (env_cons s_bj (env_cons s_bc env_nil)))
abbrev c_bk_6 : Cut := ⟨i_bk_6, o_bk_6, fun x => iterF l_bk_6 lots x⟩
theorem t_bk_6 (rec x) : run T G_bk [] (nav Try.f44 [1, 1, 0, 1, 0, 0, 1, 0, 0, 1, 0, 0]) (mk 41 i_bk_6 x) (loopK i_bk_6 o_bk_6 rec) = l_bk_6 rec x := by kernel_rfl
theorem k_bk_6 : CutOk Try.prog 41 (.loop (nav Try.f44 [1, 1, 0, 1, 0, 0, 1, 0, 0, 1, 0, 0])) c_bk_6 :=
  loop_cut (L := []) hT g_bk t_bk_6 okP _
abbrev c_bk_3 : Cut := ⟨i_bk_3, o_bk_3, fun x => iterF l_bk_3 lots x⟩
theorem t_bk_3 (rec x) : run T G_bk [(6, c_bk_6)] (nav Try.f44 [1, 1, 0, 1, 0, 0]) (mk 41 i_bk_3 x) (loopK i_bk_3 o_bk_3 rec) = l_bk_3 rec x := by kernel_rfl
theorem k_bk_3 : CutOk Try.prog 41 (.loop (nav Try.f44 [1, 1, 0, 1, 0, 0])) c_bk_3 :=
  loop_cut (L := [(6, c_bk_6)]) hT g_bk t_bk_3 (okS okP (okS (okB (okS okP (okB (okU k_bk_6)))) okP)) _
theorem r_bk (x) : runFn T G_bk [(6, c_bk_6), (3, c_bk_3)] Try.f44 C_bk.ps C_bk.rs x = C_bk.F x := by kernel_rfl
theorem s_bk : CallsOk Try.prog 44 C_bk := fnC (L := [(6, c_bk_6), (3, c_bk_3)]) hT g_bk Try.f44 (okS okP (okS okP (okS (okS okP (okB (okU k_bk_3))) okP))) r_bk
/-! impl.StrangersTo.1 -/
abbrev P_bl_1 : List PK := [.val YI, .ptr YI, .ptr Y47]
abbrev R_bl_1 : List VK := [.s (.dat .bool)]
def F_bl_1 (x : denP P_bl_1) : Option (denV R_bl_1 × denQ P_bl_1) :=
 if (x.1 != x.2.1) = true then
  (F_aj (x.2.2.1, x.1, ())).bind fun r1 =>
  some (((!r1.1.1), ()), ())
 else
  some ((false, ()), ())
abbrev C_bl_1 : Con := ⟨P_bl_1, R_bl_1, F_bl_1, false⟩
abbrev G_bl_1 : Env := [(47, C_aj)]
theorem g_bl_1 : EnvOk Try.prog G_bl_1 := (env_cons s_aj env_nil)
theorem r_bl_1 (x) : runFn T G_bl_1 [] Try.f46 C_bl_1.ps C_bl_1.rs x = C_bl_1.F x := by kernel_rfl
theorem s_bl_1 : CallsOk Try.prog 46 C_bl_1 := fnC (L := []) hT g_bl_1 Try.f46 okP r_bl_1
/-! (*impl.Policy).guests -/
abbrev P_bm_1 : List PK := [.ptr Y28, .fn 46 [YI, Y47]]
abbrev R_bm_1 : List VK := [.s (.own 2 YI)]
abbrev i_bn_3 : Shp := { slots := [(1, .s (.fn 46 [YI, Y47])), (5, .s (.own 2 YI)), (12, .s (.dat YI)), (13, .s (.dat YI))], boxes := [], rows := [] }
abbrev o_bn_3 : List (Ex × Shp) := [(.exit 0, { slots := [(5, .s (.own 2 YI))], boxes := [], rows := [] })]
def l_bn_3 (rec : i_bn_3.den → Option (denO o_bn_3)) (u3 : i_bn_3.den) : Option (denO o_bn_3) :=
 if (ltI u3.1.2.2.2.1 u3.1.2.2.1) then
  (F_bl_1 (u3.1.2.2.2.1, u3.1.1.1, u3.1.1.2.1, ())).bind fun r3 =>
  if r3.1.1 then
   if (u3.1.2.1.length + [u3.1.2.2.2.1].length) * 8 ≤ 140737488355328 then
    let v4 := (u3.1.2.1 ++ [u3.1.2.2.2.1])
    let v5 := (IntKind.i64.wrap (u3.1.2.2.2.1 + (1 : Int)))
    rec (((u3.1.1.1, (u3.1.1.2.1, ())), (v4, (u3.1.2.2.1, (v5, ())))), ((), ()))
   else none
  else
   let v6 := (IntKind.i64.wrap (u3.1.2.2.2.1 + (1 : Int)))
   rec (((u3.1.1.1, (u3.1.1.2.1, ())), (u3.1.2.1, (u3.1.2.2.1, (v6, ())))), ((), ()))
 else
  some (.inl ((u3.1.2.1, ()), ((), ())))
def L_bn_3 (x : i_bn_3.den) : Option (denO o_bn_3) := iterF l_bn_3 lots x
def F_bm_1 (x : denP P_bm_1) : Option (denV R_bm_1 × denQ P_bm_1) :=
 let v1 := ((x.1.1.length : Nat) : Int)
 (L_bn_3 (((x.2.1.1, (x.2.1.2.1, ())), (([] : List (den YI)), (v1, ((0 : Int), ())))), ((), ()))).bind fun z7 =>
 match z7 with
 | .inl x8 =>
  some ((x8.1.1, ()), ())
 | .inr z7_ =>
  none
abbrev C_bm_1 : Con := ⟨P_bm_1, R_bm_1, F_bm_1, false⟩
abbrev G_bm_1 : Env := [(46, C_bl_1)]
theorem g_bm_1 : EnvOk Try.prog G_bm_1 := (env_cons s_bl_1 env_nil)
abbrev c_bn_3 : Cut := ⟨i_bn_3, o_bn_3, fun x => iterF l_bn_3 lots x⟩
theorem t_bn_3 (rec x) : run T G_bm_1 [] (nav Try.f45 [1, 1, 0, 1, 0, 0]) (mk 25 i_bn_3 x) (loopK i_bn_3 o_bn_3 rec) = l_bn_3 rec x := by kernel_rfl
theorem k_bn_3 : CutOk Try.prog 25 (.loop (nav Try.f45 [1, 1, 0, 1, 0, 0])) c_bn_3 :=
  loop_cut (L := []) hT g_bm_1 t_bn_3 okP _
theorem r_bm_1 (x) : runFn T G_bm_1 [(3, c_bn_3)] Try.f45 C_bm_1.ps C_bm_1.rs x = C_bm_1.F x := by kernel_rfl
theorem s_bm_1 : CallsOk Try.prog 45 C_bm_1 := fnC (L := [(3, c_bn_3)]) hT g_bm_1 Try.f45 (okS okP (okS okP (okS (okS okP (okB (okU k_bn_3))) okP))) r_bm_1
/-! impl.StrangersTo -/
abbrev P_bl : List PK := [.val Y28, .val YI]
abbrev R_bl : List VK := [.g [.dat YI, .own 2 YI]]
def F_bl (x : denP P_bl) : Option (denV R_bl × denQ P_bl) :=
 (F_ax (x.1, x.2.1, ())).bind fun r1 =>
 if (r1.1.1 != (0 : Int)) then
  some (((r1.1.1, (([] : List (den YI)), ())), ()), ())
 else
  (F_bk (x.1, x.2.1, ())).bind fun r2 =>
  (F_bm_1 (x.1, (x.2.1, (r2.1.1, ())), ())).bind fun r3 =>
  some ((((0 : Int), (r3.1.1, ())), ()), ())
abbrev C_bl : Con := ⟨P_bl, R_bl, F_bl, false⟩
abbrev G_bl : Env := [(25, C_ax), (44, C_bk), (45, C_bm_1)]
theorem g_bl : EnvOk Try.prog G_bl := (env_cons s_ax (env_cons s_bk (env_cons s_bm_1 env_nil)))
theorem r_bl (x) : runFn T G_bl [] Try.f16 C_bl.ps C_bl.rs x = C_bl.F x := by kernel_rfl
theorem s_bl : CallsOk Try.prog 16 C_bl := fnC (L := []) hT g_bl Try.f16 okP r_bl
/-! laws.eqInt64S -/
abbrev P_bo : List PK := [.val Y47, .val Y47]
abbrev R_bo : List VK := [.s (.dat .bool)]
abbrev i_bo_4 : Shp := { slots := [(0, .s (.dat Y47)), (1, .s (.dat Y47)), (5, .s (.dat YI))], boxes := [], rows := [] }
abbrev o_bo_4 : List (Ex × Shp) := [(.exit 0, { slots := [], boxes := [], rows := [] }), (.ret, { slots := [(4, .s (.dat .bool))], boxes := [], rows := [] })]
def l_bo_4 (rec : i_bo_4.den → Option (denO o_bo_4)) (u4 : i_bo_4.den) : Option (denO o_bo_4) :=
 let v5 := ((u4.1.1.length : Nat) : Int)
 if (ltI u4.1.2.2.1 v5) then
  if 0 ≤ u4.1.2.2.1 then
   ((u4.1.1)[(u4.1.2.2.1).toNat]?).bind fun y6 =>
   if 0 ≤ u4.1.2.2.1 then
    ((u4.1.2.1)[(u4.1.2.2.1).toNat]?).bind fun y7 =>
    if (y6 != y7) then
     some (.inr (.inl ((false, ()), ((), ()))))
    else
     let v8 := (IntKind.i64.wrap (u4.1.2.2.1 + (1 : Int)))
     rec ((u4.1.1, (u4.1.2.1, (v8, ()))), ((), ()))
   else none
  else none
 else
  some (.inl ((), ((), ())))
def L_bo_4 (x : i_bo_4.den) : Option (denO o_bo_4) := iterF l_bo_4 lots x
def F_bo (x : denP P_bo) : Option (denV R_bo × denQ P_bo) :=
 let v1 := ((x.1.length : Nat) : Int)
 let v2 := ((x.2.1.length : Nat) : Int)
 if (v1 != v2) then
  some ((false, ()), ())
 else
  (L_bo_4 ((x.1, (x.2.1, ((0 : Int), ()))), ((), ()))).bind fun z9 =>
  match z9 with
  | .inl x10 =>
   some ((true, ()), ())
  | .inr z9_ =>
   match z9_ with
   | .inl x11 =>
    some ((x11.1.1, ()), ())
   | .inr z9__ =>
    none
abbrev C_bo : Con := ⟨P_bo, R_bo, F_bo, false⟩
abbrev G_bo : Env := []
theorem g_bo : EnvOk Try.prog G_bo := env_nil
abbrev c_bo_4 : Cut := ⟨i_bo_4, o_bo_4, fun x => iterF l_bo_4 lots x⟩
theorem t_bo_4 (rec x) : run T G_bo [] (nav Try.f48 [1, 1, 0, 1, 0, 0]) (mk 26 i_bo_4 x) (loopK i_bo_4 o_bo_4 rec) = l_bo_4 rec x := by kernel_rfl
theorem k_bo_4 : CutOk Try.prog 26 (.loop (nav Try.f48 [1, 1, 0, 1, 0, 0])) c_bo_4 :=
  loop_cut (L := []) hT g_bo t_bo_4 okP _
theorem r_bo (x) : runFn T G_bo [(4, c_bo_4)] Try.f48 C_bo.ps C_bo.rs x = C_bo.F x := by kernel_rfl
theorem s_bo : CallsOk Try.prog 48 C_bo := fnC (L := [(4, c_bo_4)]) hT g_bo Try.f48 (okS okP (okS okP (okS (okS okP (okB (okU k_bo_4))) okP))) r_bo
/-! laws.eqIntsResult -/
abbrev P_bp : List PK := [.val Y48, .val Y48]
abbrev R_bp : List VK := [.s (.dat .bool)]
def F_bp (x : denP P_bp) : Option (denV R_bp × denQ P_bp) :=
 if (x.1.1 != x.2.1.1) then
  some ((false, ()), ())
 else
  (F_bo (x.1.2.1, x.2.1.2.1, ())).bind fun r1 =>
  if (!r1.1.1) then
   some ((false, ()), ())
  else
   some ((true, ()), ())
abbrev C_bp : Con := ⟨P_bp, R_bp, F_bp, false⟩
abbrev G_bp : Env := [(48, C_bo)]
theorem g_bp : EnvOk Try.prog G_bp := (env_cons s_bo env_nil)
theorem r_bp (x) : runFn T G_bp [] Try.f17 C_bp.ps C_bp.rs x = C_bp.F x := by kernel_rfl
theorem s_bp : CallsOk Try.prog 17 C_bp := fnC (L := []) hT g_bp Try.f17 okP r_bp
/-! laws.eqInt64SS -/
abbrev P_bq : List PK := [.val Y24, .val Y24]
abbrev R_bq : List VK := [.s (.dat .bool)]
abbrev i_bq_4 : Shp := { slots := [(0, .s (.dat Y24)), (1, .s (.dat Y24)), (5, .s (.dat YI))], boxes := [], rows := [] }
abbrev o_bq_4 : List (Ex × Shp) := [(.exit 0, { slots := [], boxes := [], rows := [] }), (.ret, { slots := [(4, .s (.dat .bool))], boxes := [], rows := [] })]
def l_bq_4 (rec : i_bq_4.den → Option (denO o_bq_4)) (u4 : i_bq_4.den) : Option (denO o_bq_4) :=
 let v6 := ((u4.1.1.length : Nat) : Int)
 if (ltI u4.1.2.2.1 v6) then
  if 0 ≤ u4.1.2.2.1 then
   ((u4.1.1)[(u4.1.2.2.1).toNat]?).bind fun y7 =>
   if 0 ≤ u4.1.2.2.1 then
    ((u4.1.2.1)[(u4.1.2.2.1).toNat]?).bind fun y8 =>
    (F_bo (y7, y8, ())).bind fun r9 =>
    if (!r9.1.1) then
     some (.inr (.inl ((false, ()), ((), ()))))
    else
     let v10 := (IntKind.i64.wrap (u4.1.2.2.1 + (1 : Int)))
     rec ((u4.1.1, (u4.1.2.1, (v10, ()))), ((), ()))
   else none
  else none
 else
  some (.inl ((), ((), ())))
def L_bq_4 (x : i_bq_4.den) : Option (denO o_bq_4) := iterF l_bq_4 lots x
def F_bq (x : denP P_bq) : Option (denV R_bq × denQ P_bq) :=
 let v1 := ((x.1.length : Nat) : Int)
 let v2 := ((x.2.1.length : Nat) : Int)
 if (v1 != v2) then
  some ((false, ()), ())
 else
  (L_bq_4 ((x.1, (x.2.1, ((0 : Int), ()))), ((), ()))).bind fun z11 =>
  match z11 with
  | .inl x12 =>
   some ((true, ()), ())
  | .inr z11_ =>
   match z11_ with
   | .inl x13 =>
    some ((x13.1.1, ()), ())
   | .inr z11__ =>
    none
abbrev C_bq : Con := ⟨P_bq, R_bq, F_bq, false⟩
abbrev G_bq : Env := [(48, C_bo)]
theorem g_bq : EnvOk Try.prog G_bq := (env_cons s_bo env_nil)
abbrev c_bq_4 : Cut := ⟨i_bq_4, o_bq_4, fun x => iterF l_bq_4 lots x⟩
theorem t_bq_4 (rec x) : run T G_bq [] (nav Try.f49 [1, 1, 0, 1, 0, 0]) (mk 27 i_bq_4 x) (loopK i_bq_4 o_bq_4 rec) = l_bq_4 rec x := by kernel_rfl
theorem k_bq_4 : CutOk Try.prog 27 (.loop (nav Try.f49 [1, 1, 0, 1, 0, 0])) c_bq_4 :=
  loop_cut (L := []) hT g_bq t_bq_4 okP _
theorem r_bq (x) : runFn T G_bq [(4, c_bq_4)] Try.f49 C_bq.ps C_bq.rs x = C_bq.F x := by kernel_rfl
theorem s_bq : CallsOk Try.prog 49 C_bq := fnC (L := [(4, c_bq_4)]) hT g_bq Try.f49 (okS okP (okS okP (okS (okS okP (okB (okU k_bq_4))) okP))) r_bq
/-! laws.eqLane -/
abbrev P_br : List PK := [.val Y104, .val Y104]
abbrev R_br : List VK := [.s (.dat .bool)]
def F_br (x : denP P_br) : Option (denV R_br × denQ P_br) :=
 if (x.1.1 != x.2.1.1) then
  some ((false, ()), ())
 else
  if (x.1.2.1 != x.2.1.2.1) then
   some ((false, ()), ())
  else
   if (x.1.2.2.1 != x.2.1.2.2.1) then
    some ((false, ()), ())
   else
    if (x.1.2.2.2.1 != x.2.1.2.2.2.1) then
     some ((false, ()), ())
    else
     if (x.1.2.2.2.2.1 != x.2.1.2.2.2.2.1) then
      some ((false, ()), ())
     else
      some ((true, ()), ())
abbrev C_br : Con := ⟨P_br, R_br, F_br, false⟩
abbrev G_br : Env := []
theorem g_br : EnvOk Try.prog G_br := env_nil
theorem r_br (x) : runFn T G_br [] Try.f83 C_br.ps C_br.rs x = C_br.F x := by kernel_rfl
theorem s_br : CallsOk Try.prog 83 C_br := fnC (L := []) hT g_br Try.f83 okP r_br
/-! laws.eqLaneS -/
abbrev P_bs : List PK := [.val Y25, .val Y25]
abbrev R_bs : List VK := [.s (.dat .bool)]
abbrev i_bs_4 : Shp := { slots := [(0, .s (.dat Y25)), (1, .s (.dat Y25)), (5, .s (.dat YI))], boxes := [], rows := [] }
abbrev o_bs_4 : List (Ex × Shp) := [(.exit 0, { slots := [], boxes := [], rows := [] }), (.ret, { slots := [(4, .s (.dat .bool))], boxes := [], rows := [] })]
def l_bs_4 (rec : i_bs_4.den → Option (denO o_bs_4)) (u4 : i_bs_4.den) : Option (denO o_bs_4) :=
 let v6 := ((u4.1.1.length : Nat) : Int)
 if (ltI u4.1.2.2.1 v6) then
  if 0 ≤ u4.1.2.2.1 then
   ((u4.1.1)[(u4.1.2.2.1).toNat]?).bind fun y7 =>
   if 0 ≤ u4.1.2.2.1 then
    ((u4.1.2.1)[(u4.1.2.2.1).toNat]?).bind fun y8 =>
    (F_br (y7, y8, ())).bind fun r9 =>
    if (!r9.1.1) then
     some (.inr (.inl ((false, ()), ((), ()))))
    else
     let v10 := (IntKind.i64.wrap (u4.1.2.2.1 + (1 : Int)))
     rec ((u4.1.1, (u4.1.2.1, (v10, ()))), ((), ()))
   else none
  else none
 else
  some (.inl ((), ((), ())))
def L_bs_4 (x : i_bs_4.den) : Option (denO o_bs_4) := iterF l_bs_4 lots x
def F_bs (x : denP P_bs) : Option (denV R_bs × denQ P_bs) :=
 let v1 := ((x.1.length : Nat) : Int)
 let v2 := ((x.2.1.length : Nat) : Int)
 if (v1 != v2) then
  some ((false, ()), ())
 else
  (L_bs_4 ((x.1, (x.2.1, ((0 : Int), ()))), ((), ()))).bind fun z11 =>
  match z11 with
  | .inl x12 =>
   some ((true, ()), ())
  | .inr z11_ =>
   match z11_ with
   | .inl x13 =>
    some ((x13.1.1, ()), ())
   | .inr z11__ =>
    none
abbrev C_bs : Con := ⟨P_bs, R_bs, F_bs, false⟩
abbrev G_bs : Env := [(83, C_br)]
theorem g_bs : EnvOk Try.prog G_bs := (env_cons s_br env_nil)
abbrev c_bs_4 : Cut := ⟨i_bs_4, o_bs_4, fun x => iterF l_bs_4 lots x⟩
theorem t_bs_4 (rec x) : run T G_bs [] (nav Try.f50 [1, 1, 0, 1, 0, 0]) (mk 27 i_bs_4 x) (loopK i_bs_4 o_bs_4 rec) = l_bs_4 rec x := by kernel_rfl
theorem k_bs_4 : CutOk Try.prog 27 (.loop (nav Try.f50 [1, 1, 0, 1, 0, 0])) c_bs_4 :=
  loop_cut (L := []) hT g_bs t_bs_4 okP _
theorem r_bs (x) : runFn T G_bs [(4, c_bs_4)] Try.f50 C_bs.ps C_bs.rs x = C_bs.F x := by kernel_rfl
theorem s_bs : CallsOk Try.prog 50 C_bs := fnC (L := [(4, c_bs_4)]) hT g_bs Try.f50 (okS okP (okS okP (okS (okS okP (okB (okU k_bs_4))) okP))) r_bs
/-! laws.eqBell -/
abbrev P_bt : List PK := [.val Y32, .val Y32]
abbrev R_bt : List VK := [.s (.dat .bool)]
def F_bt (x : denP P_bt) : Option (denV R_bt × denQ P_bt) :=
 if (x.1.1 != x.2.1.1) then
  some ((false, ()), ())
 else
  if (x.1.2.1 != x.2.1.2.1) then
   some ((false, ()), ())
  else
   some ((true, ()), ())
abbrev C_bt : Con := ⟨P_bt, R_bt, F_bt, false⟩
abbrev G_bt : Env := []
theorem g_bt : EnvOk Try.prog G_bt := env_nil
theorem r_bt (x) : runFn T G_bt [] Try.f84 C_bt.ps C_bt.rs x = C_bt.F x := by kernel_rfl
theorem s_bt : CallsOk Try.prog 84 C_bt := fnC (L := []) hT g_bt Try.f84 okP r_bt
/-! laws.eqBellS -/
abbrev P_bu : List PK := [.val Y26, .val Y26]
abbrev R_bu : List VK := [.s (.dat .bool)]
abbrev i_bu_4 : Shp := { slots := [(0, .s (.dat Y26)), (1, .s (.dat Y26)), (5, .s (.dat YI))], boxes := [], rows := [] }
abbrev o_bu_4 : List (Ex × Shp) := [(.exit 0, { slots := [], boxes := [], rows := [] }), (.ret, { slots := [(4, .s (.dat .bool))], boxes := [], rows := [] })]
def l_bu_4 (rec : i_bu_4.den → Option (denO o_bu_4)) (u4 : i_bu_4.den) : Option (denO o_bu_4) :=
 let v6 := ((u4.1.1.length : Nat) : Int)
 if (ltI u4.1.2.2.1 v6) then
  if 0 ≤ u4.1.2.2.1 then
   ((u4.1.1)[(u4.1.2.2.1).toNat]?).bind fun y7 =>
   if 0 ≤ u4.1.2.2.1 then
    ((u4.1.2.1)[(u4.1.2.2.1).toNat]?).bind fun y8 =>
    (F_bt (y7, y8, ())).bind fun r9 =>
    if (!r9.1.1) then
     some (.inr (.inl ((false, ()), ((), ()))))
    else
     let v10 := (IntKind.i64.wrap (u4.1.2.2.1 + (1 : Int)))
     rec ((u4.1.1, (u4.1.2.1, (v10, ()))), ((), ()))
   else none
  else none
 else
  some (.inl ((), ((), ())))
def L_bu_4 (x : i_bu_4.den) : Option (denO o_bu_4) := iterF l_bu_4 lots x
def F_bu (x : denP P_bu) : Option (denV R_bu × denQ P_bu) :=
 let v1 := ((x.1.length : Nat) : Int)
 let v2 := ((x.2.1.length : Nat) : Int)
 if (v1 != v2) then
  some ((false, ()), ())
 else
  (L_bu_4 ((x.1, (x.2.1, ((0 : Int), ()))), ((), ()))).bind fun z11 =>
  match z11 with
  | .inl x12 =>
   some ((true, ()), ())
  | .inr z11_ =>
   match z11_ with
   | .inl x13 =>
    some ((x13.1.1, ()), ())
   | .inr z11__ =>
    none
abbrev C_bu : Con := ⟨P_bu, R_bu, F_bu, false⟩
abbrev G_bu : Env := [(84, C_bt)]
theorem g_bu : EnvOk Try.prog G_bu := (env_cons s_bt env_nil)
abbrev c_bu_4 : Cut := ⟨i_bu_4, o_bu_4, fun x => iterF l_bu_4 lots x⟩
theorem t_bu_4 (rec x) : run T G_bu [] (nav Try.f51 [1, 1, 0, 1, 0, 0]) (mk 27 i_bu_4 x) (loopK i_bu_4 o_bu_4 rec) = l_bu_4 rec x := by kernel_rfl
theorem k_bu_4 : CutOk Try.prog 27 (.loop (nav Try.f51 [1, 1, 0, 1, 0, 0])) c_bu_4 :=
  loop_cut (L := []) hT g_bu t_bu_4 okP _
theorem r_bu (x) : runFn T G_bu [(4, c_bu_4)] Try.f51 C_bu.ps C_bu.rs x = C_bu.F x := by kernel_rfl
theorem s_bu : CallsOk Try.prog 51 C_bu := fnC (L := [(4, c_bu_4)]) hT g_bu Try.f51 (okS okP (okS okP (okS (okS okP (okB (okU k_bu_4))) okP))) r_bu
/-! laws.eqSlot -/
abbrev P_bv : List PK := [.val Y32, .val Y32]
abbrev R_bv : List VK := [.s (.dat .bool)]
def F_bv (x : denP P_bv) : Option (denV R_bv × denQ P_bv) :=
 if (x.1.1 != x.2.1.1) then
  some ((false, ()), ())
 else
  if (x.1.2.1 != x.2.1.2.1) then
   some ((false, ()), ())
  else
   some ((true, ()), ())
abbrev C_bv : Con := ⟨P_bv, R_bv, F_bv, false⟩
abbrev G_bv : Env := []
theorem g_bv : EnvOk Try.prog G_bv := env_nil
theorem r_bv (x) : runFn T G_bv [] Try.f85 C_bv.ps C_bv.rs x = C_bv.F x := by kernel_rfl
theorem s_bv : CallsOk Try.prog 85 C_bv := fnC (L := []) hT g_bv Try.f85 okP r_bv
/-! laws.eqSlotS -/
abbrev P_bw : List PK := [.val Y26, .val Y26]
abbrev R_bw : List VK := [.s (.dat .bool)]
abbrev i_bw_4 : Shp := { slots := [(0, .s (.dat Y26)), (1, .s (.dat Y26)), (5, .s (.dat YI))], boxes := [], rows := [] }
abbrev o_bw_4 : List (Ex × Shp) := [(.exit 0, { slots := [], boxes := [], rows := [] }), (.ret, { slots := [(4, .s (.dat .bool))], boxes := [], rows := [] })]
def l_bw_4 (rec : i_bw_4.den → Option (denO o_bw_4)) (u4 : i_bw_4.den) : Option (denO o_bw_4) :=
 let v6 := ((u4.1.1.length : Nat) : Int)
 if (ltI u4.1.2.2.1 v6) then
  if 0 ≤ u4.1.2.2.1 then
   ((u4.1.1)[(u4.1.2.2.1).toNat]?).bind fun y7 =>
   if 0 ≤ u4.1.2.2.1 then
    ((u4.1.2.1)[(u4.1.2.2.1).toNat]?).bind fun y8 =>
    (F_bv (y7, y8, ())).bind fun r9 =>
    if (!r9.1.1) then
     some (.inr (.inl ((false, ()), ((), ()))))
    else
     let v10 := (IntKind.i64.wrap (u4.1.2.2.1 + (1 : Int)))
     rec ((u4.1.1, (u4.1.2.1, (v10, ()))), ((), ()))
   else none
  else none
 else
  some (.inl ((), ((), ())))
def L_bw_4 (x : i_bw_4.den) : Option (denO o_bw_4) := iterF l_bw_4 lots x
def F_bw (x : denP P_bw) : Option (denV R_bw × denQ P_bw) :=
 let v1 := ((x.1.length : Nat) : Int)
 let v2 := ((x.2.1.length : Nat) : Int)
 if (v1 != v2) then
  some ((false, ()), ())
 else
  (L_bw_4 ((x.1, (x.2.1, ((0 : Int), ()))), ((), ()))).bind fun z11 =>
  match z11 with
  | .inl x12 =>
   some ((true, ()), ())
  | .inr z11_ =>
   match z11_ with
   | .inl x13 =>
    some ((x13.1.1, ()), ())
   | .inr z11__ =>
    none
abbrev C_bw : Con := ⟨P_bw, R_bw, F_bw, false⟩
abbrev G_bw : Env := [(85, C_bv)]
theorem g_bw : EnvOk Try.prog G_bw := (env_cons s_bv env_nil)
abbrev c_bw_4 : Cut := ⟨i_bw_4, o_bw_4, fun x => iterF l_bw_4 lots x⟩
theorem t_bw_4 (rec x) : run T G_bw [] (nav Try.f52 [1, 1, 0, 1, 0, 0]) (mk 27 i_bw_4 x) (loopK i_bw_4 o_bw_4 rec) = l_bw_4 rec x := by kernel_rfl
theorem k_bw_4 : CutOk Try.prog 27 (.loop (nav Try.f52 [1, 1, 0, 1, 0, 0])) c_bw_4 :=
  loop_cut (L := []) hT g_bw t_bw_4 okP _
theorem r_bw (x) : runFn T G_bw [(4, c_bw_4)] Try.f52 C_bw.ps C_bw.rs x = C_bw.F x := by kernel_rfl
theorem s_bw : CallsOk Try.prog 52 C_bw := fnC (L := [(4, c_bw_4)]) hT g_bw Try.f52 (okS okP (okS okP (okS (okS okP (okB (okU k_bw_4))) okP))) r_bw
/-! laws.eqPolicy -/
abbrev P_bx : List PK := [.val Y28, .val Y28]
abbrev R_bx : List VK := [.s (.dat .bool)]
def F_bx (x : denP P_bx) : Option (denV R_bx × denQ P_bx) :=
 (F_bq (x.1.1, x.2.1.1, ())).bind fun r1 =>
 if (!r1.1.1) then
  some ((false, ()), ())
 else
  (F_bs (x.1.2.1, x.2.1.2.1, ())).bind fun r2 =>
  if (!r2.1.1) then
   some ((false, ()), ())
  else
   (F_bu (x.1.2.2.1, x.2.1.2.2.1, ())).bind fun r3 =>
   if (!r3.1.1) then
    some ((false, ()), ())
   else
    (F_bw (x.1.2.2.2.1, x.2.1.2.2.2.1, ())).bind fun r4 =>
    if (!r4.1.1) then
     some ((false, ()), ())
    else
     some ((true, ()), ())
abbrev C_bx : Con := ⟨P_bx, R_bx, F_bx, false⟩
abbrev G_bx : Env := [(49, C_bq), (50, C_bs), (51, C_bu), (52, C_bw)]
theorem g_bx : EnvOk Try.prog G_bx := (env_cons s_bq (env_cons s_bs (env_cons s_bu (env_cons s_bw env_nil))))
theorem r_bx (x) : runFn T G_bx [] Try.f18 C_bx.ps C_bx.rs x = C_bx.F x := by kernel_rfl
theorem s_bx : CallsOk Try.prog 18 C_bx := fnC (L := []) hT g_bx Try.f18 okP r_bx
/-! laws.markInt64S -/
abbrev P_by : List PK := [.row 2 YI, .val YI]
abbrev R_by : List VK := [.s (.dat YI)]
abbrev i_by_2 : Shp := { slots := [(0, .s (.ref 9000100)), (1, .s (.dat YI)), (5, .s (.dat YI))], boxes := [], rows := [(9000100, 2, YI)] }
abbrev o_by_2 : List (Ex × Shp) := [(.exit 0, { slots := [(1, .s (.dat YI))], boxes := [], rows := [(9000100, 2, YI)] })]
def l_by_2 (rec : i_by_2.den → Option (denO o_by_2)) (u2 : i_by_2.den) : Option (denO o_by_2) :=
 let v2 := ((u2.2.2.1.length : Nat) : Int)
 if (ltI u2.1.2.2.1 v2) then
  if 0 ≤ u2.1.2.2.1 ∧ u2.1.2.2.1 < ((u2.2.2.1.length : Nat) : Int) then
   ((u2.2.2.1)[(u2.1.2.2.1).toNat]?).bind fun y3 =>
   let v4 := (u2.2.2.1.set (u2.1.2.2.1).toNat u2.1.2.1)
   let v5 := (IntKind.i64.wrap (u2.1.2.1 + (1 : Int)))
   let v6 := (IntKind.i64.wrap (u2.1.2.2.1 + (1 : Int)))
   rec (((), (v5, (v6, ()))), ((), (v4, ())))
  else none
 else
  some (.inl ((u2.1.2.1, ()), ((), (u2.2.2.1, ()))))
def L_by_2 (x : i_by_2.den) : Option (denO o_by_2) := iterF l_by_2 lots x
def F_by (x : denP P_by) : Option (denV R_by × denQ P_by) :=
 (L_by_2 (((), (x.2.1, ((0 : Int), ()))), ((), (x.1, ())))).bind fun z7 =>
 match z7 with
 | .inl x8 =>
  if (x.1.length == x8.2.2.1.length && true) = true then
   some ((x8.1.1, ()), (x8.2.2.1, ()))
  else none
 | .inr z7_ =>
  none
abbrev C_by : Con := ⟨P_by, R_by, F_by, false⟩
abbrev G_by : Env := []
theorem g_by : EnvOk Try.prog G_by := env_nil
abbrev c_by_2 : Cut := ⟨i_by_2, o_by_2, fun x => iterF l_by_2 lots x⟩
theorem t_by_2 (rec x) : run T G_by [] (nav Try.f57 [1, 0, 1, 0, 0]) (mk 19 i_by_2 x) (loopK i_by_2 o_by_2 rec) = l_by_2 rec x := by kernel_rfl
theorem k_by_2 : CutOk Try.prog 19 (.loop (nav Try.f57 [1, 0, 1, 0, 0])) c_by_2 :=
  loop_cut (L := []) hT g_by t_by_2 okP _
theorem r_by (x) : runFn T G_by [(2, c_by_2)] Try.f57 C_by.ps C_by.rs x = C_by.F x := by kernel_rfl
theorem s_by : CallsOk Try.prog 57 C_by := fnC (L := [(2, c_by_2)]) hT g_by Try.f57 (okS okP (okS (okS okP (okB (okU k_by_2))) okP)) r_by
/-! laws.markInt64SS -/
abbrev P_bz : List PK := [.row 1000003000047 Y47, .val YI]
abbrev R_bz : List VK := [.s (.dat YI)]
abbrev i_bz_2 : Shp := { slots := [(0, .s (.ref 9000100)), (1, .s (.dat YI)), (5, .s (.dat YI))], boxes := [], rows := [(9000100, 1000003000047, Y47)] }
abbrev o_bz_2 : List (Ex × Shp) := [(.exit 0, { slots := [(1, .s (.dat YI))], boxes := [], rows := [(9000100, 1000003000047, Y47)] })]
def l_bz_2 (rec : i_bz_2.den → Option (denO o_bz_2)) (u2 : i_bz_2.den) : Option (denO o_bz_2) :=
 let v4 := ((u2.2.2.1.length : Nat) : Int)
 if (ltI u2.1.2.2.1 v4) then
  if 0 ≤ u2.1.2.2.1 ∧ u2.1.2.2.1 < ((u2.2.2.1.length : Nat) : Int) then
   ((u2.2.2.1)[(u2.1.2.2.1).toNat]?).bind fun y5 =>
   ((u2.2.2.1)[(u2.1.2.2.1).toNat]?).bind fun y6 =>
   (F_by (y6, u2.1.2.1, ())).bind fun r7 =>
   if r7.2.1.length = y6.length then
    let v8 := (IntKind.i64.wrap (u2.1.2.2.1 + (1 : Int)))
    rec (((), (r7.1.1, (v8, ()))), ((), ((u2.2.2.1.set (u2.1.2.2.1).toNat r7.2.1), ())))
   else none
  else none
 else
  some (.inl ((u2.1.2.1, ()), ((), (u2.2.2.1, ()))))
def L_bz_2 (x : i_bz_2.den) : Option (denO o_bz_2) := iterF l_bz_2 lots x
def F_bz (x : denP P_bz) : Option (denV R_bz × denQ P_bz) :=
 (L_bz_2 (((), (x.2.1, ((0 : Int), ()))), ((), (x.1, ())))).bind fun z9 =>
 match z9 with
 | .inl x10 =>
  if (x.1.length == x10.2.2.1.length && true) = true then
   some ((x10.1.1, ()), (x10.2.2.1, ()))
  else none
 | .inr z9_ =>
  none
abbrev C_bz : Con := ⟨P_bz, R_bz, F_bz, false⟩
abbrev G_bz : Env := [(57, C_by)]
theorem g_bz : EnvOk Try.prog G_bz := (env_cons s_by env_nil)
abbrev c_bz_2 : Cut := ⟨i_bz_2, o_bz_2, fun x => iterF l_bz_2 lots x⟩
theorem t_bz_2 (rec x) : run T G_bz [] (nav Try.f53 [1, 0, 1, 0, 0]) (mk 19 i_bz_2 x) (loopK i_bz_2 o_bz_2 rec) = l_bz_2 rec x := by kernel_rfl
theorem k_bz_2 : CutOk Try.prog 19 (.loop (nav Try.f53 [1, 0, 1, 0, 0])) c_bz_2 :=
  loop_cut (L := []) hT g_bz t_bz_2 okP _
theorem r_bz (x) : runFn T G_bz [(2, c_bz_2)] Try.f53 C_bz.ps C_bz.rs x = C_bz.F x := by kernel_rfl
theorem s_bz : CallsOk Try.prog 53 C_bz := fnC (L := [(2, c_bz_2)]) hT g_bz Try.f53 (okS okP (okS (okS okP (okB (okU k_bz_2))) okP)) r_bz
/-! laws.markLaneS -/
abbrev P_ca : List PK := [.row 105 Y104, .val YI]
abbrev R_ca : List VK := [.s (.dat YI)]
abbrev i_ca_2 : Shp := { slots := [(0, .s (.ref 9000100)), (1, .s (.dat YI)), (5, .s (.dat YI))], boxes := [], rows := [(9000100, 105, Y104)] }
abbrev o_ca_2 : List (Ex × Shp) := [(.exit 0, { slots := [(1, .s (.dat YI))], boxes := [], rows := [(9000100, 105, Y104)] })]
def l_ca_2 (rec : i_ca_2.den → Option (denO o_ca_2)) (u2 : i_ca_2.den) : Option (denO o_ca_2) :=
 let v6 := ((u2.2.2.1.length : Nat) : Int)
 if (ltI u2.1.2.2.1 v6) then
  if 0 ≤ u2.1.2.2.1 ∧ u2.1.2.2.1 < ((u2.2.2.1.length : Nat) : Int) then
   ((u2.2.2.1)[(u2.1.2.2.1).toNat]?).bind fun y7 =>
   let v8 := (u2.2.2.1.set (u2.1.2.2.1).toNat (u2.1.2.1, y7.2))
   let v9 := (IntKind.i64.wrap (u2.1.2.1 + (1 : Int)))
   if 0 ≤ u2.1.2.2.1 ∧ u2.1.2.2.1 < ((v8.length : Nat) : Int) then
    ((v8)[(u2.1.2.2.1).toNat]?).bind fun y10 =>
    let v11 := (v8.set (u2.1.2.2.1).toNat (y10.1, (v9, y10.2.2)))
    let v12 := (IntKind.i64.wrap (v9 + (1 : Int)))
    if 0 ≤ u2.1.2.2.1 ∧ u2.1.2.2.1 < ((v11.length : Nat) : Int) then
     ((v11)[(u2.1.2.2.1).toNat]?).bind fun y13 =>
     let v14 := (v11.set (u2.1.2.2.1).toNat (y13.1, (y13.2.1, (v12, y13.2.2.2))))
     let v15 := (IntKind.i64.wrap (v12 + (1 : Int)))
     if 0 ≤ u2.1.2.2.1 ∧ u2.1.2.2.1 < ((v14.length : Nat) : Int) then
      ((v14)[(u2.1.2.2.1).toNat]?).bind fun y16 =>
      let v17 := (v14.set (u2.1.2.2.1).toNat (y16.1, (y16.2.1, (y16.2.2.1, (v15, y16.2.2.2.2)))))
      let v18 := (IntKind.i64.wrap (v15 + (1 : Int)))
      if 0 ≤ u2.1.2.2.1 ∧ u2.1.2.2.1 < ((v17.length : Nat) : Int) then
       ((v17)[(u2.1.2.2.1).toNat]?).bind fun y19 =>
       let v20 := (v17.set (u2.1.2.2.1).toNat (y19.1, (y19.2.1, (y19.2.2.1, (y19.2.2.2.1, (v18, y19.2.2.2.2.2))))))
       let v21 := (IntKind.i64.wrap (v18 + (1 : Int)))
       let v22 := (IntKind.i64.wrap (u2.1.2.2.1 + (1 : Int)))
       rec (((), (v21, (v22, ()))), ((), (v20, ())))
      else none
     else none
    else none
   else none
  else none
 else
  some (.inl ((u2.1.2.1, ()), ((), (u2.2.2.1, ()))))
def L_ca_2 (x : i_ca_2.den) : Option (denO o_ca_2) := iterF l_ca_2 lots x
def F_ca (x : denP P_ca) : Option (denV R_ca × denQ P_ca) :=
 (L_ca_2 (((), (x.2.1, ((0 : Int), ()))), ((), (x.1, ())))).bind fun z23 =>
 match z23 with
 | .inl x24 =>
  if (x.1.length == x24.2.2.1.length && true) = true then
   some ((x24.1.1, ()), (x24.2.2.1, ()))
  else none
 | .inr z23_ =>
  none
abbrev C_ca : Con := ⟨P_ca, R_ca, F_ca, false⟩
abbrev G_ca : Env := []
theorem g_ca : EnvOk Try.prog G_ca := env_nil
abbrev c_ca_2 : Cut := ⟨i_ca_2, o_ca_2, fun x => iterF l_ca_2 lots x⟩
theorem t_ca_2 (rec x) : run T G_ca [] (nav Try.f54 [1, 0, 1, 0, 0]) (mk 48 i_ca_2 x) (loopK i_ca_2 o_ca_2 rec) = l_ca_2 rec x := by kernel_rfl
theorem k_ca_2 : CutOk Try.prog 48 (.loop (nav Try.f54 [1, 0, 1, 0, 0])) c_ca_2 :=
  loop_cut (L := []) hT g_ca t_ca_2 okP _
theorem r_ca (x) : runFn T G_ca [(2, c_ca_2)] Try.f54 C_ca.ps C_ca.rs x = C_ca.F x := by kernel_rfl
theorem s_ca : CallsOk Try.prog 54 C_ca := fnC (L := [(2, c_ca_2)]) hT g_ca Try.f54 (okS okP (okS (okS okP (okB (okU k_ca_2))) okP)) r_ca
/-! laws.markBellS -/
abbrev P_cb : List PK := [.row 108 Y32, .val YI]
abbrev R_cb : List VK := [.s (.dat YI)]
abbrev i_cb_2 : Shp := { slots := [(0, .s (.ref 9000100)), (1, .s (.dat YI)), (5, .s (.dat YI))], boxes := [], rows := [(9000100, 108, Y32)] }
abbrev o_cb_2 : List (Ex × Shp) := [(.exit 0, { slots := [(1, .s (.dat YI))], boxes := [], rows := [(9000100, 108, Y32)] })]
def l_cb_2 (rec : i_cb_2.den → Option (denO o_cb_2)) (u2 : i_cb_2.den) : Option (denO o_cb_2) :=
 let v3 := ((u2.2.2.1.length : Nat) : Int)
 if (ltI u2.1.2.2.1 v3) then
  if 0 ≤ u2.1.2.2.1 ∧ u2.1.2.2.1 < ((u2.2.2.1.length : Nat) : Int) then
   ((u2.2.2.1)[(u2.1.2.2.1).toNat]?).bind fun y4 =>
   let v5 := (u2.2.2.1.set (u2.1.2.2.1).toNat (u2.1.2.1, y4.2))
   let v6 := (IntKind.i64.wrap (u2.1.2.1 + (1 : Int)))
   if 0 ≤ u2.1.2.2.1 ∧ u2.1.2.2.1 < ((v5.length : Nat) : Int) then
    ((v5)[(u2.1.2.2.1).toNat]?).bind fun y7 =>
    let v8 := (v5.set (u2.1.2.2.1).toNat (y7.1, (v6, y7.2.2)))
    let v9 := (IntKind.i64.wrap (v6 + (1 : Int)))
    let v10 := (IntKind.i64.wrap (u2.1.2.2.1 + (1 : Int)))
    rec (((), (v9, (v10, ()))), ((), (v8, ())))
   else none
  else none
 else
  some (.inl ((u2.1.2.1, ()), ((), (u2.2.2.1, ()))))
def L_cb_2 (x : i_cb_2.den) : Option (denO o_cb_2) := iterF l_cb_2 lots x
def F_cb (x : denP P_cb) : Option (denV R_cb × denQ P_cb) :=
 (L_cb_2 (((), (x.2.1, ((0 : Int), ()))), ((), (x.1, ())))).bind fun z11 =>
 match z11 with
 | .inl x12 =>
  if (x.1.length == x12.2.2.1.length && true) = true then
   some ((x12.1.1, ()), (x12.2.2.1, ()))
  else none
 | .inr z11_ =>
  none
abbrev C_cb : Con := ⟨P_cb, R_cb, F_cb, false⟩
abbrev G_cb : Env := []
theorem g_cb : EnvOk Try.prog G_cb := env_nil
abbrev c_cb_2 : Cut := ⟨i_cb_2, o_cb_2, fun x => iterF l_cb_2 lots x⟩
theorem t_cb_2 (rec x) : run T G_cb [] (nav Try.f55 [1, 0, 1, 0, 0]) (mk 27 i_cb_2 x) (loopK i_cb_2 o_cb_2 rec) = l_cb_2 rec x := by kernel_rfl
theorem k_cb_2 : CutOk Try.prog 27 (.loop (nav Try.f55 [1, 0, 1, 0, 0])) c_cb_2 :=
  loop_cut (L := []) hT g_cb t_cb_2 okP _
theorem r_cb (x) : runFn T G_cb [(2, c_cb_2)] Try.f55 C_cb.ps C_cb.rs x = C_cb.F x := by kernel_rfl
theorem s_cb : CallsOk Try.prog 55 C_cb := fnC (L := [(2, c_cb_2)]) hT g_cb Try.f55 (okS okP (okS (okS okP (okB (okU k_cb_2))) okP)) r_cb
/-! laws.markSlotS -/
abbrev P_cc : List PK := [.row 37 Y32, .val YI]
abbrev R_cc : List VK := [.s (.dat YI)]
abbrev i_cc_2 : Shp := { slots := [(0, .s (.ref 9000100)), (1, .s (.dat YI)), (5, .s (.dat YI))], boxes := [], rows := [(9000100, 37, Y32)] }
abbrev o_cc_2 : List (Ex × Shp) := [(.exit 0, { slots := [(1, .s (.dat YI))], boxes := [], rows := [(9000100, 37, Y32)] })]
def l_cc_2 (rec : i_cc_2.den → Option (denO o_cc_2)) (u2 : i_cc_2.den) : Option (denO o_cc_2) :=
 let v3 := ((u2.2.2.1.length : Nat) : Int)
 if (ltI u2.1.2.2.1 v3) then
  if 0 ≤ u2.1.2.2.1 ∧ u2.1.2.2.1 < ((u2.2.2.1.length : Nat) : Int) then
   ((u2.2.2.1)[(u2.1.2.2.1).toNat]?).bind fun y4 =>
   let v5 := (u2.2.2.1.set (u2.1.2.2.1).toNat (u2.1.2.1, y4.2))
   let v6 := (IntKind.i64.wrap (u2.1.2.1 + (1 : Int)))
   if 0 ≤ u2.1.2.2.1 ∧ u2.1.2.2.1 < ((v5.length : Nat) : Int) then
    ((v5)[(u2.1.2.2.1).toNat]?).bind fun y7 =>
    let v8 := (v5.set (u2.1.2.2.1).toNat (y7.1, (v6, y7.2.2)))
    let v9 := (IntKind.i64.wrap (v6 + (1 : Int)))
    let v10 := (IntKind.i64.wrap (u2.1.2.2.1 + (1 : Int)))
    rec (((), (v9, (v10, ()))), ((), (v8, ())))
   else none
  else none
 else
  some (.inl ((u2.1.2.1, ()), ((), (u2.2.2.1, ()))))
def L_cc_2 (x : i_cc_2.den) : Option (denO o_cc_2) := iterF l_cc_2 lots x
def F_cc (x : denP P_cc) : Option (denV R_cc × denQ P_cc) :=
 (L_cc_2 (((), (x.2.1, ((0 : Int), ()))), ((), (x.1, ())))).bind fun z11 =>
 match z11 with
 | .inl x12 =>
  if (x.1.length == x12.2.2.1.length && true) = true then
   some ((x12.1.1, ()), (x12.2.2.1, ()))
  else none
 | .inr z11_ =>
  none
abbrev C_cc : Con := ⟨P_cc, R_cc, F_cc, false⟩
abbrev G_cc : Env := []
theorem g_cc : EnvOk Try.prog G_cc := env_nil
abbrev c_cc_2 : Cut := ⟨i_cc_2, o_cc_2, fun x => iterF l_cc_2 lots x⟩
theorem t_cc_2 (rec x) : run T G_cc [] (nav Try.f56 [1, 0, 1, 0, 0]) (mk 27 i_cc_2 x) (loopK i_cc_2 o_cc_2 rec) = l_cc_2 rec x := by kernel_rfl
theorem k_cc_2 : CutOk Try.prog 27 (.loop (nav Try.f56 [1, 0, 1, 0, 0])) c_cc_2 :=
  loop_cut (L := []) hT g_cc t_cc_2 okP _
theorem r_cc (x) : runFn T G_cc [(2, c_cc_2)] Try.f56 C_cc.ps C_cc.rs x = C_cc.F x := by kernel_rfl
theorem s_cc : CallsOk Try.prog 56 C_cc := fnC (L := [(2, c_cc_2)]) hT g_cc Try.f56 (okS okP (okS (okS okP (okB (okU k_cc_2))) okP)) r_cc
/-! laws.markPolicy -/
abbrev P_cd : List PK := [.agg [.own 3000047 Y47, .own 105 Y104, .own 108 Y32, .own 37 Y32], .val YI]
abbrev R_cd : List VK := [.s (.dat YI)]
def F_cd (x : denP P_cd) : Option (denV R_cd × denQ P_cd) :=
 (F_bz (x.1.1, x.2.1, ())).bind fun r1 =>
 if ((x.1.1.length == r1.2.1.length && true) && true) = true then
  (F_ca (x.1.2.1, r1.1.1, ())).bind fun r2 =>
  if ((x.1.2.1.length == r2.2.1.length && true) && true) = true then
   (F_cb (x.1.2.2.1, r2.1.1, ())).bind fun r3 =>
   if ((x.1.2.2.1.length == r3.2.1.length && true) && true) = true then
    (F_cc (x.1.2.2.2.1, r3.1.1, ())).bind fun r4 =>
    if ((x.1.2.2.2.1.length == r4.2.1.length && true) && true) = true then
     if ((x.1.1.length == r1.2.1.length && (x.1.2.1.length == r2.2.1.length && (x.1.2.2.1.length == r3.2.1.length && (x.1.2.2.2.1.length == r4.2.1.length && true)))) && true) = true then
      some ((r4.1.1, ()), ((r1.2.1, (r2.2.1, (r3.2.1, (r4.2.1, ())))), ()))
     else none
    else none
   else none
  else none
 else none
abbrev C_cd : Con := ⟨P_cd, R_cd, F_cd, false⟩
abbrev G_cd : Env := [(53, C_bz), (54, C_ca), (55, C_cb), (56, C_cc)]
theorem g_cd : EnvOk Try.prog G_cd := (env_cons s_bz (env_cons s_ca (env_cons s_cb (env_cons s_cc env_nil))))
theorem r_cd (x) : runFn T G_cd [] Try.f19 C_cd.ps C_cd.rs x = C_cd.F x := by kernel_rfl
theorem s_cd : CallsOk Try.prog 19 C_cd := fnC (L := []) hT g_cd Try.f19 okP r_cd
/-! laws.markIntsResult -/
abbrev P_ce : List PK := [.agg [.dat YI, .own 2 YI], .val YI]
abbrev R_ce : List VK := [.s (.dat YI)]
def F_ce (x : denP P_ce) : Option (denV R_ce × denQ P_ce) :=
 (F_by (x.1.2.1, x.2.1, ())).bind fun r1 =>
 if ((x.1.2.1.length == r1.2.1.length && true) && true) = true then
  if ((x.1.2.1.length == r1.2.1.length && true) && true) = true then
   some ((r1.1.1, ()), ((r1.2.1, ()), ()))
  else none
 else none
abbrev C_ce : Con := ⟨P_ce, R_ce, F_ce, false⟩
abbrev G_ce : Env := [(57, C_by)]
theorem g_ce : EnvOk Try.prog G_ce := (env_cons s_by env_nil)
theorem r_ce (x) : runFn T G_ce [] Try.f20 C_ce.ps C_ce.rs x = C_ce.F x := by kernel_rfl
theorem s_ce : CallsOk Try.prog 20 C_ce := fnC (L := []) hT g_ce Try.f20 okP r_ce
/-! laws.heldInt64S -/
abbrev P_cf : List PK := [.val Y47, .val YI]
abbrev R_cf : List VK := [.s (.dat YI)]
abbrev i_cf_2 : Shp := { slots := [(0, .s (.dat Y47)), (1, .s (.dat YI)), (5, .s (.dat YI))], boxes := [], rows := [] }
abbrev o_cf_2 : List (Ex × Shp) := [(.exit 0, { slots := [(1, .s (.dat YI))], boxes := [], rows := [] }), (.ret, { slots := [(4, .s (.dat YI))], boxes := [], rows := [] })]
def l_cf_2 (rec : i_cf_2.den → Option (denO o_cf_2)) (u2 : i_cf_2.den) : Option (denO o_cf_2) :=
 let v2 := ((u2.1.1.length : Nat) : Int)
 if (ltI u2.1.2.2.1 v2) then
  if 0 ≤ u2.1.2.2.1 then
   ((u2.1.1)[(u2.1.2.2.1).toNat]?).bind fun y3 =>
   if (y3 != u2.1.2.1) then
    some (.inr (.inl (((-1 : Int), ()), ((), ()))))
   else
    let v4 := (IntKind.i64.wrap (u2.1.2.1 + (1 : Int)))
    let v5 := (IntKind.i64.wrap (u2.1.2.2.1 + (1 : Int)))
    rec ((u2.1.1, (v4, (v5, ()))), ((), ()))
  else none
 else
  some (.inl ((u2.1.2.1, ()), ((), ())))
def L_cf_2 (x : i_cf_2.den) : Option (denO o_cf_2) := iterF l_cf_2 lots x
def F_cf (x : denP P_cf) : Option (denV R_cf × denQ P_cf) :=
 (L_cf_2 ((x.1, (x.2.1, ((0 : Int), ()))), ((), ()))).bind fun z6 =>
 match z6 with
 | .inl x7 =>
  some ((x7.1.1, ()), ())
 | .inr z6_ =>
  match z6_ with
  | .inl x8 =>
   some ((x8.1.1, ()), ())
  | .inr z6__ =>
   none
abbrev C_cf : Con := ⟨P_cf, R_cf, F_cf, false⟩
abbrev G_cf : Env := []
theorem g_cf : EnvOk Try.prog G_cf := env_nil
abbrev c_cf_2 : Cut := ⟨i_cf_2, o_cf_2, fun x => iterF l_cf_2 lots x⟩
theorem t_cf_2 (rec x) : run T G_cf [] (nav Try.f58 [1, 0, 1, 0, 0]) (mk 21 i_cf_2 x) (loopK i_cf_2 o_cf_2 rec) = l_cf_2 rec x := by kernel_rfl
theorem k_cf_2 : CutOk Try.prog 21 (.loop (nav Try.f58 [1, 0, 1, 0, 0])) c_cf_2 :=
  loop_cut (L := []) hT g_cf t_cf_2 okP _
theorem r_cf (x) : runFn T G_cf [(2, c_cf_2)] Try.f58 C_cf.ps C_cf.rs x = C_cf.F x := by kernel_rfl
theorem s_cf : CallsOk Try.prog 58 C_cf := fnC (L := [(2, c_cf_2)]) hT g_cf Try.f58 (okS okP (okS (okS okP (okB (okU k_cf_2))) okP)) r_cf
/-! laws.heldIntsResult -/
abbrev P_cg : List PK := [.val Y48, .val YI]
abbrev R_cg : List VK := [.s (.dat YI)]
def F_cg (x : denP P_cg) : Option (denV R_cg × denQ P_cg) :=
 (F_cf (x.1.2.1, x.2.1, ())).bind fun r1 =>
 if (ltI r1.1.1 (0 : Int)) then
  some (((-1 : Int), ()), ())
 else
  some ((r1.1.1, ()), ())
abbrev C_cg : Con := ⟨P_cg, R_cg, F_cg, false⟩
abbrev G_cg : Env := [(58, C_cf)]
theorem g_cg : EnvOk Try.prog G_cg := (env_cons s_cf env_nil)
theorem r_cg (x) : runFn T G_cg [] Try.f21 C_cg.ps C_cg.rs x = C_cg.F x := by kernel_rfl
theorem s_cg : CallsOk Try.prog 21 C_cg := fnC (L := []) hT g_cg Try.f21 okP r_cg
/-! laws.FnExactStrangersTo -/
abbrev P_ch : List PK := [.val Y28, .val YI]
abbrev R_ch : List VK := [.s (.dat .bool)]
def F_ch (x : denP P_ch) : Option (denV R_ch × denQ P_ch) :=
 (F_f (x.1, (1048576 : Int), ())).bind fun r1 =>
 if (ltI r1.1.1 (0 : Int)) then
  some ((true, ()), ())
 else
  (F_o (x.1, ())).bind fun r2 =>
  (F_ad (r2.1.1, x.2.1, ())).bind fun r3 =>
  (F_o (x.1, ())).bind fun r4 =>
  (F_bl (r4.1.1, x.2.1, ())).bind fun r5 =>
  (F_bp (r5.1.1, r3.1.1, ())).bind fun r6 =>
  if (!r6.1.1) then
   some ((false, ()), ())
  else
   (F_o (x.1, ())).bind fun r7 =>
   (F_bx (r4.1.1, r7.1.1, ())).bind fun r8 =>
   if (!r8.1.1) then
    some ((false, ()), ())
   else
    (F_cd (r4.1.1, (1 : Int), ())).bind fun r9 =>
    if (((r4.1.1.1.length == r9.2.1.1.length && (r4.1.1.2.1.length == r9.2.1.2.1.length && (r4.1.1.2.2.1.length == r9.2.1.2.2.1.length && (r4.1.1.2.2.2.1.length == r9.2.1.2.2.2.1.length && true)))) && true) && true) = true then
     if (ltI r9.1.1 (0 : Int)) = false then
      (F_bp (r5.1.1, r3.1.1, ())).bind fun r10 =>
      if (!r10.1.1) then
       some ((false, ()), ())
      else
       (F_ce (r5.1.1, (1 : Int), ())).bind fun r11 =>
       if (((r5.1.1.2.1.length == r11.2.1.1.length && true) && true) && true) = true then
        (F_cg ((r5.1.1.1, (r11.2.1.1, ())), (1 : Int), ())).bind fun r12 =>
        if (ltI r12.1.1 (0 : Int)) then
         some ((false, ()), ())
        else
         if (r12.1.1 != r11.1.1) then
          some ((false, ()), ())
         else
          (F_o (x.1, ())).bind fun r13 =>
          (F_bl (r13.1.1, x.2.1, ())).bind fun r14 =>
          (F_bp (r14.1.1, r3.1.1, ())).bind fun r15 =>
          if (!r15.1.1) then
           some ((false, ()), ())
          else
           (F_cg ((r5.1.1.1, (r11.2.1.1, ())), (1 : Int), ())).bind fun r16 =>
           if (ltI r16.1.1 (0 : Int)) then
            some ((false, ()), ())
           else
            if (r16.1.1 != r11.1.1) then
             some ((false, ()), ())
            else
             some ((true, ()), ())
       else none
     else
      some ((false, ()), ())
    else none
abbrev C_ch : Con := ⟨P_ch, R_ch, F_ch, false⟩
abbrev G_ch : Env := [(13, C_f), (14, C_ad), (15, C_o), (16, C_bl), (17, C_bp), (18, C_bx), (19, C_cd), (20, C_ce), (21, C_cg)]
theorem g_ch : EnvOk Try.prog G_ch := (env_cons s_f (env_cons s_ad (env_cons s_o (env_cons s_bl (env_cons s_bp (env_cons s_bx (env_cons s_cd (env_cons s_ce (env_cons s_cg env_nil)))))))))
theorem r_ch (x) : runFn T G_ch [] Try.f4 C_ch.ps C_ch.rs x = C_ch.F x := by kernel_rfl
theorem s_ch : CallsOk Try.prog 4 C_ch := fnC (L := []) hT g_ch Try.f4 okP r_ch
theorem q_ch : Sound Try.prog 4 C_ch :=
  fn_snd (L := []) hT g_ch Try.f4 (by kernel_rfl) (by kernel_rfl) okP r_ch
end Go.Proofs.Ytilcgnimcdkfiaa
