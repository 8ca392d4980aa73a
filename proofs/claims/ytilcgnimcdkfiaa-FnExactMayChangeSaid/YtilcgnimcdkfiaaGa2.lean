/- The functions of the laws, each as a plain function of data (F), and that the program's text does what F says. Printed by a program (wip/tools/gen.py). -/
import Derived.Test.YtilcgnimcdkfiaaGa1
namespace Go.Proofs.Ytilcgnimcdkfiaa
open Go Go.RowKit S Go.Proofs
set_option maxRecDepth 100000
set_option linter.unusedVariables false
/-! slices.insertionSortOrdered[int64] -/
abbrev P_bf : List PK := [.row 2 YI, .val YI, .val YI]
abbrev R_bf : List VK := []
abbrev i_bf_4 : Shp := { slots := [(0, .s (.ref 9000100)), (1, .s (.dat YI)), (2, .s (.dat YI)), (6, .s (.dat YI)), (7, .s (.dat YI))], boxes := [], rows := [(9000100, 2, YI)] }
abbrev o_bf_4 : List (Ex × Shp) := [(.exit 2, { slots := [(0, .s (.ref 9000100)), (1, .s (.dat YI)), (2, .s (.dat YI)), (6, .s (.dat YI))], boxes := [], rows := [(9000100, 2, YI)] })]
def l_bf_4 (rec : i_bf_4.den → Option (denO o_bf_4)) (u4 : i_bf_4.den) : Option (denO o_bf_4) :=
 if (ltI u4.1.2.1 u4.1.2.2.2.2.1) = true then
  if 0 ≤ u4.1.2.2.2.2.1 ∧ u4.1.2.2.2.2.1 < ((u4.2.2.1.length : Nat) : Int) then
   ((u4.2.2.1)[(u4.1.2.2.2.2.1).toNat]?).bind fun y18 =>
   let v19 := (IntKind.i64.wrap (u4.1.2.2.2.2.1 - (1 : Int)))
   if 0 ≤ v19 ∧ v19 < ((u4.2.2.1.length : Nat) : Int) then
    ((u4.2.2.1)[(v19).toNat]?).bind fun y20 =>
    (F_cmp_Less_int64 (y18, y20, ())).bind fun r21 =>
    if r21.1.1 then
     let v22 := (IntKind.i64.wrap (u4.1.2.2.2.2.1 - (1 : Int)))
     let v23 := (IntKind.i64.wrap (u4.1.2.2.2.2.1 - (1 : Int)))
     if 0 ≤ v23 ∧ v23 < ((u4.2.2.1.length : Nat) : Int) then
      ((u4.2.2.1)[(v23).toNat]?).bind fun y24 =>
      if 0 ≤ u4.1.2.2.2.2.1 ∧ u4.1.2.2.2.2.1 < ((u4.2.2.1.length : Nat) : Int) then
       ((u4.2.2.1)[(u4.1.2.2.2.2.1).toNat]?).bind fun y25 =>
       if 0 ≤ u4.1.2.2.2.2.1 ∧ u4.1.2.2.2.2.1 < ((u4.2.2.1.length : Nat) : Int) then
        ((u4.2.2.1)[(u4.1.2.2.2.2.1).toNat]?).bind fun y26 =>
        let v27 := (u4.2.2.1.set (u4.1.2.2.2.2.1).toNat y24)
        if 0 ≤ v22 ∧ v22 < ((v27.length : Nat) : Int) then
         ((v27)[(v22).toNat]?).bind fun y28 =>
         let v29 := (v27.set (v22).toNat y25)
         let v30 := (IntKind.i64.wrap (u4.1.2.2.2.2.1 - (1 : Int)))
         rec (((), (u4.1.2.1, (u4.1.2.2.1, (u4.1.2.2.2.1, (v30, ()))))), ((), (v29, ())))
        else none
       else none
      else none
     else none
    else
     some (.inl (((), (u4.1.2.1, (u4.1.2.2.1, (u4.1.2.2.2.1, ())))), ((), (u4.2.2.1, ()))))
   else none
  else none
 else
  some (.inl (((), (u4.1.2.1, (u4.1.2.2.1, (u4.1.2.2.2.1, ())))), ((), (u4.2.2.1, ()))))
def L_bf_4 (x : i_bf_4.den) : Option (denO o_bf_4) := iterF l_bf_4 lots x
abbrev i_bf_1 : Shp := { slots := [(0, .s (.ref 9000100)), (1, .s (.dat YI)), (2, .s (.dat YI)), (6, .s (.dat YI))], boxes := [], rows := [(9000100, 2, YI)] }
abbrev o_bf_1 : List (Ex × Shp) := [(.exit 0, { slots := [], boxes := [], rows := [(9000100, 2, YI)] })]
def l_bf_1 (rec : i_bf_1.den → Option (denO o_bf_1)) (u1 : i_bf_1.den) : Option (denO o_bf_1) :=
 if (ltI u1.1.2.2.2.1 u1.1.2.2.1) then
  (L_bf_4 (((), (u1.1.2.1, (u1.1.2.2.1, (u1.1.2.2.2.1, (u1.1.2.2.2.1, ()))))), ((), (u1.2.2.1, ())))).bind fun z31 =>
  match z31 with
  | .inl x32 =>
   let v33 := (IntKind.i64.wrap (x32.1.2.2.2.1 + (1 : Int)))
   rec (((), (x32.1.2.1, (x32.1.2.2.1, (v33, ())))), ((), (x32.2.2.1, ())))
  | .inr z31_ =>
   none
 else
  some (.inl ((), ((), (u1.2.2.1, ()))))
def L_bf_1 (x : i_bf_1.den) : Option (denO o_bf_1) := iterF l_bf_1 lots x
def F_bf (x : denP P_bf) : Option (denV R_bf × denQ P_bf) :=
 let v1 := (IntKind.i64.wrap (x.2.1 + (1 : Int)))
 (L_bf_1 (((), (x.2.1, (x.2.2.1, (v1, ())))), ((), (x.1, ())))).bind fun z34 =>
 match z34 with
 | .inl x35 =>
  if (x.1.length == x35.2.2.1.length && true) = true then
   some ((), (x35.2.2.1, ()))
  else none
 | .inr z34_ =>
  none
abbrev C_bf : Con := ⟨P_bf, R_bf, F_bf, false⟩
abbrev G_bf : Env := [(112, C_cmp_Less_int64)]
theorem g_bf : EnvOk Try.prog G_bf := (env_cons s_cmp_Less_int64 env_nil)
abbrev c_bf_4 : Cut := ⟨i_bf_4, o_bf_4, fun x => iterF l_bf_4 lots x⟩
theorem t_bf_4 (rec x) : run T G_bf [] (nav Try.f106 [1, 0, 0, 1, 0, 0, 1, 0, 0]) (mk 49 i_bf_4 x) (loopK i_bf_4 o_bf_4 rec) = l_bf_4 rec x := by kernel_rfl
theorem k_bf_4 : CutOk Try.prog 49 (.loop (nav Try.f106 [1, 0, 0, 1, 0, 0, 1, 0, 0])) c_bf_4 :=
  loop_cut (L := []) hT g_bf t_bf_4 okP _
abbrev c_bf_1 : Cut := ⟨i_bf_1, o_bf_1, fun x => iterF l_bf_1 lots x⟩
theorem t_bf_1 (rec x) : run T G_bf [(4, c_bf_4)] (nav Try.f106 [1, 0, 0]) (mk 49 i_bf_1 x) (loopK i_bf_1 o_bf_1 rec) = l_bf_1 rec x := by kernel_rfl
theorem k_bf_1 : CutOk Try.prog 49 (.loop (nav Try.f106 [1, 0, 0])) c_bf_1 :=
  loop_cut (L := [(4, c_bf_4)]) hT g_bf t_bf_1 (okS okP (okS (okB (okS okP (okB (okU k_bf_4)))) okP)) _
theorem r_bf (x) : runFn T G_bf [(4, c_bf_4), (1, c_bf_1)] Try.f106 C_bf.ps C_bf.rs x = C_bf.F x := by kernel_rfl
theorem s_bf : CallsOk Try.prog 106 C_bf := fnC (L := [(4, c_bf_4), (1, c_bf_1)]) hT g_bf Try.f106 (okS okP (okB (okU k_bf_1))) r_bf
/-! slices.pdqsortOrdered[int64] -/
abbrev P_bg : List PK := [.row 2 YI, .val YI, .val YI, .val YI]
abbrev R_bg : List VK := []
abbrev i_bg_2 : Shp := { slots := [(0, .s (.ref 9000100)), (1, .s (.dat YI)), (2, .s (.dat YI)), (3, .s (.dat YI)), (8, .s (.dat .bool)), (9, .s (.dat .bool))], boxes := [], rows := [(9000100, 2, YI)] }
abbrev o_bg_2 : List (Ex × Shp) := [(.ret, { slots := [], boxes := [], rows := [(9000100, 2, YI)] })]
def l_bg_2 (rec : i_bg_2.den → Option (denO o_bg_2)) (u2 : i_bg_2.den) : Option (denO o_bg_2) :=
 let v2 := (IntKind.i64.wrap (u2.1.2.2.1 - u2.1.2.1))
 if (leI v2 (12 : Int)) then
  (F_bf (u2.2.2.1, u2.1.2.1, u2.1.2.2.1, ())).bind fun r3 =>
  if ((u2.2.2.1.length == r3.2.1.length && true) && true) = true then
   some (.inl ((), ((), (r3.2.1, ()))))
  else none
 else
  if (u2.1.2.2.2.1 == (0 : Int)) then none else
  if (!u2.1.2.2.2.2.1) then
   none
  else none
def L_bg_2 (x : i_bg_2.den) : Option (denO o_bg_2) := iterF l_bg_2 lots x
def F_bg (x : denP P_bg) : Option (denV R_bg × denQ P_bg) :=
 (L_bg_2 (((), (x.2.1, (x.2.2.1, (x.2.2.2.1, (true, (true, ())))))), ((), (x.1, ())))).bind fun z4 =>
 match z4 with
 | .inl x5 =>
  if (x.1.length == x5.2.2.1.length && true) = true then
   some ((), (x5.2.2.1, ()))
  else none
 | .inr z4_ =>
  none
abbrev C_bg : Con := ⟨P_bg, R_bg, F_bg, false⟩
abbrev G_bg : Env := [(106, C_bf)]
theorem g_bg : EnvOk Try.prog G_bg := (env_cons s_bf env_nil)
abbrev c_bg_2 : Cut := ⟨i_bg_2, o_bg_2, fun x => iterF l_bg_2 lots x⟩
theorem t_bg_2 (rec x) : run T G_bg [] (nav Try.f89 [1, 1, 0, 0]) (mk 134 i_bg_2 x) (loopK i_bg_2 o_bg_2 rec) = l_bg_2 rec x := by kernel_rfl
theorem k_bg_2 : CutOk Try.prog 134 (.loop (nav Try.f89 [1, 1, 0, 0])) c_bg_2 :=
  loop_cut (L := []) hT g_bg t_bg_2 okP _
theorem r_bg (x) : runFn T G_bg [(2, c_bg_2)] Try.f89 C_bg.ps C_bg.rs x = C_bg.F x := by kernel_rfl
theorem s_bg : CallsOk Try.prog 89 C_bg := fnC (L := [(2, c_bg_2)]) hT g_bg Try.f89 (okS okP (okS okP (okB (okU k_bg_2)))) r_bg
/-! slices.Sort[int64,int64] -/
abbrev P_bh : List PK := [.row 2 YI]
abbrev R_bh : List VK := []
def F_bh (x : denP P_bh) : Option (denV R_bh × denQ P_bh) :=
 let v1 := ((x.1.length : Nat) : Int)
 let v2 := (IntKind.u64.wrap v1)
 (F_be (v2, ())).bind fun r3 =>
 (F_bg (x.1, (0 : Int), v1, r3.1.1, ())).bind fun r4 =>
 if ((x.1.length == r4.2.1.length && true) && true) = true then
  if (x.1.length == r4.2.1.length && true) = true then
   some ((), (r4.2.1, ()))
  else none
 else none
abbrev C_bh : Con := ⟨P_bh, R_bh, F_bh, false⟩
abbrev G_bh : Env := [(89, C_bg), (90, C_be)]
theorem g_bh : EnvOk Try.prog G_bh := (env_cons s_bg (env_cons s_be env_nil))
theorem r_bh (x) : runFn T G_bh [] Try.f62 C_bh.ps C_bh.rs x = C_bh.F x := by kernel_rfl
theorem s_bh : CallsOk Try.prog 62 C_bh := fnC (L := []) hT g_bh Try.f62 okP r_bh
/-! impl.MayChange -/
abbrev P_bi : List PK := [.val Y28, .val YI]
abbrev R_bi : List VK := [.g [.dat YI, .own 2 YI]]
abbrev i_bi_6 : Shp := { slots := [(4, .s (.ptr 4 0)), (6, .s (.own 2 YI)), (18, .s (.own 91 Y32)), (19, .s (.dat YI)), (20, .s (.dat YI))], boxes := [(4, [.dat YI, .own 2 YI])], rows := [] }
abbrev o_bi_6 : List (Ex × Shp) := [(.exit 0, { slots := [(4, .s (.ptr 4 0)), (6, .s (.own 2 YI))], boxes := [(4, [.dat YI, .own 2 YI])], rows := [] })]
def l_bi_6 (rec : i_bi_6.den → Option (denO o_bi_6)) (u6 : i_bi_6.den) : Option (denO o_bi_6) :=
 if (ltI u6.1.2.2.2.2.1 u6.1.2.2.2.1) then
  if 0 ≤ u6.1.2.2.2.2.1 ∧ u6.1.2.2.2.2.1 < ((u6.1.2.2.1.length : Nat) : Int) then
   ((u6.1.2.2.1)[(u6.1.2.2.2.2.1).toNat]?).bind fun y5 =>
   let v6 := (iand .i64 y5.2.1 (2 : Int))
   if (v6 != (0 : Int)) then
    if (u6.1.2.1.length + [y5.1].length) * 8 ≤ 140737488355328 then
     let v7 := (u6.1.2.1 ++ [y5.1])
     let v8 := (IntKind.i64.wrap (u6.1.2.2.2.2.1 + (1 : Int)))
     rec (((), (v7, (u6.1.2.2.1, (u6.1.2.2.2.1, (v8, ()))))), ((u6.2.1.1, ()), ()))
    else none
   else
    let v9 := (IntKind.i64.wrap (u6.1.2.2.2.2.1 + (1 : Int)))
    rec (((), (u6.1.2.1, (u6.1.2.2.1, (u6.1.2.2.2.1, (v9, ()))))), ((u6.2.1.1, ()), ()))
  else none
 else
  some (.inl (((), (u6.1.2.1, ())), ((u6.2.1.1, ()), ())))
def L_bi_6 (x : i_bi_6.den) : Option (denO o_bi_6) := iterF l_bi_6 lots x
def F_bi (x : denP P_bi) : Option (denV R_bi × denQ P_bi) :=
 (F_ax (x.1, x.2.1, ())).bind fun r1 =>
 if (r1.1.1 != (0 : Int)) then
  some (((r1.1.1, (([] : List (den YI)), ())), ()), ())
 else
  (F_bc (x.1, x.2.1, ())).bind fun r2 =>
  let v3 := ((r2.1.1.length : Nat) : Int)
  (L_bi_6 (((), (([] : List (den YI)), (r2.1.1, (v3, ((0 : Int), ()))))), ((((0 : Int), (([] : List (den YI)), ())), ()), ()))).bind fun z10 =>
  match z10 with
  | .inl x11 =>
   (F_bh (x11.1.2.1, ())).bind fun r12 =>
   if ((x11.1.2.1.length == r12.2.1.length && true) && true) = true then
    some ((((0 : Int), (r12.2.1, ())), ()), ())
   else none
  | .inr z10_ =>
   none
abbrev C_bi : Con := ⟨P_bi, R_bi, F_bi, false⟩
abbrev G_bi : Env := [(25, C_ax), (61, C_bc), (62, C_bh)]
theorem g_bi : EnvOk Try.prog G_bi := (env_cons s_ax (env_cons s_bc (env_cons s_bh env_nil)))
abbrev c_bi_6 : Cut := ⟨i_bi_6, o_bi_6, fun x => iterF l_bi_6 lots x⟩
theorem t_bi_6 (rec x) : run T G_bi [] (nav Try.f23 [1, 1, 1, 0, 1, 0, 0]) (mk 38 i_bi_6 x) (loopK i_bi_6 o_bi_6 rec) = l_bi_6 rec x := by kernel_rfl
theorem k_bi_6 : CutOk Try.prog 38 (.loop (nav Try.f23 [1, 1, 1, 0, 1, 0, 0])) c_bi_6 :=
  loop_cut (L := []) hT g_bi t_bi_6 okP _
theorem r_bi (x) : runFn T G_bi [(6, c_bi_6)] Try.f23 C_bi.ps C_bi.rs x = C_bi.F x := by kernel_rfl
theorem s_bi : CallsOk Try.prog 23 C_bi := fnC (L := [(6, c_bi_6)]) hT g_bi Try.f23 (okS okP (okS okP (okS okP (okS (okS okP (okB (okU k_bi_6))) okP)))) r_bi
/-! laws.eqInt64S -/
abbrev P_bj : List PK := [.val Y47, .val Y47]
abbrev R_bj : List VK := [.s (.dat .bool)]
abbrev i_bj_4 : Shp := { slots := [(0, .s (.dat Y47)), (1, .s (.dat Y47)), (5, .s (.dat YI))], boxes := [], rows := [] }
abbrev o_bj_4 : List (Ex × Shp) := [(.exit 0, { slots := [], boxes := [], rows := [] }), (.ret, { slots := [(4, .s (.dat .bool))], boxes := [], rows := [] })]
def l_bj_4 (rec : i_bj_4.den → Option (denO o_bj_4)) (u4 : i_bj_4.den) : Option (denO o_bj_4) :=
 let v5 := ((u4.1.1.length : Nat) : Int)
 if (ltI u4.1.2.2.1 v5) then
  if 0 ≤ u4.1.2.2.1 then
   ((u4.1.1)[(u4.1.2.2.1).toNat]?).bind fun y6 =>
   if 0 ≤ u4.1.2.2.1 then
    ((u4.1.2.1)[(u4.1.2.2.1).toNat]?).bind fun y7 =>
    if (y6 != y7) then
     some (.inr (.inl ((false, ()), ((), ()))))
    else
     let v8 := (IntKind.i64.wrap (u4.1.2.2.1 + (1 : Int)))
     rec ((u4.1.1, (u4.1.2.1, (v8, ()))), ((), ()))
   else none
  else none
 else
  some (.inl ((), ((), ())))
def L_bj_4 (x : i_bj_4.den) : Option (denO o_bj_4) := iterF l_bj_4 lots x
def F_bj (x : denP P_bj) : Option (denV R_bj × denQ P_bj) :=
 let v1 := ((x.1.length : Nat) : Int)
 let v2 := ((x.2.1.length : Nat) : Int)
 if (v1 != v2) then
  some ((false, ()), ())
 else
  (L_bj_4 ((x.1, (x.2.1, ((0 : Int), ()))), ((), ()))).bind fun z9 =>
  match z9 with
  | .inl x10 =>
   some ((true, ()), ())
  | .inr z9_ =>
   match z9_ with
   | .inl x11 =>
    some ((x11.1.1, ()), ())
   | .inr z9__ =>
    none
abbrev C_bj : Con := ⟨P_bj, R_bj, F_bj, false⟩
abbrev G_bj : Env := []
theorem g_bj : EnvOk Try.prog G_bj := env_nil
abbrev c_bj_4 : Cut := ⟨i_bj_4, o_bj_4, fun x => iterF l_bj_4 lots x⟩
theorem t_bj_4 (rec x) : run T G_bj [] (nav Try.f48 [1, 1, 0, 1, 0, 0]) (mk 26 i_bj_4 x) (loopK i_bj_4 o_bj_4 rec) = l_bj_4 rec x := by kernel_rfl
theorem k_bj_4 : CutOk Try.prog 26 (.loop (nav Try.f48 [1, 1, 0, 1, 0, 0])) c_bj_4 :=
  loop_cut (L := []) hT g_bj t_bj_4 okP _
theorem r_bj (x) : runFn T G_bj [(4, c_bj_4)] Try.f48 C_bj.ps C_bj.rs x = C_bj.F x := by kernel_rfl
theorem s_bj : CallsOk Try.prog 48 C_bj := fnC (L := [(4, c_bj_4)]) hT g_bj Try.f48 (okS okP (okS okP (okS (okS okP (okB (okU k_bj_4))) okP))) r_bj
/-! laws.eqIntsResult -/
abbrev P_bk : List PK := [.val Y48, .val Y48]
abbrev R_bk : List VK := [.s (.dat .bool)]
def F_bk (x : denP P_bk) : Option (denV R_bk × denQ P_bk) :=
 if (x.1.1 != x.2.1.1) then
  some ((false, ()), ())
 else
  (F_bj (x.1.2.1, x.2.1.2.1, ())).bind fun r1 =>
  if (!r1.1.1) then
   some ((false, ()), ())
  else
   some ((true, ()), ())
abbrev C_bk : Con := ⟨P_bk, R_bk, F_bk, false⟩
abbrev G_bk : Env := [(48, C_bj)]
theorem g_bk : EnvOk Try.prog G_bk := (env_cons s_bj env_nil)
theorem r_bk (x) : runFn T G_bk [] Try.f17 C_bk.ps C_bk.rs x = C_bk.F x := by kernel_rfl
theorem s_bk : CallsOk Try.prog 17 C_bk := fnC (L := []) hT g_bk Try.f17 okP r_bk
/-! laws.eqInt64SS -/
abbrev P_bl : List PK := [.val Y24, .val Y24]
abbrev R_bl : List VK := [.s (.dat .bool)]
abbrev i_bl_4 : Shp := { slots := [(0, .s (.dat Y24)), (1, .s (.dat Y24)), (5, .s (.dat YI))], boxes := [], rows := [] }
abbrev o_bl_4 : List (Ex × Shp) := [(.exit 0, { slots := [], boxes := [], rows := [] }), (.ret, { slots := [(4, .s (.dat .bool))], boxes := [], rows := [] })]
def l_bl_4 (rec : i_bl_4.den → Option (denO o_bl_4)) (u4 : i_bl_4.den) : Option (denO o_bl_4) :=
 let v6 := ((u4.1.1.length : Nat) : Int)
 if (ltI u4.1.2.2.1 v6) then
  if 0 ≤ u4.1.2.2.1 then
   ((u4.1.1)[(u4.1.2.2.1).toNat]?).bind fun y7 =>
   if 0 ≤ u4.1.2.2.1 then
    ((u4.1.2.1)[(u4.1.2.2.1).toNat]?).bind fun y8 =>
    (F_bj (y7, y8, ())).bind fun r9 =>
    if (!r9.1.1) then
     some (.inr (.inl ((false, ()), ((), ()))))
    else
     let v10 := (IntKind.i64.wrap (u4.1.2.2.1 + (1 : Int)))
     rec ((u4.1.1, (u4.1.2.1, (v10, ()))), ((), ()))
   else none
  else none
 else
  some (.inl ((), ((), ())))
def L_bl_4 (x : i_bl_4.den) : Option (denO o_bl_4) := iterF l_bl_4 lots x
def F_bl (x : denP P_bl) : Option (denV R_bl × denQ P_bl) :=
 let v1 := ((x.1.length : Nat) : Int)
 let v2 := ((x.2.1.length : Nat) : Int)
 if (v1 != v2) then
  some ((false, ()), ())
 else
  (L_bl_4 ((x.1, (x.2.1, ((0 : Int), ()))), ((), ()))).bind fun z11 =>
  match z11 with
  | .inl x12 =>
   some ((true, ()), ())
  | .inr z11_ =>
   match z11_ with
   | .inl x13 =>
    some ((x13.1.1, ()), ())
   | .inr z11__ =>
    none
abbrev C_bl : Con := ⟨P_bl, R_bl, F_bl, false⟩
abbrev G_bl : Env := [(48, C_bj)]
theorem g_bl : EnvOk Try.prog G_bl := (env_cons s_bj env_nil)
abbrev c_bl_4 : Cut := ⟨i_bl_4, o_bl_4, fun x => iterF l_bl_4 lots x⟩
theorem t_bl_4 (rec x) : run T G_bl [] (nav Try.f49 [1, 1, 0, 1, 0, 0]) (mk 27 i_bl_4 x) (loopK i_bl_4 o_bl_4 rec) = l_bl_4 rec x := by kernel_rfl
theorem k_bl_4 : CutOk Try.prog 27 (.loop (nav Try.f49 [1, 1, 0, 1, 0, 0])) c_bl_4 :=
  loop_cut (L := []) hT g_bl t_bl_4 okP _
theorem r_bl (x) : runFn T G_bl [(4, c_bl_4)] Try.f49 C_bl.ps C_bl.rs x = C_bl.F x := by kernel_rfl
theorem s_bl : CallsOk Try.prog 49 C_bl := fnC (L := [(4, c_bl_4)]) hT g_bl Try.f49 (okS okP (okS okP (okS (okS okP (okB (okU k_bl_4))) okP))) r_bl
/-! laws.eqLane -/
abbrev P_bm : List PK := [.val Y104, .val Y104]
abbrev R_bm : List VK := [.s (.dat .bool)]
def F_bm (x : denP P_bm) : Option (denV R_bm × denQ P_bm) :=
 if (x.1.1 != x.2.1.1) then
  some ((false, ()), ())
 else
  if (x.1.2.1 != x.2.1.2.1) then
   some ((false, ()), ())
  else
   if (x.1.2.2.1 != x.2.1.2.2.1) then
    some ((false, ()), ())
   else
    if (x.1.2.2.2.1 != x.2.1.2.2.2.1) then
     some ((false, ()), ())
    else
     if (x.1.2.2.2.2.1 != x.2.1.2.2.2.2.1) then
      some ((false, ()), ())
     else
      some ((true, ()), ())
abbrev C_bm : Con := ⟨P_bm, R_bm, F_bm, false⟩
abbrev G_bm : Env := []
theorem g_bm : EnvOk Try.prog G_bm := env_nil
theorem r_bm (x) : runFn T G_bm [] Try.f83 C_bm.ps C_bm.rs x = C_bm.F x := by kernel_rfl
theorem s_bm : CallsOk Try.prog 83 C_bm := fnC (L := []) hT g_bm Try.f83 okP r_bm
/-! laws.eqLaneS -/
abbrev P_bn : List PK := [.val Y25, .val Y25]
abbrev R_bn : List VK := [.s (.dat .bool)]
abbrev i_bn_4 : Shp := { slots := [(0, .s (.dat Y25)), (1, .s (.dat Y25)), (5, .s (.dat YI))], boxes := [], rows := [] }
abbrev o_bn_4 : List (Ex × Shp) := [(.exit 0, { slots := [], boxes := [], rows := [] }), (.ret, { slots := [(4, .s (.dat .bool))], boxes := [], rows := [] })]
def l_bn_4 (rec : i_bn_4.den → Option (denO o_bn_4)) (u4 : i_bn_4.den) : Option (denO o_bn_4) :=
 let v6 := ((u4.1.1.length : Nat) : Int)
 if (ltI u4.1.2.2.1 v6) then
  if 0 ≤ u4.1.2.2.1 then
   ((u4.1.1)[(u4.1.2.2.1).toNat]?).bind fun y7 =>
   if 0 ≤ u4.1.2.2.1 then
    ((u4.1.2.1)[(u4.1.2.2.1).toNat]?).bind fun y8 =>
    (F_bm (y7, y8, ())).bind fun r9 =>
    if (!r9.1.1) then
     some (.inr (.inl ((false, ()), ((), ()))))
    else
     let v10 := (IntKind.i64.wrap (u4.1.2.2.1 + (1 : Int)))
     rec ((u4.1.1, (u4.1.2.1, (v10, ()))), ((), ()))
   else none
  else none
 else
  some (.inl ((), ((), ())))
def L_bn_4 (x : i_bn_4.den) : Option (denO o_bn_4) := iterF l_bn_4 lots x
def F_bn (x : denP P_bn) : Option (denV R_bn × denQ P_bn) :=
 let v1 := ((x.1.length : Nat) : Int)
 let v2 := ((x.2.1.length : Nat) : Int)
 if (v1 != v2) then
  some ((false, ()), ())
 else
  (L_bn_4 ((x.1, (x.2.1, ((0 : Int), ()))), ((), ()))).bind fun z11 =>
  match z11 with
  | .inl x12 =>
   some ((true, ()), ())
  | .inr z11_ =>
   match z11_ with
   | .inl x13 =>
    some ((x13.1.1, ()), ())
   | .inr z11__ =>
    none
abbrev C_bn : Con := ⟨P_bn, R_bn, F_bn, false⟩
abbrev G_bn : Env := [(83, C_bm)]
theorem g_bn : EnvOk Try.prog G_bn := (env_cons s_bm env_nil)
abbrev c_bn_4 : Cut := ⟨i_bn_4, o_bn_4, fun x => iterF l_bn_4 lots x⟩
theorem t_bn_4 (rec x) : run T G_bn [] (nav Try.f50 [1, 1, 0, 1, 0, 0]) (mk 27 i_bn_4 x) (loopK i_bn_4 o_bn_4 rec) = l_bn_4 rec x := by kernel_rfl
theorem k_bn_4 : CutOk Try.prog 27 (.loop (nav Try.f50 [1, 1, 0, 1, 0, 0])) c_bn_4 :=
  loop_cut (L := []) hT g_bn t_bn_4 okP _
theorem r_bn (x) : runFn T G_bn [(4, c_bn_4)] Try.f50 C_bn.ps C_bn.rs x = C_bn.F x := by kernel_rfl
theorem s_bn : CallsOk Try.prog 50 C_bn := fnC (L := [(4, c_bn_4)]) hT g_bn Try.f50 (okS okP (okS okP (okS (okS okP (okB (okU k_bn_4))) okP))) r_bn
/-! laws.eqBell -/
abbrev P_bo : List PK := [.val Y32, .val Y32]
abbrev R_bo : List VK := [.s (.dat .bool)]
def F_bo (x : denP P_bo) : Option (denV R_bo × denQ P_bo) :=
 if (x.1.1 != x.2.1.1) then
  some ((false, ()), ())
 else
  if (x.1.2.1 != x.2.1.2.1) then
   some ((false, ()), ())
  else
   some ((true, ()), ())
abbrev C_bo : Con := ⟨P_bo, R_bo, F_bo, false⟩
abbrev G_bo : Env := []
theorem g_bo : EnvOk Try.prog G_bo := env_nil
theorem r_bo (x) : runFn T G_bo [] Try.f84 C_bo.ps C_bo.rs x = C_bo.F x := by kernel_rfl
theorem s_bo : CallsOk Try.prog 84 C_bo := fnC (L := []) hT g_bo Try.f84 okP r_bo
/-! laws.eqBellS -/
abbrev P_bp : List PK := [.val Y26, .val Y26]
abbrev R_bp : List VK := [.s (.dat .bool)]
abbrev i_bp_4 : Shp := { slots := [(0, .s (.dat Y26)), (1, .s (.dat Y26)), (5, .s (.dat YI))], boxes := [], rows := [] }
abbrev o_bp_4 : List (Ex × Shp) := [(.exit 0, { slots := [], boxes := [], rows := [] }), (.ret, { slots := [(4, .s (.dat .bool))], boxes := [], rows := [] })]
def l_bp_4 (rec : i_bp_4.den → Option (denO o_bp_4)) (u4 : i_bp_4.den) : Option (denO o_bp_4) :=
 let v6 := ((u4.1.1.length : Nat) : Int)
 if (ltI u4.1.2.2.1 v6) then
  if 0 ≤ u4.1.2.2.1 then
   ((u4.1.1)[(u4.1.2.2.1).toNat]?).bind fun y7 =>
   if 0 ≤ u4.1.2.2.1 then
    ((u4.1.2.1)[(u4.1.2.2.1).toNat]?).bind fun y8 =>
    (F_bo (y7, y8, ())).bind fun r9 =>
    if (!r9.1.1) then
     some (.inr (.inl ((false, ()), ((), ()))))
    else
     let v10 := (IntKind.i64.wrap (u4.1.2.2.1 + (1 : Int)))
     rec ((u4.1.1, (u4.1.2.1, (v10, ()))), ((), ()))
   else none
  else none
 else
  some (.inl ((), ((), ())))
def L_bp_4 (x : i_bp_4.den) : Option (denO o_bp_4) := iterF l_bp_4 lots x
def F_bp (x : denP P_bp) : Option (denV R_bp × denQ P_bp) :=
 let v1 := ((x.1.length : Nat) : Int)
 let v2 := ((x.2.1.length : Nat) : Int)
 if (v1 != v2) then
  some ((false, ()), ())
 else
  (L_bp_4 ((x.1, (x.2.1, ((0 : Int), ()))), ((), ()))).bind fun z11 =>
  match z11 with
  | .inl x12 =>
   some ((true, ()), ())
  | .inr z11_ =>
   match z11_ with
   | .inl x13 =>
    some ((x13.1.1, ()), ())
   | .inr z11__ =>
    none
abbrev C_bp : Con := ⟨P_bp, R_bp, F_bp, false⟩
abbrev G_bp : Env := [(84, C_bo)]
theorem g_bp : EnvOk Try.prog G_bp := (env_cons s_bo env_nil)
abbrev c_bp_4 : Cut := ⟨i_bp_4, o_bp_4, fun x => iterF l_bp_4 lots x⟩
theorem t_bp_4 (rec x) : run T G_bp [] (nav Try.f51 [1, 1, 0, 1, 0, 0]) (mk 27 i_bp_4 x) (loopK i_bp_4 o_bp_4 rec) = l_bp_4 rec x := by kernel_rfl
theorem k_bp_4 : CutOk Try.prog 27 (.loop (nav Try.f51 [1, 1, 0, 1, 0, 0])) c_bp_4 :=
  loop_cut (L := []) hT g_bp t_bp_4 okP _
theorem r_bp (x) : runFn T G_bp [(4, c_bp_4)] Try.f51 C_bp.ps C_bp.rs x = C_bp.F x := by kernel_rfl
theorem s_bp : CallsOk Try.prog 51 C_bp := fnC (L := [(4, c_bp_4)]) hT g_bp Try.f51 (okS okP (okS okP (okS (okS okP (okB (okU k_bp_4))) okP))) r_bp
/-! laws.eqSlot -/
abbrev P_bq : List PK := [.val Y32, .val Y32]
abbrev R_bq : List VK := [.s (.dat .bool)]
def F_bq (x : denP P_bq) : Option (denV R_bq × denQ P_bq) :=
 if (x.1.1 != x.2.1.1) then
  some ((false, ()), ())
 else
  if (x.1.2.1 != x.2.1.2.1) then
   some ((false, ()), ())
  else
   some ((true, ()), ())
abbrev C_bq : Con := ⟨P_bq, R_bq, F_bq, false⟩
abbrev G_bq : Env := []
theorem g_bq : EnvOk Try.prog G_bq := env_nil
theorem r_bq (x) : runFn T G_bq [] Try.f85 C_bq.ps C_bq.rs x = C_bq.F x := by kernel_rfl
theorem s_bq : CallsOk Try.prog 85 C_bq := fnC (L := []) hT g_bq Try.f85 okP r_bq
/-! laws.eqSlotS -/
abbrev P_br : List PK := [.val Y26, .val Y26]
abbrev R_br : List VK := [.s (.dat .bool)]
abbrev i_br_4 : Shp := { slots := [(0, .s (.dat Y26)), (1, .s (.dat Y26)), (5, .s (.dat YI))], boxes := [], rows := [] }
abbrev o_br_4 : List (Ex × Shp) := [(.exit 0, { slots := [], boxes := [], rows := [] }), (.ret, { slots := [(4, .s (.dat .bool))], boxes := [], rows := [] })]
def l_br_4 (rec : i_br_4.den → Option (denO o_br_4)) (u4 : i_br_4.den) : Option (denO o_br_4) :=
 let v6 := ((u4.1.1.length : Nat) : Int)
 if (ltI u4.1.2.2.1 v6) then
  if 0 ≤ u4.1.2.2.1 then
   ((u4.1.1)[(u4.1.2.2.1).toNat]?).bind fun y7 =>
   if 0 ≤ u4.1.2.2.1 then
    ((u4.1.2.1)[(u4.1.2.2.1).toNat]?).bind fun y8 =>
    (F_bq (y7, y8, ())).bind fun r9 =>
    if (!r9.1.1) then
     some (.inr (.inl ((false, ()), ((), ()))))
    else
     let v10 := (IntKind.i64.wrap (u4.1.2.2.1 + (1 : Int)))
     rec ((u4.1.1, (u4.1.2.1, (v10, ()))), ((), ()))
   else none
  else none
 else
  some (.inl ((), ((), ())))
def L_br_4 (x : i_br_4.den) : Option (denO o_br_4) := iterF l_br_4 lots x
def F_br (x : denP P_br) : Option (denV R_br × denQ P_br) :=
 let v1 := ((x.1.length : Nat) : Int)
 let v2 := ((x.2.1.length : Nat) : Int)
 if (v1 != v2) then
  some ((false, ()), ())
 else
  (L_br_4 ((x.1, (x.2.1, ((0 : Int), ()))), ((), ()))).bind fun z11 =>
  match z11 with
  | .inl x12 =>
   some ((true, ()), ())
  | .inr z11_ =>
   match z11_ with
   | .inl x13 =>
    some ((x13.1.1, ()), ())
   | .inr z11__ =>
    none
abbrev C_br : Con := ⟨P_br, R_br, F_br, false⟩
abbrev G_br : Env := [(85, C_bq)]
theorem g_br : EnvOk Try.prog G_br := (env_cons s_bq env_nil)
abbrev c_br_4 : Cut := ⟨i_br_4, o_br_4, fun x => iterF l_br_4 lots x⟩
theorem t_br_4 (rec x) : run T G_br [] (nav Try.f52 [1, 1, 0, 1, 0, 0]) (mk 27 i_br_4 x) (loopK i_br_4 o_br_4 rec) = l_br_4 rec x := by kernel_rfl
theorem k_br_4 : CutOk Try.prog 27 (.loop (nav Try.f52 [1, 1, 0, 1, 0, 0])) c_br_4 :=
  loop_cut (L := []) hT g_br t_br_4 okP _
theorem r_br (x) : runFn T G_br [(4, c_br_4)] Try.f52 C_br.ps C_br.rs x = C_br.F x := by kernel_rfl
theorem s_br : CallsOk Try.prog 52 C_br := fnC (L := [(4, c_br_4)]) hT g_br Try.f52 (okS okP (okS okP (okS (okS okP (okB (okU k_br_4))) okP))) r_br
/-! laws.eqPolicy -/
abbrev P_bs : List PK := [.val Y28, .val Y28]
abbrev R_bs : List VK := [.s (.dat .bool)]
def F_bs (x : denP P_bs) : Option (denV R_bs × denQ P_bs) :=
 (F_bl (x.1.1, x.2.1.1, ())).bind fun r1 =>
 if (!r1.1.1) then
  some ((false, ()), ())
 else
  (F_bn (x.1.2.1, x.2.1.2.1, ())).bind fun r2 =>
  if (!r2.1.1) then
   some ((false, ()), ())
  else
   (F_bp (x.1.2.2.1, x.2.1.2.2.1, ())).bind fun r3 =>
   if (!r3.1.1) then
    some ((false, ()), ())
   else
    (F_br (x.1.2.2.2.1, x.2.1.2.2.2.1, ())).bind fun r4 =>
    if (!r4.1.1) then
     some ((false, ()), ())
    else
     some ((true, ()), ())
abbrev C_bs : Con := ⟨P_bs, R_bs, F_bs, false⟩
abbrev G_bs : Env := [(49, C_bl), (50, C_bn), (51, C_bp), (52, C_br)]
theorem g_bs : EnvOk Try.prog G_bs := (env_cons s_bl (env_cons s_bn (env_cons s_bp (env_cons s_br env_nil))))
theorem r_bs (x) : runFn T G_bs [] Try.f18 C_bs.ps C_bs.rs x = C_bs.F x := by kernel_rfl
theorem s_bs : CallsOk Try.prog 18 C_bs := fnC (L := []) hT g_bs Try.f18 okP r_bs
/-! laws.markInt64S -/
abbrev P_bt : List PK := [.row 2 YI, .val YI]
abbrev R_bt : List VK := [.s (.dat YI)]
abbrev i_bt_2 : Shp := { slots := [(0, .s (.ref 9000100)), (1, .s (.dat YI)), (5, .s (.dat YI))], boxes := [], rows := [(9000100, 2, YI)] }
abbrev o_bt_2 : List (Ex × Shp) := [(.exit 0, { slots := [(1, .s (.dat YI))], boxes := [], rows := [(9000100, 2, YI)] })]
def l_bt_2 (rec : i_bt_2.den → Option (denO o_bt_2)) (u2 : i_bt_2.den) : Option (denO o_bt_2) :=
 let v2 := ((u2.2.2.1.length : Nat) : Int)
 if (ltI u2.1.2.2.1 v2) then
  if 0 ≤ u2.1.2.2.1 ∧ u2.1.2.2.1 < ((u2.2.2.1.length : Nat) : Int) then
   ((u2.2.2.1)[(u2.1.2.2.1).toNat]?).bind fun y3 =>
   let v4 := (u2.2.2.1.set (u2.1.2.2.1).toNat u2.1.2.1)
   let v5 := (IntKind.i64.wrap (u2.1.2.1 + (1 : Int)))
   let v6 := (IntKind.i64.wrap (u2.1.2.2.1 + (1 : Int)))
   rec (((), (v5, (v6, ()))), ((), (v4, ())))
  else none
 else
  some (.inl ((u2.1.2.1, ()), ((), (u2.2.2.1, ()))))
def L_bt_2 (x : i_bt_2.den) : Option (denO o_bt_2) := iterF l_bt_2 lots x
def F_bt (x : denP P_bt) : Option (denV R_bt × denQ P_bt) :=
 (L_bt_2 (((), (x.2.1, ((0 : Int), ()))), ((), (x.1, ())))).bind fun z7 =>
 match z7 with
 | .inl x8 =>
  if (x.1.length == x8.2.2.1.length && true) = true then
   some ((x8.1.1, ()), (x8.2.2.1, ()))
  else none
 | .inr z7_ =>
  none
abbrev C_bt : Con := ⟨P_bt, R_bt, F_bt, false⟩
abbrev G_bt : Env := []
theorem g_bt : EnvOk Try.prog G_bt := env_nil
abbrev c_bt_2 : Cut := ⟨i_bt_2, o_bt_2, fun x => iterF l_bt_2 lots x⟩
theorem t_bt_2 (rec x) : run T G_bt [] (nav Try.f57 [1, 0, 1, 0, 0]) (mk 19 i_bt_2 x) (loopK i_bt_2 o_bt_2 rec) = l_bt_2 rec x := by kernel_rfl
theorem k_bt_2 : CutOk Try.prog 19 (.loop (nav Try.f57 [1, 0, 1, 0, 0])) c_bt_2 :=
  loop_cut (L := []) hT g_bt t_bt_2 okP _
theorem r_bt (x) : runFn T G_bt [(2, c_bt_2)] Try.f57 C_bt.ps C_bt.rs x = C_bt.F x := by kernel_rfl
theorem s_bt : CallsOk Try.prog 57 C_bt := fnC (L := [(2, c_bt_2)]) hT g_bt Try.f57 (okS okP (okS (okS okP (okB (okU k_bt_2))) okP)) r_bt
/-! laws.markInt64SS -/
abbrev P_bu : List PK := [.row 1000003000047 Y47, .val YI]
abbrev R_bu : List VK := [.s (.dat YI)]
abbrev i_bu_2 : Shp := { slots := [(0, .s (.ref 9000100)), (1, .s (.dat YI)), (5, .s (.dat YI))], boxes := [], rows := [(9000100, 1000003000047, Y47)] }
abbrev o_bu_2 : List (Ex × Shp) := [(.exit 0, { slots := [(1, .s (.dat YI))], boxes := [], rows := [(9000100, 1000003000047, Y47)] })]
def l_bu_2 (rec : i_bu_2.den → Option (denO o_bu_2)) (u2 : i_bu_2.den) : Option (denO o_bu_2) :=
 let v4 := ((u2.2.2.1.length : Nat) : Int)
 if (ltI u2.1.2.2.1 v4) then
  if 0 ≤ u2.1.2.2.1 ∧ u2.1.2.2.1 < ((u2.2.2.1.length : Nat) : Int) then
   ((u2.2.2.1)[(u2.1.2.2.1).toNat]?).bind fun y5 =>
   ((u2.2.2.1)[(u2.1.2.2.1).toNat]?).bind fun y6 =>
   (F_bt (y6, u2.1.2.1, ())).bind fun r7 =>
   if r7.2.1.length = y6.length then
    let v8 := (IntKind.i64.wrap (u2.1.2.2.1 + (1 : Int)))
    rec (((), (r7.1.1, (v8, ()))), ((), ((u2.2.2.1.set (u2.1.2.2.1).toNat r7.2.1), ())))
   else none
  else none
 else
  some (.inl ((u2.1.2.1, ()), ((), (u2.2.2.1, ()))))
def L_bu_2 (x : i_bu_2.den) : Option (denO o_bu_2) := iterF l_bu_2 lots x
def F_bu (x : denP P_bu) : Option (denV R_bu × denQ P_bu) :=
 (L_bu_2 (((), (x.2.1, ((0 : Int), ()))), ((), (x.1, ())))).bind fun z9 =>
 match z9 with
 | .inl x10 =>
  if (x.1.length == x10.2.2.1.length && true) = true then
   some ((x10.1.1, ()), (x10.2.2.1, ()))
  else none
 | .inr z9_ =>
  none
abbrev C_bu : Con := ⟨P_bu, R_bu, F_bu, false⟩
abbrev G_bu : Env := [(57, C_bt)]
theorem g_bu : EnvOk Try.prog G_bu := (env_cons s_bt env_nil)
abbrev c_bu_2 : Cut := ⟨i_bu_2, o_bu_2, fun x => iterF l_bu_2 lots x⟩
theorem t_bu_2 (rec x) : run T G_bu [] (nav Try.f53 [1, 0, 1, 0, 0]) (mk 19 i_bu_2 x) (loopK i_bu_2 o_bu_2 rec) = l_bu_2 rec x := by kernel_rfl
theorem k_bu_2 : CutOk Try.prog 19 (.loop (nav Try.f53 [1, 0, 1, 0, 0])) c_bu_2 :=
  loop_cut (L := []) hT g_bu t_bu_2 okP _
theorem r_bu (x) : runFn T G_bu [(2, c_bu_2)] Try.f53 C_bu.ps C_bu.rs x = C_bu.F x := by kernel_rfl
theorem s_bu : CallsOk Try.prog 53 C_bu := fnC (L := [(2, c_bu_2)]) hT g_bu Try.f53 (okS okP (okS (okS okP (okB (okU k_bu_2))) okP)) r_bu
/-! laws.markLaneS -/
abbrev P_bv : List PK := [.row 105 Y104, .val YI]
abbrev R_bv : List VK := [.s (.dat YI)]
abbrev i_bv_2 : Shp := { slots := [(0, .s (.ref 9000100)), (1, .s (.dat YI)), (5, .s (.dat YI))], boxes := [], rows := [(9000100, 105, Y104)] }
abbrev o_bv_2 : List (Ex × Shp) := [(.exit 0, { slots := [(1, .s (.dat YI))], boxes := [], rows := [(9000100, 105, Y104)] })]
def l_bv_2 (rec : i_bv_2.den → Option (denO o_bv_2)) (u2 : i_bv_2.den) : Option (denO o_bv_2) :=
 let v6 := ((u2.2.2.1.length : Nat) : Int)
 if (ltI u2.1.2.2.1 v6) then
  if 0 ≤ u2.1.2.2.1 ∧ u2.1.2.2.1 < ((u2.2.2.1.length : Nat) : Int) then
   ((u2.2.2.1)[(u2.1.2.2.1).toNat]?).bind fun y7 =>
   let v8 := (u2.2.2.1.set (u2.1.2.2.1).toNat (u2.1.2.1, y7.2))
   let v9 := (IntKind.i64.wrap (u2.1.2.1 + (1 : Int)))
   if 0 ≤ u2.1.2.2.1 ∧ u2.1.2.2.1 < ((v8.length : Nat) : Int) then
    ((v8)[(u2.1.2.2.1).toNat]?).bind fun y10 =>
    let v11 := (v8.set (u2.1.2.2.1).toNat (y10.1, (v9, y10.2.2)))
    let v12 := (IntKind.i64.wrap (v9 + (1 : Int)))
    if 0 ≤ u2.1.2.2.1 ∧ u2.1.2.2.1 < ((v11.length : Nat) : Int) then
     ((v11)[(u2.1.2.2.1).toNat]?).bind fun y13 =>
     let v14 := (v11.set (u2.1.2.2.1).toNat (y13.1, (y13.2.1, (v12, y13.2.2.2))))
     let v15 := (IntKind.i64.wrap (v12 + (1 : Int)))
     if 0 ≤ u2.1.2.2.1 ∧ u2.1.2.2.1 < ((v14.length : Nat) : Int) then
      ((v14)[(u2.1.2.2.1).toNat]?).bind fun y16 =>
      let v17 := (v14.set (u2.1.2.2.1).toNat (y16.1, (y16.2.1, (y16.2.2.1, (v15, y16.2.2.2.2)))))
      let v18 := (IntKind.i64.wrap (v15 + (1 : Int)))
      if 0 ≤ u2.1.2.2.1 ∧ u2.1.2.2.1 < ((v17.length : Nat) : Int) then
       ((v17)[(u2.1.2.2.1).toNat]?).bind fun y19 =>
       let v20 := (v17.set (u2.1.2.2.1).toNat (y19.1, (y19.2.1, (y19.2.2.1, (y19.2.2.2.1, (v18, y19.2.2.2.2.2))))))
       let v21 := (IntKind.i64.wrap (v18 + (1 : Int)))
       let v22 := (IntKind.i64.wrap (u2.1.2.2.1 + (1 : Int)))
       rec (((), (v21, (v22, ()))), ((), (v20, ())))
      else none
     else none
    else none
   else none
  else none
 else
  some (.inl ((u2.1.2.1, ()), ((), (u2.2.2.1, ()))))
def L_bv_2 (x : i_bv_2.den) : Option (denO o_bv_2) := iterF l_bv_2 lots x
def F_bv (x : denP P_bv) : Option (denV R_bv × denQ P_bv) :=
 (L_bv_2 (((), (x.2.1, ((0 : Int), ()))), ((), (x.1, ())))).bind fun z23 =>
 match z23 with
 | .inl x24 =>
  if (x.1.length == x24.2.2.1.length && true) = true then
   some ((x24.1.1, ()), (x24.2.2.1, ()))
  else none
 | .inr z23_ =>
  none
abbrev C_bv : Con := ⟨P_bv, R_bv, F_bv, false⟩
abbrev G_bv : Env := []
theorem g_bv : EnvOk Try.prog G_bv := env_nil
abbrev c_bv_2 : Cut := ⟨i_bv_2, o_bv_2, fun x => iterF l_bv_2 lots x⟩
theorem t_bv_2 (rec x) : run T G_bv [] (nav Try.f54 [1, 0, 1, 0, 0]) (mk 48 i_bv_2 x) (loopK i_bv_2 o_bv_2 rec) = l_bv_2 rec x := by kernel_rfl
theorem k_bv_2 : CutOk Try.prog 48 (.loop (nav Try.f54 [1, 0, 1, 0, 0])) c_bv_2 :=
  loop_cut (L := []) hT g_bv t_bv_2 okP _
theorem r_bv (x) : runFn T G_bv [(2, c_bv_2)] Try.f54 C_bv.ps C_bv.rs x = C_bv.F x := by kernel_rfl
theorem s_bv : CallsOk Try.prog 54 C_bv := fnC (L := [(2, c_bv_2)]) hT g_bv Try.f54 (okS okP (okS (okS okP (okB (okU k_bv_2))) okP)) r_bv
/-! laws.markBellS -/
abbrev P_bw : List PK := [.row 108 Y32, .val YI]
abbrev R_bw : List VK := [.s (.dat YI)]
abbrev i_bw_2 : Shp := { slots := [(0, .s (.ref 9000100)), (1, .s (.dat YI)), (5, .s (.dat YI))], boxes := [], rows := [(9000100, 108, Y32)] }
abbrev o_bw_2 : List (Ex × Shp) := [(.exit 0, { slots := [(1, .s (.dat YI))], boxes := [], rows := [(9000100, 108, Y32)] })]
def l_bw_2 (rec : i_bw_2.den → Option (denO o_bw_2)) (u2 : i_bw_2.den) : Option (denO o_bw_2) :=
 let v3 := ((u2.2.2.1.length : Nat) : Int)
 if (ltI u2.1.2.2.1 v3) then
  if 0 ≤ u2.1.2.2.1 ∧ u2.1.2.2.1 < ((u2.2.2.1.length : Nat) : Int) then
   ((u2.2.2.1)[(u2.1.2.2.1).toNat]?).bind fun y4 =>
   let v5 := (u2.2.2.1.set (u2.1.2.2.1).toNat (u2.1.2.1, y4.2))
   let v6 := (IntKind.i64.wrap (u2.1.2.1 + (1 : Int)))
   if 0 ≤ u2.1.2.2.1 ∧ u2.1.2.2.1 < ((v5.length : Nat) : Int) then
    ((v5)[(u2.1.2.2.1).toNat]?).bind fun y7 =>
    let v8 := (v5.set (u2.1.2.2.1).toNat (y7.1, (v6, y7.2.2)))
    let v9 := (IntKind.i64.wrap (v6 + (1 : Int)))
    let v10 := (IntKind.i64.wrap (u2.1.2.2.1 + (1 : Int)))
    rec (((), (v9, (v10, ()))), ((), (v8, ())))
   else none
  else none
 else
  some (.inl ((u2.1.2.1, ()), ((), (u2.2.2.1, ()))))
def L_bw_2 (x : i_bw_2.den) : Option (denO o_bw_2) := iterF l_bw_2 lots x
def F_bw (x : denP P_bw) : Option (denV R_bw × denQ P_bw) :=
 (L_bw_2 (((), (x.2.1, ((0 : Int), ()))), ((), (x.1, ())))).bind fun z11 =>
 match z11 with
 | .inl x12 =>
  if (x.1.length == x12.2.2.1.length && true) = true then
   some ((x12.1.1, ()), (x12.2.2.1, ()))
  else none
 | .inr z11_ =>
  none
abbrev C_bw : Con := ⟨P_bw, R_bw, F_bw, false⟩
abbrev G_bw : Env := []
theorem g_bw : EnvOk Try.prog G_bw := env_nil
abbrev c_bw_2 : Cut := ⟨i_bw_2, o_bw_2, fun x => iterF l_bw_2 lots x⟩
theorem t_bw_2 (rec x) : run T G_bw [] (nav Try.f55 [1, 0, 1, 0, 0]) (mk 27 i_bw_2 x) (loopK i_bw_2 o_bw_2 rec) = l_bw_2 rec x := by kernel_rfl
theorem k_bw_2 : CutOk Try.prog 27 (.loop (nav Try.f55 [1, 0, 1, 0, 0])) c_bw_2 :=
  loop_cut (L := []) hT g_bw t_bw_2 okP _
theorem r_bw (x) : runFn T G_bw [(2, c_bw_2)] Try.f55 C_bw.ps C_bw.rs x = C_bw.F x := by kernel_rfl
theorem s_bw : CallsOk Try.prog 55 C_bw := fnC (L := [(2, c_bw_2)]) hT g_bw Try.f55 (okS okP (okS (okS okP (okB (okU k_bw_2))) okP)) r_bw
/-! laws.markSlotS -/
abbrev P_bx : List PK := [.row 37 Y32, .val YI]
abbrev R_bx : List VK := [.s (.dat YI)]
abbrev i_bx_2 : Shp := { slots := [(0, .s (.ref 9000100)), (1, .s (.dat YI)), (5, .s (.dat YI))], boxes := [], rows := [(9000100, 37, Y32)] }
abbrev o_bx_2 : List (Ex × Shp) := [(.exit 0, { slots := [(1, .s (.dat YI))], boxes := [], rows := [(9000100, 37, Y32)] })]
def l_bx_2 (rec : i_bx_2.den → Option (denO o_bx_2)) (u2 : i_bx_2.den) : Option (denO o_bx_2) :=
 let v3 := ((u2.2.2.1.length : Nat) : Int)
 if (ltI u2.1.2.2.1 v3) then
  if 0 ≤ u2.1.2.2.1 ∧ u2.1.2.2.1 < ((u2.2.2.1.length : Nat) : Int) then
   ((u2.2.2.1)[(u2.1.2.2.1).toNat]?).bind fun y4 =>
   let v5 := (u2.2.2.1.set (u2.1.2.2.1).toNat (u2.1.2.1, y4.2))
   let v6 := (IntKind.i64.wrap (u2.1.2.1 + (1 : Int)))
   if 0 ≤ u2.1.2.2.1 ∧ u2.1.2.2.1 < ((v5.length : Nat) : Int) then
    ((v5)[(u2.1.2.2.1).toNat]?).bind fun y7 =>
    let v8 := (v5.set (u2.1.2.2.1).toNat (y7.1, (v6, y7.2.2)))
    let v9 := (IntKind.i64.wrap (v6 + (1 : Int)))
    let v10 := (IntKind.i64.wrap (u2.1.2.2.1 + (1 : Int)))
    rec (((), (v9, (v10, ()))), ((), (v8, ())))
   else none
  else none
 else
  some (.inl ((u2.1.2.1, ()), ((), (u2.2.2.1, ()))))
def L_bx_2 (x : i_bx_2.den) : Option (denO o_bx_2) := iterF l_bx_2 lots x
def F_bx (x : denP P_bx) : Option (denV R_bx × denQ P_bx) :=
 (L_bx_2 (((), (x.2.1, ((0 : Int), ()))), ((), (x.1, ())))).bind fun z11 =>
 match z11 with
 | .inl x12 =>
  if (x.1.length == x12.2.2.1.length && true) = true then
   some ((x12.1.1, ()), (x12.2.2.1, ()))
  else none
 | .inr z11_ =>
  none
abbrev C_bx : Con := ⟨P_bx, R_bx, F_bx, false⟩
abbrev G_bx : Env := []
theorem g_bx : EnvOk Try.prog G_bx := env_nil
abbrev c_bx_2 : Cut := ⟨i_bx_2, o_bx_2, fun x => iterF l_bx_2 lots x⟩
theorem t_bx_2 (rec x) : run T G_bx [] (nav Try.f56 [1, 0, 1, 0, 0]) (mk 27 i_bx_2 x) (loopK i_bx_2 o_bx_2 rec) = l_bx_2 rec x := by kernel_rfl
theorem k_bx_2 : CutOk Try.prog 27 (.loop (nav Try.f56 [1, 0, 1, 0, 0])) c_bx_2 :=
  loop_cut (L := []) hT g_bx t_bx_2 okP _
theorem r_bx (x) : runFn T G_bx [(2, c_bx_2)] Try.f56 C_bx.ps C_bx.rs x = C_bx.F x := by kernel_rfl
theorem s_bx : CallsOk Try.prog 56 C_bx := fnC (L := [(2, c_bx_2)]) hT g_bx Try.f56 (okS okP (okS (okS okP (okB (okU k_bx_2))) okP)) r_bx
/-! laws.markPolicy -/
abbrev P_by : List PK := [.agg [.own 3000047 Y47, .own 105 Y104, .own 108 Y32, .own 37 Y32], .val YI]
abbrev R_by : List VK := [.s (.dat YI)]
def F_by (x : denP P_by) : Option (denV R_by × denQ P_by) :=
 (F_bu (x.1.1, x.2.1, ())).bind fun r1 =>
 if ((x.1.1.length == r1.2.1.length && true) && true) = true then
  (F_bv (x.1.2.1, r1.1.1, ())).bind fun r2 =>
  if ((x.1.2.1.length == r2.2.1.length && true) && true) = true then
   (F_bw (x.1.2.2.1, r2.1.1, ())).bind fun r3 =>
   if ((x.1.2.2.1.length == r3.2.1.length && true) && true) = true then
    (F_bx (x.1.2.2.2.1, r3.1.1, ())).bind fun r4 =>
    if ((x.1.2.2.2.1.length == r4.2.1.length && true) && true) = true then
     if ((x.1.1.length == r1.2.1.length && (x.1.2.1.length == r2.2.1.length && (x.1.2.2.1.length == r3.2.1.length && (x.1.2.2.2.1.length == r4.2.1.length && true)))) && true) = true then
      some ((r4.1.1, ()), ((r1.2.1, (r2.2.1, (r3.2.1, (r4.2.1, ())))), ()))
     else none
    else none
   else none
  else none
 else none
abbrev C_by : Con := ⟨P_by, R_by, F_by, false⟩
abbrev G_by : Env := [(53, C_bu), (54, C_bv), (55, C_bw), (56, C_bx)]
theorem g_by : EnvOk Try.prog G_by := (env_cons s_bu (env_cons s_bv (env_cons s_bw (env_cons s_bx env_nil))))
theorem r_by (x) : runFn T G_by [] Try.f19 C_by.ps C_by.rs x = C_by.F x := by kernel_rfl
theorem s_by : CallsOk Try.prog 19 C_by := fnC (L := []) hT g_by Try.f19 okP r_by
/-! laws.markIntsResult -/
abbrev P_bz : List PK := [.agg [.dat YI, .own 2 YI], .val YI]
abbrev R_bz : List VK := [.s (.dat YI)]
def F_bz (x : denP P_bz) : Option (denV R_bz × denQ P_bz) :=
 (F_bt (x.1.2.1, x.2.1, ())).bind fun r1 =>
 if ((x.1.2.1.length == r1.2.1.length && true) && true) = true then
  if ((x.1.2.1.length == r1.2.1.length && true) && true) = true then
   some ((r1.1.1, ()), ((r1.2.1, ()), ()))
  else none
 else none
abbrev C_bz : Con := ⟨P_bz, R_bz, F_bz, false⟩
abbrev G_bz : Env := [(57, C_bt)]
theorem g_bz : EnvOk Try.prog G_bz := (env_cons s_bt env_nil)
theorem r_bz (x) : runFn T G_bz [] Try.f20 C_bz.ps C_bz.rs x = C_bz.F x := by kernel_rfl
theorem s_bz : CallsOk Try.prog 20 C_bz := fnC (L := []) hT g_bz Try.f20 okP r_bz
/-! laws.heldInt64S -/
abbrev P_ca : List PK := [.val Y47, .val YI]
abbrev R_ca : List VK := [.s (.dat YI)]
abbrev i_ca_2 : Shp := { slots := [(0, .s (.dat Y47)), (1, .s (.dat YI)), (5, .s (.dat YI))], boxes := [], rows := [] }
abbrev o_ca_2 : List (Ex × Shp) := [(.exit 0, { slots := [(1, .s (.dat YI))], boxes := [], rows := [] }), (.ret, { slots := [(4, .s (.dat YI))], boxes := [], rows := [] })]
def l_ca_2 (rec : i_ca_2.den → Option (denO o_ca_2)) (u2 : i_ca_2.den) : Option (denO o_ca_2) :=
 let v2 := ((u2.1.1.length : Nat) : Int)
 if (ltI u2.1.2.2.1 v2) then
  if 0 ≤ u2.1.2.2.1 then
   ((u2.1.1)[(u2.1.2.2.1).toNat]?).bind fun y3 =>
   if (y3 != u2.1.2.1) then
    some (.inr (.inl (((-1 : Int), ()), ((), ()))))
   else
    let v4 := (IntKind.i64.wrap (u2.1.2.1 + (1 : Int)))
    let v5 := (IntKind.i64.wrap (u2.1.2.2.1 + (1 : Int)))
    rec ((u2.1.1, (v4, (v5, ()))), ((), ()))
  else none
 else
  some (.inl ((u2.1.2.1, ()), ((), ())))
def L_ca_2 (x : i_ca_2.den) : Option (denO o_ca_2) := iterF l_ca_2 lots x
def F_ca (x : denP P_ca) : Option (denV R_ca × denQ P_ca) :=
 (L_ca_2 ((x.1, (x.2.1, ((0 : Int), ()))), ((), ()))).bind fun z6 =>
 match z6 with
 | .inl x7 =>
  some ((x7.1.1, ()), ())
 | .inr z6_ =>
  match z6_ with
  | .inl x8 =>
   some ((x8.1.1, ()), ())
  | .inr z6__ =>
   none
abbrev C_ca : Con := ⟨P_ca, R_ca, F_ca, false⟩
abbrev G_ca : Env := []
theorem g_ca : EnvOk Try.prog G_ca := env_nil
abbrev c_ca_2 : Cut := ⟨i_ca_2, o_ca_2, fun x => iterF l_ca_2 lots x⟩
theorem t_ca_2 (rec x) : run T G_ca [] (nav Try.f58 [1, 0, 1, 0, 0]) (mk 21 i_ca_2 x) (loopK i_ca_2 o_ca_2 rec) = l_ca_2 rec x := by kernel_rfl
theorem k_ca_2 : CutOk Try.prog 21 (.loop (nav Try.f58 [1, 0, 1, 0, 0])) c_ca_2 :=
  loop_cut (L := []) hT g_ca t_ca_2 okP _
theorem r_ca (x) : runFn T G_ca [(2, c_ca_2)] Try.f58 C_ca.ps C_ca.rs x = C_ca.F x := by kernel_rfl
theorem s_ca : CallsOk Try.prog 58 C_ca := fnC (L := [(2, c_ca_2)]) hT g_ca Try.f58 (okS okP (okS (okS okP (okB (okU k_ca_2))) okP)) r_ca
/-! laws.heldIntsResult -/
abbrev P_cb : List PK := [.val Y48, .val YI]
abbrev R_cb : List VK := [.s (.dat YI)]
def F_cb (x : denP P_cb) : Option (denV R_cb × denQ P_cb) :=
 (F_ca (x.1.2.1, x.2.1, ())).bind fun r1 =>
 if (ltI r1.1.1 (0 : Int)) then
  some (((-1 : Int), ()), ())
 else
  some ((r1.1.1, ()), ())
abbrev C_cb : Con := ⟨P_cb, R_cb, F_cb, false⟩
abbrev G_cb : Env := [(58, C_ca)]
theorem g_cb : EnvOk Try.prog G_cb := (env_cons s_ca env_nil)
theorem r_cb (x) : runFn T G_cb [] Try.f21 C_cb.ps C_cb.rs x = C_cb.F x := by kernel_rfl
theorem s_cb : CallsOk Try.prog 21 C_cb := fnC (L := []) hT g_cb Try.f21 okP r_cb
/-! laws.FnExactMayChange -/
abbrev P_cc : List PK := [.val Y28, .val YI]
abbrev R_cc : List VK := [.s (.dat .bool)]
def F_cc (x : denP P_cc) : Option (denV R_cc × denQ P_cc) :=
 (F_f (x.1, (1048576 : Int), ())).bind fun r1 =>
 if (ltI r1.1.1 (0 : Int)) then
  some ((true, ()), ())
 else
  (F_o (x.1, ())).bind fun r2 =>
  (F_ad (r2.1.1, x.2.1, ())).bind fun r3 =>
  (F_o (x.1, ())).bind fun r4 =>
  (F_bi (r4.1.1, x.2.1, ())).bind fun r5 =>
  (F_bk (r5.1.1, r3.1.1, ())).bind fun r6 =>
  if (!r6.1.1) then
   some ((false, ()), ())
  else
   (F_o (x.1, ())).bind fun r7 =>
   (F_bs (r4.1.1, r7.1.1, ())).bind fun r8 =>
   if (!r8.1.1) then
    some ((false, ()), ())
   else
    (F_by (r4.1.1, (1 : Int), ())).bind fun r9 =>
    if (((r4.1.1.1.length == r9.2.1.1.length && (r4.1.1.2.1.length == r9.2.1.2.1.length && (r4.1.1.2.2.1.length == r9.2.1.2.2.1.length && (r4.1.1.2.2.2.1.length == r9.2.1.2.2.2.1.length && true)))) && true) && true) = true then
     if (ltI r9.1.1 (0 : Int)) = false then
      (F_bk (r5.1.1, r3.1.1, ())).bind fun r10 =>
      if (!r10.1.1) then
       some ((false, ()), ())
      else
       (F_bz (r5.1.1, (1 : Int), ())).bind fun r11 =>
       if (((r5.1.1.2.1.length == r11.2.1.1.length && true) && true) && true) = true then
        (F_cb ((r5.1.1.1, (r11.2.1.1, ())), (1 : Int), ())).bind fun r12 =>
        if (ltI r12.1.1 (0 : Int)) then
         some ((false, ()), ())
        else
         if (r12.1.1 != r11.1.1) then
          some ((false, ()), ())
         else
          (F_o (x.1, ())).bind fun r13 =>
          (F_bi (r13.1.1, x.2.1, ())).bind fun r14 =>
          (F_bk (r14.1.1, r3.1.1, ())).bind fun r15 =>
          if (!r15.1.1) then
           some ((false, ()), ())
          else
           (F_cb ((r5.1.1.1, (r11.2.1.1, ())), (1 : Int), ())).bind fun r16 =>
           if (ltI r16.1.1 (0 : Int)) then
            some ((false, ()), ())
           else
            if (r16.1.1 != r11.1.1) then
             some ((false, ()), ())
            else
             some ((true, ()), ())
       else none
     else
      some ((false, ()), ())
    else none
abbrev C_cc : Con := ⟨P_cc, R_cc, F_cc, false⟩
abbrev G_cc : Env := [(13, C_f), (15, C_o), (17, C_bk), (18, C_bs), (19, C_by), (20, C_bz), (21, C_cb), (22, C_ad), (23, C_bi)]
theorem g_cc : EnvOk Try.prog G_cc := (env_cons s_f (env_cons s_o (env_cons s_bk (env_cons s_bs (env_cons s_by (env_cons s_bz (env_cons s_cb (env_cons s_ad (env_cons s_bi env_nil)))))))))
theorem r_cc (x) : runFn T G_cc [] Try.f5 C_cc.ps C_cc.rs x = C_cc.F x := by kernel_rfl
theorem s_cc : CallsOk Try.prog 5 C_cc := fnC (L := []) hT g_cc Try.f5 okP r_cc
theorem q_cc : Sound Try.prog 5 C_cc :=
  fn_snd (L := []) hT g_cc Try.f5 (by kernel_rfl) (by kernel_rfl) okP r_cc
end Go.Proofs.Ytilcgnimcdkfiaa
