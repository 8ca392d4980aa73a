/- The functions of the laws, each as a plain function of data (F), and that the program's text does what F says. Printed by a program (wip/tools/gen.py). -/
import Derived.Test.YtajnommlfjfgpaaGreatGa1
namespace Go.Proofs.YtajnommlfjfgpaaGreat
open Go Go.RowKit S Go.Proofs
set_option maxRecDepth 100000
set_option linter.unusedVariables false
/-! (*impl.Policy).planFault -/
abbrev P_bl : List PK := [.ptr Y26]
abbrev R_bl : List VK := [.s (.dat YI)]
abbrev i_bl_4 : Shp := { slots := [(0, .s (.pd Y26)), (15, .s (.dat Y24)), (16, .s (.dat YI)), (17, .s (.dat YI))], boxes := [], rows := [] }
abbrev o_bl_4 : List (Ex × Shp) := [(.exit 0, { slots := [], boxes := [], rows := [] }), (.ret, { slots := [(2, .s (.dat YI))], boxes := [], rows := [] })]
def l_bl_4 (rec : i_bl_4.den → Option (denO o_bl_4)) (u4 : i_bl_4.den) : Option (denO o_bl_4) :=
 if (ltI u4.1.2.2.2.1 u4.1.2.2.1) then
  if 0 ≤ u4.1.2.2.2.1 then
   ((u4.1.2.1)[(u4.1.2.2.2.1).toNat]?).bind fun y7 =>
   (F_aw (u4.1.1, y7.1, ())).bind fun r8 =>
   if (!r8.1.1) then
    some (.inr (.inl (((4 : Int), ()), ((), ()))))
   else
    (F_au (y7.2.1, (1 : Int), (50 : Int), ())).bind fun r9 =>
    if (!r9.1.1) then
     some (.inr (.inl (((3 : Int), ()), ((), ()))))
    else
     let v10 := (IntKind.i64.wrap (u4.1.2.2.2.1 + (1 : Int)))
     rec ((u4.1.1, (u4.1.2.1, (u4.1.2.2.1, (v10, ())))), ((), ()))
  else none
 else
  some (.inl ((), ((), ())))
def L_bl_4 (x : i_bl_4.den) : Option (denO o_bl_4) := iterF l_bl_4 lots x
def F_bl (x : denP P_bl) : Option (denV R_bl × denQ P_bl) :=
 let v1 := ((x.1.2.2.2.1.length : Nat) : Int)
 (F_au (v1, (1 : Int), (8 : Int), ())).bind fun r2 =>
 if (!r2.1.1) then
  some (((2 : Int), ()), ())
 else
  let v3 := ((x.1.2.2.2.1.length : Nat) : Int)
  (L_bl_4 ((x.1, (x.1.2.2.2.1, (v3, ((0 : Int), ())))), ((), ()))).bind fun z11 =>
  match z11 with
  | .inl x12 =>
   some (((0 : Int), ()), ())
  | .inr z11_ =>
   match z11_ with
   | .inl x13 =>
    some ((x13.1.1, ()), ())
   | .inr z11__ =>
    none
abbrev C_bl : Con := ⟨P_bl, R_bl, F_bl, false⟩
abbrev G_bl : Env := [(23, C_aw), (60, C_au)]
theorem g_bl : EnvOk Tryz.prog G_bl := (env_cons s_aw (env_cons s_au env_nil))
abbrev c_bl_4 : Cut := ⟨i_bl_4, o_bl_4, fun x => iterF l_bl_4 lots x⟩
theorem t_bl_4 (rec x) : run T G_bl [] (nav Tryz.f93 [1, 1, 0, 1, 0, 0]) (mk 33 i_bl_4 x) (loopK i_bl_4 o_bl_4 rec) = l_bl_4 rec x := by kernel_rfl
theorem k_bl_4 : CutOk Tryz.prog 33 (.loop (nav Tryz.f93 [1, 1, 0, 1, 0, 0])) c_bl_4 :=
  loop_cut (L := []) hT g_bl t_bl_4 okP _
theorem r_bl (x) : runFn T G_bl [(4, c_bl_4)] Tryz.f93 C_bl.ps C_bl.rs x = C_bl.F x := by kernel_rfl
theorem s_bl : CallsOk Tryz.prog 93 C_bl := fnC (L := [(4, c_bl_4)]) hT g_bl Tryz.f93 (okS okP (okS okP (okS (okS okP (okB (okU k_bl_4))) okP))) r_bl
/-! impl.PolicyFault -/
abbrev P_bm : List PK := [.val Y26]
abbrev R_bm : List VK := [.s (.dat YI)]
abbrev i_bm_14 : Shp := { slots := [(1, .s (.ptr 1 0)), (43, .s (.dat Y24)), (44, .s (.dat YI)), (45, .s (.dat YI))], boxes := [(1, [.dat Y22, .dat Y23, .dat Y24, .dat Y24])], rows := [] }
abbrev o_bm_14 : List (Ex × Shp) := [(.exit 2, { slots := [(1, .s (.ptr 1 0))], boxes := [(1, [.dat Y22, .dat Y23, .dat Y24, .dat Y24])], rows := [] }), (.ret, { slots := [(2, .s (.dat YI))], boxes := [], rows := [] })]
def l_bm_14 (rec : i_bm_14.den → Option (denO o_bm_14)) (u14 : i_bm_14.den) : Option (denO o_bm_14) :=
 if (ltI u14.1.2.2.2.1 u14.1.2.2.1) then
  if 0 ≤ u14.1.2.2.2.1 then
   ((u14.1.2.1)[(u14.1.2.2.2.1).toNat]?).bind fun y16 =>
   if 0 ≤ (0 : Int) ∧ (0 : Int) ≤ u14.1.2.2.2.1 ∧ u14.1.2.2.2.1 ≤ ((u14.2.1.1.2.2.1.length : Nat) : Int) then
    let v17 := ((u14.2.1.1.2.2.1.drop ((0 : Int)).toNat).take ((u14.1.2.2.2.1).toNat - ((0 : Int)).toNat))
    (F_bk (u14.2.1.1, y16, v17, ())).bind fun r18 =>
    if (r18.1.1 != (0 : Int)) then
     some (.inr (.inl ((r18.1.1, ()), ((), ()))))
    else
     let v19 := (IntKind.i64.wrap (u14.1.2.2.2.1 + (1 : Int)))
     rec (((), (u14.1.2.1, (u14.1.2.2.1, (v19, ())))), ((u14.2.1.1, ()), ()))
   else none
  else none
 else
  some (.inl (((), ()), ((u14.2.1.1, ()), ())))
def L_bm_14 (x : i_bm_14.den) : Option (denO o_bm_14) := iterF l_bm_14 lots x
abbrev i_bm_7 : Shp := { slots := [(1, .s (.ptr 1 0)), (25, .s (.dat Y23)), (26, .s (.dat YI)), (27, .s (.dat YI))], boxes := [(1, [.dat Y22, .dat Y23, .dat Y24, .dat Y24])], rows := [] }
abbrev o_bm_7 : List (Ex × Shp) := [(.exit 0, { slots := [(1, .s (.ptr 1 0))], boxes := [(1, [.dat Y22, .dat Y23, .dat Y24, .dat Y24])], rows := [] }), (.ret, { slots := [(2, .s (.dat YI))], boxes := [], rows := [] })]
def l_bm_7 (rec : i_bm_7.den → Option (denO o_bm_7)) (u7 : i_bm_7.den) : Option (denO o_bm_7) :=
 if (ltI u7.1.2.2.2.1 u7.1.2.2.1) then
  if 0 ≤ u7.1.2.2.2.1 then
   ((u7.1.2.1)[(u7.1.2.2.2.1).toNat]?).bind fun y7 =>
   if 0 ≤ (0 : Int) ∧ (0 : Int) ≤ u7.1.2.2.2.1 ∧ u7.1.2.2.2.1 ≤ ((u7.2.1.1.2.1.length : Nat) : Int) then
    let v8 := ((u7.2.1.1.2.1.drop ((0 : Int)).toNat).take ((u7.1.2.2.2.1).toNat - ((0 : Int)).toNat))
    (F_be (u7.2.1.1, y7, v8, ())).bind fun r9 =>
    if (r9.1.1 != (0 : Int)) then
     some (.inr (.inl ((r9.1.1, ()), ((), ()))))
    else
     let v10 := (IntKind.i64.wrap (u7.1.2.2.2.1 + (1 : Int)))
     rec (((), (u7.1.2.1, (u7.1.2.2.1, (v10, ())))), ((u7.2.1.1, ()), ()))
   else none
  else none
 else
  some (.inl (((), ()), ((u7.2.1.1, ()), ())))
def L_bm_7 (x : i_bm_7.den) : Option (denO o_bm_7) := iterF l_bm_7 lots x
def F_bm (x : denP P_bm) : Option (denV R_bm × denQ P_bm) :=
 (F_av (x.1, ())).bind fun r1 =>
 if (r1.1.1 != (0 : Int)) then
  some ((r1.1.1, ()), ())
 else
  let v2 := ((x.1.2.1.length : Nat) : Int)
  if (ltI (4 : Int) v2) = false then
   let v3 := ((x.1.2.2.1.length : Nat) : Int)
   if (ltI (4 : Int) v3) then
    some (((2 : Int), ()), ())
   else
    let v4 := ((x.1.2.1.length : Nat) : Int)
    (L_bm_7 (((), (x.1.2.1, (v4, ((0 : Int), ())))), (((x.1.1, (x.1.2.1, (x.1.2.2.1, (x.1.2.2.2.1, ())))), ()), ()))).bind fun z11 =>
    match z11 with
    | .inl x12 =>
     let v13 := ((x12.2.1.1.2.2.1.length : Nat) : Int)
     (L_bm_14 (((), (x12.2.1.1.2.2.1, (v13, ((0 : Int), ())))), ((x12.2.1.1, ()), ()))).bind fun z20 =>
     match z20 with
     | .inl x21 =>
      (F_bl (x21.2.1.1, ())).bind fun r22 =>
      some ((r22.1.1, ()), ())
     | .inr z20_ =>
      match z20_ with
      | .inl x23 =>
       some ((x23.1.1, ()), ())
      | .inr z20__ =>
       none
    | .inr z11_ =>
     match z11_ with
     | .inl x24 =>
      some ((x24.1.1, ()), ())
     | .inr z11__ =>
      none
  else
   some (((2 : Int), ()), ())
abbrev C_bm : Con := ⟨P_bm, R_bm, F_bm, false⟩
abbrev G_bm : Env := [(90, C_av), (91, C_be), (92, C_bk), (93, C_bl)]
theorem g_bm : EnvOk Tryz.prog G_bm := (env_cons s_av (env_cons s_be (env_cons s_bk (env_cons s_bl env_nil))))
abbrev c_bm_14 : Cut := ⟨i_bm_14, o_bm_14, fun x => iterF l_bm_14 lots x⟩
theorem t_bm_14 (rec x) : run T G_bm [] (nav Tryz.f57 [1, 1, 1, 1, 0, 1, 0, 0]) (mk 61 i_bm_14 x) (loopK i_bm_14 o_bm_14 rec) = l_bm_14 rec x := by kernel_rfl
theorem k_bm_14 : CutOk Tryz.prog 61 (.loop (nav Tryz.f57 [1, 1, 1, 1, 0, 1, 0, 0])) c_bm_14 :=
  loop_cut (L := []) hT g_bm t_bm_14 okP _
abbrev c_bm_7 : Cut := ⟨i_bm_7, o_bm_7, fun x => iterF l_bm_7 lots x⟩
theorem t_bm_7 (rec x) : run T G_bm [] (nav Tryz.f57 [1, 1, 1, 0, 1, 0, 0]) (mk 61 i_bm_7 x) (loopK i_bm_7 o_bm_7 rec) = l_bm_7 rec x := by kernel_rfl
theorem k_bm_7 : CutOk Tryz.prog 61 (.loop (nav Tryz.f57 [1, 1, 1, 0, 1, 0, 0])) c_bm_7 :=
  loop_cut (L := []) hT g_bm t_bm_7 okP _
theorem r_bm (x) : runFn T G_bm [(14, c_bm_14), (7, c_bm_7)] Tryz.f57 C_bm.ps C_bm.rs x = C_bm.F x := by kernel_rfl
theorem s_bm : CallsOk Tryz.prog 57 C_bm := fnC (L := [(14, c_bm_14), (7, c_bm_7)]) hT g_bm Tryz.f57 (okS okP (okS okP (okS okP (okS (okS okP (okB (okU k_bm_7))) (okS (okS okP (okB (okU k_bm_14))) okP))))) r_bm
/-! impl.isWord -/
abbrev P_bn : List PK := [.val YI]
abbrev R_bn : List VK := [.s (.dat .bool)]
def F_bn (x : denP P_bn) : Option (denV R_bn × denQ P_bn) :=
 (F_au (x.1, (0 : Int), (4294967295 : Int), ())).bind fun r1 =>
 some ((r1.1.1, ()), ())
abbrev C_bn : Con := ⟨P_bn, R_bn, F_bn, false⟩
abbrev G_bn : Env := [(60, C_au)]
theorem g_bn : EnvOk Tryz.prog G_bn := (env_cons s_au env_nil)
theorem r_bn (x) : runFn T G_bn [] Tryz.f96 C_bn.ps C_bn.rs x = C_bn.F x := by kernel_rfl
theorem s_bn : CallsOk Tryz.prog 96 C_bn := fnC (L := []) hT g_bn Tryz.f96 okP r_bn
/-! impl.areWords.1 -/
abbrev P_bo_1 : List PK := [.val YI]
abbrev R_bo_1 : List VK := [.s (.dat .bool)]
def F_bo_1 (x : denP P_bo_1) : Option (denV R_bo_1 × denQ P_bo_1) :=
 (F_bn (x.1, ())).bind fun r1 =>
 some (((!r1.1.1), ()), ())
abbrev C_bo_1 : Con := ⟨P_bo_1, R_bo_1, F_bo_1, false⟩
abbrev G_bo_1 : Env := [(96, C_bn)]
theorem g_bo_1 : EnvOk Tryz.prog G_bo_1 := (env_cons s_bn env_nil)
theorem r_bo_1 (x) : runFn T G_bo_1 [] Tryz.f114 C_bo_1.ps C_bo_1.rs x = C_bo_1.F x := by kernel_rfl
theorem s_bo_1 : CallsOk Tryz.prog 114 C_bo_1 := fnC (L := []) hT g_bo_1 Tryz.f114 okP r_bo_1
/-! slices.IndexFunc[int64,int64] -/
abbrev P_bp_1 : List PK := [.val Y28, .fn 114 []]
abbrev R_bp_1 : List VK := [.s (.dat YI)]
abbrev i_bq_2 : Shp := { slots := [(0, .s (.dat Y28)), (1, .s (.fn 114 [])), (7, .s (.dat YI)), (8, .s (.dat YI))], boxes := [], rows := [] }
abbrev o_bq_2 : List (Ex × Shp) := [(.exit 0, { slots := [], boxes := [], rows := [] }), (.ret, { slots := [(4, .s (.dat YI))], boxes := [], rows := [] })]
def l_bq_2 (rec : i_bq_2.den → Option (denO o_bq_2)) (u2 : i_bq_2.den) : Option (denO o_bq_2) :=
 if (ltI u2.1.2.2.2.1 u2.1.2.2.1) then
  if 0 ≤ u2.1.2.2.2.1 then
   ((u2.1.1)[(u2.1.2.2.2.1).toNat]?).bind fun y4 =>
   (F_bo_1 (y4, ())).bind fun r5 =>
   if r5.1.1 then
    some (.inr (.inl ((u2.1.2.2.2.1, ()), ((), ()))))
   else
    let v6 := (IntKind.i64.wrap (u2.1.2.2.2.1 + (1 : Int)))
    rec ((u2.1.1, ((), (u2.1.2.2.1, (v6, ())))), ((), ()))
  else none
 else
  some (.inl ((), ((), ())))
def L_bq_2 (x : i_bq_2.den) : Option (denO o_bq_2) := iterF l_bq_2 lots x
def F_bp_1 (x : denP P_bp_1) : Option (denV R_bp_1 × denQ P_bp_1) :=
 let v1 := ((x.1.length : Nat) : Int)
 (L_bq_2 ((x.1, ((), (v1, ((0 : Int), ())))), ((), ()))).bind fun z7 =>
 match z7 with
 | .inl x8 =>
  some (((-1 : Int), ()), ())
 | .inr z7_ =>
  match z7_ with
  | .inl x9 =>
   some ((x9.1.1, ()), ())
  | .inr z7__ =>
   none
abbrev C_bp_1 : Con := ⟨P_bp_1, R_bp_1, F_bp_1, false⟩
abbrev G_bp_1 : Env := [(114, C_bo_1)]
theorem g_bp_1 : EnvOk Tryz.prog G_bp_1 := (env_cons s_bo_1 env_nil)
abbrev c_bq_2 : Cut := ⟨i_bq_2, o_bq_2, fun x => iterF l_bq_2 lots x⟩
theorem t_bq_2 (rec x) : run T G_bp_1 [] (nav Tryz.f122 [1, 0, 1, 0, 0]) (mk 19 i_bq_2 x) (loopK i_bq_2 o_bq_2 rec) = l_bq_2 rec x := by kernel_rfl
theorem k_bq_2 : CutOk Tryz.prog 19 (.loop (nav Tryz.f122 [1, 0, 1, 0, 0])) c_bq_2 :=
  loop_cut (L := []) hT g_bp_1 t_bq_2 okP _
theorem r_bp_1 (x) : runFn T G_bp_1 [(2, c_bq_2)] Tryz.f122 C_bp_1.ps C_bp_1.rs x = C_bp_1.F x := by kernel_rfl
theorem s_bp_1 : CallsOk Tryz.prog 122 C_bp_1 := fnC (L := [(2, c_bq_2)]) hT g_bp_1 Tryz.f122 (okS okP (okS (okS okP (okB (okU k_bq_2))) okP)) r_bp_1
/-! slices.ContainsFunc[int64,int64] -/
abbrev P_br_1 : List PK := [.val Y28, .fn 114 []]
abbrev R_br_1 : List VK := [.s (.dat .bool)]
def F_br_1 (x : denP P_br_1) : Option (denV R_br_1 × denQ P_br_1) :=
 (F_bp_1 (x.1, (), ())).bind fun r1 =>
 some (((leI (0 : Int) r1.1.1), ()), ())
abbrev C_br_1 : Con := ⟨P_br_1, R_br_1, F_br_1, false⟩
abbrev G_br_1 : Env := [(122, C_bp_1)]
theorem g_br_1 : EnvOk Tryz.prog G_br_1 := (env_cons s_bp_1 env_nil)
theorem r_br_1 (x) : runFn T G_br_1 [] Tryz.f113 C_br_1.ps C_br_1.rs x = C_br_1.F x := by kernel_rfl
theorem s_br_1 : CallsOk Tryz.prog 113 C_br_1 := fnC (L := []) hT g_br_1 Tryz.f113 okP r_br_1
/-! impl.areWords -/
abbrev P_bo : List PK := [.val Y28]
abbrev R_bo : List VK := [.s (.dat .bool)]
def F_bo (x : denP P_bo) : Option (denV R_bo × denQ P_bo) :=
 (F_br_1 (x.1, (), ())).bind fun r1 =>
 some (((!r1.1.1), ()), ())
abbrev C_bo : Con := ⟨P_bo, R_bo, F_bo, false⟩
abbrev G_bo : Env := [(113, C_br_1)]
theorem g_bo : EnvOk Tryz.prog G_bo := (env_cons s_br_1 env_nil)
theorem r_bo (x) : runFn T G_bo [] Tryz.f95 C_bo.ps C_bo.rs x = C_bo.F x := by kernel_rfl
theorem s_bo : CallsOk Tryz.prog 95 C_bo := fnC (L := []) hT g_bo Tryz.f95 okP r_bo
/-! impl.MemoryFault -/
abbrev P_bs : List PK := [.val Y28]
abbrev R_bs : List VK := [.s (.dat YI)]
def F_bs (x : denP P_bs) : Option (denV R_bs × denQ P_bs) :=
 let v1 := ((x.1.length : Nat) : Int)
 if (v1 == (0 : Int)) = false then
  let v2 := ((x.1.length : Nat) : Int)
  if (ltI (192 : Int) v2) = false then
   let v3 := ((x.1.length : Nat) : Int)
   let v4 := ((v3).tmod (8 : Int))
   if (v4 != (0 : Int)) then
    some (((1 : Int), ()), ())
   else
    (F_bo (x.1, ())).bind fun r5 =>
    if (!r5.1.1) then
     some (((3 : Int), ()), ())
    else
     some (((0 : Int), ()), ())
  else
   some (((1 : Int), ()), ())
 else
  some (((1 : Int), ()), ())
abbrev C_bs : Con := ⟨P_bs, R_bs, F_bs, false⟩
abbrev G_bs : Env := [(95, C_bo)]
theorem g_bs : EnvOk Tryz.prog G_bs := (env_cons s_bo env_nil)
theorem r_bs (x) : runFn T G_bs [] Tryz.f94 C_bs.ps C_bs.rs x = C_bs.F x := by kernel_rfl
theorem s_bs : CallsOk Tryz.prog 94 C_bs := fnC (L := []) hT g_bs Tryz.f94 okP r_bs
/-! impl.isWhole -/
abbrev P_bt : List PK := [.val Y28]
abbrev R_bt : List VK := [.s (.dat .bool)]
def F_bt (x : denP P_bt) : Option (denV R_bt × denQ P_bt) :=
 (F_bs (x.1, ())).bind fun r1 =>
 if (r1.1.1 == (0 : Int)) = true then
  let v2 := ((x.1.length : Nat) : Int)
  some (((v2 == (192 : Int)), ()), ())
 else
  some ((false, ()), ())
abbrev C_bt : Con := ⟨P_bt, R_bt, F_bt, false⟩
abbrev G_bt : Env := [(94, C_bs)]
theorem g_bt : EnvOk Tryz.prog G_bt := (env_cons s_bs env_nil)
theorem r_bt (x) : runFn T G_bt [] Tryz.f58 C_bt.ps C_bt.rs x = C_bt.F x := by kernel_rfl
theorem s_bt : CallsOk Tryz.prog 58 C_bt := fnC (L := []) hT g_bt Tryz.f58 okP r_bt
/-! impl.HartFault -/
abbrev P_bu : List PK := [.val Y33]
abbrev R_bu : List VK := [.s (.dat YI)]
def F_bu (x : denP P_bu) : Option (denV R_bu × denQ P_bu) :=
 let v1 := ((x.1.1.length : Nat) : Int)
 if (v1 != (16 : Int)) = false then
  let v2 := ((x.1.2.2.1.length : Nat) : Int)
  if (v2 != (11 : Int)) = false then
   ((x.1.1)[((0 : Int)).toNat]?).bind fun y3 =>
   if (y3 != (0 : Int)) then
    some (((1 : Int), ()), ())
   else
    (F_bo (x.1.1, ())).bind fun r4 =>
    if (!r4.1.1) = false then
     (F_bn (x.1.2.1, ())).bind fun r5 =>
     if (!r5.1.1) = false then
      (F_bo (x.1.2.2.1, ())).bind fun r6 =>
      if (!r6.1.1) = false then
       (F_bo (x.1.2.2.2.2.2.2.2.1, ())).bind fun r7 =>
       if (!r7.1.1) = false then
        (F_bo (x.1.2.2.2.2.2.2.2.2.1, ())).bind fun r8 =>
        if (!r8.1.1) then
         some (((3 : Int), ()), ())
        else
         let v9 := ((x.1.2.2.2.2.2.2.2.1.length : Nat) : Int)
         if (ltI (40 : Int) v9) = false then
          let v10 := ((x.1.2.2.2.2.2.2.2.2.1.length : Nat) : Int)
          if (ltI (40 : Int) v10) then
           some (((2 : Int), ()), ())
          else
           (F_au (x.1.2.2.2.2.2.2.1, (0 : Int), (1000000000 : Int), ())).bind fun r11 =>
           if (!r11.1.1) then
            some (((3 : Int), ()), ())
           else
            ((x.1.2.2.1)[((0 : Int)).toNat]?).bind fun y12 =>
            if (ltI (3 : Int) y12) = false then
             ((x.1.2.2.1)[((7 : Int)).toNat]?).bind fun y13 =>
             if (ltI (7 : Int) y13) = false then
              ((x.1.2.2.1)[((10 : Int)).toNat]?).bind fun y14 =>
              if (ltI (8 : Int) y14) = false then
               ((x.1.2.2.1)[((6 : Int)).toNat]?).bind fun y15 =>
               if (y15 != (0 : Int)) = false then
                ((x.1.2.2.1)[((8 : Int)).toNat]?).bind fun y16 =>
                if (y16 != (0 : Int)) then
                 some (((1 : Int), ()), ())
                else
                 some (((0 : Int), ()), ())
               else
                some (((1 : Int), ()), ())
              else
               some (((1 : Int), ()), ())
             else
              some (((1 : Int), ()), ())
            else
             some (((1 : Int), ()), ())
         else
          some (((2 : Int), ()), ())
       else
        some (((3 : Int), ()), ())
      else
       some (((3 : Int), ()), ())
     else
      some (((3 : Int), ()), ())
    else
     some (((3 : Int), ()), ())
  else
   some (((1 : Int), ()), ())
 else
  some (((1 : Int), ()), ())
abbrev C_bu : Con := ⟨P_bu, R_bu, F_bu, false⟩
abbrev G_bu : Env := [(60, C_au), (95, C_bo), (96, C_bn)]
theorem g_bu : EnvOk Tryz.prog G_bu := (env_cons s_au (env_cons s_bo (env_cons s_bn env_nil)))
theorem r_bu (x) : runFn T G_bu [] Tryz.f59 C_bu.ps C_bu.rs x = C_bu.F x := by kernel_rfl
theorem s_bu : CallsOk Tryz.prog 59 C_bu := fnC (L := []) hT g_bu Tryz.f59 okP r_bu
/-! (*impl.Policy).stepsOf -/
abbrev P_bv : List PK := [.ptr Y26, .val YI]
abbrev R_bv : List VK := [.s (.dat YI)]
abbrev i_bv_3 : Shp := { slots := [(1, .s (.dat YI)), (5, .s (.dat YI)), (11, .s (.dat Y24)), (12, .s (.dat YI)), (13, .s (.dat YI))], boxes := [], rows := [] }
abbrev o_bv_3 : List (Ex × Shp) := [(.exit 0, { slots := [(5, .s (.dat YI))], boxes := [], rows := [] })]
def l_bv_3 (rec : i_bv_3.den → Option (denO o_bv_3)) (u3 : i_bv_3.den) : Option (denO o_bv_3) :=
 if (ltI u3.1.2.2.2.2.1 u3.1.2.2.2.1) then
  if 0 ≤ u3.1.2.2.2.2.1 then
   ((u3.1.2.2.1)[(u3.1.2.2.2.2.1).toNat]?).bind fun y3 =>
   if (ltI u3.1.1 (0 : Int)) = false then
    if (y3.1 == u3.1.1) then
     let v4 := (IntKind.i64.wrap (u3.1.2.1 + y3.2.1))
     let v5 := (IntKind.i64.wrap (u3.1.2.2.2.2.1 + (1 : Int)))
     rec ((u3.1.1, (v4, (u3.1.2.2.1, (u3.1.2.2.2.1, (v5, ()))))), ((), ()))
    else
     let v6 := (IntKind.i64.wrap (u3.1.2.2.2.2.1 + (1 : Int)))
     rec ((u3.1.1, (u3.1.2.1, (u3.1.2.2.1, (u3.1.2.2.2.1, (v6, ()))))), ((), ()))
   else
    let v7 := (IntKind.i64.wrap (u3.1.2.1 + y3.2.1))
    let v8 := (IntKind.i64.wrap (u3.1.2.2.2.2.1 + (1 : Int)))
    rec ((u3.1.1, (v7, (u3.1.2.2.1, (u3.1.2.2.2.1, (v8, ()))))), ((), ()))
  else none
 else
  some (.inl ((u3.1.2.1, ()), ((), ())))
def L_bv_3 (x : i_bv_3.den) : Option (denO o_bv_3) := iterF l_bv_3 lots x
def F_bv (x : denP P_bv) : Option (denV R_bv × denQ P_bv) :=
 let v1 := ((x.1.2.2.2.1.length : Nat) : Int)
 (L_bv_3 ((x.2.1, ((0 : Int), (x.1.2.2.2.1, (v1, ((0 : Int), ()))))), ((), ()))).bind fun z9 =>
 match z9 with
 | .inl x10 =>
  some ((x10.1.1, ()), ())
 | .inr z9_ =>
  none
abbrev C_bv : Con := ⟨P_bv, R_bv, F_bv, false⟩
abbrev G_bv : Env := []
theorem g_bv : EnvOk Tryz.prog G_bv := env_nil
abbrev c_bv_3 : Cut := ⟨i_bv_3, o_bv_3, fun x => iterF l_bv_3 lots x⟩
theorem t_bv_3 (rec x) : run T G_bv [] (nav Tryz.f97 [1, 1, 0, 1, 0, 0]) (mk 31 i_bv_3 x) (loopK i_bv_3 o_bv_3 rec) = l_bv_3 rec x := by kernel_rfl
theorem k_bv_3 : CutOk Tryz.prog 31 (.loop (nav Tryz.f97 [1, 1, 0, 1, 0, 0])) c_bv_3 :=
  loop_cut (L := []) hT g_bv t_bv_3 okP _
theorem r_bv (x) : runFn T G_bv [(3, c_bv_3)] Tryz.f97 C_bv.ps C_bv.rs x = C_bv.F x := by kernel_rfl
theorem s_bv : CallsOk Tryz.prog 97 C_bv := fnC (L := [(3, c_bv_3)]) hT g_bv Tryz.f97 (okS okP (okS okP (okS (okS okP (okB (okU k_bv_3))) okP))) r_bv
/-! (*impl.Policy).turnAt -/
abbrev P_bw : List PK := [.ptr Y26, .val YI]
abbrev R_bw : List VK := [.s (.dat YI), .s (.dat YI)]
abbrev i_bw_3 : Shp := { slots := [(0, .s (.pd Y26)), (1, .s (.dat YI)), (6, .s (.dat YI))], boxes := [], rows := [] }
abbrev o_bw_3 : List (Ex × Shp) := [(.exit 0, { slots := [(0, .s (.pd Y26)), (1, .s (.dat YI)), (6, .s (.dat YI))], boxes := [], rows := [] })]
def l_bw_3 (rec : i_bw_3.den → Option (denO o_bw_3)) (u3 : i_bw_3.den) : Option (denO o_bw_3) :=
 if 0 ≤ u3.1.2.2.1 then
  ((u3.1.1.2.2.2.1)[(u3.1.2.2.1).toNat]?).bind fun y5 =>
  if (leI y5.2.1 u3.1.2.1) then
   if 0 ≤ u3.1.2.2.1 then
    ((u3.1.1.2.2.2.1)[(u3.1.2.2.1).toNat]?).bind fun y6 =>
    let v7 := (IntKind.i64.wrap (u3.1.2.1 - y6.2.1))
    let v8 := (IntKind.i64.wrap (u3.1.2.2.1 + (1 : Int)))
    rec ((u3.1.1, (v7, (v8, ()))), ((), ()))
   else none
  else
   some (.inl ((u3.1.1, (u3.1.2.1, (u3.1.2.2.1, ()))), ((), ())))
 else none
def L_bw_3 (x : i_bw_3.den) : Option (denO o_bw_3) := iterF l_bw_3 lots x
def F_bw (x : denP P_bw) : Option (denV R_bw × denQ P_bw) :=
 (F_bv (x.1, (-1 : Int), ())).bind fun r1 =>
 if r1.1.1 = 0 then none else
 let v2 := ((x.2.1).tmod r1.1.1)
 (L_bw_3 ((x.1, (v2, ((0 : Int), ()))), ((), ()))).bind fun z9 =>
 match z9 with
 | .inl x10 =>
  if 0 ≤ x10.1.2.2.1 then
   ((x10.1.1.2.2.2.1)[(x10.1.2.2.1).toNat]?).bind fun y11 =>
   let v12 := (IntKind.i64.wrap (y11.2.1 - x10.1.2.1))
   some ((x10.1.2.2.1, v12, ()), ())
  else none
 | .inr z9_ =>
  none
abbrev C_bw : Con := ⟨P_bw, R_bw, F_bw, false⟩
abbrev G_bw : Env := [(97, C_bv)]
theorem g_bw : EnvOk Tryz.prog G_bw := (env_cons s_bv env_nil)
abbrev c_bw_3 : Cut := ⟨i_bw_3, o_bw_3, fun x => iterF l_bw_3 lots x⟩
theorem t_bw_3 (rec x) : run T G_bw [] (nav Tryz.f61 [1, 1, 1, 0, 0, 0]) (mk 44 i_bw_3 x) (loopK i_bw_3 o_bw_3 rec) = l_bw_3 rec x := by kernel_rfl
theorem k_bw_3 : CutOk Tryz.prog 44 (.loop (nav Tryz.f61 [1, 1, 1, 0, 0, 0])) c_bw_3 :=
  loop_cut (L := []) hT g_bw t_bw_3 okP _
theorem r_bw (x) : runFn T G_bw [(3, c_bw_3)] Tryz.f61 C_bw.ps C_bw.rs x = C_bw.F x := by kernel_rfl
theorem s_bw : CallsOk Tryz.prog 61 C_bw := fnC (L := [(3, c_bw_3)]) hT g_bw Tryz.f61 (okS okP (okS okP (okS okP (okS (okB (okU k_bw_3)) okP)))) r_bw
/-! impl.HostFault -/
abbrev P_bx : List PK := [.val Y30]
abbrev R_bx : List VK := [.s (.dat YI)]
abbrev i_bx_7 : Shp := { slots := [(1, .s (.ptr 1 0)), (30, .s (.dat Y29)), (31, .s (.dat YI)), (32, .s (.dat YI))], boxes := [(1, [.dat Y22, .dat Y23, .dat Y24, .dat Y24, .dat Y28, .dat Y29, .dat YI, .dat YI, .dat YI])], rows := [] }
abbrev o_bx_7 : List (Ex × Shp) := [(.exit 0, { slots := [(1, .s (.ptr 1 0))], boxes := [(1, [.dat Y22, .dat Y23, .dat Y24, .dat Y24, .dat Y28, .dat Y29, .dat YI, .dat YI, .dat YI])], rows := [] }), (.ret, { slots := [(2, .s (.dat YI))], boxes := [], rows := [] })]
def l_bx_7 (rec : i_bx_7.den → Option (denO o_bx_7)) (u7 : i_bx_7.den) : Option (denO o_bx_7) :=
 if (ltI u7.1.2.2.2.1 u7.1.2.2.1) then
  if 0 ≤ u7.1.2.2.2.1 then
   ((u7.1.2.1)[(u7.1.2.2.2.1).toNat]?).bind fun y8 =>
   (F_bu (y8, ())).bind fun r9 =>
   if (r9.1.1 != (0 : Int)) then
    some (.inr (.inl ((r9.1.1, ()), ((), ()))))
   else
    let v10 := (IntKind.i64.wrap (u7.1.2.2.2.1 + (1 : Int)))
    rec (((), (u7.1.2.1, (u7.1.2.2.1, (v10, ())))), ((u7.2.1.1, ()), ()))
  else none
 else
  some (.inl (((), ()), ((u7.2.1.1, ()), ())))
def L_bx_7 (x : i_bx_7.den) : Option (denO o_bx_7) := iterF l_bx_7 lots x
def F_bx (x : denP P_bx) : Option (denV R_bx × denQ P_bx) :=
 (F_bm (x.1.1, ())).bind fun r1 =>
 if (r1.1.1 != (0 : Int)) then
  some ((r1.1.1, ()), ())
 else
  (F_bt (x.1.2.1, ())).bind fun r2 =>
  if (!r2.1.1) = false then
   let v3 := ((x.1.2.2.1.length : Nat) : Int)
   let v4 := ((x.1.1.1.length : Nat) : Int)
   if (v3 != v4) then
    some (((1 : Int), ()), ())
   else
    let v5 := ((x.1.2.2.1.length : Nat) : Int)
    (L_bx_7 (((), (x.1.2.2.1, (v5, ((0 : Int), ())))), (((x.1.1.1, (x.1.1.2.1, (x.1.1.2.2.1, (x.1.1.2.2.2.1, (x.1.2.1, (x.1.2.2.1, (x.1.2.2.2.1, (x.1.2.2.2.2.1, (x.1.2.2.2.2.2.1, ()))))))))), ()), ()))).bind fun z11 =>
    match z11 with
    | .inl x12 =>
     (F_au (x12.2.1.1.2.2.2.2.2.2.2.2.1, (0 : Int), (1000000 : Int), ())).bind fun r13 =>
     if (!r13.1.1) then
      some (((3 : Int), ()), ())
     else
      (F_bw ((x12.2.1.1.1, (x12.2.1.1.2.1, (x12.2.1.1.2.2.1, (x12.2.1.1.2.2.2.1, ())))), x12.2.1.1.2.2.2.2.2.2.2.2.1, ())).bind fun r14 =>
      if (x12.2.1.1.2.2.2.2.2.2.1 != r14.1.1) = false then
       if (x12.2.1.1.2.2.2.2.2.2.2.1 != r14.1.2.1) then
        some (((1 : Int), ()), ())
       else
        some (((0 : Int), ()), ())
      else
       some (((1 : Int), ()), ())
    | .inr z11_ =>
     match z11_ with
     | .inl x15 =>
      some ((x15.1.1, ()), ())
     | .inr z11__ =>
      none
  else
   some (((1 : Int), ()), ())
abbrev C_bx : Con := ⟨P_bx, R_bx, F_bx, false⟩
abbrev G_bx : Env := [(57, C_bm), (58, C_bt), (59, C_bu), (60, C_au), (61, C_bw)]
theorem g_bx : EnvOk Tryz.prog G_bx := (env_cons s_bm (env_cons s_bt (env_cons s_bu (env_cons s_au (env_cons s_bw env_nil)))))
abbrev c_bx_7 : Cut := ⟨i_bx_7, o_bx_7, fun x => iterF l_bx_7 lots x⟩
theorem t_bx_7 (rec x) : run T G_bx [] (nav Tryz.f22 [1, 1, 1, 0, 1, 0, 0]) (mk 63 i_bx_7 x) (loopK i_bx_7 o_bx_7 rec) = l_bx_7 rec x := by kernel_rfl
theorem k_bx_7 : CutOk Tryz.prog 63 (.loop (nav Tryz.f22 [1, 1, 1, 0, 1, 0, 0])) c_bx_7 :=
  loop_cut (L := []) hT g_bx t_bx_7 okP _
theorem r_bx (x) : runFn T G_bx [(7, c_bx_7)] Tryz.f22 C_bx.ps C_bx.rs x = C_bx.F x := by kernel_rfl
theorem s_bx : CallsOk Tryz.prog 22 C_bx := fnC (L := [(7, c_bx_7)]) hT g_bx Tryz.f22 (okS okP (okS okP (okS okP (okS (okS okP (okB (okU k_bx_7))) okP)))) r_bx
/-! impl.nowhere -/
abbrev P_by : List PK := []
abbrev R_by : List VK := [.s (.dat Y69)]
def F_by (x : denP P_by) : Option (denV R_by × denQ P_by) :=
 some ((((-1 : Int), ((0 : Int), ())), ()), ())
abbrev C_by : Con := ⟨P_by, R_by, F_by, false⟩
abbrev G_by : Env := []
theorem g_by : EnvOk Tryz.prog G_by := env_nil
theorem r_by (x) : runFn T G_by [] Tryz.f63 C_by.ps C_by.rs x = C_by.F x := by kernel_rfl
theorem s_by : CallsOk Tryz.prog 63 C_by := fnC (L := []) hT g_by Tryz.f63 okP r_by
/-! math/bits.Mul64 -/
abbrev P_bz : List PK := [.val (.int .u64), .val (.int .u64)]
abbrev R_bz : List VK := [.s (.dat (.int .u64)), .s (.dat (.int .u64))]
def F_bz (x : denP P_bz) : Option (denV R_bz × denQ P_bz) :=
 let v1 := (iand .u64 x.1 (4294967295 : Int))
 let v2 := ((x.1).fdiv (2 ^ 32))
 let v3 := (iand .u64 x.2.1 (4294967295 : Int))
 let v4 := ((x.2.1).fdiv (2 ^ 32))
 let v5 := (IntKind.u64.wrap (v1 * v3))
 let v6 := (IntKind.u64.wrap (v2 * v3))
 let v7 := ((v5).fdiv (2 ^ 32))
 let v8 := (IntKind.u64.wrap (v6 + v7))
 let v9 := (iand .u64 v8 (4294967295 : Int))
 let v10 := ((v8).fdiv (2 ^ 32))
 let v11 := (IntKind.u64.wrap (v1 * v4))
 let v12 := (IntKind.u64.wrap (v9 + v11))
 let v13 := (IntKind.u64.wrap (v2 * v4))
 let v14 := (IntKind.u64.wrap (v13 + v10))
 let v15 := ((v12).fdiv (2 ^ 32))
 let v16 := (IntKind.u64.wrap (v14 + v15))
 let v17 := (IntKind.u64.wrap (x.1 * x.2.1))
 some ((v16, v17, ()), ())
abbrev C_bz : Con := ⟨P_bz, R_bz, F_bz, false⟩
abbrev G_bz : Env := []
theorem g_bz : EnvOk Tryz.prog G_bz := env_nil
theorem r_bz (x) : runFn T G_bz [] Tryz.f116 C_bz.ps C_bz.rs x = C_bz.F x := by kernel_rfl
theorem s_bz : CallsOk Tryz.prog 116 C_bz := fnC (L := []) hT g_bz Tryz.f116 okP r_bz
/-! math/bits.Mul -/
abbrev P_ca : List PK := [.val (.int .u64), .val (.int .u64)]
abbrev R_ca : List VK := [.s (.dat (.int .u64)), .s (.dat (.int .u64))]
def F_ca (x : denP P_ca) : Option (denV R_ca × denQ P_ca) :=
 (F_bz (x.1, x.2.1, ())).bind fun r1 =>
 some ((r1.1.1, r1.1.2.1, ()), ())
abbrev C_ca : Con := ⟨P_ca, R_ca, F_ca, false⟩
abbrev G_ca : Env := [(116, C_bz)]
theorem g_ca : EnvOk Tryz.prog G_ca := (env_cons s_bz env_nil)
theorem r_ca (x) : runFn T G_ca [] Tryz.f98 C_ca.ps C_ca.rs x = C_ca.F x := by kernel_rfl
theorem s_ca : CallsOk Tryz.prog 98 C_ca := fnC (L := []) hT g_ca Tryz.f98 okP r_ca
/-! slices.Repeat[impl.Page,impl.Page] -/
abbrev P_cb : List PK := [.val Y24, .val YI]
abbrev R_cb : List VK := [.s (.own 70 Y69)]
abbrev i_cb_8 : Shp := { slots := [(7, .s (.own 70 Y69)), (8, .s (.dat YI))], boxes := [], rows := [] }
abbrev o_cb_8 : List (Ex × Shp) := [(.exit 0, { slots := [(7, .s (.own 70 Y69))], boxes := [], rows := [] })]
def l_cb_8 (rec : i_cb_8.den → Option (denO o_cb_8)) (u8 : i_cb_8.den) : Option (denO o_cb_8) :=
 let v8 := ((u8.1.1.length : Nat) : Int)
 if (ltI u8.1.2.1 v8) then
  if 0 ≤ u8.1.2.1 ∧ u8.1.2.1 ≤ ((u8.1.1.length : Nat) : Int) ∧ ((u8.1.1.length : Nat) : Int) ≤ ((u8.1.1.length : Nat) : Int) then
   if 0 ≤ (0 : Int) ∧ (0 : Int) ≤ u8.1.2.1 ∧ u8.1.2.1 ≤ ((u8.1.1.length : Nat) : Int) then
    if 0 < ((((u8.1.1.length : Nat) : Int)).toNat - (u8.1.2.1).toNat) ∧ 0 < ((u8.1.1.drop (0 + ((0 : Int)).toNat)).take ((u8.1.2.1).toNat - ((0 : Int)).toNat)).length then
     let v9 := (splc u8.1.1 ((u8.1.1.drop (0 + ((0 : Int)).toNat)).take ((u8.1.2.1).toNat - ((0 : Int)).toNat)) (0 + (u8.1.2.1).toNat) ((((u8.1.1.length : Nat) : Int)).toNat - (u8.1.2.1).toNat))
     let v10 := ((min ((((u8.1.1.length : Nat) : Int)).toNat - (u8.1.2.1).toNat) ((u8.1.1.drop (0 + ((0 : Int)).toNat)).take ((u8.1.2.1).toNat - ((0 : Int)).toNat)).length : Nat) : Int)
     let v11 := (IntKind.i64.wrap (u8.1.2.1 + v10))
     rec ((v9, (v11, ())), ((), ()))
    else none
   else none
  else none
 else
  some (.inl ((u8.1.1, ()), ((), ())))
def L_cb_8 (x : i_cb_8.den) : Option (denO o_cb_8) := iterF l_cb_8 lots x
def F_cb (x : denP P_cb) : Option (denV R_cb × denQ P_cb) :=
 if (ltI x.2.1 (0 : Int)) then none else
 let v1 := ((x.1.length : Nat) : Int)
 let v2 := (IntKind.u64.wrap v1)
 let v3 := (IntKind.u64.wrap x.2.1)
 (F_ca (v2, v3, ())).bind fun r4 =>
 if (ltI (0 : Int) r4.1.1) = false then
  if (ltI (9223372036854775807 : Int) r4.1.2.1) then none else
  let v5 := (IntKind.i64.wrap r4.1.2.1)
  if v5 = v5 ∧ 0 ≤ v5 ∧ v5 * 16 ≤ 140737488355328 ∧ v5 ≤ 9223372036854775807 then
   if 0 < (List.replicate (v5).toNat (zeroD Y69)).length ∧ 0 < x.1.length then
    let v6 := (splc (List.replicate (v5).toNat (zeroD Y69)) x.1 0 (List.replicate (v5).toNat (zeroD Y69)).length)
    let v7 := ((min (List.replicate (v5).toNat (zeroD Y69)).length x.1.length : Nat) : Int)
    (L_cb_8 ((v6, (v7, ())), ((), ()))).bind fun z12 =>
    match z12 with
    | .inl x13 =>
     some ((x13.1.1, ()), ())
    | .inr z12_ =>
     none
   else none
  else none
 else none
abbrev C_cb : Con := ⟨P_cb, R_cb, F_cb, false⟩
abbrev G_cb : Env := [(98, C_ca)]
theorem g_cb : EnvOk Tryz.prog G_cb := (env_cons s_ca env_nil)
abbrev c_cb_8 : Cut := ⟨i_cb_8, o_cb_8, fun x => iterF l_cb_8 lots x⟩
theorem t_cb_8 (rec x) : run T G_cb [] (nav Tryz.f62 [1, 1, 1, 1, 1, 1, 0, 0, 0]) (mk 48 i_cb_8 x) (loopK i_cb_8 o_cb_8 rec) = l_cb_8 rec x := by kernel_rfl
theorem k_cb_8 : CutOk Tryz.prog 48 (.loop (nav Tryz.f62 [1, 1, 1, 1, 1, 1, 0, 0, 0])) c_cb_8 :=
  loop_cut (L := []) hT g_cb t_cb_8 okP _
theorem r_cb (x) : runFn T G_cb [(8, c_cb_8)] Tryz.f62 C_cb.ps C_cb.rs x = C_cb.F x := by kernel_rfl
theorem s_cb : CallsOk Tryz.prog 62 C_cb := fnC (L := [(8, c_cb_8)]) hT g_cb Tryz.f62 (okS okP (okS okP (okS okP (okS okP (okS okP (okS okP (okS (okB (okU k_cb_8)) okP))))))) r_cb
/-! (*impl.Policy).pagesFor -/
abbrev P_cc : List PK := [.ptr Y26, .val YI]
abbrev R_cc : List VK := [.s (.own 70 Y69)]
abbrev i_cc_8 : Shp := { slots := [(1, .s (.dat YI)), (5, .s (.own 70 Y69)), (35, .s (.dat Y23)), (36, .s (.dat YI)), (37, .s (.dat YI))], boxes := [], rows := [] }
abbrev o_cc_8 : List (Ex × Shp) := [(.exit 2, { slots := [(5, .s (.own 70 Y69))], boxes := [], rows := [] })]
def l_cc_8 (rec : i_cc_8.den → Option (denO o_cc_8)) (u8 : i_cc_8.den) : Option (denO o_cc_8) :=
 if (ltI u8.1.2.2.2.2.1 u8.1.2.2.2.1) then
  if 0 ≤ u8.1.2.2.2.2.1 then
   ((u8.1.2.2.1)[(u8.1.2.2.2.2.1).toNat]?).bind fun y18 =>
   if (y18.1 == u8.1.1) then
    if 0 ≤ y18.2.2.2.1 ∧ y18.2.2.2.1 < ((u8.1.2.1.length : Nat) : Int) then
     ((u8.1.2.1)[(y18.2.2.2.1).toNat]?).bind fun y19 =>
     let v20 := (u8.1.2.1.set (y18.2.2.2.1).toNat (y18.2.2.1, ((3 : Int), ())))
     if (y18.2.1 == u8.1.1) then
      if 0 ≤ y18.2.2.2.2.1 ∧ y18.2.2.2.2.1 < ((v20.length : Nat) : Int) then
       ((v20)[(y18.2.2.2.2.1).toNat]?).bind fun y21 =>
       let v22 := (v20.set (y18.2.2.2.2.1).toNat (y18.2.2.1, ((1 : Int), ())))
       let v23 := (IntKind.i64.wrap (u8.1.2.2.2.2.1 + (1 : Int)))
       rec ((u8.1.1, (v22, (u8.1.2.2.1, (u8.1.2.2.2.1, (v23, ()))))), ((), ()))
      else none
     else
      let v24 := (IntKind.i64.wrap (u8.1.2.2.2.2.1 + (1 : Int)))
      rec ((u8.1.1, (v20, (u8.1.2.2.1, (u8.1.2.2.2.1, (v24, ()))))), ((), ()))
    else none
   else
    if (y18.2.1 == u8.1.1) then
     if 0 ≤ y18.2.2.2.2.1 ∧ y18.2.2.2.2.1 < ((u8.1.2.1.length : Nat) : Int) then
      ((u8.1.2.1)[(y18.2.2.2.2.1).toNat]?).bind fun y25 =>
      let v26 := (u8.1.2.1.set (y18.2.2.2.2.1).toNat (y18.2.2.1, ((1 : Int), ())))
      let v27 := (IntKind.i64.wrap (u8.1.2.2.2.2.1 + (1 : Int)))
      rec ((u8.1.1, (v26, (u8.1.2.2.1, (u8.1.2.2.2.1, (v27, ()))))), ((), ()))
     else none
    else
     let v28 := (IntKind.i64.wrap (u8.1.2.2.2.2.1 + (1 : Int)))
     rec ((u8.1.1, (u8.1.2.1, (u8.1.2.2.1, (u8.1.2.2.2.1, (v28, ()))))), ((), ()))
  else none
 else
  some (.inl ((u8.1.2.1, ()), ((), ())))
def L_cc_8 (x : i_cc_8.den) : Option (denO o_cc_8) := iterF l_cc_8 lots x
abbrev i_cc_3 : Shp := { slots := [(0, .s (.pd Y26)), (1, .s (.dat YI)), (5, .s (.own 70 Y69)), (19, .s (.dat Y28)), (20, .s (.dat YI)), (21, .s (.dat YI))], boxes := [], rows := [] }
abbrev o_cc_3 : List (Ex × Shp) := [(.exit 0, { slots := [(0, .s (.pd Y26)), (1, .s (.dat YI)), (5, .s (.own 70 Y69))], boxes := [], rows := [] })]
def l_cc_3 (rec : i_cc_3.den → Option (denO o_cc_3)) (u3 : i_cc_3.den) : Option (denO o_cc_3) :=
 if (ltI u3.1.2.2.2.2.2.1 u3.1.2.2.2.2.1) then
  if 0 ≤ u3.1.2.2.2.2.2.1 then
   ((u3.1.2.2.2.1)[(u3.1.2.2.2.2.2.1).toNat]?).bind fun y7 =>
   if 0 ≤ u3.1.2.2.2.2.2.1 ∧ u3.1.2.2.2.2.2.1 < ((u3.1.2.2.1.length : Nat) : Int) then
    ((u3.1.2.2.1)[(u3.1.2.2.2.2.2.1).toNat]?).bind fun y8 =>
    let v9 := (u3.1.2.2.1.set (u3.1.2.2.2.2.2.1).toNat (y7, ((7 : Int), ())))
    let v10 := (IntKind.i64.wrap (u3.1.2.2.2.2.2.1 + (1 : Int)))
    rec ((u3.1.1, (u3.1.2.1, (v9, (u3.1.2.2.2.1, (u3.1.2.2.2.2.1, (v10, ())))))), ((), ()))
   else none
  else none
 else
  some (.inl ((u3.1.1, (u3.1.2.1, (u3.1.2.2.1, ()))), ((), ())))
def L_cc_3 (x : i_cc_3.den) : Option (denO o_cc_3) := iterF l_cc_3 lots x
def F_cc (x : denP P_cc) : Option (denV R_cc × denQ P_cc) :=
 (F_by ()).bind fun r1 =>
 (F_cb ([r1.1.1], (8 : Int), ())).bind fun r2 =>
 if 0 ≤ x.2.1 then
  ((x.1.1)[(x.2.1).toNat]?).bind fun y3 =>
  let v4 := ((y3.length : Nat) : Int)
  (L_cc_3 ((x.1, (x.2.1, (r2.1.1, (y3, (v4, ((0 : Int), ())))))), ((), ()))).bind fun z11 =>
  match z11 with
  | .inl x12 =>
   let v13 := ((x12.1.1.2.1.length : Nat) : Int)
   (L_cc_8 ((x12.1.2.1, (x12.1.2.2.1, (x12.1.1.2.1, (v13, ((0 : Int), ()))))), ((), ()))).bind fun z29 =>
   match z29 with
   | .inl x30 =>
    some ((x30.1.1, ()), ())
   | .inr z29_ =>
    none
  | .inr z11_ =>
   none
 else none
abbrev C_cc : Con := ⟨P_cc, R_cc, F_cc, false⟩
abbrev G_cc : Env := [(62, C_cb), (63, C_by)]
theorem g_cc : EnvOk Tryz.prog G_cc := (env_cons s_cb (env_cons s_by env_nil))
abbrev c_cc_8 : Cut := ⟨i_cc_8, o_cc_8, fun x => iterF l_cc_8 lots x⟩
theorem t_cc_8 (rec x) : run T G_cc [] (nav Tryz.f24 [1, 1, 1, 0, 1, 0, 0]) (mk 65 i_cc_8 x) (loopK i_cc_8 o_cc_8 rec) = l_cc_8 rec x := by kernel_rfl
theorem k_cc_8 : CutOk Tryz.prog 65 (.loop (nav Tryz.f24 [1, 1, 1, 0, 1, 0, 0])) c_cc_8 :=
  loop_cut (L := []) hT g_cc t_cc_8 okP _
abbrev c_cc_3 : Cut := ⟨i_cc_3, o_cc_3, fun x => iterF l_cc_3 lots x⟩
theorem t_cc_3 (rec x) : run T G_cc [] (nav Tryz.f24 [1, 1, 0, 1, 0, 0]) (mk 65 i_cc_3 x) (loopK i_cc_3 o_cc_3 rec) = l_cc_3 rec x := by kernel_rfl
theorem k_cc_3 : CutOk Tryz.prog 65 (.loop (nav Tryz.f24 [1, 1, 0, 1, 0, 0])) c_cc_3 :=
  loop_cut (L := []) hT g_cc t_cc_3 okP _
theorem r_cc (x) : runFn T G_cc [(8, c_cc_8), (3, c_cc_3)] Tryz.f24 C_cc.ps C_cc.rs x = C_cc.F x := by kernel_rfl
theorem s_cc : CallsOk Tryz.prog 24 C_cc := fnC (L := [(8, c_cc_8), (3, c_cc_3)]) hT g_cc Tryz.f24 (okS okP (okS okP (okS (okS okP (okB (okU k_cc_3))) (okS (okS okP (okB (okU k_cc_8))) okP)))) r_cc
/-! slices.Clone[int64,int64] -/
abbrev P_cd : List PK := [.val Y28]
abbrev R_cd : List VK := [.s (.own 2 YI)]
def F_cd (x : denP P_cd) : Option (denV R_cd × denQ P_cd) :=
  if (([] : List (den YI)).length + x.1.length) * 8 ≤ 140737488355328 then some (([] ++ x.1, ()), ()) else none
abbrev C_cd : Con := ⟨P_cd, R_cd, F_cd, false⟩
theorem s_cd : CallsOk Tryz.prog 64 C_cd :=
  nil_first hT (fn := Tryz.f64) (cn := C_cd) (c0 := nav Tryz.f64 [0]) (ca := nav Tryz.f64 [1, 0, 1, 0]) (cb := nav Tryz.f64 [1, 1]) (id := 1) (d := 4) (nm := 1032000) (o1 := navOp Tryz.f64 [1, 0, 0] 0) (o2 := navOp Tryz.f64 [1, 0, 0] 1)
    (t := 28) (t' := 28) (x := .tmp 3) (r := ⟨Y28, [], 2, 24, 0⟩) (u := YI) (by kernel_rfl) (by kernel_rfl) (by kernel_rfl) ⟨by kernel_rfl, by kernel_rfl⟩ (fun y => by kernel_rfl) (by kernel_rfl) (by kernel_rfl) (by kernel_rfl) (by kernel_rfl) (by kernel_rfl) rfl
    (fun y => (st0 Tryz.f64 P_cd y).set 2 (.s .nls)) (fun y => ((st0 Tryz.f64 P_cd y).set 2 (.s .nls)).set 3 (.s (.d (.slice YI) y.1))) (fun y => y.1)
    (fun y => by kernel_rfl) (fun y => by kernel_rfl) (fun y => by kernel_rfl) (fun y => Nat.le_of_ble_eq_true (by kernel_rfl)) (fun y => by kernel_rfl) (by kernel_rfl) (by kernel_rfl) (by kernel_rfl) (fun y => by kernel_rfl)
    (fun y h => by obtain ⟨l, v⟩ := y; have h : l = [] := h; subst h; show run _ _ _ _ _ _ = F_cd ([], v); kernel_rfl) (fun y => by kernel_rfl)
/-! impl.pageOf -/
abbrev P_ce : List PK := [.val Y28, .val YI]
abbrev R_ce : List VK := [.s (.own 2 YI)]
def F_ce (x : denP P_ce) : Option (denV R_ce × denQ P_ce) :=
 let v1 := (IntKind.i64.wrap (x.2.1 * (8 : Int)))
 let v2 := (IntKind.i64.wrap (x.2.1 + (1 : Int)))
 let v3 := (IntKind.i64.wrap (v2 * (8 : Int)))
 if 0 ≤ v1 ∧ v1 ≤ v3 ∧ v3 ≤ ((x.1.length : Nat) : Int) then
  let v4 := ((x.1.drop (v1).toNat).take ((v3).toNat - (v1).toNat))
  (F_cd (v4, ())).bind fun r5 =>
  some ((r5.1.1, ()), ())
 else none
abbrev C_ce : Con := ⟨P_ce, R_ce, F_ce, false⟩
abbrev G_ce : Env := [(64, C_cd)]
theorem g_ce : EnvOk Tryz.prog G_ce := (env_cons s_cd env_nil)
theorem r_ce (x) : runFn T G_ce [] Tryz.f25 C_ce.ps C_ce.rs x = C_ce.F x := by kernel_rfl
theorem s_ce : CallsOk Tryz.prog 25 C_ce := fnC (L := []) hT g_ce Tryz.f25 okP r_ce
/-! (impl.Hart).own -/
abbrev P_cf : List PK := [.val Y33]
abbrev R_cf : List VK := [.g [.own 2 YI, .dat YI, .own 2 YI, .dat .bool, .dat .bool, .dat .bool, .dat YI, .own 2 YI, .own 2 YI]]
def F_cf (x : denP P_cf) : Option (denV R_cf × denQ P_cf) :=
 (F_cd (x.1.1, ())).bind fun r1 =>
 (F_cd (x.1.2.2.1, ())).bind fun r2 =>
 (F_cd (x.1.2.2.2.2.2.2.2.1, ())).bind fun r3 =>
 (F_cd (x.1.2.2.2.2.2.2.2.2.1, ())).bind fun r4 =>
 some (((r1.1.1, (x.1.2.1, (r2.1.1, (x.1.2.2.2.1, (x.1.2.2.2.2.1, (x.1.2.2.2.2.2.1, (x.1.2.2.2.2.2.2.1, (r3.1.1, (r4.1.1, ()))))))))), ()), ())
abbrev C_cf : Con := ⟨P_cf, R_cf, F_cf, false⟩
abbrev G_cf : Env := [(64, C_cd)]
theorem g_cf : EnvOk Tryz.prog G_cf := (env_cons s_cd env_nil)
theorem r_cf (x) : runFn T G_cf [] Tryz.f26 C_cf.ps C_cf.rs x = C_cf.F x := by kernel_rfl
theorem s_cf : CallsOk Tryz.prog 26 C_cf := fnC (L := []) hT g_cf Tryz.f26 okP r_cf
/-! (*impl.Policy).alone -/
abbrev P_cg : List PK := [.ptr Y26, .val YI]
abbrev R_cg : List VK := [.s (.own 70 Y69)]
abbrev i_cg_3 : Shp := { slots := [(5, .s (.own 70 Y69)), (11, .s (.dat YI)), (12, .s (.dat YI))], boxes := [], rows := [] }
abbrev o_cg_3 : List (Ex × Shp) := [(.exit 0, { slots := [(5, .s (.own 70 Y69))], boxes := [], rows := [] })]
def l_cg_3 (rec : i_cg_3.den → Option (denO o_cg_3)) (u3 : i_cg_3.den) : Option (denO o_cg_3) :=
 if (ltI u3.1.2.2.1 u3.1.2.1) then
  if 0 ≤ u3.1.2.2.1 ∧ u3.1.2.2.1 < ((u3.1.1.length : Nat) : Int) then
   ((u3.1.1)[(u3.1.2.2.1).toNat]?).bind fun y5 =>
   if (leI (0 : Int) y5.1) then
    if 0 ≤ u3.1.2.2.1 ∧ u3.1.2.2.1 < ((u3.1.1.length : Nat) : Int) then
     ((u3.1.1)[(u3.1.2.2.1).toNat]?).bind fun y6 =>
     let v7 := (u3.1.1.set (u3.1.2.2.1).toNat (u3.1.2.2.1, y6.2))
     let v8 := (IntKind.i64.wrap (u3.1.2.2.1 + (1 : Int)))
     rec ((v7, (u3.1.2.1, (v8, ()))), ((), ()))
    else none
   else
    let v9 := (IntKind.i64.wrap (u3.1.2.2.1 + (1 : Int)))
    rec ((u3.1.1, (u3.1.2.1, (v9, ()))), ((), ()))
  else none
 else
  some (.inl ((u3.1.1, ()), ((), ())))
def L_cg_3 (x : i_cg_3.den) : Option (denO o_cg_3) := iterF l_cg_3 lots x
def F_cg (x : denP P_cg) : Option (denV R_cg × denQ P_cg) :=
 (F_cc (x.1, x.2.1, ())).bind fun r1 =>
 let v2 := ((r1.1.1.length : Nat) : Int)
 (L_cg_3 ((r1.1.1, (v2, ((0 : Int), ()))), ((), ()))).bind fun z10 =>
 match z10 with
 | .inl x11 =>
  some ((x11.1.1, ()), ())
 | .inr z10_ =>
  none
abbrev C_cg : Con := ⟨P_cg, R_cg, F_cg, false⟩
abbrev G_cg : Env := [(24, C_cc)]
theorem g_cg : EnvOk Tryz.prog G_cg := (env_cons s_cc env_nil)
abbrev c_cg_3 : Cut := ⟨i_cg_3, o_cg_3, fun x => iterF l_cg_3 lots x⟩
theorem t_cg_3 (rec x) : run T G_cg [] (nav Tryz.f27 [1, 1, 0, 1, 0, 0]) (mk 28 i_cg_3 x) (loopK i_cg_3 o_cg_3 rec) = l_cg_3 rec x := by kernel_rfl
theorem k_cg_3 : CutOk Tryz.prog 28 (.loop (nav Tryz.f27 [1, 1, 0, 1, 0, 0])) c_cg_3 :=
  loop_cut (L := []) hT g_cg t_cg_3 okP _
theorem r_cg (x) : runFn T G_cg [(3, c_cg_3)] Tryz.f27 C_cg.ps C_cg.rs x = C_cg.F x := by kernel_rfl
theorem s_cg : CallsOk Tryz.prog 27 C_cg := fnC (L := [(3, c_cg_3)]) hT g_cg Tryz.f27 (okS okP (okS okP (okS (okS okP (okB (okU k_cg_3))) okP))) r_cg
/-! impl.SoloFrom -/
abbrev P_ch : List PK := [.val Y30, .val YI]
abbrev R_ch : List VK := [.g [.dat YI, .own 2 YI, .dat YI, .own 2 YI, .dat .bool, .dat .bool, .dat .bool, .dat YI, .own 2 YI, .own 2 YI, .own 70 Y69, .own 2 YI]]
abbrev i_ch_8 : Shp := { slots := [(1, .s (.dat YI)), (2, .s (.ptr 2 0)), (4, .s (.ptr 4 0)), (6, .s (.own 2 YI)), (23, .s (.own 70 Y69)), (24, .s (.dat YI)), (25, .s (.dat YI))], boxes := [(2, [.dat Y22, .dat Y23, .dat Y24, .dat Y24, .dat Y28, .dat Y29, .dat YI, .dat YI, .dat YI]), (4, [.dat YI, .own 2 YI, .dat YI, .own 2 YI, .dat .bool, .dat .bool, .dat .bool, .dat YI, .own 2 YI, .own 2 YI, .own 70 Y69, .own 2 YI])], rows := [] }
abbrev o_ch_8 : List (Ex × Shp) := [(.exit 0, { slots := [(1, .s (.dat YI)), (2, .s (.ptr 2 0)), (4, .s (.ptr 4 0)), (6, .s (.own 2 YI))], boxes := [(2, [.dat Y22, .dat Y23, .dat Y24, .dat Y24, .dat Y28, .dat Y29, .dat YI, .dat YI, .dat YI]), (4, [.dat YI, .own 2 YI, .dat YI, .own 2 YI, .dat .bool, .dat .bool, .dat .bool, .dat YI, .own 2 YI, .own 2 YI, .own 70 Y69, .own 2 YI])], rows := [] })]
def l_ch_8 (rec : i_ch_8.den → Option (denO o_ch_8)) (u8 : i_ch_8.den) : Option (denO o_ch_8) :=
 if (ltI u8.1.2.2.2.2.2.2.1 u8.1.2.2.2.2.2.1) then
  if 0 ≤ u8.1.2.2.2.2.2.2.1 ∧ u8.1.2.2.2.2.2.2.1 < ((u8.1.2.2.2.2.1.length : Nat) : Int) then
   ((u8.1.2.2.2.2.1)[(u8.1.2.2.2.2.2.2.1).toNat]?).bind fun y7 =>
   if (leI (0 : Int) y7.1) then
    let v8 := (IntKind.i64.wrap (u8.1.2.2.2.2.2.2.1 * (8 : Int)))
    if 0 ≤ v8 ∧ v8 ≤ ((u8.1.2.2.2.1.length : Nat) : Int) ∧ ((u8.1.2.2.2.1.length : Nat) : Int) ≤ ((u8.1.2.2.2.1.length : Nat) : Int) then
     (F_ce (u8.2.1.1.2.2.2.2.1, y7.1, ())).bind fun r9 =>
     if 0 < ((((u8.1.2.2.2.1.length : Nat) : Int)).toNat - (v8).toNat) ∧ 0 < r9.1.1.length then
      let v10 := (splc u8.1.2.2.2.1 r9.1.1 (0 + (v8).toNat) ((((u8.1.2.2.2.1.length : Nat) : Int)).toNat - (v8).toNat))
      let v11 := ((min ((((u8.1.2.2.2.1.length : Nat) : Int)).toNat - (v8).toNat) r9.1.1.length : Nat) : Int)
      let v12 := (IntKind.i64.wrap (u8.1.2.2.2.2.2.2.1 + (1 : Int)))
      rec ((u8.1.1, ((), ((), (v10, (u8.1.2.2.2.2.1, (u8.1.2.2.2.2.2.1, (v12, ()))))))), ((u8.2.1.1, (u8.2.1.2.1, ())), ()))
     else none
    else none
   else
    let v13 := (IntKind.i64.wrap (u8.1.2.2.2.2.2.2.1 + (1 : Int)))
    rec ((u8.1.1, ((), ((), (u8.1.2.2.2.1, (u8.1.2.2.2.2.1, (u8.1.2.2.2.2.2.1, (v13, ()))))))), ((u8.2.1.1, (u8.2.1.2.1, ())), ()))
  else none
 else
  some (.inl ((u8.1.1, ((), ((), (u8.1.2.2.2.1, ())))), ((u8.2.1.1, (u8.2.1.2.1, ())), ())))
def L_ch_8 (x : i_ch_8.den) : Option (denO o_ch_8) := iterF l_ch_8 lots x
def F_ch (x : denP P_ch) : Option (denV R_ch × denQ P_ch) :=
 (F_bx (x.1, ())).bind fun r1 =>
 if (r1.1.1 != (0 : Int)) then
  some (((r1.1.1, (([] : List (den YI)), ((0 : Int), (([] : List (den YI)), (false, (false, (false, ((0 : Int), (([] : List (den YI)), (([] : List (den YI)), (([] : List (den Y69)), (([] : List (den YI)), ())))))))))))), ()), ())
 else
  (F_aw (x.1.1, x.2.1, ())).bind fun r2 =>
  if (!r2.1.1) then
   some ((((4 : Int), (([] : List (den YI)), ((0 : Int), (([] : List (den YI)), (false, (false, (false, ((0 : Int), (([] : List (den YI)), (([] : List (den YI)), (([] : List (den Y69)), (([] : List (den YI)), ())))))))))))), ()), ())
  else
   (F_cc (x.1.1, x.2.1, ())).bind fun r3 =>
   let v4 := ((r3.1.1.length : Nat) : Int)
   (L_ch_8 ((x.2.1, ((), ((), ((List.replicate ((64 : Int)).toNat (zeroD YI)), (r3.1.1, (v4, ((0 : Int), ()))))))), (((x.1.1.1, (x.1.1.2.1, (x.1.1.2.2.1, (x.1.1.2.2.2.1, (x.1.2.1, (x.1.2.2.1, (x.1.2.2.2.1, (x.1.2.2.2.2.1, (x.1.2.2.2.2.2.1, ()))))))))), (((0 : Int), (([] : List (den YI)), ((0 : Int), (([] : List (den YI)), (false, (false, (false, ((0 : Int), (([] : List (den YI)), (([] : List (den YI)), (([] : List (den Y69)), (([] : List (den YI)), ())))))))))))), ())), ()))).bind fun z14 =>
   match z14 with
   | .inl x15 =>
    if 0 ≤ x15.1.1 then
     ((x15.2.1.1.2.2.2.2.2.1)[(x15.1.1).toNat]?).bind fun y16 =>
     (F_cf (y16, ())).bind fun r17 =>
     (F_cg ((x15.2.1.1.1, (x15.2.1.1.2.1, (x15.2.1.1.2.2.1, (x15.2.1.1.2.2.2.1, ())))), x15.1.1, ())).bind fun r18 =>
     some ((((0 : Int), (r17.1.1.1, (r17.1.1.2.1, (r17.1.1.2.2.1, (r17.1.1.2.2.2.1, (r17.1.1.2.2.2.2.1, (r17.1.1.2.2.2.2.2.1, (r17.1.1.2.2.2.2.2.2.1, (r17.1.1.2.2.2.2.2.2.2.1, (r17.1.1.2.2.2.2.2.2.2.2.1, (r18.1.1, (x15.1.2.2.2.1, ())))))))))))), ()), ())
    else none
   | .inr z14_ =>
    none
abbrev C_ch : Con := ⟨P_ch, R_ch, F_ch, false⟩
abbrev G_ch : Env := [(22, C_bx), (23, C_aw), (24, C_cc), (25, C_ce), (26, C_cf), (27, C_cg)]
theorem g_ch : EnvOk Tryz.prog G_ch := (env_cons s_bx (env_cons s_aw (env_cons s_cc (env_cons s_ce (env_cons s_cf (env_cons s_cg env_nil))))))
abbrev c_ch_8 : Cut := ⟨i_ch_8, o_ch_8, fun x => iterF l_ch_8 lots x⟩
theorem t_ch_8 (rec x) : run T G_ch [] (nav Tryz.f7 [1, 1, 1, 1, 0, 1, 0, 0]) (mk 56 i_ch_8 x) (loopK i_ch_8 o_ch_8 rec) = l_ch_8 rec x := by kernel_rfl
theorem k_ch_8 : CutOk Tryz.prog 56 (.loop (nav Tryz.f7 [1, 1, 1, 1, 0, 1, 0, 0])) c_ch_8 :=
  loop_cut (L := []) hT g_ch t_ch_8 okP _
theorem r_ch (x) : runFn T G_ch [(8, c_ch_8)] Tryz.f7 C_ch.ps C_ch.rs x = C_ch.F x := by kernel_rfl
theorem s_ch : CallsOk Tryz.prog 7 C_ch := fnC (L := [(8, c_ch_8)]) hT g_ch Tryz.f7 (okS okP (okS okP (okS okP (okS okP (okS (okS okP (okB (okU k_ch_8))) okP))))) r_ch
/-! laws.eqInt64S -/
abbrev P_ci : List PK := [.val Y28, .val Y28]
abbrev R_ci : List VK := [.s (.dat .bool)]
abbrev i_ci_4 : Shp := { slots := [(0, .s (.dat Y28)), (1, .s (.dat Y28)), (5, .s (.dat YI))], boxes := [], rows := [] }
abbrev o_ci_4 : List (Ex × Shp) := [(.exit 0, { slots := [], boxes := [], rows := [] }), (.ret, { slots := [(4, .s (.dat .bool))], boxes := [], rows := [] })]
def l_ci_4 (rec : i_ci_4.den → Option (denO o_ci_4)) (u4 : i_ci_4.den) : Option (denO o_ci_4) :=
 let v5 := ((u4.1.1.length : Nat) : Int)
 if (ltI u4.1.2.2.1 v5) then
  if 0 ≤ u4.1.2.2.1 then
   ((u4.1.1)[(u4.1.2.2.1).toNat]?).bind fun y6 =>
   if 0 ≤ u4.1.2.2.1 then
    ((u4.1.2.1)[(u4.1.2.2.1).toNat]?).bind fun y7 =>
    if (y6 != y7) then
     some (.inr (.inl ((false, ()), ((), ()))))
    else
     let v8 := (IntKind.i64.wrap (u4.1.2.2.1 + (1 : Int)))
     rec ((u4.1.1, (u4.1.2.1, (v8, ()))), ((), ()))
   else none
  else none
 else
  some (.inl ((), ((), ())))
def L_ci_4 (x : i_ci_4.den) : Option (denO o_ci_4) := iterF l_ci_4 lots x
def F_ci (x : denP P_ci) : Option (denV R_ci × denQ P_ci) :=
 let v1 := ((x.1.length : Nat) : Int)
 let v2 := ((x.2.1.length : Nat) : Int)
 if (v1 != v2) then
  some ((false, ()), ())
 else
  (L_ci_4 ((x.1, (x.2.1, ((0 : Int), ()))), ((), ()))).bind fun z9 =>
  match z9 with
  | .inl x10 =>
   some ((true, ()), ())
  | .inr z9_ =>
   match z9_ with
   | .inl x11 =>
    some ((x11.1.1, ()), ())
   | .inr z9__ =>
    none
abbrev C_ci : Con := ⟨P_ci, R_ci, F_ci, false⟩
abbrev G_ci : Env := []
theorem g_ci : EnvOk Tryz.prog G_ci := env_nil
abbrev c_ci_4 : Cut := ⟨i_ci_4, o_ci_4, fun x => iterF l_ci_4 lots x⟩
theorem t_ci_4 (rec x) : run T G_ci [] (nav Tryz.f30 [1, 1, 0, 1, 0, 0]) (mk 26 i_ci_4 x) (loopK i_ci_4 o_ci_4 rec) = l_ci_4 rec x := by kernel_rfl
theorem k_ci_4 : CutOk Tryz.prog 26 (.loop (nav Tryz.f30 [1, 1, 0, 1, 0, 0])) c_ci_4 :=
  loop_cut (L := []) hT g_ci t_ci_4 okP _
theorem r_ci (x) : runFn T G_ci [(4, c_ci_4)] Tryz.f30 C_ci.ps C_ci.rs x = C_ci.F x := by kernel_rfl
theorem s_ci : CallsOk Tryz.prog 30 C_ci := fnC (L := [(4, c_ci_4)]) hT g_ci Tryz.f30 (okS okP (okS okP (okS (okS okP (okB (okU k_ci_4))) okP))) r_ci
/-! laws.eqHart -/
abbrev P_cj : List PK := [.val Y33, .val Y33]
abbrev R_cj : List VK := [.s (.dat .bool)]
def F_cj (x : denP P_cj) : Option (denV R_cj × denQ P_cj) :=
 (F_ci (x.1.1, x.2.1.1, ())).bind fun r1 =>
 if (!r1.1.1) then
  some ((false, ()), ())
 else
  if (x.1.2.1 != x.2.1.2.1) then
   some ((false, ()), ())
  else
   (F_ci (x.1.2.2.1, x.2.1.2.2.1, ())).bind fun r2 =>
   if (!r2.1.1) then
    some ((false, ()), ())
   else
    if (!(x.1.2.2.2.1 == x.2.1.2.2.2.1)) then
     some ((false, ()), ())
    else
     if (!(x.1.2.2.2.2.1 == x.2.1.2.2.2.2.1)) then
      some ((false, ()), ())
     else
      if (!(x.1.2.2.2.2.2.1 == x.2.1.2.2.2.2.2.1)) then
       some ((false, ()), ())
      else
       if (x.1.2.2.2.2.2.2.1 != x.2.1.2.2.2.2.2.2.1) then
        some ((false, ()), ())
       else
        (F_ci (x.1.2.2.2.2.2.2.2.1, x.2.1.2.2.2.2.2.2.2.1, ())).bind fun r3 =>
        if (!r3.1.1) then
         some ((false, ()), ())
        else
         (F_ci (x.1.2.2.2.2.2.2.2.2.1, x.2.1.2.2.2.2.2.2.2.2.1, ())).bind fun r4 =>
         if (!r4.1.1) then
          some ((false, ()), ())
         else
          some ((true, ()), ())
abbrev C_cj : Con := ⟨P_cj, R_cj, F_cj, false⟩
abbrev G_cj : Env := [(30, C_ci)]
theorem g_cj : EnvOk Tryz.prog G_cj := (env_cons s_ci env_nil)
theorem r_cj (x) : runFn T G_cj [] Tryz.f65 C_cj.ps C_cj.rs x = C_cj.F x := by kernel_rfl
theorem s_cj : CallsOk Tryz.prog 65 C_cj := fnC (L := []) hT g_cj Tryz.f65 okP r_cj
/-! laws.eqPage -/
abbrev P_ck : List PK := [.val Y69, .val Y69]
abbrev R_ck : List VK := [.s (.dat .bool)]
def F_ck (x : denP P_ck) : Option (denV R_ck × denQ P_ck) :=
 if (x.1.1 != x.2.1.1) then
  some ((false, ()), ())
 else
  if (x.1.2.1 != x.2.1.2.1) then
   some ((false, ()), ())
  else
   some ((true, ()), ())
abbrev C_ck : Con := ⟨P_ck, R_ck, F_ck, false⟩
abbrev G_ck : Env := []
theorem g_ck : EnvOk Tryz.prog G_ck := env_nil
theorem r_ck (x) : runFn T G_ck [] Tryz.f99 C_ck.ps C_ck.rs x = C_ck.F x := by kernel_rfl
theorem s_ck : CallsOk Tryz.prog 99 C_ck := fnC (L := []) hT g_ck Tryz.f99 okP r_ck
/-! laws.eqPageS -/
abbrev P_cl : List PK := [.val Y24, .val Y24]
abbrev R_cl : List VK := [.s (.dat .bool)]
abbrev i_cl_4 : Shp := { slots := [(0, .s (.dat Y24)), (1, .s (.dat Y24)), (5, .s (.dat YI))], boxes := [], rows := [] }
abbrev o_cl_4 : List (Ex × Shp) := [(.exit 0, { slots := [], boxes := [], rows := [] }), (.ret, { slots := [(4, .s (.dat .bool))], boxes := [], rows := [] })]
def l_cl_4 (rec : i_cl_4.den → Option (denO o_cl_4)) (u4 : i_cl_4.den) : Option (denO o_cl_4) :=
 let v6 := ((u4.1.1.length : Nat) : Int)
 if (ltI u4.1.2.2.1 v6) then
  if 0 ≤ u4.1.2.2.1 then
   ((u4.1.1)[(u4.1.2.2.1).toNat]?).bind fun y7 =>
   if 0 ≤ u4.1.2.2.1 then
    ((u4.1.2.1)[(u4.1.2.2.1).toNat]?).bind fun y8 =>
    (F_ck (y7, y8, ())).bind fun r9 =>
    if (!r9.1.1) then
     some (.inr (.inl ((false, ()), ((), ()))))
    else
     let v10 := (IntKind.i64.wrap (u4.1.2.2.1 + (1 : Int)))
     rec ((u4.1.1, (u4.1.2.1, (v10, ()))), ((), ()))
   else none
  else none
 else
  some (.inl ((), ((), ())))
def L_cl_4 (x : i_cl_4.den) : Option (denO o_cl_4) := iterF l_cl_4 lots x
def F_cl (x : denP P_cl) : Option (denV R_cl × denQ P_cl) :=
 let v1 := ((x.1.length : Nat) : Int)
 let v2 := ((x.2.1.length : Nat) : Int)
 if (v1 != v2) then
  some ((false, ()), ())
 else
  (L_cl_4 ((x.1, (x.2.1, ((0 : Int), ()))), ((), ()))).bind fun z11 =>
  match z11 with
  | .inl x12 =>
   some ((true, ()), ())
  | .inr z11_ =>
   match z11_ with
   | .inl x13 =>
    some ((x13.1.1, ()), ())
   | .inr z11__ =>
    none
abbrev C_cl : Con := ⟨P_cl, R_cl, F_cl, false⟩
abbrev G_cl : Env := [(99, C_ck)]
theorem g_cl : EnvOk Tryz.prog G_cl := (env_cons s_ck env_nil)
abbrev c_cl_4 : Cut := ⟨i_cl_4, o_cl_4, fun x => iterF l_cl_4 lots x⟩
theorem t_cl_4 (rec x) : run T G_cl [] (nav Tryz.f66 [1, 1, 0, 1, 0, 0]) (mk 27 i_cl_4 x) (loopK i_cl_4 o_cl_4 rec) = l_cl_4 rec x := by kernel_rfl
theorem k_cl_4 : CutOk Tryz.prog 27 (.loop (nav Tryz.f66 [1, 1, 0, 1, 0, 0])) c_cl_4 :=
  loop_cut (L := []) hT g_cl t_cl_4 okP _
theorem r_cl (x) : runFn T G_cl [(4, c_cl_4)] Tryz.f66 C_cl.ps C_cl.rs x = C_cl.F x := by kernel_rfl
theorem s_cl : CallsOk Tryz.prog 66 C_cl := fnC (L := [(4, c_cl_4)]) hT g_cl Tryz.f66 (okS okP (okS okP (okS (okS okP (okB (okU k_cl_4))) okP))) r_cl
/-! laws.eqSolo -/
abbrev P_cm : List PK := [.val Y36, .val Y36]
abbrev R_cm : List VK := [.s (.dat .bool)]
def F_cm (x : denP P_cm) : Option (denV R_cm × denQ P_cm) :=
 (F_cj (x.1.1, x.2.1.1, ())).bind fun r1 =>
 if (!r1.1.1) then
  some ((false, ()), ())
 else
  (F_cl (x.1.2.1, x.2.1.2.1, ())).bind fun r2 =>
  if (!r2.1.1) then
   some ((false, ()), ())
  else
   (F_ci (x.1.2.2.1, x.2.1.2.2.1, ())).bind fun r3 =>
   if (!r3.1.1) then
    some ((false, ()), ())
   else
    some ((true, ()), ())
abbrev C_cm : Con := ⟨P_cm, R_cm, F_cm, false⟩
abbrev G_cm : Env := [(30, C_ci), (65, C_cj), (66, C_cl)]
theorem g_cm : EnvOk Tryz.prog G_cm := (env_cons s_ci (env_cons s_cj (env_cons s_cl env_nil)))
theorem r_cm (x) : runFn T G_cm [] Tryz.f28 C_cm.ps C_cm.rs x = C_cm.F x := by kernel_rfl
theorem s_cm : CallsOk Tryz.prog 28 C_cm := fnC (L := []) hT g_cm Tryz.f28 okP r_cm
/-! laws.eqSoloResult -/
abbrev P_cn : List PK := [.val Y38, .val Y38]
abbrev R_cn : List VK := [.s (.dat .bool)]
def F_cn (x : denP P_cn) : Option (denV R_cn × denQ P_cn) :=
 if (x.1.1 != x.2.1.1) then
  some ((false, ()), ())
 else
  (F_cm (x.1.2.1, x.2.1.2.1, ())).bind fun r1 =>
  if (!r1.1.1) then
   some ((false, ()), ())
  else
   some ((true, ()), ())
abbrev C_cn : Con := ⟨P_cn, R_cn, F_cn, false⟩
abbrev G_cn : Env := [(28, C_cm)]
theorem g_cn : EnvOk Tryz.prog G_cn := (env_cons s_cm env_nil)
theorem r_cn (x) : runFn T G_cn [] Tryz.f8 C_cn.ps C_cn.rs x = C_cn.F x := by kernel_rfl
theorem s_cn : CallsOk Tryz.prog 8 C_cn := fnC (L := []) hT g_cn Tryz.f8 okP r_cn
/-! laws.eqInt64SS -/
abbrev P_co : List PK := [.val Y22, .val Y22]
abbrev R_co : List VK := [.s (.dat .bool)]
abbrev i_co_4 : Shp := { slots := [(0, .s (.dat Y22)), (1, .s (.dat Y22)), (5, .s (.dat YI))], boxes := [], rows := [] }
abbrev o_co_4 : List (Ex × Shp) := [(.exit 0, { slots := [], boxes := [], rows := [] }), (.ret, { slots := [(4, .s (.dat .bool))], boxes := [], rows := [] })]
def l_co_4 (rec : i_co_4.den → Option (denO o_co_4)) (u4 : i_co_4.den) : Option (denO o_co_4) :=
 let v6 := ((u4.1.1.length : Nat) : Int)
 if (ltI u4.1.2.2.1 v6) then
  if 0 ≤ u4.1.2.2.1 then
   ((u4.1.1)[(u4.1.2.2.1).toNat]?).bind fun y7 =>
   if 0 ≤ u4.1.2.2.1 then
    ((u4.1.2.1)[(u4.1.2.2.1).toNat]?).bind fun y8 =>
    (F_ci (y7, y8, ())).bind fun r9 =>
    if (!r9.1.1) then
     some (.inr (.inl ((false, ()), ((), ()))))
    else
     let v10 := (IntKind.i64.wrap (u4.1.2.2.1 + (1 : Int)))
     rec ((u4.1.1, (u4.1.2.1, (v10, ()))), ((), ()))
   else none
  else none
 else
  some (.inl ((), ((), ())))
def L_co_4 (x : i_co_4.den) : Option (denO o_co_4) := iterF l_co_4 lots x
def F_co (x : denP P_co) : Option (denV R_co × denQ P_co) :=
 let v1 := ((x.1.length : Nat) : Int)
 let v2 := ((x.2.1.length : Nat) : Int)
 if (v1 != v2) then
  some ((false, ()), ())
 else
  (L_co_4 ((x.1, (x.2.1, ((0 : Int), ()))), ((), ()))).bind fun z11 =>
  match z11 with
  | .inl x12 =>
   some ((true, ()), ())
  | .inr z11_ =>
   match z11_ with
   | .inl x13 =>
    some ((x13.1.1, ()), ())
   | .inr z11__ =>
    none
abbrev C_co : Con := ⟨P_co, R_co, F_co, false⟩
abbrev G_co : Env := [(30, C_ci)]
theorem g_co : EnvOk Tryz.prog G_co := (env_cons s_ci env_nil)
abbrev c_co_4 : Cut := ⟨i_co_4, o_co_4, fun x => iterF l_co_4 lots x⟩
theorem t_co_4 (rec x) : run T G_co [] (nav Tryz.f67 [1, 1, 0, 1, 0, 0]) (mk 27 i_co_4 x) (loopK i_co_4 o_co_4 rec) = l_co_4 rec x := by kernel_rfl
theorem k_co_4 : CutOk Tryz.prog 27 (.loop (nav Tryz.f67 [1, 1, 0, 1, 0, 0])) c_co_4 :=
  loop_cut (L := []) hT g_co t_co_4 okP _
theorem r_co (x) : runFn T G_co [(4, c_co_4)] Tryz.f67 C_co.ps C_co.rs x = C_co.F x := by kernel_rfl
theorem s_co : CallsOk Tryz.prog 67 C_co := fnC (L := [(4, c_co_4)]) hT g_co Tryz.f67 (okS okP (okS okP (okS (okS okP (okB (okU k_co_4))) okP))) r_co
/-! laws.eqLane -/
abbrev P_cp : List PK := [.val Y108, .val Y108]
abbrev R_cp : List VK := [.s (.dat .bool)]
def F_cp (x : denP P_cp) : Option (denV R_cp × denQ P_cp) :=
 if (x.1.1 != x.2.1.1) then
  some ((false, ()), ())
 else
  if (x.1.2.1 != x.2.1.2.1) then
   some ((false, ()), ())
  else
   if (x.1.2.2.1 != x.2.1.2.2.1) then
    some ((false, ()), ())
   else
    if (x.1.2.2.2.1 != x.2.1.2.2.2.1) then
     some ((false, ()), ())
    else
     if (x.1.2.2.2.2.1 != x.2.1.2.2.2.2.1) then
      some ((false, ()), ())
     else
      some ((true, ()), ())
abbrev C_cp : Con := ⟨P_cp, R_cp, F_cp, false⟩
abbrev G_cp : Env := []
theorem g_cp : EnvOk Tryz.prog G_cp := env_nil
theorem r_cp (x) : runFn T G_cp [] Tryz.f100 C_cp.ps C_cp.rs x = C_cp.F x := by kernel_rfl
theorem s_cp : CallsOk Tryz.prog 100 C_cp := fnC (L := []) hT g_cp Tryz.f100 okP r_cp
/-! laws.eqLaneS -/
abbrev P_cq : List PK := [.val Y23, .val Y23]
abbrev R_cq : List VK := [.s (.dat .bool)]
abbrev i_cq_4 : Shp := { slots := [(0, .s (.dat Y23)), (1, .s (.dat Y23)), (5, .s (.dat YI))], boxes := [], rows := [] }
abbrev o_cq_4 : List (Ex × Shp) := [(.exit 0, { slots := [], boxes := [], rows := [] }), (.ret, { slots := [(4, .s (.dat .bool))], boxes := [], rows := [] })]
def l_cq_4 (rec : i_cq_4.den → Option (denO o_cq_4)) (u4 : i_cq_4.den) : Option (denO o_cq_4) :=
 let v6 := ((u4.1.1.length : Nat) : Int)
 if (ltI u4.1.2.2.1 v6) then
  if 0 ≤ u4.1.2.2.1 then
   ((u4.1.1)[(u4.1.2.2.1).toNat]?).bind fun y7 =>
   if 0 ≤ u4.1.2.2.1 then
    ((u4.1.2.1)[(u4.1.2.2.1).toNat]?).bind fun y8 =>
    (F_cp (y7, y8, ())).bind fun r9 =>
    if (!r9.1.1) then
     some (.inr (.inl ((false, ()), ((), ()))))
    else
     let v10 := (IntKind.i64.wrap (u4.1.2.2.1 + (1 : Int)))
     rec ((u4.1.1, (u4.1.2.1, (v10, ()))), ((), ()))
   else none
  else none
 else
  some (.inl ((), ((), ())))
def L_cq_4 (x : i_cq_4.den) : Option (denO o_cq_4) := iterF l_cq_4 lots x
def F_cq (x : denP P_cq) : Option (denV R_cq × denQ P_cq) :=
 let v1 := ((x.1.length : Nat) : Int)
 let v2 := ((x.2.1.length : Nat) : Int)
 if (v1 != v2) then
  some ((false, ()), ())
 else
  (L_cq_4 ((x.1, (x.2.1, ((0 : Int), ()))), ((), ()))).bind fun z11 =>
  match z11 with
  | .inl x12 =>
   some ((true, ()), ())
  | .inr z11_ =>
   match z11_ with
   | .inl x13 =>
    some ((x13.1.1, ()), ())
   | .inr z11__ =>
    none
abbrev C_cq : Con := ⟨P_cq, R_cq, F_cq, false⟩
abbrev G_cq : Env := [(100, C_cp)]
theorem g_cq : EnvOk Tryz.prog G_cq := (env_cons s_cp env_nil)
abbrev c_cq_4 : Cut := ⟨i_cq_4, o_cq_4, fun x => iterF l_cq_4 lots x⟩
theorem t_cq_4 (rec x) : run T G_cq [] (nav Tryz.f68 [1, 1, 0, 1, 0, 0]) (mk 27 i_cq_4 x) (loopK i_cq_4 o_cq_4 rec) = l_cq_4 rec x := by kernel_rfl
theorem k_cq_4 : CutOk Tryz.prog 27 (.loop (nav Tryz.f68 [1, 1, 0, 1, 0, 0])) c_cq_4 :=
  loop_cut (L := []) hT g_cq t_cq_4 okP _
theorem r_cq (x) : runFn T G_cq [(4, c_cq_4)] Tryz.f68 C_cq.ps C_cq.rs x = C_cq.F x := by kernel_rfl
theorem s_cq : CallsOk Tryz.prog 68 C_cq := fnC (L := [(4, c_cq_4)]) hT g_cq Tryz.f68 (okS okP (okS okP (okS (okS okP (okB (okU k_cq_4))) okP))) r_cq
/-! laws.eqBell -/
abbrev P_cr : List PK := [.val Y69, .val Y69]
abbrev R_cr : List VK := [.s (.dat .bool)]
def F_cr (x : denP P_cr) : Option (denV R_cr × denQ P_cr) :=
 if (x.1.1 != x.2.1.1) then
  some ((false, ()), ())
 else
  if (x.1.2.1 != x.2.1.2.1) then
   some ((false, ()), ())
  else
   some ((true, ()), ())
abbrev C_cr : Con := ⟨P_cr, R_cr, F_cr, false⟩
abbrev G_cr : Env := []
theorem g_cr : EnvOk Tryz.prog G_cr := env_nil
theorem r_cr (x) : runFn T G_cr [] Tryz.f101 C_cr.ps C_cr.rs x = C_cr.F x := by kernel_rfl
theorem s_cr : CallsOk Tryz.prog 101 C_cr := fnC (L := []) hT g_cr Tryz.f101 okP r_cr
/-! laws.eqBellS -/
abbrev P_cs : List PK := [.val Y24, .val Y24]
abbrev R_cs : List VK := [.s (.dat .bool)]
abbrev i_cs_4 : Shp := { slots := [(0, .s (.dat Y24)), (1, .s (.dat Y24)), (5, .s (.dat YI))], boxes := [], rows := [] }
abbrev o_cs_4 : List (Ex × Shp) := [(.exit 0, { slots := [], boxes := [], rows := [] }), (.ret, { slots := [(4, .s (.dat .bool))], boxes := [], rows := [] })]
def l_cs_4 (rec : i_cs_4.den → Option (denO o_cs_4)) (u4 : i_cs_4.den) : Option (denO o_cs_4) :=
 let v6 := ((u4.1.1.length : Nat) : Int)
 if (ltI u4.1.2.2.1 v6) then
  if 0 ≤ u4.1.2.2.1 then
   ((u4.1.1)[(u4.1.2.2.1).toNat]?).bind fun y7 =>
   if 0 ≤ u4.1.2.2.1 then
    ((u4.1.2.1)[(u4.1.2.2.1).toNat]?).bind fun y8 =>
    (F_cr (y7, y8, ())).bind fun r9 =>
    if (!r9.1.1) then
     some (.inr (.inl ((false, ()), ((), ()))))
    else
     let v10 := (IntKind.i64.wrap (u4.1.2.2.1 + (1 : Int)))
     rec ((u4.1.1, (u4.1.2.1, (v10, ()))), ((), ()))
   else none
  else none
 else
  some (.inl ((), ((), ())))
def L_cs_4 (x : i_cs_4.den) : Option (denO o_cs_4) := iterF l_cs_4 lots x
def F_cs (x : denP P_cs) : Option (denV R_cs × denQ P_cs) :=
 let v1 := ((x.1.length : Nat) : Int)
 let v2 := ((x.2.1.length : Nat) : Int)
 if (v1 != v2) then
  some ((false, ()), ())
 else
  (L_cs_4 ((x.1, (x.2.1, ((0 : Int), ()))), ((), ()))).bind fun z11 =>
  match z11 with
  | .inl x12 =>
   some ((true, ()), ())
  | .inr z11_ =>
   match z11_ with
   | .inl x13 =>
    some ((x13.1.1, ()), ())
   | .inr z11__ =>
    none
abbrev C_cs : Con := ⟨P_cs, R_cs, F_cs, false⟩
abbrev G_cs : Env := [(101, C_cr)]
theorem g_cs : EnvOk Tryz.prog G_cs := (env_cons s_cr env_nil)
abbrev c_cs_4 : Cut := ⟨i_cs_4, o_cs_4, fun x => iterF l_cs_4 lots x⟩
theorem t_cs_4 (rec x) : run T G_cs [] (nav Tryz.f69 [1, 1, 0, 1, 0, 0]) (mk 27 i_cs_4 x) (loopK i_cs_4 o_cs_4 rec) = l_cs_4 rec x := by kernel_rfl
theorem k_cs_4 : CutOk Tryz.prog 27 (.loop (nav Tryz.f69 [1, 1, 0, 1, 0, 0])) c_cs_4 :=
  loop_cut (L := []) hT g_cs t_cs_4 okP _
theorem r_cs (x) : runFn T G_cs [(4, c_cs_4)] Tryz.f69 C_cs.ps C_cs.rs x = C_cs.F x := by kernel_rfl
theorem s_cs : CallsOk Tryz.prog 69 C_cs := fnC (L := [(4, c_cs_4)]) hT g_cs Tryz.f69 (okS okP (okS okP (okS (okS okP (okB (okU k_cs_4))) okP))) r_cs
/-! laws.eqSlot -/
abbrev P_ct : List PK := [.val Y69, .val Y69]
abbrev R_ct : List VK := [.s (.dat .bool)]
def F_ct (x : denP P_ct) : Option (denV R_ct × denQ P_ct) :=
 if (x.1.1 != x.2.1.1) then
  some ((false, ()), ())
 else
  if (x.1.2.1 != x.2.1.2.1) then
   some ((false, ()), ())
  else
   some ((true, ()), ())
abbrev C_ct : Con := ⟨P_ct, R_ct, F_ct, false⟩
abbrev G_ct : Env := []
theorem g_ct : EnvOk Tryz.prog G_ct := env_nil
theorem r_ct (x) : runFn T G_ct [] Tryz.f102 C_ct.ps C_ct.rs x = C_ct.F x := by kernel_rfl
theorem s_ct : CallsOk Tryz.prog 102 C_ct := fnC (L := []) hT g_ct Tryz.f102 okP r_ct
/-! laws.eqSlotS -/
abbrev P_cu : List PK := [.val Y24, .val Y24]
abbrev R_cu : List VK := [.s (.dat .bool)]
abbrev i_cu_4 : Shp := { slots := [(0, .s (.dat Y24)), (1, .s (.dat Y24)), (5, .s (.dat YI))], boxes := [], rows := [] }
abbrev o_cu_4 : List (Ex × Shp) := [(.exit 0, { slots := [], boxes := [], rows := [] }), (.ret, { slots := [(4, .s (.dat .bool))], boxes := [], rows := [] })]
def l_cu_4 (rec : i_cu_4.den → Option (denO o_cu_4)) (u4 : i_cu_4.den) : Option (denO o_cu_4) :=
 let v6 := ((u4.1.1.length : Nat) : Int)
 if (ltI u4.1.2.2.1 v6) then
  if 0 ≤ u4.1.2.2.1 then
   ((u4.1.1)[(u4.1.2.2.1).toNat]?).bind fun y7 =>
   if 0 ≤ u4.1.2.2.1 then
    ((u4.1.2.1)[(u4.1.2.2.1).toNat]?).bind fun y8 =>
    (F_ct (y7, y8, ())).bind fun r9 =>
    if (!r9.1.1) then
     some (.inr (.inl ((false, ()), ((), ()))))
    else
     let v10 := (IntKind.i64.wrap (u4.1.2.2.1 + (1 : Int)))
     rec ((u4.1.1, (u4.1.2.1, (v10, ()))), ((), ()))
   else none
  else none
 else
  some (.inl ((), ((), ())))
def L_cu_4 (x : i_cu_4.den) : Option (denO o_cu_4) := iterF l_cu_4 lots x
def F_cu (x : denP P_cu) : Option (denV R_cu × denQ P_cu) :=
 let v1 := ((x.1.length : Nat) : Int)
 let v2 := ((x.2.1.length : Nat) : Int)
 if (v1 != v2) then
  some ((false, ()), ())
 else
  (L_cu_4 ((x.1, (x.2.1, ((0 : Int), ()))), ((), ()))).bind fun z11 =>
  match z11 with
  | .inl x12 =>
   some ((true, ()), ())
  | .inr z11_ =>
   match z11_ with
   | .inl x13 =>
    some ((x13.1.1, ()), ())
   | .inr z11__ =>
    none
abbrev C_cu : Con := ⟨P_cu, R_cu, F_cu, false⟩
abbrev G_cu : Env := [(102, C_ct)]
theorem g_cu : EnvOk Tryz.prog G_cu := (env_cons s_ct env_nil)
abbrev c_cu_4 : Cut := ⟨i_cu_4, o_cu_4, fun x => iterF l_cu_4 lots x⟩
theorem t_cu_4 (rec x) : run T G_cu [] (nav Tryz.f70 [1, 1, 0, 1, 0, 0]) (mk 27 i_cu_4 x) (loopK i_cu_4 o_cu_4 rec) = l_cu_4 rec x := by kernel_rfl
theorem k_cu_4 : CutOk Tryz.prog 27 (.loop (nav Tryz.f70 [1, 1, 0, 1, 0, 0])) c_cu_4 :=
  loop_cut (L := []) hT g_cu t_cu_4 okP _
theorem r_cu (x) : runFn T G_cu [(4, c_cu_4)] Tryz.f70 C_cu.ps C_cu.rs x = C_cu.F x := by kernel_rfl
theorem s_cu : CallsOk Tryz.prog 70 C_cu := fnC (L := [(4, c_cu_4)]) hT g_cu Tryz.f70 (okS okP (okS okP (okS (okS okP (okB (okU k_cu_4))) okP))) r_cu
/-! laws.eqPolicy -/
abbrev P_cv : List PK := [.val Y26, .val Y26]
abbrev R_cv : List VK := [.s (.dat .bool)]
def F_cv (x : denP P_cv) : Option (denV R_cv × denQ P_cv) :=
 (F_co (x.1.1, x.2.1.1, ())).bind fun r1 =>
 if (!r1.1.1) then
  some ((false, ()), ())
 else
  (F_cq (x.1.2.1, x.2.1.2.1, ())).bind fun r2 =>
  if (!r2.1.1) then
   some ((false, ()), ())
  else
   (F_cs (x.1.2.2.1, x.2.1.2.2.1, ())).bind fun r3 =>
   if (!r3.1.1) then
    some ((false, ()), ())
   else
    (F_cu (x.1.2.2.2.1, x.2.1.2.2.2.1, ())).bind fun r4 =>
    if (!r4.1.1) then
     some ((false, ()), ())
    else
     some ((true, ()), ())
abbrev C_cv : Con := ⟨P_cv, R_cv, F_cv, false⟩
abbrev G_cv : Env := [(67, C_co), (68, C_cq), (69, C_cs), (70, C_cu)]
theorem g_cv : EnvOk Tryz.prog G_cv := (env_cons s_co (env_cons s_cq (env_cons s_cs (env_cons s_cu env_nil))))
theorem r_cv (x) : runFn T G_cv [] Tryz.f29 C_cv.ps C_cv.rs x = C_cv.F x := by kernel_rfl
theorem s_cv : CallsOk Tryz.prog 29 C_cv := fnC (L := []) hT g_cv Tryz.f29 okP r_cv
/-! laws.eqHartS -/
abbrev P_cw : List PK := [.val Y29, .val Y29]
abbrev R_cw : List VK := [.s (.dat .bool)]
abbrev i_cw_4 : Shp := { slots := [(0, .s (.dat Y29)), (1, .s (.dat Y29)), (5, .s (.dat YI))], boxes := [], rows := [] }
abbrev o_cw_4 : List (Ex × Shp) := [(.exit 0, { slots := [], boxes := [], rows := [] }), (.ret, { slots := [(4, .s (.dat .bool))], boxes := [], rows := [] })]
def l_cw_4 (rec : i_cw_4.den → Option (denO o_cw_4)) (u4 : i_cw_4.den) : Option (denO o_cw_4) :=
 let v6 := ((u4.1.1.length : Nat) : Int)
 if (ltI u4.1.2.2.1 v6) then
  if 0 ≤ u4.1.2.2.1 then
   ((u4.1.1)[(u4.1.2.2.1).toNat]?).bind fun y7 =>
   if 0 ≤ u4.1.2.2.1 then
    ((u4.1.2.1)[(u4.1.2.2.1).toNat]?).bind fun y8 =>
    (F_cj (y7, y8, ())).bind fun r9 =>
    if (!r9.1.1) then
     some (.inr (.inl ((false, ()), ((), ()))))
    else
     let v10 := (IntKind.i64.wrap (u4.1.2.2.1 + (1 : Int)))
     rec ((u4.1.1, (u4.1.2.1, (v10, ()))), ((), ()))
   else none
  else none
 else
  some (.inl ((), ((), ())))
def L_cw_4 (x : i_cw_4.den) : Option (denO o_cw_4) := iterF l_cw_4 lots x
def F_cw (x : denP P_cw) : Option (denV R_cw × denQ P_cw) :=
 let v1 := ((x.1.length : Nat) : Int)
 let v2 := ((x.2.1.length : Nat) : Int)
 if (v1 != v2) then
  some ((false, ()), ())
 else
  (L_cw_4 ((x.1, (x.2.1, ((0 : Int), ()))), ((), ()))).bind fun z11 =>
  match z11 with
  | .inl x12 =>
   some ((true, ()), ())
  | .inr z11_ =>
   match z11_ with
   | .inl x13 =>
    some ((x13.1.1, ()), ())
   | .inr z11__ =>
    none
abbrev C_cw : Con := ⟨P_cw, R_cw, F_cw, false⟩
abbrev G_cw : Env := [(65, C_cj)]
theorem g_cw : EnvOk Tryz.prog G_cw := (env_cons s_cj env_nil)
abbrev c_cw_4 : Cut := ⟨i_cw_4, o_cw_4, fun x => iterF l_cw_4 lots x⟩
theorem t_cw_4 (rec x) : run T G_cw [] (nav Tryz.f31 [1, 1, 0, 1, 0, 0]) (mk 27 i_cw_4 x) (loopK i_cw_4 o_cw_4 rec) = l_cw_4 rec x := by kernel_rfl
theorem k_cw_4 : CutOk Tryz.prog 27 (.loop (nav Tryz.f31 [1, 1, 0, 1, 0, 0])) c_cw_4 :=
  loop_cut (L := []) hT g_cw t_cw_4 okP _
theorem r_cw (x) : runFn T G_cw [(4, c_cw_4)] Tryz.f31 C_cw.ps C_cw.rs x = C_cw.F x := by kernel_rfl
theorem s_cw : CallsOk Tryz.prog 31 C_cw := fnC (L := [(4, c_cw_4)]) hT g_cw Tryz.f31 (okS okP (okS okP (okS (okS okP (okB (okU k_cw_4))) okP))) r_cw
/-! laws.eqHost -/
abbrev P_cx : List PK := [.val Y30, .val Y30]
abbrev R_cx : List VK := [.s (.dat .bool)]
def F_cx (x : denP P_cx) : Option (denV R_cx × denQ P_cx) :=
 (F_cv (x.1.1, x.2.1.1, ())).bind fun r1 =>
 if (!r1.1.1) then
  some ((false, ()), ())
 else
  (F_ci (x.1.2.1, x.2.1.2.1, ())).bind fun r2 =>
  if (!r2.1.1) then
   some ((false, ()), ())
  else
   (F_cw (x.1.2.2.1, x.2.1.2.2.1, ())).bind fun r3 =>
   if (!r3.1.1) then
    some ((false, ()), ())
   else
    if (x.1.2.2.2.1 != x.2.1.2.2.2.1) then
     some ((false, ()), ())
    else
     if (x.1.2.2.2.2.1 != x.2.1.2.2.2.2.1) then
      some ((false, ()), ())
     else
      if (x.1.2.2.2.2.2.1 != x.2.1.2.2.2.2.2.1) then
       some ((false, ()), ())
      else
       some ((true, ()), ())
abbrev C_cx : Con := ⟨P_cx, R_cx, F_cx, false⟩
abbrev G_cx : Env := [(29, C_cv), (30, C_ci), (31, C_cw)]
theorem g_cx : EnvOk Tryz.prog G_cx := (env_cons s_cv (env_cons s_ci (env_cons s_cw env_nil)))
theorem r_cx (x) : runFn T G_cx [] Tryz.f9 C_cx.ps C_cx.rs x = C_cx.F x := by kernel_rfl
theorem s_cx : CallsOk Tryz.prog 9 C_cx := fnC (L := []) hT g_cx Tryz.f9 okP r_cx
/-! laws.markInt64S -/
abbrev P_cy : List PK := [.row 2 YI, .val YI]
abbrev R_cy : List VK := [.s (.dat YI)]
abbrev i_cy_2 : Shp := { slots := [(0, .s (.ref 9000100)), (1, .s (.dat YI)), (5, .s (.dat YI))], boxes := [], rows := [(9000100, 2, YI)] }
abbrev o_cy_2 : List (Ex × Shp) := [(.exit 0, { slots := [(1, .s (.dat YI))], boxes := [], rows := [(9000100, 2, YI)] })]
def l_cy_2 (rec : i_cy_2.den → Option (denO o_cy_2)) (u2 : i_cy_2.den) : Option (denO o_cy_2) :=
 let v2 := ((u2.2.2.1.length : Nat) : Int)
 if (ltI u2.1.2.2.1 v2) then
  if 0 ≤ u2.1.2.2.1 ∧ u2.1.2.2.1 < ((u2.2.2.1.length : Nat) : Int) then
   ((u2.2.2.1)[(u2.1.2.2.1).toNat]?).bind fun y3 =>
   let v4 := (u2.2.2.1.set (u2.1.2.2.1).toNat u2.1.2.1)
   let v5 := (IntKind.i64.wrap (u2.1.2.1 + (1 : Int)))
   let v6 := (IntKind.i64.wrap (u2.1.2.2.1 + (1 : Int)))
   rec (((), (v5, (v6, ()))), ((), (v4, ())))
  else none
 else
  some (.inl ((u2.1.2.1, ()), ((), (u2.2.2.1, ()))))
def L_cy_2 (x : i_cy_2.den) : Option (denO o_cy_2) := iterF l_cy_2 lots x
def F_cy (x : denP P_cy) : Option (denV R_cy × denQ P_cy) :=
 (L_cy_2 (((), (x.2.1, ((0 : Int), ()))), ((), (x.1, ())))).bind fun z7 =>
 match z7 with
 | .inl x8 =>
  if (x.1.length == x8.2.2.1.length && true) = true then
   some ((x8.1.1, ()), (x8.2.2.1, ()))
  else none
 | .inr z7_ =>
  none
abbrev C_cy : Con := ⟨P_cy, R_cy, F_cy, false⟩
abbrev G_cy : Env := []
theorem g_cy : EnvOk Tryz.prog G_cy := env_nil
abbrev c_cy_2 : Cut := ⟨i_cy_2, o_cy_2, fun x => iterF l_cy_2 lots x⟩
theorem t_cy_2 (rec x) : run T G_cy [] (nav Tryz.f33 [1, 0, 1, 0, 0]) (mk 19 i_cy_2 x) (loopK i_cy_2 o_cy_2 rec) = l_cy_2 rec x := by kernel_rfl
theorem k_cy_2 : CutOk Tryz.prog 19 (.loop (nav Tryz.f33 [1, 0, 1, 0, 0])) c_cy_2 :=
  loop_cut (L := []) hT g_cy t_cy_2 okP _
theorem r_cy (x) : runFn T G_cy [(2, c_cy_2)] Tryz.f33 C_cy.ps C_cy.rs x = C_cy.F x := by kernel_rfl
theorem s_cy : CallsOk Tryz.prog 33 C_cy := fnC (L := [(2, c_cy_2)]) hT g_cy Tryz.f33 (okS okP (okS (okS okP (okB (okU k_cy_2))) okP)) r_cy
/-! laws.markInt64SS -/
abbrev P_cz : List PK := [.row 1000003000028 Y28, .val YI]
abbrev R_cz : List VK := [.s (.dat YI)]
abbrev i_cz_2 : Shp := { slots := [(0, .s (.ref 9000100)), (1, .s (.dat YI)), (5, .s (.dat YI))], boxes := [], rows := [(9000100, 1000003000028, Y28)] }
abbrev o_cz_2 : List (Ex × Shp) := [(.exit 0, { slots := [(1, .s (.dat YI))], boxes := [], rows := [(9000100, 1000003000028, Y28)] })]
def l_cz_2 (rec : i_cz_2.den → Option (denO o_cz_2)) (u2 : i_cz_2.den) : Option (denO o_cz_2) :=
 let v4 := ((u2.2.2.1.length : Nat) : Int)
 if (ltI u2.1.2.2.1 v4) then
  if 0 ≤ u2.1.2.2.1 ∧ u2.1.2.2.1 < ((u2.2.2.1.length : Nat) : Int) then
   ((u2.2.2.1)[(u2.1.2.2.1).toNat]?).bind fun y5 =>
   ((u2.2.2.1)[(u2.1.2.2.1).toNat]?).bind fun y6 =>
   (F_cy (y6, u2.1.2.1, ())).bind fun r7 =>
   if r7.2.1.length = y6.length then
    let v8 := (IntKind.i64.wrap (u2.1.2.2.1 + (1 : Int)))
    rec (((), (r7.1.1, (v8, ()))), ((), ((u2.2.2.1.set (u2.1.2.2.1).toNat r7.2.1), ())))
   else none
  else none
 else
  some (.inl ((u2.1.2.1, ()), ((), (u2.2.2.1, ()))))
def L_cz_2 (x : i_cz_2.den) : Option (denO o_cz_2) := iterF l_cz_2 lots x
def F_cz (x : denP P_cz) : Option (denV R_cz × denQ P_cz) :=
 (L_cz_2 (((), (x.2.1, ((0 : Int), ()))), ((), (x.1, ())))).bind fun z9 =>
 match z9 with
 | .inl x10 =>
  if (x.1.length == x10.2.2.1.length && true) = true then
   some ((x10.1.1, ()), (x10.2.2.1, ()))
  else none
 | .inr z9_ =>
  none
abbrev C_cz : Con := ⟨P_cz, R_cz, F_cz, false⟩
abbrev G_cz : Env := [(33, C_cy)]
theorem g_cz : EnvOk Tryz.prog G_cz := (env_cons s_cy env_nil)
abbrev c_cz_2 : Cut := ⟨i_cz_2, o_cz_2, fun x => iterF l_cz_2 lots x⟩
theorem t_cz_2 (rec x) : run T G_cz [] (nav Tryz.f71 [1, 0, 1, 0, 0]) (mk 19 i_cz_2 x) (loopK i_cz_2 o_cz_2 rec) = l_cz_2 rec x := by kernel_rfl
theorem k_cz_2 : CutOk Tryz.prog 19 (.loop (nav Tryz.f71 [1, 0, 1, 0, 0])) c_cz_2 :=
  loop_cut (L := []) hT g_cz t_cz_2 okP _
theorem r_cz (x) : runFn T G_cz [(2, c_cz_2)] Tryz.f71 C_cz.ps C_cz.rs x = C_cz.F x := by kernel_rfl
theorem s_cz : CallsOk Tryz.prog 71 C_cz := fnC (L := [(2, c_cz_2)]) hT g_cz Tryz.f71 (okS okP (okS (okS okP (okB (okU k_cz_2))) okP)) r_cz
/-! laws.markLaneS -/
abbrev P_da : List PK := [.row 109 Y108, .val YI]
abbrev R_da : List VK := [.s (.dat YI)]
abbrev i_da_2 : Shp := { slots := [(0, .s (.ref 9000100)), (1, .s (.dat YI)), (5, .s (.dat YI))], boxes := [], rows := [(9000100, 109, Y108)] }
abbrev o_da_2 : List (Ex × Shp) := [(.exit 0, { slots := [(1, .s (.dat YI))], boxes := [], rows := [(9000100, 109, Y108)] })]
def l_da_2 (rec : i_da_2.den → Option (denO o_da_2)) (u2 : i_da_2.den) : Option (denO o_da_2) :=
 let v6 := ((u2.2.2.1.length : Nat) : Int)
 if (ltI u2.1.2.2.1 v6) then
  if 0 ≤ u2.1.2.2.1 ∧ u2.1.2.2.1 < ((u2.2.2.1.length : Nat) : Int) then
   ((u2.2.2.1)[(u2.1.2.2.1).toNat]?).bind fun y7 =>
   let v8 := (u2.2.2.1.set (u2.1.2.2.1).toNat (u2.1.2.1, y7.2))
   let v9 := (IntKind.i64.wrap (u2.1.2.1 + (1 : Int)))
   if 0 ≤ u2.1.2.2.1 ∧ u2.1.2.2.1 < ((v8.length : Nat) : Int) then
    ((v8)[(u2.1.2.2.1).toNat]?).bind fun y10 =>
    let v11 := (v8.set (u2.1.2.2.1).toNat (y10.1, (v9, y10.2.2)))
    let v12 := (IntKind.i64.wrap (v9 + (1 : Int)))
    if 0 ≤ u2.1.2.2.1 ∧ u2.1.2.2.1 < ((v11.length : Nat) : Int) then
     ((v11)[(u2.1.2.2.1).toNat]?).bind fun y13 =>
     let v14 := (v11.set (u2.1.2.2.1).toNat (y13.1, (y13.2.1, (v12, y13.2.2.2))))
     let v15 := (IntKind.i64.wrap (v12 + (1 : Int)))
     if 0 ≤ u2.1.2.2.1 ∧ u2.1.2.2.1 < ((v14.length : Nat) : Int) then
      ((v14)[(u2.1.2.2.1).toNat]?).bind fun y16 =>
      let v17 := (v14.set (u2.1.2.2.1).toNat (y16.1, (y16.2.1, (y16.2.2.1, (v15, y16.2.2.2.2)))))
      let v18 := (IntKind.i64.wrap (v15 + (1 : Int)))
      if 0 ≤ u2.1.2.2.1 ∧ u2.1.2.2.1 < ((v17.length : Nat) : Int) then
       ((v17)[(u2.1.2.2.1).toNat]?).bind fun y19 =>
       let v20 := (v17.set (u2.1.2.2.1).toNat (y19.1, (y19.2.1, (y19.2.2.1, (y19.2.2.2.1, (v18, y19.2.2.2.2.2))))))
       let v21 := (IntKind.i64.wrap (v18 + (1 : Int)))
       let v22 := (IntKind.i64.wrap (u2.1.2.2.1 + (1 : Int)))
       rec (((), (v21, (v22, ()))), ((), (v20, ())))
      else none
     else none
    else none
   else none
  else none
 else
  some (.inl ((u2.1.2.1, ()), ((), (u2.2.2.1, ()))))
def L_da_2 (x : i_da_2.den) : Option (denO o_da_2) := iterF l_da_2 lots x
def F_da (x : denP P_da) : Option (denV R_da × denQ P_da) :=
 (L_da_2 (((), (x.2.1, ((0 : Int), ()))), ((), (x.1, ())))).bind fun z23 =>
 match z23 with
 | .inl x24 =>
  if (x.1.length == x24.2.2.1.length && true) = true then
   some ((x24.1.1, ()), (x24.2.2.1, ()))
  else none
 | .inr z23_ =>
  none
abbrev C_da : Con := ⟨P_da, R_da, F_da, false⟩
abbrev G_da : Env := []
theorem g_da : EnvOk Tryz.prog G_da := env_nil
abbrev c_da_2 : Cut := ⟨i_da_2, o_da_2, fun x => iterF l_da_2 lots x⟩
theorem t_da_2 (rec x) : run T G_da [] (nav Tryz.f72 [1, 0, 1, 0, 0]) (mk 48 i_da_2 x) (loopK i_da_2 o_da_2 rec) = l_da_2 rec x := by kernel_rfl
theorem k_da_2 : CutOk Tryz.prog 48 (.loop (nav Tryz.f72 [1, 0, 1, 0, 0])) c_da_2 :=
  loop_cut (L := []) hT g_da t_da_2 okP _
theorem r_da (x) : runFn T G_da [(2, c_da_2)] Tryz.f72 C_da.ps C_da.rs x = C_da.F x := by kernel_rfl
theorem s_da : CallsOk Tryz.prog 72 C_da := fnC (L := [(2, c_da_2)]) hT g_da Tryz.f72 (okS okP (okS (okS okP (okB (okU k_da_2))) okP)) r_da
/-! laws.markBellS -/
abbrev P_db : List PK := [.row 127 Y69, .val YI]
abbrev R_db : List VK := [.s (.dat YI)]
abbrev i_db_2 : Shp := { slots := [(0, .s (.ref 9000100)), (1, .s (.dat YI)), (5, .s (.dat YI))], boxes := [], rows := [(9000100, 127, Y69)] }
abbrev o_db_2 : List (Ex × Shp) := [(.exit 0, { slots := [(1, .s (.dat YI))], boxes := [], rows := [(9000100, 127, Y69)] })]
def l_db_2 (rec : i_db_2.den → Option (denO o_db_2)) (u2 : i_db_2.den) : Option (denO o_db_2) :=
 let v3 := ((u2.2.2.1.length : Nat) : Int)
 if (ltI u2.1.2.2.1 v3) then
  if 0 ≤ u2.1.2.2.1 ∧ u2.1.2.2.1 < ((u2.2.2.1.length : Nat) : Int) then
   ((u2.2.2.1)[(u2.1.2.2.1).toNat]?).bind fun y4 =>
   let v5 := (u2.2.2.1.set (u2.1.2.2.1).toNat (u2.1.2.1, y4.2))
   let v6 := (IntKind.i64.wrap (u2.1.2.1 + (1 : Int)))
   if 0 ≤ u2.1.2.2.1 ∧ u2.1.2.2.1 < ((v5.length : Nat) : Int) then
    ((v5)[(u2.1.2.2.1).toNat]?).bind fun y7 =>
    let v8 := (v5.set (u2.1.2.2.1).toNat (y7.1, (v6, y7.2.2)))
    let v9 := (IntKind.i64.wrap (v6 + (1 : Int)))
    let v10 := (IntKind.i64.wrap (u2.1.2.2.1 + (1 : Int)))
    rec (((), (v9, (v10, ()))), ((), (v8, ())))
   else none
  else none
 else
  some (.inl ((u2.1.2.1, ()), ((), (u2.2.2.1, ()))))
def L_db_2 (x : i_db_2.den) : Option (denO o_db_2) := iterF l_db_2 lots x
def F_db (x : denP P_db) : Option (denV R_db × denQ P_db) :=
 (L_db_2 (((), (x.2.1, ((0 : Int), ()))), ((), (x.1, ())))).bind fun z11 =>
 match z11 with
 | .inl x12 =>
  if (x.1.length == x12.2.2.1.length && true) = true then
   some ((x12.1.1, ()), (x12.2.2.1, ()))
  else none
 | .inr z11_ =>
  none
abbrev C_db : Con := ⟨P_db, R_db, F_db, false⟩
abbrev G_db : Env := []
theorem g_db : EnvOk Tryz.prog G_db := env_nil
abbrev c_db_2 : Cut := ⟨i_db_2, o_db_2, fun x => iterF l_db_2 lots x⟩
theorem t_db_2 (rec x) : run T G_db [] (nav Tryz.f73 [1, 0, 1, 0, 0]) (mk 27 i_db_2 x) (loopK i_db_2 o_db_2 rec) = l_db_2 rec x := by kernel_rfl
theorem k_db_2 : CutOk Tryz.prog 27 (.loop (nav Tryz.f73 [1, 0, 1, 0, 0])) c_db_2 :=
  loop_cut (L := []) hT g_db t_db_2 okP _
theorem r_db (x) : runFn T G_db [(2, c_db_2)] Tryz.f73 C_db.ps C_db.rs x = C_db.F x := by kernel_rfl
theorem s_db : CallsOk Tryz.prog 73 C_db := fnC (L := [(2, c_db_2)]) hT g_db Tryz.f73 (okS okP (okS (okS okP (okB (okU k_db_2))) okP)) r_db
/-! laws.markSlotS -/
abbrev P_dc : List PK := [.row 123 Y69, .val YI]
abbrev R_dc : List VK := [.s (.dat YI)]
abbrev i_dc_2 : Shp := { slots := [(0, .s (.ref 9000100)), (1, .s (.dat YI)), (5, .s (.dat YI))], boxes := [], rows := [(9000100, 123, Y69)] }
abbrev o_dc_2 : List (Ex × Shp) := [(.exit 0, { slots := [(1, .s (.dat YI))], boxes := [], rows := [(9000100, 123, Y69)] })]
def l_dc_2 (rec : i_dc_2.den → Option (denO o_dc_2)) (u2 : i_dc_2.den) : Option (denO o_dc_2) :=
 let v3 := ((u2.2.2.1.length : Nat) : Int)
 if (ltI u2.1.2.2.1 v3) then
  if 0 ≤ u2.1.2.2.1 ∧ u2.1.2.2.1 < ((u2.2.2.1.length : Nat) : Int) then
   ((u2.2.2.1)[(u2.1.2.2.1).toNat]?).bind fun y4 =>
   let v5 := (u2.2.2.1.set (u2.1.2.2.1).toNat (u2.1.2.1, y4.2))
   let v6 := (IntKind.i64.wrap (u2.1.2.1 + (1 : Int)))
   if 0 ≤ u2.1.2.2.1 ∧ u2.1.2.2.1 < ((v5.length : Nat) : Int) then
    ((v5)[(u2.1.2.2.1).toNat]?).bind fun y7 =>
    let v8 := (v5.set (u2.1.2.2.1).toNat (y7.1, (v6, y7.2.2)))
    let v9 := (IntKind.i64.wrap (v6 + (1 : Int)))
    let v10 := (IntKind.i64.wrap (u2.1.2.2.1 + (1 : Int)))
    rec (((), (v9, (v10, ()))), ((), (v8, ())))
   else none
  else none
 else
  some (.inl ((u2.1.2.1, ()), ((), (u2.2.2.1, ()))))
def L_dc_2 (x : i_dc_2.den) : Option (denO o_dc_2) := iterF l_dc_2 lots x
def F_dc (x : denP P_dc) : Option (denV R_dc × denQ P_dc) :=
 (L_dc_2 (((), (x.2.1, ((0 : Int), ()))), ((), (x.1, ())))).bind fun z11 =>
 match z11 with
 | .inl x12 =>
  if (x.1.length == x12.2.2.1.length && true) = true then
   some ((x12.1.1, ()), (x12.2.2.1, ()))
  else none
 | .inr z11_ =>
  none
abbrev C_dc : Con := ⟨P_dc, R_dc, F_dc, false⟩
abbrev G_dc : Env := []
theorem g_dc : EnvOk Tryz.prog G_dc := env_nil
abbrev c_dc_2 : Cut := ⟨i_dc_2, o_dc_2, fun x => iterF l_dc_2 lots x⟩
theorem t_dc_2 (rec x) : run T G_dc [] (nav Tryz.f74 [1, 0, 1, 0, 0]) (mk 27 i_dc_2 x) (loopK i_dc_2 o_dc_2 rec) = l_dc_2 rec x := by kernel_rfl
theorem k_dc_2 : CutOk Tryz.prog 27 (.loop (nav Tryz.f74 [1, 0, 1, 0, 0])) c_dc_2 :=
  loop_cut (L := []) hT g_dc t_dc_2 okP _
theorem r_dc (x) : runFn T G_dc [(2, c_dc_2)] Tryz.f74 C_dc.ps C_dc.rs x = C_dc.F x := by kernel_rfl
theorem s_dc : CallsOk Tryz.prog 74 C_dc := fnC (L := [(2, c_dc_2)]) hT g_dc Tryz.f74 (okS okP (okS (okS okP (okB (okU k_dc_2))) okP)) r_dc
/-! laws.markPolicy -/
abbrev P_dd : List PK := [.agg [.own 3000028 Y28, .own 109 Y108, .own 127 Y69, .own 123 Y69], .val YI]
abbrev R_dd : List VK := [.s (.dat YI)]
def F_dd (x : denP P_dd) : Option (denV R_dd × denQ P_dd) :=
 (F_cz (x.1.1, x.2.1, ())).bind fun r1 =>
 if ((x.1.1.length == r1.2.1.length && true) && true) = true then
  (F_da (x.1.2.1, r1.1.1, ())).bind fun r2 =>
  if ((x.1.2.1.length == r2.2.1.length && true) && true) = true then
   (F_db (x.1.2.2.1, r2.1.1, ())).bind fun r3 =>
   if ((x.1.2.2.1.length == r3.2.1.length && true) && true) = true then
    (F_dc (x.1.2.2.2.1, r3.1.1, ())).bind fun r4 =>
    if ((x.1.2.2.2.1.length == r4.2.1.length && true) && true) = true then
     if ((x.1.1.length == r1.2.1.length && (x.1.2.1.length == r2.2.1.length && (x.1.2.2.1.length == r3.2.1.length && (x.1.2.2.2.1.length == r4.2.1.length && true)))) && true) = true then
      some ((r4.1.1, ()), ((r1.2.1, (r2.2.1, (r3.2.1, (r4.2.1, ())))), ()))
     else none
    else none
   else none
  else none
 else none
abbrev C_dd : Con := ⟨P_dd, R_dd, F_dd, false⟩
abbrev G_dd : Env := [(71, C_cz), (72, C_da), (73, C_db), (74, C_dc)]
theorem g_dd : EnvOk Tryz.prog G_dd := (env_cons s_cz (env_cons s_da (env_cons s_db (env_cons s_dc env_nil))))
theorem r_dd (x) : runFn T G_dd [] Tryz.f32 C_dd.ps C_dd.rs x = C_dd.F x := by kernel_rfl
theorem s_dd : CallsOk Tryz.prog 32 C_dd := fnC (L := []) hT g_dd Tryz.f32 okP r_dd
/-! laws.markHartS -/
abbrev P_de : List PK := [.row 1000003000034 Y33, .val YI]
abbrev R_de : List VK := [.s (.dat YI)]
abbrev i_de_2 : Shp := { slots := [(0, .s (.ref 9000100)), (1, .s (.dat YI)), (5, .s (.dat YI))], boxes := [], rows := [(9000100, 1000003000034, Y33)] }
abbrev o_de_2 : List (Ex × Shp) := [(.exit 0, { slots := [(1, .s (.dat YI))], boxes := [], rows := [(9000100, 1000003000034, Y33)] })]
def l_de_2 (rec : i_de_2.den → Option (denO o_de_2)) (u2 : i_de_2.den) : Option (denO o_de_2) :=
 let v18 := ((u2.2.2.1.length : Nat) : Int)
 if (ltI u2.1.2.2.1 v18) then
  if 0 ≤ u2.1.2.2.1 ∧ u2.1.2.2.1 < ((u2.2.2.1.length : Nat) : Int) then
   ((u2.2.2.1)[(u2.1.2.2.1).toNat]?).bind fun y19 =>
   ((u2.2.2.1)[(u2.1.2.2.1).toNat]?).bind fun y20 =>
   (F_cy (y20.1, u2.1.2.1, ())).bind fun r21 =>
   if r21.2.1.length = y20.1.length then
    if 0 ≤ u2.1.2.2.1 ∧ u2.1.2.2.1 < (((u2.2.2.1.set (u2.1.2.2.1).toNat (r21.2.1, y20.2)).length : Nat) : Int) then
     (((u2.2.2.1.set (u2.1.2.2.1).toNat (r21.2.1, y20.2)))[(u2.1.2.2.1).toNat]?).bind fun y22 =>
     let v23 := ((u2.2.2.1.set (u2.1.2.2.1).toNat (r21.2.1, y20.2)).set (u2.1.2.2.1).toNat (y22.1, (r21.1.1, y22.2.2)))
     let v24 := (IntKind.i64.wrap (r21.1.1 + (1 : Int)))
     if 0 ≤ u2.1.2.2.1 ∧ u2.1.2.2.1 < ((v23.length : Nat) : Int) then
      ((v23)[(u2.1.2.2.1).toNat]?).bind fun y25 =>
      ((v23)[(u2.1.2.2.1).toNat]?).bind fun y26 =>
      (F_cy (y26.2.2.1, v24, ())).bind fun r27 =>
      if r27.2.1.length = y26.2.2.1.length then
       let v28 := ((r27.1.1).tmod (3 : Int))
       if 0 ≤ u2.1.2.2.1 ∧ u2.1.2.2.1 < (((v23.set (u2.1.2.2.1).toNat (y26.1, (y26.2.1, (r27.2.1, y26.2.2.2)))).length : Nat) : Int) then
        (((v23.set (u2.1.2.2.1).toNat (y26.1, (y26.2.1, (r27.2.1, y26.2.2.2)))))[(u2.1.2.2.1).toNat]?).bind fun y29 =>
        let v30 := ((v23.set (u2.1.2.2.1).toNat (y26.1, (y26.2.1, (r27.2.1, y26.2.2.2)))).set (u2.1.2.2.1).toNat (y29.1, (y29.2.1, (y29.2.2.1, ((v28 == (0 : Int)), y29.2.2.2.2)))))
        let v31 := (IntKind.i64.wrap (r27.1.1 + (1 : Int)))
        let v32 := ((v31).tmod (3 : Int))
        if 0 ≤ u2.1.2.2.1 ∧ u2.1.2.2.1 < ((v30.length : Nat) : Int) then
         ((v30)[(u2.1.2.2.1).toNat]?).bind fun y33 =>
         let v34 := (v30.set (u2.1.2.2.1).toNat (y33.1, (y33.2.1, (y33.2.2.1, (y33.2.2.2.1, ((v32 == (0 : Int)), y33.2.2.2.2.2))))))
         let v35 := (IntKind.i64.wrap (v31 + (1 : Int)))
         let v36 := ((v35).tmod (3 : Int))
         if 0 ≤ u2.1.2.2.1 ∧ u2.1.2.2.1 < ((v34.length : Nat) : Int) then
          ((v34)[(u2.1.2.2.1).toNat]?).bind fun y37 =>
          let v38 := (v34.set (u2.1.2.2.1).toNat (y37.1, (y37.2.1, (y37.2.2.1, (y37.2.2.2.1, (y37.2.2.2.2.1, ((v36 == (0 : Int)), y37.2.2.2.2.2.2)))))))
          let v39 := (IntKind.i64.wrap (v35 + (1 : Int)))
          if 0 ≤ u2.1.2.2.1 ∧ u2.1.2.2.1 < ((v38.length : Nat) : Int) then
           ((v38)[(u2.1.2.2.1).toNat]?).bind fun y40 =>
           let v41 := (v38.set (u2.1.2.2.1).toNat (y40.1, (y40.2.1, (y40.2.2.1, (y40.2.2.2.1, (y40.2.2.2.2.1, (y40.2.2.2.2.2.1, (v39, y40.2.2.2.2.2.2.2))))))))
           let v42 := (IntKind.i64.wrap (v39 + (1 : Int)))
           if 0 ≤ u2.1.2.2.1 ∧ u2.1.2.2.1 < ((v41.length : Nat) : Int) then
            ((v41)[(u2.1.2.2.1).toNat]?).bind fun y43 =>
            ((v41)[(u2.1.2.2.1).toNat]?).bind fun y44 =>
            (F_cy (y44.2.2.2.2.2.2.2.1, v42, ())).bind fun r45 =>
            if r45.2.1.length = y44.2.2.2.2.2.2.2.1.length then
             if 0 ≤ u2.1.2.2.1 ∧ u2.1.2.2.1 < (((v41.set (u2.1.2.2.1).toNat (y44.1, (y44.2.1, (y44.2.2.1, (y44.2.2.2.1, (y44.2.2.2.2.1, (y44.2.2.2.2.2.1, (y44.2.2.2.2.2.2.1, (r45.2.1, y44.2.2.2.2.2.2.2.2))))))))).length : Nat) : Int) then
              (((v41.set (u2.1.2.2.1).toNat (y44.1, (y44.2.1, (y44.2.2.1, (y44.2.2.2.1, (y44.2.2.2.2.1, (y44.2.2.2.2.2.1, (y44.2.2.2.2.2.2.1, (r45.2.1, y44.2.2.2.2.2.2.2.2))))))))))[(u2.1.2.2.1).toNat]?).bind fun y46 =>
              (((v41.set (u2.1.2.2.1).toNat (y44.1, (y44.2.1, (y44.2.2.1, (y44.2.2.2.1, (y44.2.2.2.2.1, (y44.2.2.2.2.2.1, (y44.2.2.2.2.2.2.1, (r45.2.1, y44.2.2.2.2.2.2.2.2))))))))))[(u2.1.2.2.1).toNat]?).bind fun y47 =>
              (F_cy (y47.2.2.2.2.2.2.2.2.1, r45.1.1, ())).bind fun r48 =>
              if r48.2.1.length = y47.2.2.2.2.2.2.2.2.1.length then
               let v49 := (IntKind.i64.wrap (u2.1.2.2.1 + (1 : Int)))
               rec (((), (r48.1.1, (v49, ()))), ((), (((v41.set (u2.1.2.2.1).toNat (y44.1, (y44.2.1, (y44.2.2.1, (y44.2.2.2.1, (y44.2.2.2.2.1, (y44.2.2.2.2.2.1, (y44.2.2.2.2.2.2.1, (r45.2.1, y44.2.2.2.2.2.2.2.2))))))))).set (u2.1.2.2.1).toNat (y47.1, (y47.2.1, (y47.2.2.1, (y47.2.2.2.1, (y47.2.2.2.2.1, (y47.2.2.2.2.2.1, (y47.2.2.2.2.2.2.1, (y47.2.2.2.2.2.2.2.1, (r48.2.1, y47.2.2.2.2.2.2.2.2.2)))))))))), ())))
              else none
             else none
            else none
           else none
          else none
         else none
        else none
       else none
      else none
     else none
    else none
   else none
  else none
 else
  some (.inl ((u2.1.2.1, ()), ((), (u2.2.2.1, ()))))
def L_de_2 (x : i_de_2.den) : Option (denO o_de_2) := iterF l_de_2 lots x
def F_de (x : denP P_de) : Option (denV R_de × denQ P_de) :=
 (L_de_2 (((), (x.2.1, ((0 : Int), ()))), ((), (x.1, ())))).bind fun z50 =>
 match z50 with
 | .inl x51 =>
  if (x.1.length == x51.2.2.1.length && true) = true then
   some ((x51.1.1, ()), (x51.2.2.1, ()))
  else none
 | .inr z50_ =>
  none
abbrev C_de : Con := ⟨P_de, R_de, F_de, false⟩
abbrev G_de : Env := [(33, C_cy)]
theorem g_de : EnvOk Tryz.prog G_de := (env_cons s_cy env_nil)
abbrev c_de_2 : Cut := ⟨i_de_2, o_de_2, fun x => iterF l_de_2 lots x⟩
theorem t_de_2 (rec x) : run T G_de [] (nav Tryz.f34 [1, 0, 1, 0, 0]) (mk 82 i_de_2 x) (loopK i_de_2 o_de_2 rec) = l_de_2 rec x := by kernel_rfl
theorem k_de_2 : CutOk Tryz.prog 82 (.loop (nav Tryz.f34 [1, 0, 1, 0, 0])) c_de_2 :=
  loop_cut (L := []) hT g_de t_de_2 okP _
theorem r_de (x) : runFn T G_de [(2, c_de_2)] Tryz.f34 C_de.ps C_de.rs x = C_de.F x := by kernel_rfl
theorem s_de : CallsOk Tryz.prog 34 C_de := fnC (L := [(2, c_de_2)]) hT g_de Tryz.f34 (okS okP (okS (okS okP (okB (okU k_de_2))) okP)) r_de
/-! laws.markHost -/
abbrev P_df : List PK := [.agg [.own 3000028 Y28, .own 109 Y108, .own 127 Y69, .own 123 Y69, .own 2 YI, .own 3000034 Y33, .dat YI, .dat YI, .dat YI], .val YI]
abbrev R_df : List VK := [.s (.dat YI)]
def F_df (x : denP P_df) : Option (denV R_df × denQ P_df) :=
 (F_dd ((x.1.1, (x.1.2.1, (x.1.2.2.1, (x.1.2.2.2.1, ())))), x.2.1, ())).bind fun r1 =>
 if (((x.1.1.length == r1.2.1.1.length && (x.1.2.1.length == r1.2.1.2.1.length && (x.1.2.2.1.length == r1.2.1.2.2.1.length && (x.1.2.2.2.1.length == r1.2.1.2.2.2.1.length && true)))) && true) && true) = true then
  (F_cy (x.1.2.2.2.2.1, r1.1.1, ())).bind fun r2 =>
  if ((x.1.2.2.2.2.1.length == r2.2.1.length && true) && true) = true then
   (F_de (x.1.2.2.2.2.2.1, r2.1.1, ())).bind fun r3 =>
   if ((x.1.2.2.2.2.2.1.length == r3.2.1.length && true) && true) = true then
    if ((x.1.1.length == r1.2.1.1.length && (x.1.2.1.length == r1.2.1.2.1.length && (x.1.2.2.1.length == r1.2.1.2.2.1.length && (x.1.2.2.2.1.length == r1.2.1.2.2.2.1.length && (x.1.2.2.2.2.1.length == r2.2.1.length && (x.1.2.2.2.2.2.1.length == r3.2.1.length && true)))))) && true) = true then
     some ((r3.1.1, ()), ((r1.2.1.1, (r1.2.1.2.1, (r1.2.1.2.2.1, (r1.2.1.2.2.2.1, (r2.2.1, (r3.2.1, ())))))), ()))
    else none
   else none
  else none
 else none
abbrev C_df : Con := ⟨P_df, R_df, F_df, false⟩
abbrev G_df : Env := [(32, C_dd), (33, C_cy), (34, C_de)]
theorem g_df : EnvOk Tryz.prog G_df := (env_cons s_dd (env_cons s_cy (env_cons s_de env_nil)))
theorem r_df (x) : runFn T G_df [] Tryz.f10 C_df.ps C_df.rs x = C_df.F x := by kernel_rfl
theorem s_df : CallsOk Tryz.prog 10 C_df := fnC (L := []) hT g_df Tryz.f10 okP r_df
/-! laws.markHart -/
abbrev P_dg : List PK := [.agg [.own 2 YI, .dat YI, .own 2 YI, .dat .bool, .dat .bool, .dat .bool, .dat YI, .own 2 YI, .own 2 YI], .val YI]
abbrev R_dg : List VK := [.s (.dat YI)]
def F_dg (x : denP P_dg) : Option (denV R_dg × denQ P_dg) :=
 (F_cy (x.1.1, x.2.1, ())).bind fun r1 =>
 if ((x.1.1.length == r1.2.1.length && true) && true) = true then
  (F_cy (x.1.2.2.1, r1.1.1, ())).bind fun r2 =>
  if ((x.1.2.2.1.length == r2.2.1.length && true) && true) = true then
   (F_cy (x.1.2.2.2.2.2.2.2.1, r2.1.1, ())).bind fun r3 =>
   if ((x.1.2.2.2.2.2.2.2.1.length == r3.2.1.length && true) && true) = true then
    (F_cy (x.1.2.2.2.2.2.2.2.2.1, r3.1.1, ())).bind fun r4 =>
    if ((x.1.2.2.2.2.2.2.2.2.1.length == r4.2.1.length && true) && true) = true then
     if ((x.1.1.length == r1.2.1.length && (x.1.2.2.1.length == r2.2.1.length && (x.1.2.2.2.2.2.2.2.1.length == r3.2.1.length && (x.1.2.2.2.2.2.2.2.2.1.length == r4.2.1.length && true)))) && true) = true then
      some ((r4.1.1, ()), ((r1.2.1, (r2.2.1, (r3.2.1, (r4.2.1, ())))), ()))
     else none
    else none
   else none
  else none
 else none
abbrev C_dg : Con := ⟨P_dg, R_dg, F_dg, false⟩
abbrev G_dg : Env := [(33, C_cy)]
theorem g_dg : EnvOk Tryz.prog G_dg := (env_cons s_cy env_nil)
theorem r_dg (x) : runFn T G_dg [] Tryz.f75 C_dg.ps C_dg.rs x = C_dg.F x := by kernel_rfl
theorem s_dg : CallsOk Tryz.prog 75 C_dg := fnC (L := []) hT g_dg Tryz.f75 okP r_dg
/-! laws.markPageS -/
abbrev P_dh : List PK := [.row 70 Y69, .val YI]
abbrev R_dh : List VK := [.s (.dat YI)]
abbrev i_dh_2 : Shp := { slots := [(0, .s (.ref 9000100)), (1, .s (.dat YI)), (5, .s (.dat YI))], boxes := [], rows := [(9000100, 70, Y69)] }
abbrev o_dh_2 : List (Ex × Shp) := [(.exit 0, { slots := [(1, .s (.dat YI))], boxes := [], rows := [(9000100, 70, Y69)] })]
def l_dh_2 (rec : i_dh_2.den → Option (denO o_dh_2)) (u2 : i_dh_2.den) : Option (denO o_dh_2) :=
 let v3 := ((u2.2.2.1.length : Nat) : Int)
 if (ltI u2.1.2.2.1 v3) then
  if 0 ≤ u2.1.2.2.1 ∧ u2.1.2.2.1 < ((u2.2.2.1.length : Nat) : Int) then
   ((u2.2.2.1)[(u2.1.2.2.1).toNat]?).bind fun y4 =>
   let v5 := (u2.2.2.1.set (u2.1.2.2.1).toNat (u2.1.2.1, y4.2))
   let v6 := (IntKind.i64.wrap (u2.1.2.1 + (1 : Int)))
   if 0 ≤ u2.1.2.2.1 ∧ u2.1.2.2.1 < ((v5.length : Nat) : Int) then
    ((v5)[(u2.1.2.2.1).toNat]?).bind fun y7 =>
    let v8 := (v5.set (u2.1.2.2.1).toNat (y7.1, (v6, y7.2.2)))
    let v9 := (IntKind.i64.wrap (v6 + (1 : Int)))
    let v10 := (IntKind.i64.wrap (u2.1.2.2.1 + (1 : Int)))
    rec (((), (v9, (v10, ()))), ((), (v8, ())))
   else none
  else none
 else
  some (.inl ((u2.1.2.1, ()), ((), (u2.2.2.1, ()))))
def L_dh_2 (x : i_dh_2.den) : Option (denO o_dh_2) := iterF l_dh_2 lots x
def F_dh (x : denP P_dh) : Option (denV R_dh × denQ P_dh) :=
 (L_dh_2 (((), (x.2.1, ((0 : Int), ()))), ((), (x.1, ())))).bind fun z11 =>
 match z11 with
 | .inl x12 =>
  if (x.1.length == x12.2.2.1.length && true) = true then
   some ((x12.1.1, ()), (x12.2.2.1, ()))
  else none
 | .inr z11_ =>
  none
abbrev C_dh : Con := ⟨P_dh, R_dh, F_dh, false⟩
abbrev G_dh : Env := []
theorem g_dh : EnvOk Tryz.prog G_dh := env_nil
abbrev c_dh_2 : Cut := ⟨i_dh_2, o_dh_2, fun x => iterF l_dh_2 lots x⟩
theorem t_dh_2 (rec x) : run T G_dh [] (nav Tryz.f76 [1, 0, 1, 0, 0]) (mk 27 i_dh_2 x) (loopK i_dh_2 o_dh_2 rec) = l_dh_2 rec x := by kernel_rfl
theorem k_dh_2 : CutOk Tryz.prog 27 (.loop (nav Tryz.f76 [1, 0, 1, 0, 0])) c_dh_2 :=
  loop_cut (L := []) hT g_dh t_dh_2 okP _
theorem r_dh (x) : runFn T G_dh [(2, c_dh_2)] Tryz.f76 C_dh.ps C_dh.rs x = C_dh.F x := by kernel_rfl
theorem s_dh : CallsOk Tryz.prog 76 C_dh := fnC (L := [(2, c_dh_2)]) hT g_dh Tryz.f76 (okS okP (okS (okS okP (okB (okU k_dh_2))) okP)) r_dh
/-! laws.markSolo -/
abbrev P_di : List PK := [.agg [.own 2 YI, .dat YI, .own 2 YI, .dat .bool, .dat .bool, .dat .bool, .dat YI, .own 2 YI, .own 2 YI, .own 70 Y69, .own 2 YI], .val YI]
abbrev R_di : List VK := [.s (.dat YI)]
def F_di (x : denP P_di) : Option (denV R_di × denQ P_di) :=
 (F_dg ((x.1.1, (x.1.2.1, (x.1.2.2.1, (x.1.2.2.2.1, (x.1.2.2.2.2.1, (x.1.2.2.2.2.2.1, (x.1.2.2.2.2.2.2.1, (x.1.2.2.2.2.2.2.2.1, (x.1.2.2.2.2.2.2.2.2.1, ()))))))))), x.2.1, ())).bind fun r1 =>
 if (((x.1.1.length == r1.2.1.1.length && (x.1.2.2.1.length == r1.2.1.2.1.length && (x.1.2.2.2.2.2.2.2.1.length == r1.2.1.2.2.1.length && (x.1.2.2.2.2.2.2.2.2.1.length == r1.2.1.2.2.2.1.length && true)))) && true) && true) = true then
  (F_dh (x.1.2.2.2.2.2.2.2.2.2.1, r1.1.1, ())).bind fun r2 =>
  if ((x.1.2.2.2.2.2.2.2.2.2.1.length == r2.2.1.length && true) && true) = true then
   (F_cy (x.1.2.2.2.2.2.2.2.2.2.2.1, r2.1.1, ())).bind fun r3 =>
   if ((x.1.2.2.2.2.2.2.2.2.2.2.1.length == r3.2.1.length && true) && true) = true then
    if ((x.1.1.length == r1.2.1.1.length && (x.1.2.2.1.length == r1.2.1.2.1.length && (x.1.2.2.2.2.2.2.2.1.length == r1.2.1.2.2.1.length && (x.1.2.2.2.2.2.2.2.2.1.length == r1.2.1.2.2.2.1.length && (x.1.2.2.2.2.2.2.2.2.2.1.length == r2.2.1.length && (x.1.2.2.2.2.2.2.2.2.2.2.1.length == r3.2.1.length && true)))))) && true) = true then
     some ((r3.1.1, ()), ((r1.2.1.1, (r1.2.1.2.1, (r1.2.1.2.2.1, (r1.2.1.2.2.2.1, (r2.2.1, (r3.2.1, ())))))), ()))
    else none
   else none
  else none
 else none
abbrev C_di : Con := ⟨P_di, R_di, F_di, false⟩
abbrev G_di : Env := [(33, C_cy), (75, C_dg), (76, C_dh)]
theorem g_di : EnvOk Tryz.prog G_di := (env_cons s_cy (env_cons s_dg (env_cons s_dh env_nil)))
theorem r_di (x) : runFn T G_di [] Tryz.f35 C_di.ps C_di.rs x = C_di.F x := by kernel_rfl
theorem s_di : CallsOk Tryz.prog 35 C_di := fnC (L := []) hT g_di Tryz.f35 okP r_di
/-! laws.markSoloResult -/
abbrev P_dj : List PK := [.agg [.dat YI, .own 2 YI, .dat YI, .own 2 YI, .dat .bool, .dat .bool, .dat .bool, .dat YI, .own 2 YI, .own 2 YI, .own 70 Y69, .own 2 YI], .val YI]
abbrev R_dj : List VK := [.s (.dat YI)]
def F_dj (x : denP P_dj) : Option (denV R_dj × denQ P_dj) :=
 (F_di ((x.1.2.1, (x.1.2.2.1, (x.1.2.2.2.1, (x.1.2.2.2.2.1, (x.1.2.2.2.2.2.1, (x.1.2.2.2.2.2.2.1, (x.1.2.2.2.2.2.2.2.1, (x.1.2.2.2.2.2.2.2.2.1, (x.1.2.2.2.2.2.2.2.2.2.1, (x.1.2.2.2.2.2.2.2.2.2.2.1, (x.1.2.2.2.2.2.2.2.2.2.2.2.1, ()))))))))))), x.2.1, ())).bind fun r1 =>
 if (((x.1.2.1.length == r1.2.1.1.length && (x.1.2.2.2.1.length == r1.2.1.2.1.length && (x.1.2.2.2.2.2.2.2.2.1.length == r1.2.1.2.2.1.length && (x.1.2.2.2.2.2.2.2.2.2.1.length == r1.2.1.2.2.2.1.length && (x.1.2.2.2.2.2.2.2.2.2.2.1.length == r1.2.1.2.2.2.2.1.length && (x.1.2.2.2.2.2.2.2.2.2.2.2.1.length == r1.2.1.2.2.2.2.2.1.length && true)))))) && true) && true) = true then
  if ((x.1.2.1.length == r1.2.1.1.length && (x.1.2.2.2.1.length == r1.2.1.2.1.length && (x.1.2.2.2.2.2.2.2.2.1.length == r1.2.1.2.2.1.length && (x.1.2.2.2.2.2.2.2.2.2.1.length == r1.2.1.2.2.2.1.length && (x.1.2.2.2.2.2.2.2.2.2.2.1.length == r1.2.1.2.2.2.2.1.length && (x.1.2.2.2.2.2.2.2.2.2.2.2.1.length == r1.2.1.2.2.2.2.2.1.length && true)))))) && true) = true then
   some ((r1.1.1, ()), ((r1.2.1.1, (r1.2.1.2.1, (r1.2.1.2.2.1, (r1.2.1.2.2.2.1, (r1.2.1.2.2.2.2.1, (r1.2.1.2.2.2.2.2.1, ())))))), ()))
  else none
 else none
abbrev C_dj : Con := ⟨P_dj, R_dj, F_dj, false⟩
abbrev G_dj : Env := [(35, C_di)]
theorem g_dj : EnvOk Tryz.prog G_dj := (env_cons s_di env_nil)
theorem r_dj (x) : runFn T G_dj [] Tryz.f11 C_dj.ps C_dj.rs x = C_dj.F x := by kernel_rfl
theorem s_dj : CallsOk Tryz.prog 11 C_dj := fnC (L := []) hT g_dj Tryz.f11 okP r_dj
/-! laws.heldInt64S -/
abbrev P_dk : List PK := [.val Y28, .val YI]
abbrev R_dk : List VK := [.s (.dat YI)]
abbrev i_dk_2 : Shp := { slots := [(0, .s (.dat Y28)), (1, .s (.dat YI)), (5, .s (.dat YI))], boxes := [], rows := [] }
abbrev o_dk_2 : List (Ex × Shp) := [(.exit 0, { slots := [(1, .s (.dat YI))], boxes := [], rows := [] }), (.ret, { slots := [(4, .s (.dat YI))], boxes := [], rows := [] })]
def l_dk_2 (rec : i_dk_2.den → Option (denO o_dk_2)) (u2 : i_dk_2.den) : Option (denO o_dk_2) :=
 let v2 := ((u2.1.1.length : Nat) : Int)
 if (ltI u2.1.2.2.1 v2) then
  if 0 ≤ u2.1.2.2.1 then
   ((u2.1.1)[(u2.1.2.2.1).toNat]?).bind fun y3 =>
   if (y3 != u2.1.2.1) then
    some (.inr (.inl (((-1 : Int), ()), ((), ()))))
   else
    let v4 := (IntKind.i64.wrap (u2.1.2.1 + (1 : Int)))
    let v5 := (IntKind.i64.wrap (u2.1.2.2.1 + (1 : Int)))
    rec ((u2.1.1, (v4, (v5, ()))), ((), ()))
  else none
 else
  some (.inl ((u2.1.2.1, ()), ((), ())))
def L_dk_2 (x : i_dk_2.den) : Option (denO o_dk_2) := iterF l_dk_2 lots x
def F_dk (x : denP P_dk) : Option (denV R_dk × denQ P_dk) :=
 (L_dk_2 ((x.1, (x.2.1, ((0 : Int), ()))), ((), ()))).bind fun z6 =>
 match z6 with
 | .inl x7 =>
  some ((x7.1.1, ()), ())
 | .inr z6_ =>
  match z6_ with
  | .inl x8 =>
   some ((x8.1.1, ()), ())
  | .inr z6__ =>
   none
abbrev C_dk : Con := ⟨P_dk, R_dk, F_dk, false⟩
abbrev G_dk : Env := []
theorem g_dk : EnvOk Tryz.prog G_dk := env_nil
abbrev c_dk_2 : Cut := ⟨i_dk_2, o_dk_2, fun x => iterF l_dk_2 lots x⟩
theorem t_dk_2 (rec x) : run T G_dk [] (nav Tryz.f79 [1, 0, 1, 0, 0]) (mk 21 i_dk_2 x) (loopK i_dk_2 o_dk_2 rec) = l_dk_2 rec x := by kernel_rfl
theorem k_dk_2 : CutOk Tryz.prog 21 (.loop (nav Tryz.f79 [1, 0, 1, 0, 0])) c_dk_2 :=
  loop_cut (L := []) hT g_dk t_dk_2 okP _
theorem r_dk (x) : runFn T G_dk [(2, c_dk_2)] Tryz.f79 C_dk.ps C_dk.rs x = C_dk.F x := by kernel_rfl
theorem s_dk : CallsOk Tryz.prog 79 C_dk := fnC (L := [(2, c_dk_2)]) hT g_dk Tryz.f79 (okS okP (okS (okS okP (okB (okU k_dk_2))) okP)) r_dk
/-! laws.heldHart -/
abbrev P_dl : List PK := [.val Y33, .val YI]
abbrev R_dl : List VK := [.s (.dat YI)]
def F_dl (x : denP P_dl) : Option (denV R_dl × denQ P_dl) :=
 (F_dk (x.1.1, x.2.1, ())).bind fun r1 =>
 if (ltI r1.1.1 (0 : Int)) then
  some (((-1 : Int), ()), ())
 else
  (F_dk (x.1.2.2.1, r1.1.1, ())).bind fun r2 =>
  if (ltI r2.1.1 (0 : Int)) then
   some (((-1 : Int), ()), ())
  else
   (F_dk (x.1.2.2.2.2.2.2.2.1, r2.1.1, ())).bind fun r3 =>
   if (ltI r3.1.1 (0 : Int)) then
    some (((-1 : Int), ()), ())
   else
    (F_dk (x.1.2.2.2.2.2.2.2.2.1, r3.1.1, ())).bind fun r4 =>
    if (ltI r4.1.1 (0 : Int)) then
     some (((-1 : Int), ()), ())
    else
     some ((r4.1.1, ()), ())
abbrev C_dl : Con := ⟨P_dl, R_dl, F_dl, false⟩
abbrev G_dl : Env := [(79, C_dk)]
theorem g_dl : EnvOk Tryz.prog G_dl := (env_cons s_dk env_nil)
theorem r_dl (x) : runFn T G_dl [] Tryz.f77 C_dl.ps C_dl.rs x = C_dl.F x := by kernel_rfl
theorem s_dl : CallsOk Tryz.prog 77 C_dl := fnC (L := []) hT g_dl Tryz.f77 okP r_dl
/-! laws.heldPageS -/
abbrev P_dm : List PK := [.val Y24, .val YI]
abbrev R_dm : List VK := [.s (.dat YI)]
abbrev i_dm_2 : Shp := { slots := [(0, .s (.dat Y24)), (1, .s (.dat YI)), (5, .s (.dat YI))], boxes := [], rows := [] }
abbrev o_dm_2 : List (Ex × Shp) := [(.exit 0, { slots := [(1, .s (.dat YI))], boxes := [], rows := [] }), (.ret, { slots := [(4, .s (.dat YI))], boxes := [], rows := [] })]
def l_dm_2 (rec : i_dm_2.den → Option (denO o_dm_2)) (u2 : i_dm_2.den) : Option (denO o_dm_2) :=
 let v3 := ((u2.1.1.length : Nat) : Int)
 if (ltI u2.1.2.2.1 v3) then
  if 0 ≤ u2.1.2.2.1 then
   ((u2.1.1)[(u2.1.2.2.1).toNat]?).bind fun y4 =>
   if (y4.1 != u2.1.2.1) then
    some (.inr (.inl (((-1 : Int), ()), ((), ()))))
   else
    let v5 := (IntKind.i64.wrap (u2.1.2.1 + (1 : Int)))
    if 0 ≤ u2.1.2.2.1 then
     ((u2.1.1)[(u2.1.2.2.1).toNat]?).bind fun y6 =>
     if (y6.2.1 != v5) then
      some (.inr (.inl (((-1 : Int), ()), ((), ()))))
     else
      let v7 := (IntKind.i64.wrap (v5 + (1 : Int)))
      let v8 := (IntKind.i64.wrap (u2.1.2.2.1 + (1 : Int)))
      rec ((u2.1.1, (v7, (v8, ()))), ((), ()))
    else none
  else none
 else
  some (.inl ((u2.1.2.1, ()), ((), ())))
def L_dm_2 (x : i_dm_2.den) : Option (denO o_dm_2) := iterF l_dm_2 lots x
def F_dm (x : denP P_dm) : Option (denV R_dm × denQ P_dm) :=
 (L_dm_2 ((x.1, (x.2.1, ((0 : Int), ()))), ((), ()))).bind fun z9 =>
 match z9 with
 | .inl x10 =>
  some ((x10.1.1, ()), ())
 | .inr z9_ =>
  match z9_ with
  | .inl x11 =>
   some ((x11.1.1, ()), ())
  | .inr z9__ =>
   none
abbrev C_dm : Con := ⟨P_dm, R_dm, F_dm, false⟩
abbrev G_dm : Env := []
theorem g_dm : EnvOk Tryz.prog G_dm := env_nil
abbrev c_dm_2 : Cut := ⟨i_dm_2, o_dm_2, fun x => iterF l_dm_2 lots x⟩
theorem t_dm_2 (rec x) : run T G_dm [] (nav Tryz.f78 [1, 0, 1, 0, 0]) (mk 31 i_dm_2 x) (loopK i_dm_2 o_dm_2 rec) = l_dm_2 rec x := by kernel_rfl
theorem k_dm_2 : CutOk Tryz.prog 31 (.loop (nav Tryz.f78 [1, 0, 1, 0, 0])) c_dm_2 :=
  loop_cut (L := []) hT g_dm t_dm_2 okP _
theorem r_dm (x) : runFn T G_dm [(2, c_dm_2)] Tryz.f78 C_dm.ps C_dm.rs x = C_dm.F x := by kernel_rfl
theorem s_dm : CallsOk Tryz.prog 78 C_dm := fnC (L := [(2, c_dm_2)]) hT g_dm Tryz.f78 (okS okP (okS (okS okP (okB (okU k_dm_2))) okP)) r_dm
/-! laws.heldSolo -/
abbrev P_dn : List PK := [.val Y36, .val YI]
abbrev R_dn : List VK := [.s (.dat YI)]
def F_dn (x : denP P_dn) : Option (denV R_dn × denQ P_dn) :=
 (F_dl (x.1.1, x.2.1, ())).bind fun r1 =>
 if (ltI r1.1.1 (0 : Int)) then
  some (((-1 : Int), ()), ())
 else
  (F_dm (x.1.2.1, r1.1.1, ())).bind fun r2 =>
  if (ltI r2.1.1 (0 : Int)) then
   some (((-1 : Int), ()), ())
  else
   (F_dk (x.1.2.2.1, r2.1.1, ())).bind fun r3 =>
   if (ltI r3.1.1 (0 : Int)) then
    some (((-1 : Int), ()), ())
   else
    some ((r3.1.1, ()), ())
abbrev C_dn : Con := ⟨P_dn, R_dn, F_dn, false⟩
abbrev G_dn : Env := [(77, C_dl), (78, C_dm), (79, C_dk)]
theorem g_dn : EnvOk Tryz.prog G_dn := (env_cons s_dl (env_cons s_dm (env_cons s_dk env_nil)))
theorem r_dn (x) : runFn T G_dn [] Tryz.f36 C_dn.ps C_dn.rs x = C_dn.F x := by kernel_rfl
theorem s_dn : CallsOk Tryz.prog 36 C_dn := fnC (L := []) hT g_dn Tryz.f36 okP r_dn
/-! laws.heldSoloResult -/
abbrev P_do : List PK := [.val Y38, .val YI]
abbrev R_do : List VK := [.s (.dat YI)]
def F_do (x : denP P_do) : Option (denV R_do × denQ P_do) :=
 (F_dn (x.1.2.1, x.2.1, ())).bind fun r1 =>
 if (ltI r1.1.1 (0 : Int)) then
  some (((-1 : Int), ()), ())
 else
  some ((r1.1.1, ()), ())
abbrev C_do : Con := ⟨P_do, R_do, F_do, false⟩
abbrev G_do : Env := [(36, C_dn)]
theorem g_do : EnvOk Tryz.prog G_do := (env_cons s_dn env_nil)
theorem r_do (x) : runFn T G_do [] Tryz.f12 C_do.ps C_do.rs x = C_do.F x := by kernel_rfl
theorem s_do : CallsOk Tryz.prog 12 C_do := fnC (L := []) hT g_do Tryz.f12 okP r_do
/-! laws.FnExactSoloFrom -/
abbrev P_dp : List PK := [.val Y30, .val YI]
abbrev R_dp : List VK := [.s (.dat .bool)]
def F_dp (x : denP P_dp) : Option (denV R_dp × denQ P_dp) :=
 (F_i (x.1, (1048576 : Int), ())).bind fun r1 =>
 if (ltI r1.1.1 (0 : Int)) then
  some ((true, ()), ())
 else
  (F_u (x.1, ())).bind fun r2 =>
  (F_at (((r2.1.1.1, (r2.1.1.2.1, (r2.1.1.2.2.1, (r2.1.1.2.2.2.1, ())))), (r2.1.1.2.2.2.2.1, (r2.1.1.2.2.2.2.2.1, (r2.1.1.2.2.2.2.2.2.1, (r2.1.1.2.2.2.2.2.2.2.1, (r2.1.1.2.2.2.2.2.2.2.2.1, ())))))), x.2.1, ())).bind fun r3 =>
  (F_u (x.1, ())).bind fun r4 =>
  (F_ch (((r4.1.1.1, (r4.1.1.2.1, (r4.1.1.2.2.1, (r4.1.1.2.2.2.1, ())))), (r4.1.1.2.2.2.2.1, (r4.1.1.2.2.2.2.2.1, (r4.1.1.2.2.2.2.2.2.1, (r4.1.1.2.2.2.2.2.2.2.1, (r4.1.1.2.2.2.2.2.2.2.2.1, ())))))), x.2.1, ())).bind fun r5 =>
  (F_cn ((r5.1.1.1, (((r5.1.1.2.1, (r5.1.1.2.2.1, (r5.1.1.2.2.2.1, (r5.1.1.2.2.2.2.1, (r5.1.1.2.2.2.2.2.1, (r5.1.1.2.2.2.2.2.2.1, (r5.1.1.2.2.2.2.2.2.2.1, (r5.1.1.2.2.2.2.2.2.2.2.1, (r5.1.1.2.2.2.2.2.2.2.2.2.1, ()))))))))), (r5.1.1.2.2.2.2.2.2.2.2.2.2.1, (r5.1.1.2.2.2.2.2.2.2.2.2.2.2.1, ()))), ())), (r3.1.1.1, (((r3.1.1.2.1, (r3.1.1.2.2.1, (r3.1.1.2.2.2.1, (r3.1.1.2.2.2.2.1, (r3.1.1.2.2.2.2.2.1, (r3.1.1.2.2.2.2.2.2.1, (r3.1.1.2.2.2.2.2.2.2.1, (r3.1.1.2.2.2.2.2.2.2.2.1, (r3.1.1.2.2.2.2.2.2.2.2.2.1, ()))))))))), (r3.1.1.2.2.2.2.2.2.2.2.2.2.1, (r3.1.1.2.2.2.2.2.2.2.2.2.2.2.1, ()))), ())), ())).bind fun r6 =>
  if (!r6.1.1) then
   some ((false, ()), ())
  else
   (F_u (x.1, ())).bind fun r7 =>
   (F_cx (((r4.1.1.1, (r4.1.1.2.1, (r4.1.1.2.2.1, (r4.1.1.2.2.2.1, ())))), (r4.1.1.2.2.2.2.1, (r4.1.1.2.2.2.2.2.1, (r4.1.1.2.2.2.2.2.2.1, (r4.1.1.2.2.2.2.2.2.2.1, (r4.1.1.2.2.2.2.2.2.2.2.1, ())))))), ((r7.1.1.1, (r7.1.1.2.1, (r7.1.1.2.2.1, (r7.1.1.2.2.2.1, ())))), (r7.1.1.2.2.2.2.1, (r7.1.1.2.2.2.2.2.1, (r7.1.1.2.2.2.2.2.2.1, (r7.1.1.2.2.2.2.2.2.2.1, (r7.1.1.2.2.2.2.2.2.2.2.1, ())))))), ())).bind fun r8 =>
   if (!r8.1.1) then
    some ((false, ()), ())
   else
    (F_df (r4.1.1, (1 : Int), ())).bind fun r9 =>
    if (((r4.1.1.1.length == r9.2.1.1.length && (r4.1.1.2.1.length == r9.2.1.2.1.length && (r4.1.1.2.2.1.length == r9.2.1.2.2.1.length && (r4.1.1.2.2.2.1.length == r9.2.1.2.2.2.1.length && (r4.1.1.2.2.2.2.1.length == r9.2.1.2.2.2.2.1.length && (r4.1.1.2.2.2.2.2.1.length == r9.2.1.2.2.2.2.2.1.length && true)))))) && true) && true) = true then
     if (ltI r9.1.1 (0 : Int)) = false then
      (F_cn ((r5.1.1.1, (((r5.1.1.2.1, (r5.1.1.2.2.1, (r5.1.1.2.2.2.1, (r5.1.1.2.2.2.2.1, (r5.1.1.2.2.2.2.2.1, (r5.1.1.2.2.2.2.2.2.1, (r5.1.1.2.2.2.2.2.2.2.1, (r5.1.1.2.2.2.2.2.2.2.2.1, (r5.1.1.2.2.2.2.2.2.2.2.2.1, ()))))))))), (r5.1.1.2.2.2.2.2.2.2.2.2.2.1, (r5.1.1.2.2.2.2.2.2.2.2.2.2.2.1, ()))), ())), (r3.1.1.1, (((r3.1.1.2.1, (r3.1.1.2.2.1, (r3.1.1.2.2.2.1, (r3.1.1.2.2.2.2.1, (r3.1.1.2.2.2.2.2.1, (r3.1.1.2.2.2.2.2.2.1, (r3.1.1.2.2.2.2.2.2.2.1, (r3.1.1.2.2.2.2.2.2.2.2.1, (r3.1.1.2.2.2.2.2.2.2.2.2.1, ()))))))))), (r3.1.1.2.2.2.2.2.2.2.2.2.2.1, (r3.1.1.2.2.2.2.2.2.2.2.2.2.2.1, ()))), ())), ())).bind fun r10 =>
      if (!r10.1.1) then
       some ((false, ()), ())
      else
       (F_dj (r5.1.1, (1 : Int), ())).bind fun r11 =>
       if (((r5.1.1.2.1.length == r11.2.1.1.length && (r5.1.1.2.2.2.1.length == r11.2.1.2.1.length && (r5.1.1.2.2.2.2.2.2.2.2.1.length == r11.2.1.2.2.1.length && (r5.1.1.2.2.2.2.2.2.2.2.2.1.length == r11.2.1.2.2.2.1.length && (r5.1.1.2.2.2.2.2.2.2.2.2.2.1.length == r11.2.1.2.2.2.2.1.length && (r5.1.1.2.2.2.2.2.2.2.2.2.2.2.1.length == r11.2.1.2.2.2.2.2.1.length && true)))))) && true) && true) = true then
        (F_do ((r5.1.1.1, (((r11.2.1.1, (r5.1.1.2.2.1, (r11.2.1.2.1, (r5.1.1.2.2.2.2.1, (r5.1.1.2.2.2.2.2.1, (r5.1.1.2.2.2.2.2.2.1, (r5.1.1.2.2.2.2.2.2.2.1, (r11.2.1.2.2.1, (r11.2.1.2.2.2.1, ()))))))))), (r11.2.1.2.2.2.2.1, (r11.2.1.2.2.2.2.2.1, ()))), ())), (1 : Int), ())).bind fun r12 =>
        if (ltI r12.1.1 (0 : Int)) then
         some ((false, ()), ())
        else
         if (r12.1.1 != r11.1.1) then
          some ((false, ()), ())
         else
          (F_u (x.1, ())).bind fun r13 =>
          (F_ch (((r13.1.1.1, (r13.1.1.2.1, (r13.1.1.2.2.1, (r13.1.1.2.2.2.1, ())))), (r13.1.1.2.2.2.2.1, (r13.1.1.2.2.2.2.2.1, (r13.1.1.2.2.2.2.2.2.1, (r13.1.1.2.2.2.2.2.2.2.1, (r13.1.1.2.2.2.2.2.2.2.2.1, ())))))), x.2.1, ())).bind fun r14 =>
          (F_cn ((r14.1.1.1, (((r14.1.1.2.1, (r14.1.1.2.2.1, (r14.1.1.2.2.2.1, (r14.1.1.2.2.2.2.1, (r14.1.1.2.2.2.2.2.1, (r14.1.1.2.2.2.2.2.2.1, (r14.1.1.2.2.2.2.2.2.2.1, (r14.1.1.2.2.2.2.2.2.2.2.1, (r14.1.1.2.2.2.2.2.2.2.2.2.1, ()))))))))), (r14.1.1.2.2.2.2.2.2.2.2.2.2.1, (r14.1.1.2.2.2.2.2.2.2.2.2.2.2.1, ()))), ())), (r3.1.1.1, (((r3.1.1.2.1, (r3.1.1.2.2.1, (r3.1.1.2.2.2.1, (r3.1.1.2.2.2.2.1, (r3.1.1.2.2.2.2.2.1, (r3.1.1.2.2.2.2.2.2.1, (r3.1.1.2.2.2.2.2.2.2.1, (r3.1.1.2.2.2.2.2.2.2.2.1, (r3.1.1.2.2.2.2.2.2.2.2.2.1, ()))))))))), (r3.1.1.2.2.2.2.2.2.2.2.2.2.1, (r3.1.1.2.2.2.2.2.2.2.2.2.2.2.1, ()))), ())), ())).bind fun r15 =>
          if (!r15.1.1) then
           some ((false, ()), ())
          else
           (F_do ((r5.1.1.1, (((r11.2.1.1, (r5.1.1.2.2.1, (r11.2.1.2.1, (r5.1.1.2.2.2.2.1, (r5.1.1.2.2.2.2.2.1, (r5.1.1.2.2.2.2.2.2.1, (r5.1.1.2.2.2.2.2.2.2.1, (r11.2.1.2.2.1, (r11.2.1.2.2.2.1, ()))))))))), (r11.2.1.2.2.2.2.1, (r11.2.1.2.2.2.2.2.1, ()))), ())), (1 : Int), ())).bind fun r16 =>
           if (ltI r16.1.1 (0 : Int)) then
            some ((false, ()), ())
           else
            if (r16.1.1 != r11.1.1) then
             some ((false, ()), ())
            else
             some ((true, ()), ())
       else none
     else
      some ((false, ()), ())
    else none
abbrev C_dp : Con := ⟨P_dp, R_dp, F_dp, false⟩
abbrev G_dp : Env := [(4, C_i), (5, C_at), (6, C_u), (7, C_ch), (8, C_cn), (9, C_cx), (10, C_df), (11, C_dj), (12, C_do)]
theorem g_dp : EnvOk Tryz.prog G_dp := (env_cons s_i (env_cons s_at (env_cons s_u (env_cons s_ch (env_cons s_cn (env_cons s_cx (env_cons s_df (env_cons s_dj (env_cons s_do env_nil)))))))))
theorem r_dp (x) : runFn T G_dp [] Tryz.f3 C_dp.ps C_dp.rs x = C_dp.F x := by kernel_rfl
theorem s_dp : CallsOk Tryz.prog 3 C_dp := fnC (L := []) hT g_dp Tryz.f3 okP r_dp
theorem q_dp : Sound Tryz.prog 3 C_dp :=
  fn_snd (L := []) hT g_dp Tryz.f3 (by kernel_rfl) (by kernel_rfl) okP r_dp
end Go.Proofs.YtajnommlfjfgpaaGreat
