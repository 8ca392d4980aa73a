/- The functions of the laws, each as a plain function of data (F), and that the program's text does what F says. Printed by a program (wip/tools/gen.py). -/
import Derived.Test.YtilcgnimcdkfiaaGt
namespace Go.Proofs.Ytilcgnimcdkfiaa
open Go Go.RowKit S Go.Proofs
set_option maxRecDepth 100000
set_option linter.unusedVariables false
/-! laws.lwBig -/
abbrev P_a : List PK := [.val Y22]
abbrev R_a : List VK := [.s (.dat .bool)]
def F_a (x : denP P_a) : Option (denV R_a × denQ P_a) :=
 let v1 := ((x.1.length : Nat) : Int)
 some (((ltI (1048576 : Int) v1), ()), ())
abbrev C_a : Con := ⟨P_a, R_a, F_a, false⟩
abbrev G_a : Env := []
theorem g_a : EnvOk Try.prog G_a := env_nil
theorem r_a (x) : runFn T G_a [] Try.f6 C_a.ps C_a.rs x = C_a.F x := by kernel_rfl
theorem s_a : CallsOk Try.prog 6 C_a := fnC (L := []) hT g_a Try.f6 okP r_a
/-! spec.l1Source -/
abbrev P_b : List PK := [.val Y22]
abbrev R_b : List VK := [.s (.bx Y127)]
def F_b (x : denP P_b) : Option (denV R_b × denQ P_b) := some (((x.1, (0 : Int), ()), ()), ())
abbrev C_b : Con := ⟨P_b, R_b, F_b, false⟩
theorem w_b (A : Option Addr) (n cap : Nat) (w : World) : Calls Try.prog 63 #[.slice A n cap] w fun e w' => e = .returned (.pointer (some ⟨w.heap.size, 0, none⟩)) ∧ w' = w.alloc (.cells #[.slice A n cap, .int .i64 0] 128) := by
  go_enter Try.func63, Try.ntmps63
  go_wp2
  go_ret
  exact ⟨rfl, rfl⟩
theorem s_b : CallsOk Try.prog 63 C_b := (src_sound w_b).ok (enter_ok Try.func63 (by decide +kernel) (by kernel_rfl))
/-! spec.l1Next -/
abbrev P_c : List PK := [.box [.dat Y22, .dat YI] [.dat Y22, .dat YI], .val YI]
abbrev R_c : List VK := [.s (.dat YI)]
def F_c (x : denP P_c) : Option (denV R_c × denQ P_c) :=
 let v1 := (IntKind.i64.wrap (x.1.2.1 + (1 : Int)))
 if (ltI x.2.1 (1 : Int)) then
  some (((0 : Int), ()), ((x.1.1, (v1, ())), ()))
 else
  let v2 := (IntKind.i64.wrap (v1 - (1 : Int)))
  let v3 := ((x.1.1.length : Nat) : Int)
  if (v3 == (0 : Int)) then
   let v4 := (IntKind.i64.wrap (v2 * (7 : Int)))
   if x.2.1 = 0 then none else
   let v5 := ((v4).tmod x.2.1)
   some ((v5, ()), ((x.1.1, (v1, ())), ()))
  else
   if v3 = 0 then none else
   let v6 := ((v2).tmod v3)
   if 0 ≤ v6 then
    ((x.1.1)[(v6).toNat]?).bind fun y7 =>
    let v8 := (IntKind.i64.wrap y7)
    if v3 = 0 then none else
    let v9 := (IntKind.i64.wrap ((v2).tdiv v3))
    let v10 := (IntKind.i64.wrap (v9 * (37 : Int)))
    let v11 := (IntKind.i64.wrap (v8 + v10))
    if (ltI (200 : Int) x.2.1) then
     let v12 := (IntKind.i64.wrap (v11 * (251 : Int)))
     let v13 := (IntKind.i64.wrap (v2 + (1 : Int)))
     if v3 = 0 then none else
     let v14 := ((v13).tmod v3)
     if 0 ≤ v14 then
      ((x.1.1)[(v14).toNat]?).bind fun y15 =>
      let v16 := (IntKind.i64.wrap y15)
      let v17 := (IntKind.i64.wrap (v16 * (13 : Int)))
      let v18 := (IntKind.i64.wrap (v12 + v17))
      let v19 := (IntKind.i64.wrap (v18 + v2))
      if x.2.1 = 0 then none else
      let v20 := ((v19).tmod x.2.1)
      some ((v20, ()), ((x.1.1, (v1, ())), ()))
     else none
    else
     if x.2.1 = 0 then none else
     let v21 := ((v11).tmod x.2.1)
     some ((v21, ()), ((x.1.1, (v1, ())), ()))
   else none
abbrev C_c : Con := ⟨P_c, R_c, F_c, false⟩
abbrev G_c : Env := []
theorem g_c : EnvOk Try.prog G_c := env_nil
theorem r_c (x) : runFn T G_c [] Try.f92 C_c.ps C_c.rs x = C_c.F x := by kernel_rfl
theorem s_c : CallsOk Try.prog 92 C_c := fnC (L := []) hT g_c Try.f92 okP r_c
/-! spec.l1Pick -/
abbrev P_d : List PK := [.box [.dat Y22, .dat YI] [.dat Y22, .dat YI], .val Y47]
abbrev R_d : List VK := [.s (.dat YI)]
def F_d (x : denP P_d) : Option (denV R_d × denQ P_d) :=
 let v1 := ((x.2.1.length : Nat) : Int)
 (F_c (x.1, v1, ())).bind fun r2 =>
 if 0 ≤ r2.1.1 then
  ((x.2.1)[(r2.1.1).toNat]?).bind fun y3 =>
  some ((y3, ()), (r2.2.1, ()))
 else none
abbrev C_d : Con := ⟨P_d, R_d, F_d, false⟩
abbrev G_d : Env := [(92, C_c)]
theorem g_d : EnvOk Try.prog G_d := (env_cons s_c env_nil)
theorem r_d (x) : runFn T G_d [] Try.f65 C_d.ps C_d.rs x = C_d.F x := by kernel_rfl
theorem s_d : CallsOk Try.prog 65 C_d := fnC (L := []) hT g_d Try.f65 okP r_d
/-! spec.l1In -/
abbrev P_e : List PK := [.val YI, .val YI, .val YI]
abbrev R_e : List VK := [.s (.dat .bool)]
def F_e (x : denP P_e) : Option (denV R_e × denQ P_e) :=
 if (leI x.2.1 x.1) = true then
  some (((leI x.1 x.2.2.1), ()), ())
 else
  some ((false, ()), ())
abbrev C_e : Con := ⟨P_e, R_e, F_e, false⟩
abbrev G_e : Env := []
theorem g_e : EnvOk Try.prog G_e := env_nil
theorem r_e (x) : runFn T G_e [] Try.f96 C_e.ps C_e.rs x = C_e.F x := by kernel_rfl
theorem s_e : CallsOk Try.prog 96 C_e := fnC (L := []) hT g_e Try.f96 okP r_e
/-! spec.l1Has -/
abbrev P_f : List PK := [.val Y47, .val YI]
abbrev R_f : List VK := [.s (.dat .bool)]
abbrev i_f_2 : Shp := { slots := [(0, .s (.dat Y47)), (1, .s (.dat YI)), (5, .s (.dat YI))], boxes := [], rows := [] }
abbrev o_f_2 : List (Ex × Shp) := [(.exit 0, { slots := [], boxes := [], rows := [] }), (.ret, { slots := [(4, .s (.dat .bool))], boxes := [], rows := [] })]
def l_f_2 (rec : i_f_2.den → Option (denO o_f_2)) (u2 : i_f_2.den) : Option (denO o_f_2) :=
 let v2 := ((u2.1.1.length : Nat) : Int)
 if (ltI u2.1.2.2.1 v2) then
  if 0 ≤ u2.1.2.2.1 then
   ((u2.1.1)[(u2.1.2.2.1).toNat]?).bind fun y3 =>
   if (y3 == u2.1.2.1) then
    some (.inr (.inl ((true, ()), ((), ()))))
   else
    let v4 := (IntKind.i64.wrap (u2.1.2.2.1 + (1 : Int)))
    rec ((u2.1.1, (u2.1.2.1, (v4, ()))), ((), ()))
  else none
 else
  some (.inl ((), ((), ())))
def L_f_2 (x : i_f_2.den) : Option (denO o_f_2) := iterF l_f_2 lots x
def F_f (x : denP P_f) : Option (denV R_f × denQ P_f) :=
 (L_f_2 ((x.1, (x.2.1, ((0 : Int), ()))), ((), ()))).bind fun z5 =>
 match z5 with
 | .inl x6 =>
  some ((false, ()), ())
 | .inr z5_ =>
  match z5_ with
  | .inl x7 =>
   some ((x7.1.1, ()), ())
  | .inr z5__ =>
   none
abbrev C_f : Con := ⟨P_f, R_f, F_f, false⟩
abbrev G_f : Env := []
theorem g_f : EnvOk Try.prog G_f := env_nil
abbrev c_f_2 : Cut := ⟨i_f_2, o_f_2, fun x => iterF l_f_2 lots x⟩
theorem t_f_2 (rec x) : run T G_f [] (nav Try.f39 [1, 0, 1, 0, 0]) (mk 18 i_f_2 x) (loopK i_f_2 o_f_2 rec) = l_f_2 rec x := by kernel_rfl
theorem k_f_2 : CutOk Try.prog 18 (.loop (nav Try.f39 [1, 0, 1, 0, 0])) c_f_2 :=
  loop_cut (L := []) hT g_f t_f_2 okP _
theorem r_f (x) : runFn T G_f [(2, c_f_2)] Try.f39 C_f.ps C_f.rs x = C_f.F x := by kernel_rfl
theorem s_f : CallsOk Try.prog 39 C_f := fnC (L := [(2, c_f_2)]) hT g_f Try.f39 (okS okP (okS (okS okP (okB (okU k_f_2))) okP)) r_f
/-! spec.l6Owns -/
abbrev P_g : List PK := [.ptr Y28]
abbrev R_g : List VK := [.s (.dat YI)]
abbrev i_g_18 : Shp := { slots := [(0, .s (.pd Y28)), (5, .s (.own 2 YI)), (6, .s (.dat YI)), (7, .s (.dat YI))], boxes := [], rows := [] }
abbrev o_g_18 : List (Ex × Shp) := [(.exit 6, { slots := [(0, .s (.pd Y28)), (5, .s (.own 2 YI)), (6, .s (.dat YI))], boxes := [], rows := [] }), (.ret, { slots := [(2, .s (.dat YI))], boxes := [], rows := [] })]
def l_g_18 (rec : i_g_18.den → Option (denO o_g_18)) (u18 : i_g_18.den) : Option (denO o_g_18) :=
 if 0 ≤ u18.1.2.2.1 then
  ((u18.1.1.1)[(u18.1.2.2.1).toNat]?).bind fun y49 =>
  let v50 := ((y49.length : Nat) : Int)
  if (ltI u18.1.2.2.2.1 v50) then
   if 0 ≤ u18.1.2.2.1 then
    ((u18.1.1.1)[(u18.1.2.2.1).toNat]?).bind fun y51 =>
    if 0 ≤ u18.1.2.2.2.1 then
     ((y51)[(u18.1.2.2.2.1).toNat]?).bind fun y52 =>
     (F_f (u18.1.2.1, y52, ())).bind fun r53 =>
     if r53.1.1 then
      some (.inr (.inl (((6 : Int), ()), ((), ()))))
     else
      if 0 ≤ u18.1.2.2.1 then
       ((u18.1.1.1)[(u18.1.2.2.1).toNat]?).bind fun y54 =>
       if 0 ≤ u18.1.2.2.2.1 then
        ((y54)[(u18.1.2.2.2.1).toNat]?).bind fun y55 =>
        if (u18.1.2.1.length + [y55].length) * 8 ≤ 140737488355328 then
         let v56 := (u18.1.2.1 ++ [y55])
         let v57 := (IntKind.i64.wrap (u18.1.2.2.2.1 + (1 : Int)))
         rec ((u18.1.1, (v56, (u18.1.2.2.1, (v57, ())))), ((), ()))
        else none
       else none
      else none
    else none
   else none
  else
   some (.inl ((u18.1.1, (u18.1.2.1, (u18.1.2.2.1, ()))), ((), ())))
 else none
def L_g_18 (x : i_g_18.den) : Option (denO o_g_18) := iterF l_g_18 lots x
abbrev i_g_9 : Shp := { slots := [(0, .s (.pd Y28)), (3, .s (.dat YI)), (4, .s (.dat YI)), (41, .s (.pd Y28)), (42, .s (.pd Y28)), (43, .s (.pd Y24)), (44, .s (.dat Y24)), (45, .s (.dat YI)), (46, .s (.pd Y47)), (47, .s (.dat Y47)), (48, .s (.dat YI)), (49, .s (.dat .bool))], boxes := [], rows := [] }
abbrev o_g_9 : List (Ex × Shp) := [(.exit 2, { slots := [(0, .s (.pd Y28)), (3, .s (.dat YI)), (41, .s (.pd Y28)), (42, .s (.pd Y28)), (43, .s (.pd Y24)), (44, .s (.dat Y24)), (45, .s (.dat YI)), (46, .s (.pd Y47)), (47, .s (.dat Y47)), (48, .s (.dat YI)), (49, .s (.dat .bool))], boxes := [], rows := [] }), (.ret, { slots := [(2, .s (.dat YI))], boxes := [], rows := [] })]
def l_g_9 (rec : i_g_9.den → Option (denO o_g_9)) (u9 : i_g_9.den) : Option (denO o_g_9) :=
 if 0 ≤ u9.1.2.1 then
  ((u9.1.1.1)[(u9.1.2.1).toNat]?).bind fun y21 =>
  let v22 := ((y21.length : Nat) : Int)
  if (ltI u9.1.2.2.1 v22) then
   if 0 ≤ u9.1.2.1 then
    ((u9.1.1.1)[(u9.1.2.1).toNat]?).bind fun y23 =>
    if 0 ≤ u9.1.2.2.1 then
     ((y23)[(u9.1.2.2.1).toNat]?).bind fun y24 =>
     (F_e (y24, (0 : Int), (23 : Int), ())).bind fun r25 =>
     if (!r25.1.1) then
      some (.inr (.inl (((3 : Int), ()), ((), ()))))
     else
      let v26 := (IntKind.i64.wrap (u9.1.2.2.1 + (1 : Int)))
      rec ((u9.1.1, (u9.1.2.1, (v26, (u9.1.2.2.2.1, (u9.1.2.2.2.2.1, (u9.1.2.2.2.2.2.1, (u9.1.2.2.2.2.2.2.1, (u9.1.2.2.2.2.2.2.2.1, (u9.1.2.2.2.2.2.2.2.2.1, (u9.1.2.2.2.2.2.2.2.2.2.1, (u9.1.2.2.2.2.2.2.2.2.2.2.1, (u9.1.2.2.2.2.2.2.2.2.2.2.2.1, ())))))))))))), ((), ()))
    else none
   else none
  else
   some (.inl ((u9.1.1, (u9.1.2.1, (u9.1.2.2.2.1, (u9.1.2.2.2.2.1, (u9.1.2.2.2.2.2.1, (u9.1.2.2.2.2.2.2.1, (u9.1.2.2.2.2.2.2.2.1, (u9.1.2.2.2.2.2.2.2.2.1, (u9.1.2.2.2.2.2.2.2.2.2.1, (u9.1.2.2.2.2.2.2.2.2.2.2.1, (u9.1.2.2.2.2.2.2.2.2.2.2.2.1, ()))))))))))), ((), ())))
 else none
def L_g_9 (x : i_g_9.den) : Option (denO o_g_9) := iterF l_g_9 lots x
abbrev i_g_15 : Shp := { slots := [(0, .s (.pd Y28)), (5, .s (.own 2 YI)), (6, .s (.dat YI))], boxes := [], rows := [] }
abbrev o_g_15 : List (Ex × Shp) := [(.exit 4, { slots := [], boxes := [], rows := [] }), (.ret, { slots := [(2, .s (.dat YI))], boxes := [], rows := [] })]
def l_g_15 (rec : i_g_15.den → Option (denO o_g_15)) (u15 : i_g_15.den) : Option (denO o_g_15) :=
 let v42 := ((u15.1.1.1.length : Nat) : Int)
 if (ltI u15.1.2.2.1 v42) then
  (L_g_18 ((u15.1.1, (u15.1.2.1, (u15.1.2.2.1, ((0 : Int), ())))), ((), ()))).bind fun z58 =>
  match z58 with
  | .inl x59 =>
   let v60 := (IntKind.i64.wrap (x59.1.2.2.1 + (1 : Int)))
   rec ((x59.1.1, (x59.1.2.1, (v60, ()))), ((), ()))
  | .inr z58_ =>
   match z58_ with
   | .inl x61 =>
    some (.inr (.inl ((x61.1.1, ()), ((), ()))))
   | .inr z58__ =>
    none
 else
  some (.inl ((), ((), ())))
def L_g_15 (x : i_g_15.den) : Option (denO o_g_15) := iterF l_g_15 lots x
abbrev i_g_4 : Shp := { slots := [(0, .s (.pd Y28)), (3, .s (.dat YI))], boxes := [], rows := [] }
abbrev o_g_4 : List (Ex × Shp) := [(.exit 0, { slots := [(0, .s (.pd Y28))], boxes := [], rows := [] }), (.ret, { slots := [(2, .s (.dat YI))], boxes := [], rows := [] })]
def l_g_4 (rec : i_g_4.den → Option (denO o_g_4)) (u4 : i_g_4.den) : Option (denO o_g_4) :=
 let v12 := ((u4.1.1.1.length : Nat) : Int)
 if (ltI u4.1.2.1 v12) then
  if 0 ≤ u4.1.2.1 then
   ((u4.1.1.1)[(u4.1.2.1).toNat]?).bind fun y13 =>
   let v14 := ((y13.length : Nat) : Int)
   if (ltI v14 (1 : Int)) = false then
    if 0 ≤ u4.1.2.1 then
     ((u4.1.1.1)[(u4.1.2.1).toNat]?).bind fun y15 =>
     let v16 := ((y15.length : Nat) : Int)
     if (ltI (5 : Int) v16) then
      some (.inr (.inl (((2 : Int), ()), ((), ()))))
     else
      (L_g_9 ((u4.1.1, (u4.1.2.1, ((0 : Int), (u4.1.1, (u4.1.1, (u4.1.1.1, (u4.1.1.1, (u4.1.2.1, (y15, (y15, (v16, ((ltI (5 : Int) v16), ())))))))))))), ((), ()))).bind fun z27 =>
      match z27 with
      | .inl x28 =>
       let v29 := (IntKind.i64.wrap (x28.1.2.1 + (1 : Int)))
       rec ((x28.1.1, (v29, ())), ((), ()))
      | .inr z27_ =>
       match z27_ with
       | .inl x30 =>
        some (.inr (.inl ((x30.1.1, ()), ((), ()))))
       | .inr z27__ =>
        none
    else none
   else
    some (.inr (.inl (((2 : Int), ()), ((), ()))))
  else none
 else
  some (.inl ((u4.1.1, ()), ((), ())))
def L_g_4 (x : i_g_4.den) : Option (denO o_g_4) := iterF l_g_4 lots x
def F_g (x : denP P_g) : Option (denV R_g × denQ P_g) :=
 let v1 := ((x.1.1.length : Nat) : Int)
 if (ltI v1 (1 : Int)) = false then
  let v2 := ((x.1.1.length : Nat) : Int)
  if (ltI (3 : Int) v2) then
   some (((2 : Int), ()), ())
  else
   (L_g_4 ((x.1, ((0 : Int), ())), ((), ()))).bind fun z31 =>
   match z31 with
   | .inl x32 =>
    (L_g_15 ((x32.1.1, (([] : List (den YI)), ((0 : Int), ()))), ((), ()))).bind fun z62 =>
    match z62 with
    | .inl x63 =>
     some (((0 : Int), ()), ())
    | .inr z62_ =>
     match z62_ with
     | .inl x64 =>
      some ((x64.1.1, ()), ())
     | .inr z62__ =>
      none
   | .inr z31_ =>
    match z31_ with
    | .inl x65 =>
     some ((x65.1.1, ()), ())
    | .inr z31__ =>
     none
 else
  some (((2 : Int), ()), ())
abbrev C_g : Con := ⟨P_g, R_g, F_g, false⟩
abbrev G_g : Env := [(39, C_f), (96, C_e)]
theorem g_g : EnvOk Try.prog G_g := (env_cons s_f (env_cons s_e env_nil))
abbrev c_g_18 : Cut := ⟨i_g_18, o_g_18, fun x => iterF l_g_18 lots x⟩
theorem t_g_18 (rec x) : run T G_g [] (nav Try.f93 [1, 1, 1, 1, 0, 1, 0, 0, 1, 0, 0, 1, 0, 0]) (mk 122 i_g_18 x) (loopK i_g_18 o_g_18 rec) = l_g_18 rec x := by kernel_rfl
theorem k_g_18 : CutOk Try.prog 122 (.loop (nav Try.f93 [1, 1, 1, 1, 0, 1, 0, 0, 1, 0, 0, 1, 0, 0])) c_g_18 :=
  loop_cut (L := []) hT g_g t_g_18 okP _
abbrev c_g_9 : Cut := ⟨i_g_9, o_g_9, fun x => iterF l_g_9 lots x⟩
theorem t_g_9 (rec x) : run T G_g [] (nav Try.f93 [1, 1, 0, 1, 0, 0, 1, 0, 0, 1, 1, 0, 0]) (mk 122 i_g_9 x) (loopK i_g_9 o_g_9 rec) = l_g_9 rec x := by kernel_rfl
theorem k_g_9 : CutOk Try.prog 122 (.loop (nav Try.f93 [1, 1, 0, 1, 0, 0, 1, 0, 0, 1, 1, 0, 0])) c_g_9 :=
  loop_cut (L := []) hT g_g t_g_9 okP _
abbrev c_g_15 : Cut := ⟨i_g_15, o_g_15, fun x => iterF l_g_15 lots x⟩
theorem t_g_15 (rec x) : run T G_g [(18, c_g_18)] (nav Try.f93 [1, 1, 1, 1, 0, 1, 0, 0]) (mk 122 i_g_15 x) (loopK i_g_15 o_g_15 rec) = l_g_15 rec x := by kernel_rfl
theorem k_g_15 : CutOk Try.prog 122 (.loop (nav Try.f93 [1, 1, 1, 1, 0, 1, 0, 0])) c_g_15 :=
  loop_cut (L := [(18, c_g_18)]) hT g_g t_g_15 (okS okP (okS (okB (okS okP (okB (okU k_g_18)))) okP)) _
abbrev c_g_4 : Cut := ⟨i_g_4, o_g_4, fun x => iterF l_g_4 lots x⟩
theorem t_g_4 (rec x) : run T G_g [(9, c_g_9)] (nav Try.f93 [1, 1, 0, 1, 0, 0]) (mk 122 i_g_4 x) (loopK i_g_4 o_g_4 rec) = l_g_4 rec x := by kernel_rfl
theorem k_g_4 : CutOk Try.prog 122 (.loop (nav Try.f93 [1, 1, 0, 1, 0, 0])) c_g_4 :=
  loop_cut (L := [(9, c_g_9)]) hT g_g t_g_4 (okS okP (okS (okB (okS okP (okS okP (okB (okU k_g_9))))) okP)) _
theorem r_g (x) : runFn T G_g [(18, c_g_18), (9, c_g_9), (15, c_g_15), (4, c_g_4)] Try.f93 C_g.ps C_g.rs x = C_g.F x := by kernel_rfl
theorem s_g : CallsOk Try.prog 93 C_g := fnC (L := [(18, c_g_18), (9, c_g_9), (15, c_g_15), (4, c_g_4)]) hT g_g Try.f93 (okS okP (okS okP (okS (okS okP (okB (okU k_g_4))) (okS okP (okS (okS okP (okB (okU k_g_15))) okP))))) r_g
/-! spec.l6Guest -/
abbrev P_h : List PK := [.ptr Y28, .val YI]
abbrev R_h : List VK := [.s (.dat .bool)]
def F_h (x : denP P_h) : Option (denV R_h × denQ P_h) :=
 let v1 := ((x.1.1.length : Nat) : Int)
 let v2 := (IntKind.i64.wrap (v1 - (1 : Int)))
 (F_e (x.2.1, (0 : Int), v2, ())).bind fun r3 =>
 some ((r3.1.1, ()), ())
abbrev C_h : Con := ⟨P_h, R_h, F_h, false⟩
abbrev G_h : Env := [(96, C_e)]
theorem g_h : EnvOk Try.prog G_h := (env_cons s_e env_nil)
theorem r_h (x) : runFn T G_h [] Try.f69 C_h.ps C_h.rs x = C_h.F x := by kernel_rfl
theorem s_h : CallsOk Try.prog 69 C_h := fnC (L := []) hT g_h Try.f69 okP r_h
/-! spec.l6Ends -/
abbrev P_i : List PK := [.ptr Y28, .val YI, .val YI]
abbrev R_i : List VK := [.s (.dat YI)]
def F_i (x : denP P_i) : Option (denV R_i × denQ P_i) :=
 (F_h (x.1, x.2.1, ())).bind fun r1 =>
 if (!r1.1.1) = false then
  (F_h (x.1, x.2.2.1, ())).bind fun r2 =>
  if (!r2.1.1) then
   some (((4 : Int), ()), ())
  else
   if (x.2.1 == x.2.2.1) then
    some (((1 : Int), ()), ())
   else
    some (((0 : Int), ()), ())
 else
  some (((4 : Int), ()), ())
abbrev C_i : Con := ⟨P_i, R_i, F_i, false⟩
abbrev G_i : Env := [(69, C_h)]
theorem g_i : EnvOk Try.prog G_i := (env_cons s_h env_nil)
theorem r_i (x) : runFn T G_i [] Try.f117 C_i.ps C_i.rs x = C_i.F x := by kernel_rfl
theorem s_i : CallsOk Try.prog 117 C_i := fnC (L := []) hT g_i Try.f117 okP r_i
/-! spec.l6Owner -/
abbrev P_j : List PK := [.ptr Y28, .val YI]
abbrev R_j : List VK := [.s (.dat YI)]
abbrev i_j_2 : Shp := { slots := [(0, .s (.pd Y28)), (1, .s (.dat YI)), (5, .s (.dat YI))], boxes := [], rows := [] }
abbrev o_j_2 : List (Ex × Shp) := [(.exit 0, { slots := [], boxes := [], rows := [] }), (.ret, { slots := [(4, .s (.dat YI))], boxes := [], rows := [] })]
def l_j_2 (rec : i_j_2.den → Option (denO o_j_2)) (u2 : i_j_2.den) : Option (denO o_j_2) :=
 let v3 := ((u2.1.1.1.length : Nat) : Int)
 if (ltI u2.1.2.2.1 v3) then
  if 0 ≤ u2.1.2.2.1 then
   ((u2.1.1.1)[(u2.1.2.2.1).toNat]?).bind fun y4 =>
   (F_f (y4, u2.1.2.1, ())).bind fun r5 =>
   if r5.1.1 then
    some (.inr (.inl ((u2.1.2.2.1, ()), ((), ()))))
   else
    let v6 := (IntKind.i64.wrap (u2.1.2.2.1 + (1 : Int)))
    rec ((u2.1.1, (u2.1.2.1, (v6, ()))), ((), ()))
  else none
 else
  some (.inl ((), ((), ())))
def L_j_2 (x : i_j_2.den) : Option (denO o_j_2) := iterF l_j_2 lots x
def F_j (x : denP P_j) : Option (denV R_j × denQ P_j) :=
 (L_j_2 ((x.1, (x.2.1, ((0 : Int), ()))), ((), ()))).bind fun z7 =>
 match z7 with
 | .inl x8 =>
  some (((-1 : Int), ()), ())
 | .inr z7_ =>
  match z7_ with
  | .inl x9 =>
   some ((x9.1.1, ()), ())
  | .inr z7__ =>
   none
abbrev C_j : Con := ⟨P_j, R_j, F_j, false⟩
abbrev G_j : Env := [(39, C_f)]
theorem g_j : EnvOk Try.prog G_j := (env_cons s_f env_nil)
abbrev c_j_2 : Cut := ⟨i_j_2, o_j_2, fun x => iterF l_j_2 lots x⟩
theorem t_j_2 (rec x) : run T G_j [] (nav Try.f118 [1, 0, 1, 0, 0]) (mk 25 i_j_2 x) (loopK i_j_2 o_j_2 rec) = l_j_2 rec x := by kernel_rfl
theorem k_j_2 : CutOk Try.prog 25 (.loop (nav Try.f118 [1, 0, 1, 0, 0])) c_j_2 :=
  loop_cut (L := []) hT g_j t_j_2 okP _
theorem r_j (x) : runFn T G_j [(2, c_j_2)] Try.f118 C_j.ps C_j.rs x = C_j.F x := by kernel_rfl
theorem s_j : CallsOk Try.prog 118 C_j := fnC (L := [(2, c_j_2)]) hT g_j Try.f118 (okS okP (okS (okS okP (okB (okU k_j_2))) okP)) r_j
/-! spec.l6At -/
abbrev P_k : List PK := [.val Y104, .val YI, .val YI]
abbrev R_k : List VK := [.s (.dat .bool)]
def F_k (x : denP P_k) : Option (denV R_k × denQ P_k) :=
 if (x.1.1 == x.2.1) = true then
  if (x.1.2.2.2.1 == x.2.2.1) = false then
   if (x.1.2.1 == x.2.1) = true then
    some (((x.1.2.2.2.2.1 == x.2.2.1), ()), ())
   else
    some ((false, ()), ())
  else
   some ((true, ()), ())
 else
  if (x.1.2.1 == x.2.1) = true then
   some (((x.1.2.2.2.2.1 == x.2.2.1), ()), ())
  else
   some ((false, ()), ())
abbrev C_k : Con := ⟨P_k, R_k, F_k, false⟩
abbrev G_k : Env := []
theorem g_k : EnvOk Try.prog G_k := env_nil
theorem r_k (x) : runFn T G_k [] Try.f119 C_k.ps C_k.rs x = C_k.F x := by kernel_rfl
theorem s_k : CallsOk Try.prog 119 C_k := fnC (L := []) hT g_k Try.f119 okP r_k
/-! spec.l6Lanes -/
abbrev P_l : List PK := [.ptr Y28]
abbrev R_l : List VK := [.s (.dat YI)]
abbrev i_l_15 : Shp := { slots := [(0, .s (.pd Y28)), (3, .s (.dat YI)), (4, .s (.ptr 4 0)), (6, .s (.dat YI)), (52, .s (.ptr 4 3)), (53, .s (.dat YI)), (54, .s (.dat .bool)), (55, .s (.dat .bool)), (58, .s (.ptr 4 4)), (59, .s (.dat YI)), (60, .s (.dat .bool)), (61, .s (.dat .bool))], boxes := [(4, [.dat YI, .dat YI, .dat YI, .dat YI, .dat YI])], rows := [] }
abbrev o_l_15 : List (Ex × Shp) := [(.exit 2, { slots := [(0, .s (.pd Y28)), (3, .s (.dat YI)), (52, .s (.ptr 4 3)), (53, .s (.dat YI)), (54, .s (.dat .bool)), (55, .s (.dat .bool)), (58, .s (.ptr 4 4)), (59, .s (.dat YI)), (60, .s (.dat .bool)), (61, .s (.dat .bool))], boxes := [(4, [.dat YI, .dat YI, .dat YI, .dat YI, .dat YI])], rows := [] }), (.ret, { slots := [(2, .s (.dat YI))], boxes := [], rows := [] })]
def l_l_15 (rec : i_l_15.den → Option (denO o_l_15)) (u15 : i_l_15.den) : Option (denO o_l_15) :=
 if (ltI u15.1.2.2.2.1 u15.1.2.1) then
  if 0 ≤ u15.1.2.2.2.1 then
   ((u15.1.1.2.1)[(u15.1.2.2.2.1).toNat]?).bind fun y25 =>
   if (y25.2.2.1 == u15.2.1.1.2.2.1) = false then
    (F_k (y25, u15.2.1.1.1, u15.2.1.1.2.2.2.1, ())).bind fun r26 =>
    if r26.1.1 = false then
     (F_k (y25, u15.2.1.1.2.1, u15.2.1.1.2.2.2.2.1, ())).bind fun r27 =>
     if r27.1.1 then
      some (.inr (.inl (((6 : Int), ()), ((), ()))))
     else
      let v28 := (IntKind.i64.wrap (u15.1.2.2.2.1 + (1 : Int)))
      rec ((u15.1.1, (u15.1.2.1, ((), (v28, ((), (u15.1.2.2.2.2.2.1, (u15.1.2.2.2.2.2.2.1, (u15.1.2.2.2.2.2.2.2.1, ((), (u15.1.2.2.2.2.2.2.2.2.2.1, (u15.1.2.2.2.2.2.2.2.2.2.2.1, (u15.1.2.2.2.2.2.2.2.2.2.2.2.1, ())))))))))))), ((u15.2.1.1, ()), ()))
    else
     some (.inr (.inl (((6 : Int), ()), ((), ()))))
   else
    some (.inr (.inl (((6 : Int), ()), ((), ()))))
  else none
 else
  some (.inl ((u15.1.1, (u15.1.2.1, ((), (u15.1.2.2.2.2.2.1, (u15.1.2.2.2.2.2.2.1, (u15.1.2.2.2.2.2.2.2.1, ((), (u15.1.2.2.2.2.2.2.2.2.2.1, (u15.1.2.2.2.2.2.2.2.2.2.2.1, (u15.1.2.2.2.2.2.2.2.2.2.2.2.1, ())))))))))), ((u15.2.1.1, ()), ())))
def L_l_15 (x : i_l_15.den) : Option (denO o_l_15) := iterF l_l_15 lots x
abbrev i_l_4 : Shp := { slots := [(0, .s (.pd Y28)), (3, .s (.dat YI))], boxes := [], rows := [] }
abbrev o_l_4 : List (Ex × Shp) := [(.exit 0, { slots := [], boxes := [], rows := [] }), (.ret, { slots := [(2, .s (.dat YI))], boxes := [], rows := [] })]
def l_l_4 (rec : i_l_4.den → Option (denO o_l_4)) (u4 : i_l_4.den) : Option (denO o_l_4) :=
 let v15 := ((u4.1.1.2.1.length : Nat) : Int)
 if (ltI u4.1.2.1 v15) then
  if 0 ≤ u4.1.2.1 then
   ((u4.1.1.2.1)[(u4.1.2.1).toNat]?).bind fun y16 =>
   (F_i (u4.1.1, y16.1, y16.2.1, ())).bind fun r17 =>
   if (r17.1.1 != (0 : Int)) then
    some (.inr (.inl ((r17.1.1, ()), ((), ()))))
   else
    (F_e (y16.2.2.1, (0 : Int), (23 : Int), ())).bind fun r18 =>
    if (!r18.1.1) = false then
     (F_e (y16.2.2.2.1, (5 : Int), (6 : Int), ())).bind fun r19 =>
     if (!r19.1.1) = false then
      (F_e (y16.2.2.2.2.1, (5 : Int), (6 : Int), ())).bind fun r20 =>
      if (!r20.1.1) then
       some (.inr (.inl (((3 : Int), ()), ((), ()))))
      else
       (F_j (u4.1.1, y16.2.2.1, ())).bind fun r21 =>
       if (leI (0 : Int) r21.1.1) then
        some (.inr (.inl (((6 : Int), ()), ((), ()))))
       else
        (L_l_15 ((u4.1.1, (u4.1.2.1, ((), ((0 : Int), ((), (y16.2.2.2.1, (r19.1.1, ((!r19.1.1), ((), (y16.2.2.2.2.1, (r20.1.1, ((!r20.1.1), ())))))))))))), (((y16.1, (y16.2.1, (y16.2.2.1, (y16.2.2.2.1, (y16.2.2.2.2.1, ()))))), ()), ()))).bind fun z29 =>
        match z29 with
        | .inl x30 =>
         let v31 := (IntKind.i64.wrap (x30.1.2.1 + (1 : Int)))
         rec ((x30.1.1, (v31, ())), ((), ()))
        | .inr z29_ =>
         match z29_ with
         | .inl x32 =>
          some (.inr (.inl ((x32.1.1, ()), ((), ()))))
         | .inr z29__ =>
          none
     else
      some (.inr (.inl (((3 : Int), ()), ((), ()))))
    else
     some (.inr (.inl (((3 : Int), ()), ((), ()))))
  else none
 else
  some (.inl ((), ((), ())))
def L_l_4 (x : i_l_4.den) : Option (denO o_l_4) := iterF l_l_4 lots x
def F_l (x : denP P_l) : Option (denV R_l × denQ P_l) :=
 let v1 := ((x.1.2.1.length : Nat) : Int)
 if (ltI (4 : Int) v1) = false then
  let v2 := ((x.1.2.2.1.length : Nat) : Int)
  if (ltI (4 : Int) v2) then
   some (((2 : Int), ()), ())
  else
   (L_l_4 ((x.1, ((0 : Int), ())), ((), ()))).bind fun z33 =>
   match z33 with
   | .inl x34 =>
    some (((0 : Int), ()), ())
   | .inr z33_ =>
    match z33_ with
    | .inl x35 =>
     some ((x35.1.1, ()), ())
    | .inr z33__ =>
     none
 else
  some (((2 : Int), ()), ())
abbrev C_l : Con := ⟨P_l, R_l, F_l, false⟩
abbrev G_l : Env := [(96, C_e), (117, C_i), (118, C_j), (119, C_k)]
theorem g_l : EnvOk Try.prog G_l := (env_cons s_e (env_cons s_i (env_cons s_j (env_cons s_k env_nil))))
abbrev c_l_15 : Cut := ⟨i_l_15, o_l_15, fun x => iterF l_l_15 lots x⟩
theorem t_l_15 (rec x) : run T G_l [] (nav Try.f94 [1, 1, 0, 1, 0, 0, 1, 0, 0, 1, 1, 1, 1, 1, 0, 0]) (mk 101 i_l_15 x) (loopK i_l_15 o_l_15 rec) = l_l_15 rec x := by kernel_rfl
theorem k_l_15 : CutOk Try.prog 101 (.loop (nav Try.f94 [1, 1, 0, 1, 0, 0, 1, 0, 0, 1, 1, 1, 1, 1, 0, 0])) c_l_15 :=
  loop_cut (L := []) hT g_l t_l_15 okP _
abbrev c_l_4 : Cut := ⟨i_l_4, o_l_4, fun x => iterF l_l_4 lots x⟩
theorem t_l_4 (rec x) : run T G_l [(15, c_l_15)] (nav Try.f94 [1, 1, 0, 1, 0, 0]) (mk 101 i_l_4 x) (loopK i_l_4 o_l_4 rec) = l_l_4 rec x := by kernel_rfl
theorem k_l_4 : CutOk Try.prog 101 (.loop (nav Try.f94 [1, 1, 0, 1, 0, 0])) c_l_4 :=
  loop_cut (L := [(15, c_l_15)]) hT g_l t_l_4 (okS okP (okS (okB (okS okP (okS okP (okS okP (okS okP (okS okP (okB (okU k_l_15)))))))) okP)) _
theorem r_l (x) : runFn T G_l [(15, c_l_15), (4, c_l_4)] Try.f94 C_l.ps C_l.rs x = C_l.F x := by kernel_rfl
theorem s_l : CallsOk Try.prog 94 C_l := fnC (L := [(15, c_l_15), (4, c_l_4)]) hT g_l Try.f94 (okS okP (okS okP (okS (okS okP (okB (okU k_l_4))) okP))) r_l
/-! spec.l6Policy -/
abbrev P_m : List PK := [.box [.dat Y22, .dat YI] [.dat Y22, .dat YI]]
abbrev R_m : List VK := [.g [.own 1000003000047 Y47, .own 105 Y104, .own 108 Y32, .own 37 Y32]]
abbrev i_m_8 : Shp := { slots := [(0, .s (.ptr 9000000 0)), (2, .s (.ptr 2 0)), (3, .s (.ptr 3 0)), (4, .s (.dat YI)), (5, .s (.dat YI)), (6, .s (.own 2 YI)), (7, .s (.dat YI))], boxes := [(2, [.own 3000047 Y47, .own 105 Y104, .own 108 Y32, .own 37 Y32]), (3, [.own 3000047 Y47, .own 105 Y104, .own 108 Y32, .own 37 Y32]), (9000000, [.dat Y22, .dat YI])], rows := [] }
abbrev o_m_8 : List (Ex × Shp) := [(.exit 2, { slots := [(0, .s (.ptr 9000000 0)), (2, .s (.ptr 2 0)), (3, .s (.ptr 3 0)), (4, .s (.dat YI)), (5, .s (.dat YI)), (6, .s (.own 2 YI))], boxes := [(2, [.own 3000047 Y47, .own 105 Y104, .own 108 Y32, .own 37 Y32]), (3, [.own 3000047 Y47, .own 105 Y104, .own 108 Y32, .own 37 Y32]), (9000000, [.dat Y22, .dat YI])], rows := [] })]
def l_m_8 (rec : i_m_8.den → Option (denO o_m_8)) (u8 : i_m_8.den) : Option (denO o_m_8) :=
 if (ltI (0 : Int) u8.1.2.2.2.2.2.2.1) then
  if (u8.1.2.2.2.2.2.1.length + [u8.1.2.2.2.1].length) * 8 ≤ 140737488355328 then
   let v8 := (u8.1.2.2.2.2.2.1 ++ [u8.1.2.2.2.1])
   let v9 := (IntKind.i64.wrap (u8.1.2.2.2.1 + (1 : Int)))
   let v10 := (IntKind.i64.wrap (u8.1.2.2.2.2.2.2.1 - (1 : Int)))
   rec (((), ((), ((), (v9, (u8.1.2.2.2.2.1, (v8, (v10, ()))))))), ((u8.2.1.1, (u8.2.1.2.1, (u8.2.1.2.2.1, ()))), ()))
  else none
 else
  some (.inl (((), ((), ((), (u8.1.2.2.2.1, (u8.1.2.2.2.2.1, (u8.1.2.2.2.2.2.1, ())))))), ((u8.2.1.1, (u8.2.1.2.1, (u8.2.1.2.2.1, ()))), ())))
def L_m_8 (x : i_m_8.den) : Option (denO o_m_8) := iterF l_m_8 lots x
abbrev i_m_29 : Shp := { slots := [(0, .s (.ptr 9000000 0)), (2, .s (.ptr 2 0)), (3, .s (.ptr 3 0)), (8, .s (.dat YI)), (13, .s (.dat YI))], boxes := [(2, [.own 3000047 Y47, .own 105 Y104, .own 108 Y32, .own 37 Y32]), (3, [.own 3000047 Y47, .own 105 Y104, .own 108 Y32, .own 37 Y32]), (9000000, [.dat Y22, .dat YI])], rows := [] }
abbrev o_m_29 : List (Ex × Shp) := [(.exit 8, { slots := [(2, .s (.ptr 2 0)), (3, .s (.ptr 3 0))], boxes := [(2, [.own 3000047 Y47, .own 105 Y104, .own 108 Y32, .own 37 Y32]), (3, [.own 3000047 Y47, .own 105 Y104, .own 108 Y32, .own 37 Y32]), (9000000, [.dat Y22, .dat YI])], rows := [] })]
def l_m_29 (rec : i_m_29.den → Option (denO o_m_29)) (u29 : i_m_29.den) : Option (denO o_m_29) :=
 if (ltI (0 : Int) u29.1.2.2.2.2.1) then
  (F_c (u29.2.1.2.2.1, u29.1.2.2.2.1, ())).bind fun r57 =>
  (F_c (r57.2.1, (9 : Int), ())).bind fun r58 =>
  let v59 := (IntKind.i64.wrap ((1 : Int) + r58.1.1))
  if (u29.2.1.2.1.2.2.2.1.length + [(r57.1.1, (v59, ()))].length) * 16 ≤ 140737488355328 then
   let v60 := (u29.2.1.2.1.2.2.2.1 ++ [(r57.1.1, (v59, ()))])
   let v61 := (IntKind.i64.wrap (u29.1.2.2.2.2.1 - (1 : Int)))
   rec (((), ((), ((), (u29.1.2.2.2.1, (v61, ()))))), ((u29.2.1.1, ((u29.2.1.2.1.1, (u29.2.1.2.1.2.1, (u29.2.1.2.1.2.2.1, (v60, ())))), (r58.2.1, ()))), ()))
  else none
 else
  some (.inl (((), ((), ())), ((u29.2.1.1, (u29.2.1.2.1, (u29.2.1.2.2.1, ()))), ())))
def L_m_29 (x : i_m_29.den) : Option (denO o_m_29) := iterF l_m_29 lots x
abbrev i_m_23 : Shp := { slots := [(0, .s (.ptr 9000000 0)), (2, .s (.ptr 2 0)), (3, .s (.ptr 3 0)), (8, .s (.dat YI)), (11, .s (.dat YI))], boxes := [(2, [.own 3000047 Y47, .own 105 Y104, .own 108 Y32, .own 37 Y32]), (3, [.own 3000047 Y47, .own 105 Y104, .own 108 Y32, .own 37 Y32]), (9000000, [.dat Y22, .dat YI])], rows := [] }
abbrev o_m_23 : List (Ex × Shp) := [(.exit 6, { slots := [(0, .s (.ptr 9000000 0)), (2, .s (.ptr 2 0)), (3, .s (.ptr 3 0)), (8, .s (.dat YI))], boxes := [(2, [.own 3000047 Y47, .own 105 Y104, .own 108 Y32, .own 37 Y32]), (3, [.own 3000047 Y47, .own 105 Y104, .own 108 Y32, .own 37 Y32]), (9000000, [.dat Y22, .dat YI])], rows := [] })]
def l_m_23 (rec : i_m_23.den → Option (denO o_m_23)) (u23 : i_m_23.den) : Option (denO o_m_23) :=
 if (ltI (0 : Int) u23.1.2.2.2.2.1) then
  (F_c (u23.2.1.2.2.1, u23.1.2.2.2.1, ())).bind fun r44 =>
  (F_c (r44.2.1, u23.1.2.2.2.1, ())).bind fun r45 =>
  if (r44.1.1 != r45.1.1) = true then
   let v46 := ((u23.2.1.2.1.2.2.1.length : Nat) : Int)
   if (ltI v46 (1 : Int)) then
    if (u23.2.1.2.1.2.2.1.length + [(r44.1.1, (r45.1.1, ()))].length) * 16 ≤ 140737488355328 then
     let v47 := (u23.2.1.2.1.2.2.1 ++ [(r44.1.1, (r45.1.1, ()))])
     let v48 := (IntKind.i64.wrap (u23.1.2.2.2.2.1 - (1 : Int)))
     rec (((), ((), ((), (u23.1.2.2.2.1, (v48, ()))))), ((u23.2.1.1, ((u23.2.1.2.1.1, (u23.2.1.2.1.2.1, (v47, (u23.2.1.2.1.2.2.2.1, ())))), (r45.2.1, ()))), ()))
    else none
   else
    let v49 := (IntKind.i64.wrap (u23.1.2.2.2.2.1 - (1 : Int)))
    rec (((), ((), ((), (u23.1.2.2.2.1, (v49, ()))))), ((u23.2.1.1, (u23.2.1.2.1, (r45.2.1, ()))), ()))
  else
   let v50 := (IntKind.i64.wrap (u23.1.2.2.2.2.1 - (1 : Int)))
   rec (((), ((), ((), (u23.1.2.2.2.1, (v50, ()))))), ((u23.2.1.1, (u23.2.1.2.1, (r45.2.1, ()))), ()))
 else
  some (.inl (((), ((), ((), (u23.1.2.2.2.1, ())))), ((u23.2.1.1, (u23.2.1.2.1, (u23.2.1.2.2.1, ()))), ())))
def L_m_23 (x : i_m_23.den) : Option (denO o_m_23) := iterF l_m_23 lots x
abbrev i_m_15 : Shp := { slots := [(0, .s (.ptr 9000000 0)), (2, .s (.ptr 2 0)), (3, .s (.ptr 3 0)), (4, .s (.dat YI)), (8, .s (.dat YI)), (9, .s (.dat YI))], boxes := [(2, [.own 3000047 Y47, .own 105 Y104, .own 108 Y32, .own 37 Y32]), (3, [.own 3000047 Y47, .own 105 Y104, .own 108 Y32, .own 37 Y32]), (9000000, [.dat Y22, .dat YI])], rows := [] }
abbrev o_m_15 : List (Ex × Shp) := [(.exit 4, { slots := [(0, .s (.ptr 9000000 0)), (2, .s (.ptr 2 0)), (3, .s (.ptr 3 0)), (8, .s (.dat YI))], boxes := [(2, [.own 3000047 Y47, .own 105 Y104, .own 108 Y32, .own 37 Y32]), (3, [.own 3000047 Y47, .own 105 Y104, .own 108 Y32, .own 37 Y32]), (9000000, [.dat Y22, .dat YI])], rows := [] })]
def l_m_15 (rec : i_m_15.den → Option (denO o_m_15)) (u15 : i_m_15.den) : Option (denO o_m_15) :=
 if (ltI (0 : Int) u15.1.2.2.2.2.2.1) then
  if (([] : List (den Y104)).length + u15.2.1.2.1.2.1.length) * 40 ≤ 140737488355328 then
   let v25 := (([] : List (den Y104)) ++ u15.2.1.2.1.2.1)
   (F_c (u15.2.1.2.2.1, u15.1.2.2.2.2.1, ())).bind fun r26 =>
   (F_c (r26.2.1, u15.1.2.2.2.2.1, ())).bind fun r27 =>
   (F_c (r27.2.1, (2 : Int), ())).bind fun r28 =>
   let v29 := (IntKind.i64.wrap ((5 : Int) + r28.1.1))
   (F_c (r28.2.1, (2 : Int), ())).bind fun r30 =>
   let v31 := (IntKind.i64.wrap ((5 : Int) + r30.1.1))
   if (v25.length + [(r26.1.1, (r27.1.1, (u15.1.2.2.2.1, (v29, (v31, ())))))].length) * 40 ≤ 140737488355328 then
    let v32 := (v25 ++ [(r26.1.1, (r27.1.1, (u15.1.2.2.2.1, (v29, (v31, ())))))])
    (F_g ((u15.2.1.2.1.1, (v32, (u15.2.1.2.1.2.2.1, (u15.2.1.2.1.2.2.2.1, ())))), ())).bind fun r33 =>
    if (r33.1.1 == (0 : Int)) = true then
     (F_l ((u15.2.1.2.1.1, (v32, (u15.2.1.2.1.2.2.1, (u15.2.1.2.1.2.2.2.1, ())))), ())).bind fun r34 =>
     if (r34.1.1 == (0 : Int)) then
      let v35 := (IntKind.i64.wrap (u15.1.2.2.2.1 + (1 : Int)))
      let v36 := (IntKind.i64.wrap (u15.1.2.2.2.2.2.1 - (1 : Int)))
      rec (((), ((), ((), (v35, (u15.1.2.2.2.2.1, (v36, ())))))), ((u15.2.1.1, ((u15.2.1.2.1.1, (v32, (u15.2.1.2.1.2.2.1, (u15.2.1.2.1.2.2.2.1, ())))), (r30.2.1, ()))), ()))
     else
      let v37 := (IntKind.i64.wrap (u15.1.2.2.2.2.2.1 - (1 : Int)))
      rec (((), ((), ((), (u15.1.2.2.2.1, (u15.1.2.2.2.2.1, (v37, ())))))), ((u15.2.1.1, (u15.2.1.2.1, (r30.2.1, ()))), ()))
    else
     let v38 := (IntKind.i64.wrap (u15.1.2.2.2.2.2.1 - (1 : Int)))
     rec (((), ((), ((), (u15.1.2.2.2.1, (u15.1.2.2.2.2.1, (v38, ())))))), ((u15.2.1.1, (u15.2.1.2.1, (r30.2.1, ()))), ()))
   else none
  else none
 else
  some (.inl (((), ((), ((), (u15.1.2.2.2.2.1, ())))), ((u15.2.1.1, (u15.2.1.2.1, (u15.2.1.2.2.1, ()))), ())))
def L_m_15 (x : i_m_15.den) : Option (denO o_m_15) := iterF l_m_15 lots x
abbrev i_m_4 : Shp := { slots := [(0, .s (.ptr 9000000 0)), (2, .s (.ptr 2 0)), (3, .s (.ptr 3 0)), (4, .s (.dat YI)), (5, .s (.dat YI))], boxes := [(2, [.own 3000047 Y47, .own 105 Y104, .own 108 Y32, .own 37 Y32]), (3, [.own 3000047 Y47, .own 105 Y104, .own 108 Y32, .own 37 Y32]), (9000000, [.dat Y22, .dat YI])], rows := [] }
abbrev o_m_4 : List (Ex × Shp) := [(.exit 0, { slots := [(0, .s (.ptr 9000000 0)), (2, .s (.ptr 2 0)), (3, .s (.ptr 3 0)), (4, .s (.dat YI))], boxes := [(2, [.own 3000047 Y47, .own 105 Y104, .own 108 Y32, .own 37 Y32]), (3, [.own 3000047 Y47, .own 105 Y104, .own 108 Y32, .own 37 Y32]), (9000000, [.dat Y22, .dat YI])], rows := [] })]
def l_m_4 (rec : i_m_4.den → Option (denO o_m_4)) (u4 : i_m_4.den) : Option (denO o_m_4) :=
 if (ltI (0 : Int) u4.1.2.2.2.2.1) then
  (F_c (u4.2.1.2.2.1, (3 : Int), ())).bind fun r6 =>
  let v7 := (IntKind.i64.wrap ((1 : Int) + r6.1.1))
  (L_m_8 (((), ((), ((), (u4.1.2.2.2.1, (u4.1.2.2.2.2.1, (([] : List (den YI)), (v7, ()))))))), ((u4.2.1.1, (u4.2.1.2.1, (r6.2.1, ()))), ()))).bind fun z11 =>
  match z11 with
  | .inl x12 =>
   if (x12.2.1.2.1.1.length + [x12.1.2.2.2.2.2.1].length) * 24 ≤ 140737488355328 then
    let v13 := (x12.2.1.2.1.1 ++ [x12.1.2.2.2.2.2.1])
    let v14 := (IntKind.i64.wrap (x12.1.2.2.2.2.1 - (1 : Int)))
    rec (((), ((), ((), (x12.1.2.2.2.1, (v14, ()))))), ((x12.2.1.1, ((v13, (x12.2.1.2.1.2.1, (x12.2.1.2.1.2.2.1, (x12.2.1.2.1.2.2.2.1, ())))), (x12.2.1.2.2.1, ()))), ()))
   else none
  | .inr z11_ =>
   none
 else
  some (.inl (((), ((), ((), (u4.1.2.2.2.1, ())))), ((u4.2.1.1, (u4.2.1.2.1, (u4.2.1.2.2.1, ()))), ())))
def L_m_4 (x : i_m_4.den) : Option (denO o_m_4) := iterF l_m_4 lots x
def F_m (x : denP P_m) : Option (denV R_m × denQ P_m) :=
 (F_c (x.1, (3 : Int), ())).bind fun r1 =>
 (F_d (r1.2.1, [(2 : Int), (3 : Int), (3 : Int), (1 : Int)], ())).bind fun r2 =>
 (L_m_4 (((), ((), ((), (r1.1.1, (r2.1.1, ()))))), (((([] : List (den Y47)), (([] : List (den Y104)), (([] : List (den Y32)), (([] : List (den Y32)), ())))), ((([] : List (den Y47)), (([] : List (den Y104)), (([] : List (den Y32)), (([] : List (den Y32)), ())))), (r2.2.1, ()))), ()))).bind fun z15 =>
 match z15 with
 | .inl x16 =>
  let v17 := ((x16.2.1.2.1.1.length : Nat) : Int)
  (F_c (x16.2.1.2.2.1, (4 : Int), ())).bind fun r18 =>
  (L_m_15 (((), ((), ((), (x16.1.2.2.2.1, (v17, (r18.1.1, ())))))), ((x16.2.1.1, (x16.2.1.2.1, (r18.2.1, ()))), ()))).bind fun z39 =>
  match z39 with
  | .inl x40 =>
   (F_c (x40.2.1.2.2.1, (3 : Int), ())).bind fun r41 =>
   (L_m_23 (((), ((), ((), (x40.1.2.2.2.1, (r41.1.1, ()))))), ((x40.2.1.1, (x40.2.1.2.1, (r41.2.1, ()))), ()))).bind fun z51 =>
   match z51 with
   | .inl x52 =>
    (F_c (x52.2.1.2.2.1, (4 : Int), ())).bind fun r53 =>
    let v54 := (IntKind.i64.wrap ((1 : Int) + r53.1.1))
    (L_m_29 (((), ((), ((), (x52.1.2.2.2.1, (v54, ()))))), ((x52.2.1.1, (x52.2.1.2.1, (r53.2.1, ()))), ()))).bind fun z62 =>
    match z62 with
    | .inl x63 =>
     some ((x63.2.1.2.1, ()), (x63.2.1.2.2.1, ()))
    | .inr z62_ =>
     none
   | .inr z51_ =>
    none
  | .inr z39_ =>
   none
 | .inr z15_ =>
  none
abbrev C_m : Con := ⟨P_m, R_m, F_m, false⟩
abbrev G_m : Env := [(65, C_d), (92, C_c), (93, C_g), (94, C_l)]
theorem g_m : EnvOk Try.prog G_m := (env_cons s_d (env_cons s_c (env_cons s_g (env_cons s_l env_nil))))
abbrev c_m_8 : Cut := ⟨i_m_8, o_m_8, fun x => iterF l_m_8 lots x⟩
theorem t_m_8 (rec x) : run T G_m [] (nav Try.f91 [1, 1, 1, 0, 1, 0, 0, 1, 0, 0, 1, 0, 1, 0, 0]) (mk 134 i_m_8 x) (loopK i_m_8 o_m_8 rec) = l_m_8 rec x := by kernel_rfl
theorem k_m_8 : CutOk Try.prog 134 (.loop (nav Try.f91 [1, 1, 1, 0, 1, 0, 0, 1, 0, 0, 1, 0, 1, 0, 0])) c_m_8 :=
  loop_cut (L := []) hT g_m t_m_8 okP _
abbrev c_m_29 : Cut := ⟨i_m_29, o_m_29, fun x => iterF l_m_29 lots x⟩
theorem t_m_29 (rec x) : run T G_m [] (nav Try.f91 [1, 1, 1, 1, 1, 1, 1, 0, 1, 0, 0]) (mk 134 i_m_29 x) (loopK i_m_29 o_m_29 rec) = l_m_29 rec x := by kernel_rfl
theorem k_m_29 : CutOk Try.prog 134 (.loop (nav Try.f91 [1, 1, 1, 1, 1, 1, 1, 0, 1, 0, 0])) c_m_29 :=
  loop_cut (L := []) hT g_m t_m_29 okP _
abbrev c_m_23 : Cut := ⟨i_m_23, o_m_23, fun x => iterF l_m_23 lots x⟩
theorem t_m_23 (rec x) : run T G_m [] (nav Try.f91 [1, 1, 1, 1, 1, 1, 0, 1, 0, 0]) (mk 134 i_m_23 x) (loopK i_m_23 o_m_23 rec) = l_m_23 rec x := by kernel_rfl
theorem k_m_23 : CutOk Try.prog 134 (.loop (nav Try.f91 [1, 1, 1, 1, 1, 1, 0, 1, 0, 0])) c_m_23 :=
  loop_cut (L := []) hT g_m t_m_23 okP _
abbrev c_m_15 : Cut := ⟨i_m_15, o_m_15, fun x => iterF l_m_15 lots x⟩
theorem t_m_15 (rec x) : run T G_m [] (nav Try.f91 [1, 1, 1, 1, 1, 0, 1, 0, 0]) (mk 134 i_m_15 x) (loopK i_m_15 o_m_15 rec) = l_m_15 rec x := by kernel_rfl
theorem k_m_15 : CutOk Try.prog 134 (.loop (nav Try.f91 [1, 1, 1, 1, 1, 0, 1, 0, 0])) c_m_15 :=
  loop_cut (L := []) hT g_m t_m_15 okP _
abbrev c_m_4 : Cut := ⟨i_m_4, o_m_4, fun x => iterF l_m_4 lots x⟩
theorem t_m_4 (rec x) : run T G_m [(8, c_m_8)] (nav Try.f91 [1, 1, 1, 0, 1, 0, 0]) (mk 134 i_m_4 x) (loopK i_m_4 o_m_4 rec) = l_m_4 rec x := by kernel_rfl
theorem k_m_4 : CutOk Try.prog 134 (.loop (nav Try.f91 [1, 1, 1, 0, 1, 0, 0])) c_m_4 :=
  loop_cut (L := [(8, c_m_8)]) hT g_m t_m_4 (okS okP (okS (okB (okS okP (okS (okS okP (okB (okU k_m_8))) okP))) okP)) _
theorem r_m (x) : runFn T G_m [(8, c_m_8), (29, c_m_29), (23, c_m_23), (15, c_m_15), (4, c_m_4)] Try.f91 C_m.ps C_m.rs x = C_m.F x := by kernel_rfl
theorem s_m : CallsOk Try.prog 91 C_m := fnC (L := [(8, c_m_8), (29, c_m_29), (23, c_m_23), (15, c_m_15), (4, c_m_4)]) hT g_m Try.f91 (okS okP (okS okP (okS okP (okS (okS okP (okB (okU k_m_4))) (okS okP (okS (okS okP (okB (okU k_m_15))) (okS (okS okP (okB (okU k_m_23))) (okS (okS okP (okB (okU k_m_29))) okP)))))))) r_m
/-! spec.l6Bent -/
abbrev P_n : List PK := [.box [.dat Y22, .dat YI] [.dat Y22, .dat YI]]
abbrev R_n : List VK := [.s (.dat Y28)]
def F_n (x : denP P_n) : Option (denV R_n × denQ P_n) :=
 (F_m (x.1, ())).bind fun r1 =>
 (F_c (r1.2.1, (30 : Int), ())).bind fun r2 =>
 if (r2.1.1 == (0 : Int)) then
  if 0 ≤ (0 : Int) ∧ (0 : Int) < ((r1.1.1.1.length : Nat) : Int) then
   ((r1.1.1.1)[((0 : Int)).toNat]?).bind fun y3 =>
   (F_d (r2.2.1, [(-1 : Int), (24 : Int), (3 : Int)], ())).bind fun r4 =>
   ((r1.1.1.1)[((0 : Int)).toNat]?).bind fun y5 =>
   if 0 ≤ (0 : Int) ∧ (0 : Int) < ((y5.length : Nat) : Int) then
    ((r1.1.1.1)[((0 : Int)).toNat]?).bind fun y6 =>
    let v7 := (r1.1.1.1.set ((0 : Int)).toNat (y6.set ((0 : Int)).toNat r4.1.1))
    some (((v7, (r1.1.1.2.1, (r1.1.1.2.2.1, (r1.1.1.2.2.2.1, ())))), ()), (r4.2.1, ()))
   else none
  else none
 else
  if (r2.1.1 == (1 : Int)) then
   if 0 ≤ (0 : Int) ∧ (0 : Int) < ((r1.1.1.1.length : Nat) : Int) then
    ((r1.1.1.1)[((0 : Int)).toNat]?).bind fun y8 =>
    ((r1.1.1.1)[((0 : Int)).toNat]?).bind fun y9 =>
    if (r1.1.1.1.length + [y9].length) * 24 ≤ 140737488355328 then
     let v10 := (r1.1.1.1 ++ [y9])
     some (((v10, (r1.1.1.2.1, (r1.1.1.2.2.1, (r1.1.1.2.2.2.1, ())))), ()), (r2.2.1, ()))
    else none
   else none
  else
   if (r2.1.1 == (2 : Int)) then
    some (((([] : List (den Y47)), (r1.1.1.2.1, (r1.1.1.2.2.1, (r1.1.1.2.2.2.1, ())))), ()), (r2.2.1, ()))
   else
    if (r2.1.1 == (3 : Int)) then
     (F_c (r2.2.1, (3 : Int), ())).bind fun r11 =>
     (F_c (r11.2.1, (4 : Int), ())).bind fun r12 =>
     (F_d (r12.2.1, [(0 : Int), (23 : Int), (24 : Int)], ())).bind fun r13 =>
     (F_d (r13.2.1, [(5 : Int), (4 : Int)], ())).bind fun r14 =>
     (F_d (r14.2.1, [(6 : Int), (7 : Int), (5 : Int)], ())).bind fun r15 =>
     if (r1.1.1.2.1.length + [(r11.1.1, (r12.1.1, (r13.1.1, (r14.1.1, (r15.1.1, ())))))].length) * 40 ≤ 140737488355328 then
      let v16 := (r1.1.1.2.1 ++ [(r11.1.1, (r12.1.1, (r13.1.1, (r14.1.1, (r15.1.1, ())))))])
      some (((r1.1.1.1, (v16, (r1.1.1.2.2.1, (r1.1.1.2.2.2.1, ())))), ()), (r15.2.1, ()))
     else none
    else
     if (r2.1.1 == (4 : Int)) then
      (F_c (r2.2.1, (3 : Int), ())).bind fun r17 =>
      (F_c (r17.2.1, (4 : Int), ())).bind fun r18 =>
      if (r1.1.1.2.2.1.length + [(r17.1.1, (r18.1.1, ())), ((0 : Int), ((1 : Int), ()))].length) * 16 ≤ 140737488355328 then
       let v19 := (r1.1.1.2.2.1 ++ [(r17.1.1, (r18.1.1, ())), ((0 : Int), ((1 : Int), ()))])
       some (((r1.1.1.1, (r1.1.1.2.1, (v19, (r1.1.1.2.2.2.1, ())))), ()), (r18.2.1, ()))
      else none
     else
      if (r2.1.1 == (5 : Int)) then
       (F_d (r2.2.1, [(0 : Int), (-1 : Int), (3 : Int)], ())).bind fun r20 =>
       (F_d (r20.2.1, [(0 : Int), (1 : Int), (50 : Int), (51 : Int)], ())).bind fun r21 =>
       if 0 ≤ (0 : Int) ∧ (0 : Int) < ((r1.1.1.2.2.2.1.length : Nat) : Int) then
        ((r1.1.1.2.2.2.1)[((0 : Int)).toNat]?).bind fun y22 =>
        let v23 := (r1.1.1.2.2.2.1.set ((0 : Int)).toNat (r20.1.1, (r21.1.1, ())))
        some (((r1.1.1.1, (r1.1.1.2.1, (r1.1.1.2.2.1, (v23, ())))), ()), (r21.2.1, ()))
       else none
      else
       if (r2.1.1 == (6 : Int)) then
        some (((r1.1.1.1, (r1.1.1.2.1, (r1.1.1.2.2.1, ((List.replicate ((9 : Int)).toNat (zeroD Y32)), ())))), ()), (r2.2.1, ()))
       else
        if (r2.1.1 == (7 : Int)) then
         if 0 ≤ (0 : Int) ∧ (0 : Int) < ((r1.1.1.1.length : Nat) : Int) then
          ((r1.1.1.1)[((0 : Int)).toNat]?).bind fun y24 =>
          let v25 := (r1.1.1.1.set ((0 : Int)).toNat ([] : List (den YI)))
          some (((v25, (r1.1.1.2.1, (r1.1.1.2.2.1, (r1.1.1.2.2.2.1, ())))), ()), (r2.2.1, ()))
         else none
        else
         if (r2.1.1 == (8 : Int)) then
          some (((r1.1.1.1, ((List.replicate ((5 : Int)).toNat (zeroD Y104)), (r1.1.1.2.2.1, (r1.1.1.2.2.2.1, ())))), ()), (r2.2.1, ()))
         else
          some ((r1.1.1, ()), (r2.2.1, ()))
abbrev C_n : Con := ⟨P_n, R_n, F_n, false⟩
abbrev G_n : Env := [(65, C_d), (91, C_m), (92, C_c)]
theorem g_n : EnvOk Try.prog G_n := (env_cons s_d (env_cons s_m (env_cons s_c env_nil)))
theorem r_n (x) : runFn T G_n [] Try.f64 C_n.ps C_n.rs x = C_n.F x := by kernel_rfl
theorem s_n : CallsOk Try.prog 64 C_n := fnC (L := []) hT g_n Try.f64 okP r_n
/-! spec.l6With -/
abbrev P_o : List PK := [.val Y22]
abbrev R_o : List VK := [.s (.dat Y28), .s (.dat YI)]
def F_o (x : denP P_o) : Option (denV R_o × denQ P_o) :=
 (F_b (x.1, ())).bind fun r1 =>
 (F_n ((r1.1.1.1, (r1.1.1.2.1, ())), ())).bind fun r2 =>
 (F_d (r2.2.1, [(0 : Int), (1 : Int), (2 : Int), (0 : Int), (1 : Int), (3 : Int), (-1 : Int)], ())).bind fun r3 =>
 some ((r2.1.1, r3.1.1, ()), ())
abbrev C_o : Con := ⟨P_o, R_o, F_o, false⟩
abbrev G_o : Env := [(63, C_b), (64, C_n), (65, C_d)]
theorem g_o : EnvOk Try.prog G_o := (env_cons s_b (env_cons s_n (env_cons s_d env_nil)))
theorem r_o (x) : runFn T G_o [] Try.f24 C_o.ps C_o.rs x = C_o.F x := by kernel_rfl
theorem s_o : CallsOk Try.prog 24 C_o := fnC (L := []) hT g_o Try.f24 okP r_o
/-! spec.DrawGapOf -/
abbrev P_p : List PK := [.val Y22]
abbrev R_p : List VK := [.s (.dat Y28), .s (.dat YI)]
def F_p (x : denP P_p) : Option (denV R_p × denQ P_p) :=
 (F_o (x.1, ())).bind fun r1 =>
 some ((r1.1.1, r1.1.2.1, ()), ())
abbrev C_p : Con := ⟨P_p, R_p, F_p, false⟩
abbrev G_p : Env := [(24, C_o)]
theorem g_p : EnvOk Try.prog G_p := (env_cons s_o env_nil)
theorem r_p (x) : runFn T G_p [] Try.f7 C_p.ps C_p.rs x = C_p.F x := by kernel_rfl
theorem s_p : CallsOk Try.prog 7 C_p := fnC (L := []) hT g_p Try.f7 okP r_p
/-! impl.within -/
abbrev P_q : List PK := [.val YI, .val YI, .val YI]
abbrev R_q : List VK := [.s (.dat .bool)]
def F_q (x : denP P_q) : Option (denV R_q × denQ P_q) :=
 if (leI x.2.1 x.1) = true then
  some (((leI x.1 x.2.2.1), ()), ())
 else
  some ((false, ()), ())
abbrev C_q : Con := ⟨P_q, R_q, F_q, false⟩
abbrev G_q : Env := []
theorem g_q : EnvOk Try.prog G_q := env_nil
theorem r_q (x) : runFn T G_q [] Try.f74 C_q.ps C_q.rs x = C_q.F x := by kernel_rfl
theorem s_q : CallsOk Try.prog 74 C_q := fnC (L := []) hT g_q Try.f74 okP r_q
/-! (*impl.Policy).ownFault -/
abbrev P_r : List PK := [.ptr Y28]
abbrev R_r : List VK := [.s (.dat YI)]
abbrev i_r_10 : Shp := { slots := [(3, .s (.mp)), (4, .s (.dat .bool)), (20, .s (.dat Y24)), (21, .s (.dat YI)), (22, .s (.dat YI)), (30, .s (.dat Y47)), (31, .s (.dat YI)), (32, .s (.dat YI))], boxes := [], rows := [] }
abbrev o_r_10 : List (Ex × Shp) := [(.exit 2, { slots := [(3, .s (.mp)), (4, .s (.dat .bool)), (20, .s (.dat Y24)), (21, .s (.dat YI)), (22, .s (.dat YI))], boxes := [], rows := [] }), (.ret, { slots := [(2, .s (.dat YI))], boxes := [], rows := [] })]
def l_r_10 (rec : i_r_10.den → Option (denO o_r_10)) (u10 : i_r_10.den) : Option (denO o_r_10) :=
 if (ltI u10.1.2.2.2.2.2.2.2.1 u10.1.2.2.2.2.2.2.1) then
  if 0 ≤ u10.1.2.2.2.2.2.2.2.1 then
   ((u10.1.2.2.2.2.2.1)[(u10.1.2.2.2.2.2.2.2.1).toNat]?).bind fun y17 =>
   (F_q (y17, (0 : Int), (23 : Int), ())).bind fun r18 =>
   if (!r18.1.1) then
    some (.inr (.inl (((3 : Int), ()), ((), ()))))
   else
    if u10.1.2.1 = false then
     let v19 := (IntKind.i64.wrap (u10.1.2.2.2.2.2.2.2.1 + (1 : Int)))
     rec (((setM u10.1.1 y17 true), ((getM u10.1.1 y17), (u10.1.2.2.1, (u10.1.2.2.2.1, (u10.1.2.2.2.2.1, (u10.1.2.2.2.2.2.1, (u10.1.2.2.2.2.2.2.1, (v19, ())))))))), ((), ()))
    else
     let v20 := (IntKind.i64.wrap (u10.1.2.2.2.2.2.2.2.1 + (1 : Int)))
     rec (((setM u10.1.1 y17 true), (true, (u10.1.2.2.1, (u10.1.2.2.2.1, (u10.1.2.2.2.2.1, (u10.1.2.2.2.2.2.1, (u10.1.2.2.2.2.2.2.1, (v20, ())))))))), ((), ()))
  else none
 else
  some (.inl ((u10.1.1, (u10.1.2.1, (u10.1.2.2.1, (u10.1.2.2.2.1, (u10.1.2.2.2.2.1, ()))))), ((), ())))
def L_r_10 (x : i_r_10.den) : Option (denO o_r_10) := iterF l_r_10 lots x
abbrev i_r_5 : Shp := { slots := [(3, .s (.mp)), (4, .s (.dat .bool)), (20, .s (.dat Y24)), (21, .s (.dat YI)), (22, .s (.dat YI))], boxes := [], rows := [] }
abbrev o_r_5 : List (Ex × Shp) := [(.exit 0, { slots := [(4, .s (.dat .bool))], boxes := [], rows := [] }), (.ret, { slots := [(2, .s (.dat YI))], boxes := [], rows := [] })]
def l_r_5 (rec : i_r_5.den → Option (denO o_r_5)) (u5 : i_r_5.den) : Option (denO o_r_5) :=
 if (ltI u5.1.2.2.2.2.1 u5.1.2.2.2.1) then
  if 0 ≤ u5.1.2.2.2.2.1 then
   ((u5.1.2.2.1)[(u5.1.2.2.2.2.1).toNat]?).bind fun y11 =>
   let v12 := ((y11.length : Nat) : Int)
   (F_q (v12, (1 : Int), (5 : Int), ())).bind fun r13 =>
   if (!r13.1.1) then
    some (.inr (.inl (((2 : Int), ()), ((), ()))))
   else
    let v14 := ((y11.length : Nat) : Int)
    (L_r_10 ((u5.1.1, (u5.1.2.1, (u5.1.2.2.1, (u5.1.2.2.2.1, (u5.1.2.2.2.2.1, (y11, (v14, ((0 : Int), ())))))))), ((), ()))).bind fun z21 =>
    match z21 with
    | .inl x22 =>
     let v23 := (IntKind.i64.wrap (x22.1.2.2.2.2.1 + (1 : Int)))
     rec ((x22.1.1, (x22.1.2.1, (x22.1.2.2.1, (x22.1.2.2.2.1, (v23, ()))))), ((), ()))
    | .inr z21_ =>
     match z21_ with
     | .inl x24 =>
      some (.inr (.inl ((x24.1.1, ()), ((), ()))))
     | .inr z21__ =>
      none
  else none
 else
  some (.inl ((u5.1.2.1, ()), ((), ())))
def L_r_5 (x : i_r_5.den) : Option (denO o_r_5) := iterF l_r_5 lots x
def F_r (x : denP P_r) : Option (denV R_r × denQ P_r) :=
 let v1 := ((x.1.1.length : Nat) : Int)
 (F_q (v1, (1 : Int), (3 : Int), ())).bind fun r2 =>
 if (!r2.1.1) then
  some (((2 : Int), ()), ())
 else
  let v3 := ((x.1.1.length : Nat) : Int)
  (L_r_5 ((([] : List (Int × Bool)), (false, (x.1.1, (v3, ((0 : Int), ()))))), ((), ()))).bind fun z25 =>
  match z25 with
  | .inl x26 =>
   if x26.1.1 then
    some (((6 : Int), ()), ())
   else
    some (((0 : Int), ()), ())
  | .inr z25_ =>
   match z25_ with
   | .inl x27 =>
    some ((x27.1.1, ()), ())
   | .inr z25__ =>
    none
abbrev C_r : Con := ⟨P_r, R_r, F_r, false⟩
abbrev G_r : Env := [(74, C_q)]
theorem g_r : EnvOk Try.prog G_r := (env_cons s_q env_nil)
abbrev c_r_10 : Cut := ⟨i_r_10, o_r_10, fun x => iterF l_r_10 lots x⟩
theorem t_r_10 (rec x) : run T G_r [] (nav Try.f70 [1, 1, 1, 0, 1, 0, 0, 1, 1, 0, 0, 1, 1, 1, 0, 0]) (mk 50 i_r_10 x) (loopK i_r_10 o_r_10 rec) = l_r_10 rec x := by kernel_rfl
theorem k_r_10 : CutOk Try.prog 50 (.loop (nav Try.f70 [1, 1, 1, 0, 1, 0, 0, 1, 1, 0, 0, 1, 1, 1, 0, 0])) c_r_10 :=
  loop_cut (L := []) hT g_r t_r_10 okP _
abbrev c_r_5 : Cut := ⟨i_r_5, o_r_5, fun x => iterF l_r_5 lots x⟩
theorem t_r_5 (rec x) : run T G_r [(10, c_r_10)] (nav Try.f70 [1, 1, 1, 0, 1, 0, 0]) (mk 50 i_r_5 x) (loopK i_r_5 o_r_5 rec) = l_r_5 rec x := by kernel_rfl
theorem k_r_5 : CutOk Try.prog 50 (.loop (nav Try.f70 [1, 1, 1, 0, 1, 0, 0])) c_r_5 :=
  loop_cut (L := [(10, c_r_10)]) hT g_r t_r_5 (okS okP (okS okP (okS (okB (okS okP (okS okP (okS okP (okB (okU k_r_10)))))) okP))) _
theorem r_r (x) : runFn T G_r [(10, c_r_10), (5, c_r_5)] Try.f70 C_r.ps C_r.rs x = C_r.F x := by kernel_rfl
theorem s_r : CallsOk Try.prog 70 C_r := fnC (L := [(10, c_r_10), (5, c_r_5)]) hT g_r Try.f70 (okS okP (okS okP (okS okP (okS (okS okP (okB (okU k_r_5))) okP)))) r_r
/-! (*impl.Policy).isGuest -/
abbrev P_s : List PK := [.ptr Y28, .val YI]
abbrev R_s : List VK := [.s (.dat .bool)]
def F_s (x : denP P_s) : Option (denV R_s × denQ P_s) :=
 let v1 := ((x.1.1.length : Nat) : Int)
 let v2 := (IntKind.i64.wrap (v1 - (1 : Int)))
 (F_q (x.2.1, (0 : Int), v2, ())).bind fun r3 =>
 some ((r3.1.1, ()), ())
abbrev C_s : Con := ⟨P_s, R_s, F_s, false⟩
abbrev G_s : Env := [(74, C_q)]
theorem g_s : EnvOk Try.prog G_s := (env_cons s_q env_nil)
theorem r_s (x) : runFn T G_s [] Try.f66 C_s.ps C_s.rs x = C_s.F x := by kernel_rfl
theorem s_s : CallsOk Try.prog 66 C_s := fnC (L := []) hT g_s Try.f66 okP r_s
/-! (*impl.Policy).linkFault -/
abbrev P_t : List PK := [.ptr Y28, .val YI, .val YI]
abbrev R_t : List VK := [.s (.dat YI)]
def F_t (x : denP P_t) : Option (denV R_t × denQ P_t) :=
 (F_s (x.1, x.2.1, ())).bind fun r1 =>
 if (!r1.1.1) = false then
  (F_s (x.1, x.2.2.1, ())).bind fun r2 =>
  if (!r2.1.1) then
   some (((4 : Int), ()), ())
  else
   if (x.2.1 == x.2.2.1) then
    some (((1 : Int), ()), ())
   else
    some (((0 : Int), ()), ())
 else
  some (((4 : Int), ()), ())
abbrev C_t : Con := ⟨P_t, R_t, F_t, false⟩
abbrev G_t : Env := [(66, C_s)]
theorem g_t : EnvOk Try.prog G_t := (env_cons s_s env_nil)
theorem r_t (x) : runFn T G_t [] Try.f97 C_t.ps C_t.rs x = C_t.F x := by kernel_rfl
theorem s_t : CallsOk Try.prog 97 C_t := fnC (L := []) hT g_t Try.f97 okP r_t
/-! slices.Index[int64,int64] -/
abbrev P_u : List PK := [.val Y47, .val YI]
abbrev R_u : List VK := [.s (.dat YI)]
abbrev i_u_2 : Shp := { slots := [(0, .s (.dat Y47)), (1, .s (.dat YI)), (7, .s (.dat YI)), (8, .s (.dat YI))], boxes := [], rows := [] }
abbrev o_u_2 : List (Ex × Shp) := [(.exit 0, { slots := [], boxes := [], rows := [] }), (.ret, { slots := [(4, .s (.dat YI))], boxes := [], rows := [] })]
def l_u_2 (rec : i_u_2.den → Option (denO o_u_2)) (u2 : i_u_2.den) : Option (denO o_u_2) :=
 if (ltI u2.1.2.2.2.1 u2.1.2.2.1) then
  if 0 ≤ u2.1.2.2.2.1 then
   ((u2.1.1)[(u2.1.2.2.2.1).toNat]?).bind fun y3 =>
   if (u2.1.2.1 == y3) then
    some (.inr (.inl ((u2.1.2.2.2.1, ()), ((), ()))))
   else
    let v4 := (IntKind.i64.wrap (u2.1.2.2.2.1 + (1 : Int)))
    rec ((u2.1.1, (u2.1.2.1, (u2.1.2.2.1, (v4, ())))), ((), ()))
  else none
 else
  some (.inl ((), ((), ())))
def L_u_2 (x : i_u_2.den) : Option (denO o_u_2) := iterF l_u_2 lots x
def F_u (x : denP P_u) : Option (denV R_u × denQ P_u) :=
 let v1 := ((x.1.length : Nat) : Int)
 (L_u_2 ((x.1, (x.2.1, (v1, ((0 : Int), ())))), ((), ()))).bind fun z5 =>
 match z5 with
 | .inl x6 =>
  some (((-1 : Int), ()), ())
 | .inr z5_ =>
  match z5_ with
  | .inl x7 =>
   some ((x7.1.1, ()), ())
  | .inr z5__ =>
   none
abbrev C_u : Con := ⟨P_u, R_u, F_u, false⟩
abbrev G_u : Env := []
theorem g_u : EnvOk Try.prog G_u := env_nil
abbrev c_u_2 : Cut := ⟨i_u_2, o_u_2, fun x => iterF l_u_2 lots x⟩
theorem t_u_2 (rec x) : run T G_u [] (nav Try.f82 [1, 0, 1, 0, 0]) (mk 19 i_u_2 x) (loopK i_u_2 o_u_2 rec) = l_u_2 rec x := by kernel_rfl
theorem k_u_2 : CutOk Try.prog 19 (.loop (nav Try.f82 [1, 0, 1, 0, 0])) c_u_2 :=
  loop_cut (L := []) hT g_u t_u_2 okP _
theorem r_u (x) : runFn T G_u [(2, c_u_2)] Try.f82 C_u.ps C_u.rs x = C_u.F x := by kernel_rfl
theorem s_u : CallsOk Try.prog 82 C_u := fnC (L := [(2, c_u_2)]) hT g_u Try.f82 (okS okP (okS (okS okP (okB (okU k_u_2))) okP)) r_u
/-! slices.Contains[int64,int64] -/
abbrev P_v : List PK := [.val Y47, .val YI]
abbrev R_v : List VK := [.s (.dat .bool)]
def F_v (x : denP P_v) : Option (denV R_v × denQ P_v) :=
 (F_u (x.1, x.2.1, ())).bind fun r1 =>
 some (((leI (0 : Int) r1.1.1), ()), ())
abbrev C_v : Con := ⟨P_v, R_v, F_v, false⟩
abbrev G_v : Env := [(82, C_u)]
theorem g_v : EnvOk Try.prog G_v := (env_cons s_u env_nil)
theorem r_v (x) : runFn T G_v [] Try.f47 C_v.ps C_v.rs x = C_v.F x := by kernel_rfl
theorem s_v : CallsOk Try.prog 47 C_v := fnC (L := []) hT g_v Try.f47 okP r_v
/-! (*impl.Policy).owner.1 -/
abbrev P_w_1 : List PK := [.val Y47, .ptr YI]
abbrev R_w_1 : List VK := [.s (.dat .bool)]
def F_w_1 (x : denP P_w_1) : Option (denV R_w_1 × denQ P_w_1) :=
 (F_v (x.1, x.2.1, ())).bind fun r1 =>
 some ((r1.1.1, ()), ())
abbrev C_w_1 : Con := ⟨P_w_1, R_w_1, F_w_1, false⟩
abbrev G_w_1 : Env := [(47, C_v)]
theorem g_w_1 : EnvOk Try.prog G_w_1 := (env_cons s_v env_nil)
theorem r_w_1 (x) : runFn T G_w_1 [] Try.f121 C_w_1.ps C_w_1.rs x = C_w_1.F x := by kernel_rfl
theorem s_w_1 : CallsOk Try.prog 121 C_w_1 := fnC (L := []) hT g_w_1 Try.f121 okP r_w_1
/-! slices.IndexFunc[int64,int64] -/
abbrev P_x_1 : List PK := [.val Y24, .fn 121 [YI]]
abbrev R_x_1 : List VK := [.s (.dat YI)]
abbrev i_y_2 : Shp := { slots := [(0, .s (.dat Y24)), (1, .s (.fn 121 [YI])), (7, .s (.dat YI)), (8, .s (.dat YI))], boxes := [], rows := [] }
abbrev o_y_2 : List (Ex × Shp) := [(.exit 0, { slots := [], boxes := [], rows := [] }), (.ret, { slots := [(4, .s (.dat YI))], boxes := [], rows := [] })]
def l_y_2 (rec : i_y_2.den → Option (denO o_y_2)) (u2 : i_y_2.den) : Option (denO o_y_2) :=
 if (ltI u2.1.2.2.2.1 u2.1.2.2.1) then
  if 0 ≤ u2.1.2.2.2.1 then
   ((u2.1.1)[(u2.1.2.2.2.1).toNat]?).bind fun y4 =>
   (F_w_1 (y4, u2.1.2.1.1, ())).bind fun r5 =>
   if r5.1.1 then
    some (.inr (.inl ((u2.1.2.2.2.1, ()), ((), ()))))
   else
    let v6 := (IntKind.i64.wrap (u2.1.2.2.2.1 + (1 : Int)))
    rec ((u2.1.1, ((u2.1.2.1.1, ()), (u2.1.2.2.1, (v6, ())))), ((), ()))
  else none
 else
  some (.inl ((), ((), ())))
def L_y_2 (x : i_y_2.den) : Option (denO o_y_2) := iterF l_y_2 lots x
def F_x_1 (x : denP P_x_1) : Option (denV R_x_1 × denQ P_x_1) :=
 let v1 := ((x.1.length : Nat) : Int)
 (L_y_2 ((x.1, ((x.2.1.1, ()), (v1, ((0 : Int), ())))), ((), ()))).bind fun z7 =>
 match z7 with
 | .inl x8 =>
  some (((-1 : Int), ()), ())
 | .inr z7_ =>
  match z7_ with
  | .inl x9 =>
   some ((x9.1.1, ()), ())
  | .inr z7__ =>
   none
abbrev C_x_1 : Con := ⟨P_x_1, R_x_1, F_x_1, false⟩
abbrev G_x_1 : Env := [(121, C_w_1)]
theorem g_x_1 : EnvOk Try.prog G_x_1 := (env_cons s_w_1 env_nil)
abbrev c_y_2 : Cut := ⟨i_y_2, o_y_2, fun x => iterF l_y_2 lots x⟩
theorem t_y_2 (rec x) : run T G_x_1 [] (nav Try.f120 [1, 0, 1, 0, 0]) (mk 19 i_y_2 x) (loopK i_y_2 o_y_2 rec) = l_y_2 rec x := by kernel_rfl
theorem k_y_2 : CutOk Try.prog 19 (.loop (nav Try.f120 [1, 0, 1, 0, 0])) c_y_2 :=
  loop_cut (L := []) hT g_x_1 t_y_2 okP _
theorem r_x_1 (x) : runFn T G_x_1 [(2, c_y_2)] Try.f120 C_x_1.ps C_x_1.rs x = C_x_1.F x := by kernel_rfl
theorem s_x_1 : CallsOk Try.prog 120 C_x_1 := fnC (L := [(2, c_y_2)]) hT g_x_1 Try.f120 (okS okP (okS (okS okP (okB (okU k_y_2))) okP)) r_x_1
/-! (*impl.Policy).owner -/
abbrev P_w : List PK := [.ptr Y28, .val YI]
abbrev R_w : List VK := [.s (.dat YI)]
def F_w (x : denP P_w) : Option (denV R_w × denQ P_w) :=
 (F_x_1 (x.1.1, (x.2.1, ()), ())).bind fun r1 =>
 some ((r1.1.1, ()), ())
abbrev C_w : Con := ⟨P_w, R_w, F_w, false⟩
abbrev G_w : Env := [(120, C_x_1)]
theorem g_w : EnvOk Try.prog G_w := (env_cons s_x_1 env_nil)
theorem r_w (x) : runFn T G_w [] Try.f98 C_w.ps C_w.rs x = C_w.F x := by kernel_rfl
theorem s_w : CallsOk Try.prog 98 C_w := fnC (L := []) hT g_w Try.f98 okP r_w
/-! (impl.Lane).sits -/
abbrev P_z : List PK := [.val Y104, .val YI, .val YI]
abbrev R_z : List VK := [.s (.dat .bool)]
def F_z (x : denP P_z) : Option (denV R_z × denQ P_z) :=
 if (x.1.1 == x.2.1) = true then
  if (x.1.2.2.2.1 == x.2.2.1) = false then
   if (x.1.2.1 == x.2.1) = true then
    some (((x.1.2.2.2.2.1 == x.2.2.1), ()), ())
   else
    some ((false, ()), ())
  else
   some ((true, ()), ())
 else
  if (x.1.2.1 == x.2.1) = true then
   some (((x.1.2.2.2.2.1 == x.2.2.1), ()), ())
  else
   some ((false, ()), ())
abbrev C_z : Con := ⟨P_z, R_z, F_z, false⟩
abbrev G_z : Env := []
theorem g_z : EnvOk Try.prog G_z := env_nil
theorem r_z (x) : runFn T G_z [] Try.f101 C_z.ps C_z.rs x = C_z.F x := by kernel_rfl
theorem s_z : CallsOk Try.prog 101 C_z := fnC (L := []) hT g_z Try.f101 okP r_z
/-! (*impl.Policy).laneFault.1 -/
abbrev P_aa_1 : List PK := [.val Y104, .ptr Y104]
abbrev R_aa_1 : List VK := [.s (.dat .bool)]
def F_aa_1 (x : denP P_aa_1) : Option (denV R_aa_1 × denQ P_aa_1) :=
 if (x.1.2.2.1 == x.2.1.2.2.1) = false then
  (F_z (x.1, x.2.1.1, x.2.1.2.2.2.1, ())).bind fun r1 =>
  if r1.1.1 = false then
   (F_z (x.1, x.2.1.2.1, x.2.1.2.2.2.2.1, ())).bind fun r2 =>
   some ((r2.1.1, ()), ())
  else
   some ((true, ()), ())
 else
  some ((true, ()), ())
abbrev C_aa_1 : Con := ⟨P_aa_1, R_aa_1, F_aa_1, false⟩
abbrev G_aa_1 : Env := [(101, C_z)]
theorem g_aa_1 : EnvOk Try.prog G_aa_1 := (env_cons s_z env_nil)
theorem r_aa_1 (x) : runFn T G_aa_1 [] Try.f100 C_aa_1.ps C_aa_1.rs x = C_aa_1.F x := by kernel_rfl
theorem s_aa_1 : CallsOk Try.prog 100 C_aa_1 := fnC (L := []) hT g_aa_1 Try.f100 okP r_aa_1
/-! slices.IndexFunc[impl.Lane,impl.Lane] -/
abbrev P_ab_1 : List PK := [.val Y25, .fn 100 [Y104]]
abbrev R_ab_1 : List VK := [.s (.dat YI)]
abbrev i_ac_2 : Shp := { slots := [(0, .s (.dat Y25)), (1, .s (.fn 100 [Y104])), (7, .s (.dat YI)), (8, .s (.dat YI))], boxes := [], rows := [] }
abbrev o_ac_2 : List (Ex × Shp) := [(.exit 0, { slots := [], boxes := [], rows := [] }), (.ret, { slots := [(4, .s (.dat YI))], boxes := [], rows := [] })]
def l_ac_2 (rec : i_ac_2.den → Option (denO o_ac_2)) (u2 : i_ac_2.den) : Option (denO o_ac_2) :=
 if (ltI u2.1.2.2.2.1 u2.1.2.2.1) then
  if 0 ≤ u2.1.2.2.2.1 then
   ((u2.1.1)[(u2.1.2.2.2.1).toNat]?).bind fun y4 =>
   (F_aa_1 (y4, u2.1.2.1.1, ())).bind fun r5 =>
   if r5.1.1 then
    some (.inr (.inl ((u2.1.2.2.2.1, ()), ((), ()))))
   else
    let v6 := (IntKind.i64.wrap (u2.1.2.2.2.1 + (1 : Int)))
    rec ((u2.1.1, ((u2.1.2.1.1, ()), (u2.1.2.2.1, (v6, ())))), ((), ()))
  else none
 else
  some (.inl ((), ((), ())))
def L_ac_2 (x : i_ac_2.den) : Option (denO o_ac_2) := iterF l_ac_2 lots x
def F_ab_1 (x : denP P_ab_1) : Option (denV R_ab_1 × denQ P_ab_1) :=
 let v1 := ((x.1.length : Nat) : Int)
 (L_ac_2 ((x.1, ((x.2.1.1, ()), (v1, ((0 : Int), ())))), ((), ()))).bind fun z7 =>
 match z7 with
 | .inl x8 =>
  some (((-1 : Int), ()), ())
 | .inr z7_ =>
  match z7_ with
  | .inl x9 =>
   some ((x9.1.1, ()), ())
  | .inr z7__ =>
   none
abbrev C_ab_1 : Con := ⟨P_ab_1, R_ab_1, F_ab_1, false⟩
abbrev G_ab_1 : Env := [(100, C_aa_1)]
theorem g_ab_1 : EnvOk Try.prog G_ab_1 := (env_cons s_aa_1 env_nil)
abbrev c_ac_2 : Cut := ⟨i_ac_2, o_ac_2, fun x => iterF l_ac_2 lots x⟩
theorem t_ac_2 (rec x) : run T G_ab_1 [] (nav Try.f122 [1, 0, 1, 0, 0]) (mk 19 i_ac_2 x) (loopK i_ac_2 o_ac_2 rec) = l_ac_2 rec x := by kernel_rfl
theorem k_ac_2 : CutOk Try.prog 19 (.loop (nav Try.f122 [1, 0, 1, 0, 0])) c_ac_2 :=
  loop_cut (L := []) hT g_ab_1 t_ac_2 okP _
theorem r_ab_1 (x) : runFn T G_ab_1 [(2, c_ac_2)] Try.f122 C_ab_1.ps C_ab_1.rs x = C_ab_1.F x := by kernel_rfl
theorem s_ab_1 : CallsOk Try.prog 122 C_ab_1 := fnC (L := [(2, c_ac_2)]) hT g_ab_1 Try.f122 (okS okP (okS (okS okP (okB (okU k_ac_2))) okP)) r_ab_1
/-! slices.ContainsFunc[impl.Lane,impl.Lane] -/
abbrev P_ad_1 : List PK := [.val Y25, .fn 100 [Y104]]
abbrev R_ad_1 : List VK := [.s (.dat .bool)]
def F_ad_1 (x : denP P_ad_1) : Option (denV R_ad_1 × denQ P_ad_1) :=
 (F_ab_1 (x.1, (x.2.1.1, ()), ())).bind fun r1 =>
 some (((leI (0 : Int) r1.1.1), ()), ())
abbrev C_ad_1 : Con := ⟨P_ad_1, R_ad_1, F_ad_1, false⟩
abbrev G_ad_1 : Env := [(122, C_ab_1)]
theorem g_ad_1 : EnvOk Try.prog G_ad_1 := (env_cons s_ab_1 env_nil)
theorem r_ad_1 (x) : runFn T G_ad_1 [] Try.f99 C_ad_1.ps C_ad_1.rs x = C_ad_1.F x := by kernel_rfl
theorem s_ad_1 : CallsOk Try.prog 99 C_ad_1 := fnC (L := []) hT g_ad_1 Try.f99 okP r_ad_1
/-! (*impl.Policy).laneFault -/
abbrev P_aa : List PK := [.ptr Y28, .val Y104, .val Y25]
abbrev R_aa : List VK := [.s (.dat YI)]
def F_aa (x : denP P_aa) : Option (denV R_aa × denQ P_aa) :=
 (F_t (x.1, x.2.1.1, x.2.1.2.1, ())).bind fun r1 =>
 if (r1.1.1 != (0 : Int)) then
  some ((r1.1.1, ()), ())
 else
  (F_q (x.2.1.2.2.1, (0 : Int), (23 : Int), ())).bind fun r2 =>
  if (!r2.1.1) = false then
   (F_q (x.2.1.2.2.2.1, (5 : Int), (6 : Int), ())).bind fun r3 =>
   if (!r3.1.1) = false then
    (F_q (x.2.1.2.2.2.2.1, (5 : Int), (6 : Int), ())).bind fun r4 =>
    if (!r4.1.1) then
     some (((3 : Int), ()), ())
    else
     (F_w (x.1, x.2.1.2.2.1, ())).bind fun r5 =>
     if (leI (0 : Int) r5.1.1) = false then
      (F_ad_1 (x.2.2.1, (x.2.1, ()), ())).bind fun r6 =>
      if r6.1.1 then
       some (((6 : Int), ()), ())
      else
       some (((0 : Int), ()), ())
     else
      some (((6 : Int), ()), ())
   else
    some (((3 : Int), ()), ())
  else
   some (((3 : Int), ()), ())
abbrev C_aa : Con := ⟨P_aa, R_aa, F_aa, false⟩
abbrev G_aa : Env := [(74, C_q), (97, C_t), (98, C_w), (99, C_ad_1)]
theorem g_aa : EnvOk Try.prog G_aa := (env_cons s_q (env_cons s_t (env_cons s_w (env_cons s_ad_1 env_nil))))
theorem r_aa (x) : runFn T G_aa [] Try.f71 C_aa.ps C_aa.rs x = C_aa.F x := by kernel_rfl
theorem s_aa : CallsOk Try.prog 71 C_aa := fnC (L := []) hT g_aa Try.f71 okP r_aa
/-! slices.Index[impl.Bell,impl.Bell] -/
abbrev P_ae : List PK := [.val Y26, .val Y32]
abbrev R_ae : List VK := [.s (.dat YI)]
abbrev i_ae_2 : Shp := { slots := [(0, .s (.dat Y26)), (3, .s (.ptr 3 0)), (7, .s (.dat YI)), (8, .s (.dat YI))], boxes := [(3, [.dat YI, .dat YI])], rows := [] }
abbrev o_ae_2 : List (Ex × Shp) := [(.exit 0, { slots := [], boxes := [], rows := [] }), (.ret, { slots := [(4, .s (.dat YI))], boxes := [], rows := [] })]
def l_ae_2 (rec : i_ae_2.den → Option (denO o_ae_2)) (u2 : i_ae_2.den) : Option (denO o_ae_2) :=
 if (ltI u2.1.2.2.2.1 u2.1.2.2.1) then
  if 0 ≤ u2.1.2.2.2.1 then
   ((u2.1.1)[(u2.1.2.2.2.1).toNat]?).bind fun y3 =>
   if ((u2.2.1.1.1 == y3.1) && ((u2.2.1.1.2.1 == y3.2.1) && true)) then
    some (.inr (.inl ((u2.1.2.2.2.1, ()), ((), ()))))
   else
    let v4 := (IntKind.i64.wrap (u2.1.2.2.2.1 + (1 : Int)))
    rec ((u2.1.1, ((), (u2.1.2.2.1, (v4, ())))), ((u2.2.1.1, ()), ()))
  else none
 else
  some (.inl ((), ((), ())))
def L_ae_2 (x : i_ae_2.den) : Option (denO o_ae_2) := iterF l_ae_2 lots x
def F_ae (x : denP P_ae) : Option (denV R_ae × denQ P_ae) :=
 let v1 := ((x.1.length : Nat) : Int)
 (L_ae_2 ((x.1, ((), (v1, ((0 : Int), ())))), (((x.2.1.1, (x.2.1.2.1, ())), ()), ()))).bind fun z5 =>
 match z5 with
 | .inl x6 =>
  some (((-1 : Int), ()), ())
 | .inr z5_ =>
  match z5_ with
  | .inl x7 =>
   some ((x7.1.1, ()), ())
  | .inr z5__ =>
   none
abbrev C_ae : Con := ⟨P_ae, R_ae, F_ae, false⟩
abbrev G_ae : Env := []
theorem g_ae : EnvOk Try.prog G_ae := env_nil
abbrev c_ae_2 : Cut := ⟨i_ae_2, o_ae_2, fun x => iterF l_ae_2 lots x⟩
theorem t_ae_2 (rec x) : run T G_ae [] (nav Try.f123 [1, 0, 1, 0, 0]) (mk 19 i_ae_2 x) (loopK i_ae_2 o_ae_2 rec) = l_ae_2 rec x := by kernel_rfl
theorem k_ae_2 : CutOk Try.prog 19 (.loop (nav Try.f123 [1, 0, 1, 0, 0])) c_ae_2 :=
  loop_cut (L := []) hT g_ae t_ae_2 okP _
theorem r_ae (x) : runFn T G_ae [(2, c_ae_2)] Try.f123 C_ae.ps C_ae.rs x = C_ae.F x := by kernel_rfl
theorem s_ae : CallsOk Try.prog 123 C_ae := fnC (L := [(2, c_ae_2)]) hT g_ae Try.f123 (okS okP (okS (okS okP (okB (okU k_ae_2))) okP)) r_ae
/-! slices.Contains[impl.Bell,impl.Bell] -/
abbrev P_af : List PK := [.val Y26, .val Y32]
abbrev R_af : List VK := [.s (.dat .bool)]
def F_af (x : denP P_af) : Option (denV R_af × denQ P_af) :=
 (F_ae (x.1, x.2.1, ())).bind fun r1 =>
 some (((leI (0 : Int) r1.1.1), ()), ())
abbrev C_af : Con := ⟨P_af, R_af, F_af, false⟩
abbrev G_af : Env := [(123, C_ae)]
theorem g_af : EnvOk Try.prog G_af := (env_cons s_ae env_nil)
theorem r_af (x) : runFn T G_af [] Try.f102 C_af.ps C_af.rs x = C_af.F x := by kernel_rfl
theorem s_af : CallsOk Try.prog 102 C_af := fnC (L := []) hT g_af Try.f102 okP r_af
/-! (*impl.Policy).bellFault -/
abbrev P_ag : List PK := [.ptr Y28, .val Y32, .val Y26]
abbrev R_ag : List VK := [.s (.dat YI)]
def F_ag (x : denP P_ag) : Option (denV R_ag × denQ P_ag) :=
 (F_t (x.1, x.2.1.1, x.2.1.2.1, ())).bind fun r1 =>
 if (r1.1.1 != (0 : Int)) then
  some ((r1.1.1, ()), ())
 else
  (F_af (x.2.2.1, x.2.1, ())).bind fun r2 =>
  if r2.1.1 then
   some (((6 : Int), ()), ())
  else
   some (((0 : Int), ()), ())
abbrev C_ag : Con := ⟨P_ag, R_ag, F_ag, false⟩
abbrev G_ag : Env := [(97, C_t), (102, C_af)]
theorem g_ag : EnvOk Try.prog G_ag := (env_cons s_t (env_cons s_af env_nil))
theorem r_ag (x) : runFn T G_ag [] Try.f72 C_ag.ps C_ag.rs x = C_ag.F x := by kernel_rfl
theorem s_ag : CallsOk Try.prog 72 C_ag := fnC (L := []) hT g_ag Try.f72 okP r_ag
/-! (*impl.Policy).planFault -/
abbrev P_ah : List PK := [.ptr Y28]
abbrev R_ah : List VK := [.s (.dat YI)]
abbrev i_ah_4 : Shp := { slots := [(0, .s (.pd Y28)), (15, .s (.dat Y26)), (16, .s (.dat YI)), (17, .s (.dat YI))], boxes := [], rows := [] }
abbrev o_ah_4 : List (Ex × Shp) := [(.exit 0, { slots := [], boxes := [], rows := [] }), (.ret, { slots := [(2, .s (.dat YI))], boxes := [], rows := [] })]
def l_ah_4 (rec : i_ah_4.den → Option (denO o_ah_4)) (u4 : i_ah_4.den) : Option (denO o_ah_4) :=
 if (ltI u4.1.2.2.2.1 u4.1.2.2.1) then
  if 0 ≤ u4.1.2.2.2.1 then
   ((u4.1.2.1)[(u4.1.2.2.2.1).toNat]?).bind fun y7 =>
   (F_s (u4.1.1, y7.1, ())).bind fun r8 =>
   if (!r8.1.1) then
    some (.inr (.inl (((4 : Int), ()), ((), ()))))
   else
    (F_q (y7.2.1, (1 : Int), (50 : Int), ())).bind fun r9 =>
    if (!r9.1.1) then
     some (.inr (.inl (((3 : Int), ()), ((), ()))))
    else
     let v10 := (IntKind.i64.wrap (u4.1.2.2.2.1 + (1 : Int)))
     rec ((u4.1.1, (u4.1.2.1, (u4.1.2.2.1, (v10, ())))), ((), ()))
  else none
 else
  some (.inl ((), ((), ())))
def L_ah_4 (x : i_ah_4.den) : Option (denO o_ah_4) := iterF l_ah_4 lots x
def F_ah (x : denP P_ah) : Option (denV R_ah × denQ P_ah) :=
 let v1 := ((x.1.2.2.2.1.length : Nat) : Int)
 (F_q (v1, (1 : Int), (8 : Int), ())).bind fun r2 =>
 if (!r2.1.1) then
  some (((2 : Int), ()), ())
 else
  let v3 := ((x.1.2.2.2.1.length : Nat) : Int)
  (L_ah_4 ((x.1, (x.1.2.2.2.1, (v3, ((0 : Int), ())))), ((), ()))).bind fun z11 =>
  match z11 with
  | .inl x12 =>
   some (((0 : Int), ()), ())
  | .inr z11_ =>
   match z11_ with
   | .inl x13 =>
    some ((x13.1.1, ()), ())
   | .inr z11__ =>
    none
abbrev C_ah : Con := ⟨P_ah, R_ah, F_ah, false⟩
abbrev G_ah : Env := [(66, C_s), (74, C_q)]
theorem g_ah : EnvOk Try.prog G_ah := (env_cons s_s (env_cons s_q env_nil))
abbrev c_ah_4 : Cut := ⟨i_ah_4, o_ah_4, fun x => iterF l_ah_4 lots x⟩
theorem t_ah_4 (rec x) : run T G_ah [] (nav Try.f73 [1, 1, 0, 1, 0, 0]) (mk 33 i_ah_4 x) (loopK i_ah_4 o_ah_4 rec) = l_ah_4 rec x := by kernel_rfl
theorem k_ah_4 : CutOk Try.prog 33 (.loop (nav Try.f73 [1, 1, 0, 1, 0, 0])) c_ah_4 :=
  loop_cut (L := []) hT g_ah t_ah_4 okP _
theorem r_ah (x) : runFn T G_ah [(4, c_ah_4)] Try.f73 C_ah.ps C_ah.rs x = C_ah.F x := by kernel_rfl
theorem s_ah : CallsOk Try.prog 73 C_ah := fnC (L := [(4, c_ah_4)]) hT g_ah Try.f73 (okS okP (okS okP (okS (okS okP (okB (okU k_ah_4))) okP))) r_ah
/-! impl.PolicyFault -/
abbrev P_ai : List PK := [.val Y28]
abbrev R_ai : List VK := [.s (.dat YI)]
abbrev i_ai_14 : Shp := { slots := [(1, .s (.ptr 1 0)), (43, .s (.dat Y26)), (44, .s (.dat YI)), (45, .s (.dat YI))], boxes := [(1, [.dat Y24, .dat Y25, .dat Y26, .dat Y26])], rows := [] }
abbrev o_ai_14 : List (Ex × Shp) := [(.exit 2, { slots := [(1, .s (.ptr 1 0))], boxes := [(1, [.dat Y24, .dat Y25, .dat Y26, .dat Y26])], rows := [] }), (.ret, { slots := [(2, .s (.dat YI))], boxes := [], rows := [] })]
def l_ai_14 (rec : i_ai_14.den → Option (denO o_ai_14)) (u14 : i_ai_14.den) : Option (denO o_ai_14) :=
 if (ltI u14.1.2.2.2.1 u14.1.2.2.1) then
  if 0 ≤ u14.1.2.2.2.1 then
   ((u14.1.2.1)[(u14.1.2.2.2.1).toNat]?).bind fun y16 =>
   if 0 ≤ (0 : Int) ∧ (0 : Int) ≤ u14.1.2.2.2.1 ∧ u14.1.2.2.2.1 ≤ ((u14.2.1.1.2.2.1.length : Nat) : Int) then
    let v17 := ((u14.2.1.1.2.2.1.drop ((0 : Int)).toNat).take ((u14.1.2.2.2.1).toNat - ((0 : Int)).toNat))
    (F_ag (u14.2.1.1, y16, v17, ())).bind fun r18 =>
    if (r18.1.1 != (0 : Int)) then
     some (.inr (.inl ((r18.1.1, ()), ((), ()))))
    else
     let v19 := (IntKind.i64.wrap (u14.1.2.2.2.1 + (1 : Int)))
     rec (((), (u14.1.2.1, (u14.1.2.2.1, (v19, ())))), ((u14.2.1.1, ()), ()))
   else none
  else none
 else
  some (.inl (((), ()), ((u14.2.1.1, ()), ())))
def L_ai_14 (x : i_ai_14.den) : Option (denO o_ai_14) := iterF l_ai_14 lots x
abbrev i_ai_7 : Shp := { slots := [(1, .s (.ptr 1 0)), (25, .s (.dat Y25)), (26, .s (.dat YI)), (27, .s (.dat YI))], boxes := [(1, [.dat Y24, .dat Y25, .dat Y26, .dat Y26])], rows := [] }
abbrev o_ai_7 : List (Ex × Shp) := [(.exit 0, { slots := [(1, .s (.ptr 1 0))], boxes := [(1, [.dat Y24, .dat Y25, .dat Y26, .dat Y26])], rows := [] }), (.ret, { slots := [(2, .s (.dat YI))], boxes := [], rows := [] })]
def l_ai_7 (rec : i_ai_7.den → Option (denO o_ai_7)) (u7 : i_ai_7.den) : Option (denO o_ai_7) :=
 if (ltI u7.1.2.2.2.1 u7.1.2.2.1) then
  if 0 ≤ u7.1.2.2.2.1 then
   ((u7.1.2.1)[(u7.1.2.2.2.1).toNat]?).bind fun y7 =>
   if 0 ≤ (0 : Int) ∧ (0 : Int) ≤ u7.1.2.2.2.1 ∧ u7.1.2.2.2.1 ≤ ((u7.2.1.1.2.1.length : Nat) : Int) then
    let v8 := ((u7.2.1.1.2.1.drop ((0 : Int)).toNat).take ((u7.1.2.2.2.1).toNat - ((0 : Int)).toNat))
    (F_aa (u7.2.1.1, y7, v8, ())).bind fun r9 =>
    if (r9.1.1 != (0 : Int)) then
     some (.inr (.inl ((r9.1.1, ()), ((), ()))))
    else
     let v10 := (IntKind.i64.wrap (u7.1.2.2.2.1 + (1 : Int)))
     rec (((), (u7.1.2.1, (u7.1.2.2.1, (v10, ())))), ((u7.2.1.1, ()), ()))
   else none
  else none
 else
  some (.inl (((), ()), ((u7.2.1.1, ()), ())))
def L_ai_7 (x : i_ai_7.den) : Option (denO o_ai_7) := iterF l_ai_7 lots x
def F_ai (x : denP P_ai) : Option (denV R_ai × denQ P_ai) :=
 (F_r (x.1, ())).bind fun r1 =>
 if (r1.1.1 != (0 : Int)) then
  some ((r1.1.1, ()), ())
 else
  let v2 := ((x.1.2.1.length : Nat) : Int)
  if (ltI (4 : Int) v2) = false then
   let v3 := ((x.1.2.2.1.length : Nat) : Int)
   if (ltI (4 : Int) v3) then
    some (((2 : Int), ()), ())
   else
    let v4 := ((x.1.2.1.length : Nat) : Int)
    (L_ai_7 (((), (x.1.2.1, (v4, ((0 : Int), ())))), (((x.1.1, (x.1.2.1, (x.1.2.2.1, (x.1.2.2.2.1, ())))), ()), ()))).bind fun z11 =>
    match z11 with
    | .inl x12 =>
     let v13 := ((x12.2.1.1.2.2.1.length : Nat) : Int)
     (L_ai_14 (((), (x12.2.1.1.2.2.1, (v13, ((0 : Int), ())))), ((x12.2.1.1, ()), ()))).bind fun z20 =>
     match z20 with
     | .inl x21 =>
      (F_ah (x21.2.1.1, ())).bind fun r22 =>
      some ((r22.1.1, ()), ())
     | .inr z20_ =>
      match z20_ with
      | .inl x23 =>
       some ((x23.1.1, ()), ())
      | .inr z20__ =>
       none
    | .inr z11_ =>
     match z11_ with
     | .inl x24 =>
      some ((x24.1.1, ()), ())
     | .inr z11__ =>
      none
  else
   some (((2 : Int), ()), ())
abbrev C_ai : Con := ⟨P_ai, R_ai, F_ai, false⟩
abbrev G_ai : Env := [(70, C_r), (71, C_aa), (72, C_ag), (73, C_ah)]
theorem g_ai : EnvOk Try.prog G_ai := (env_cons s_r (env_cons s_aa (env_cons s_ag (env_cons s_ah env_nil))))
abbrev c_ai_14 : Cut := ⟨i_ai_14, o_ai_14, fun x => iterF l_ai_14 lots x⟩
theorem t_ai_14 (rec x) : run T G_ai [] (nav Try.f31 [1, 1, 1, 1, 0, 1, 0, 0]) (mk 61 i_ai_14 x) (loopK i_ai_14 o_ai_14 rec) = l_ai_14 rec x := by kernel_rfl
theorem k_ai_14 : CutOk Try.prog 61 (.loop (nav Try.f31 [1, 1, 1, 1, 0, 1, 0, 0])) c_ai_14 :=
  loop_cut (L := []) hT g_ai t_ai_14 okP _
abbrev c_ai_7 : Cut := ⟨i_ai_7, o_ai_7, fun x => iterF l_ai_7 lots x⟩
theorem t_ai_7 (rec x) : run T G_ai [] (nav Try.f31 [1, 1, 1, 0, 1, 0, 0]) (mk 61 i_ai_7 x) (loopK i_ai_7 o_ai_7 rec) = l_ai_7 rec x := by kernel_rfl
theorem k_ai_7 : CutOk Try.prog 61 (.loop (nav Try.f31 [1, 1, 1, 0, 1, 0, 0])) c_ai_7 :=
  loop_cut (L := []) hT g_ai t_ai_7 okP _
theorem r_ai (x) : runFn T G_ai [(14, c_ai_14), (7, c_ai_7)] Try.f31 C_ai.ps C_ai.rs x = C_ai.F x := by kernel_rfl
theorem s_ai : CallsOk Try.prog 31 C_ai := fnC (L := [(14, c_ai_14), (7, c_ai_7)]) hT g_ai Try.f31 (okS okP (okS okP (okS okP (okS (okS okP (okB (okU k_ai_7))) (okS (okS okP (okB (okU k_ai_14))) okP))))) r_ai
/-! impl.guestFault -/
abbrev P_aj : List PK := [.val Y28, .val YI]
abbrev R_aj : List VK := [.s (.dat YI)]
def F_aj (x : denP P_aj) : Option (denV R_aj × denQ P_aj) :=
 (F_ai (x.1, ())).bind fun r1 =>
 if (r1.1.1 == (0 : Int)) = true then
  (F_s (x.1, x.2.1, ())).bind fun r2 =>
  if (!r2.1.1) then
   some (((4 : Int), ()), ())
  else
   some ((r1.1.1, ()), ())
 else
  some ((r1.1.1, ()), ())
abbrev C_aj : Con := ⟨P_aj, R_aj, F_aj, false⟩
abbrev G_aj : Env := [(31, C_ai), (66, C_s)]
theorem g_aj : EnvOk Try.prog G_aj := (env_cons s_ai (env_cons s_s env_nil))
theorem r_aj (x) : runFn T G_aj [] Try.f25 C_aj.ps C_aj.rs x = C_aj.F x := by kernel_rfl
theorem s_aj : CallsOk Try.prog 25 C_aj := fnC (L := []) hT g_aj Try.f25 okP r_aj
/-! (*impl.Policy).stepsOf -/
abbrev P_ak : List PK := [.ptr Y28, .val YI]
abbrev R_ak : List VK := [.s (.dat YI)]
abbrev i_ak_3 : Shp := { slots := [(1, .s (.dat YI)), (5, .s (.dat YI)), (11, .s (.dat Y26)), (12, .s (.dat YI)), (13, .s (.dat YI))], boxes := [], rows := [] }
abbrev o_ak_3 : List (Ex × Shp) := [(.exit 0, { slots := [(5, .s (.dat YI))], boxes := [], rows := [] })]
def l_ak_3 (rec : i_ak_3.den → Option (denO o_ak_3)) (u3 : i_ak_3.den) : Option (denO o_ak_3) :=
 if (ltI u3.1.2.2.2.2.1 u3.1.2.2.2.1) then
  if 0 ≤ u3.1.2.2.2.2.1 then
   ((u3.1.2.2.1)[(u3.1.2.2.2.2.1).toNat]?).bind fun y3 =>
   if (ltI u3.1.1 (0 : Int)) = false then
    if (y3.1 == u3.1.1) then
     let v4 := (IntKind.i64.wrap (u3.1.2.1 + y3.2.1))
     let v5 := (IntKind.i64.wrap (u3.1.2.2.2.2.1 + (1 : Int)))
     rec ((u3.1.1, (v4, (u3.1.2.2.1, (u3.1.2.2.2.1, (v5, ()))))), ((), ()))
    else
     let v6 := (IntKind.i64.wrap (u3.1.2.2.2.2.1 + (1 : Int)))
     rec ((u3.1.1, (u3.1.2.1, (u3.1.2.2.1, (u3.1.2.2.2.1, (v6, ()))))), ((), ()))
   else
    let v7 := (IntKind.i64.wrap (u3.1.2.1 + y3.2.1))
    let v8 := (IntKind.i64.wrap (u3.1.2.2.2.2.1 + (1 : Int)))
    rec ((u3.1.1, (v7, (u3.1.2.2.1, (u3.1.2.2.2.1, (v8, ()))))), ((), ()))
  else none
 else
  some (.inl ((u3.1.2.1, ()), ((), ())))
def L_ak_3 (x : i_ak_3.den) : Option (denO o_ak_3) := iterF l_ak_3 lots x
def F_ak (x : denP P_ak) : Option (denV R_ak × denQ P_ak) :=
 let v1 := ((x.1.2.2.2.1.length : Nat) : Int)
 (L_ak_3 ((x.2.1, ((0 : Int), (x.1.2.2.2.1, (v1, ((0 : Int), ()))))), ((), ()))).bind fun z9 =>
 match z9 with
 | .inl x10 =>
  some ((x10.1.1, ()), ())
 | .inr z9_ =>
  none
abbrev C_ak : Con := ⟨P_ak, R_ak, F_ak, false⟩
abbrev G_ak : Env := []
theorem g_ak : EnvOk Try.prog G_ak := env_nil
abbrev c_ak_3 : Cut := ⟨i_ak_3, o_ak_3, fun x => iterF l_ak_3 lots x⟩
theorem t_ak_3 (rec x) : run T G_ak [] (nav Try.f26 [1, 1, 0, 1, 0, 0]) (mk 31 i_ak_3 x) (loopK i_ak_3 o_ak_3 rec) = l_ak_3 rec x := by kernel_rfl
theorem k_ak_3 : CutOk Try.prog 31 (.loop (nav Try.f26 [1, 1, 0, 1, 0, 0])) c_ak_3 :=
  loop_cut (L := []) hT g_ak t_ak_3 okP _
theorem r_ak (x) : runFn T G_ak [(3, c_ak_3)] Try.f26 C_ak.ps C_ak.rs x = C_ak.F x := by kernel_rfl
theorem s_ak : CallsOk Try.prog 26 C_ak := fnC (L := [(3, c_ak_3)]) hT g_ak Try.f26 (okS okP (okS okP (okS (okS okP (okB (okU k_ak_3))) okP))) r_ak
/-! slices.Grow[impl.Slot,impl.Slot] -/
abbrev P_al : List PK := [.val Y26, .val YI]
abbrev R_al : List VK := [.s (.own 37 Y32)]
def F_al : denP P_al → Option (denV R_al × denQ P_al) := growF Y32 16 37
abbrev C_al : Con := ⟨P_al, R_al, F_al, true⟩
theorem w_al (n : Nat) (w : World) (h0 : 0 < n) (hb : n * 16 ≤ 140737488355328) : Calls Try.prog 67 #[.slice none 0 0, .int .i64 n] w fun e w' =>
      e = .returned (.slice (some ⟨w.heap.size, 0, none⟩) 0 (grownCap w n 0 37)) ∧ ∃ c, w' = w.drew.alloc (.cells c 37) ∧ c.size = grownCap w n 0 37 * sz Y32 := by
  have h1 : ¬ ((n : Int) < 0) := by omega
  have h2 : RowKit.wrap64 ((0 : Int) - 0) = 0 := by unfold RowKit.wrap64; omega
  have h3 : RowKit.wrap64 ((n : Int) - 0) = n := by unfold RowKit.wrap64; omega
  have h4 : (n : Int) > 0 := by omega
  obtain ⟨c, hc, hrz⟩ := grow_append hT (st := 27) (e := 37) (it := 3) (r := ⟨Y26, [], 37, 24, 0⟩) (q := ⟨Y32, [(0, 2), (1, 2)], 0, 16, 0⟩) (r3 := ⟨YI, [], 0, 8, 0⟩) (by kernel_rfl) rfl rfl (by kernel_rfl) (by kernel_rfl) rfl w h0 hb (by decide)
  generalize hG : grownCap w n 0 37 = G at hc hrz ⊢
  generalize hS : G * sz Y32 = Sz at hc ⊢
  go_enter Try.func67, Try.ntmps67
  go_wp2_with (at_builtin; refine Lib.wpList_append_run _ rfl _ _ _ _ rfl _ _ rfl rfl _ _ (hrz _) ?_)
  go_ret
  exact ⟨rfl, c, rfl, hc⟩
theorem w_al_none (w : World) : Calls Try.prog 67 #[.slice none 0 0, .int .i64 0] w fun e w' => e = .returned (.slice none 0 0) ∧ w' = w := by
  go_enter Try.func67, Try.ntmps67
  go_wp2
  go_ret
  exact ⟨rfl, rfl⟩
theorem s_al : CallsOk Try.prog 67 C_al := (grow_sound rfl (by decide) (fun n w h0 hb => w_al n w h0 hb) w_al_none).ok (enter_ok Try.func67 (by decide +kernel) (by kernel_rfl))
/-! slices.Concat[impl.Slot,impl.Slot] -/
abbrev P_am : List PK := [.val Y99]
abbrev R_am : List VK := [.s (.own 37 Y32)]
abbrev i_am_11 : Shp := { slots := [(6, .s (.own 37 Y32)), (25, .s (.dat Y99)), (26, .s (.dat YI)), (27, .s (.dat YI))], boxes := [], rows := [] }
abbrev o_am_11 : List (Ex × Shp) := [(.exit 2, { slots := [(6, .s (.own 37 Y32))], boxes := [], rows := [] })]
def l_am_11 (rec : i_am_11.den → Option (denO o_am_11)) (u11 : i_am_11.den) : Option (denO o_am_11) :=
 if (ltI u11.1.2.2.2.1 u11.1.2.2.1) then
  if 0 ≤ u11.1.2.2.2.1 then
   ((u11.1.2.1)[(u11.1.2.2.2.1).toNat]?).bind fun y12 =>
   if (u11.1.1.length + y12.length) * 16 ≤ 140737488355328 then
    let v13 := (u11.1.1 ++ y12)
    let v14 := (IntKind.i64.wrap (u11.1.2.2.2.1 + (1 : Int)))
    rec ((v13, (u11.1.2.1, (u11.1.2.2.1, (v14, ())))), ((), ()))
   else none
  else none
 else
  some (.inl ((u11.1.1, ()), ((), ())))
def L_am_11 (x : i_am_11.den) : Option (denO o_am_11) := iterF l_am_11 lots x
abbrev i_am_3 : Shp := { slots := [(0, .s (.dat Y99)), (3, .s (.dat YI)), (9, .s (.dat Y99)), (10, .s (.dat YI)), (11, .s (.dat YI))], boxes := [], rows := [] }
abbrev o_am_3 : List (Ex × Shp) := [(.exit 0, { slots := [(0, .s (.dat Y99)), (3, .s (.dat YI))], boxes := [], rows := [] })]
def l_am_3 (rec : i_am_3.den → Option (denO o_am_3)) (u3 : i_am_3.den) : Option (denO o_am_3) :=
 if (ltI u3.1.2.2.2.2.1 u3.1.2.2.2.1) then
  if 0 ≤ u3.1.2.2.2.2.1 then
   ((u3.1.2.2.1)[(u3.1.2.2.2.2.1).toNat]?).bind fun y3 =>
   let v4 := ((y3.length : Nat) : Int)
   let v5 := (IntKind.i64.wrap (u3.1.2.1 + v4))
   if (ltI v5 (0 : Int)) then none else
   let v6 := (IntKind.i64.wrap (u3.1.2.2.2.2.1 + (1 : Int)))
   rec ((u3.1.1, (v5, (u3.1.2.2.1, (u3.1.2.2.2.1, (v6, ()))))), ((), ()))
  else none
 else
  some (.inl ((u3.1.1, (u3.1.2.1, ())), ((), ())))
def L_am_3 (x : i_am_3.den) : Option (denO o_am_3) := iterF l_am_3 lots x
def F_am (x : denP P_am) : Option (denV R_am × denQ P_am) :=
 let v1 := ((x.1.length : Nat) : Int)
 (L_am_3 ((x.1, ((0 : Int), (x.1, (v1, ((0 : Int), ()))))), ((), ()))).bind fun z7 =>
 match z7 with
 | .inl x8 =>
  (F_al (([] : List (den Y32)), x8.1.2.1, ())).bind fun r9 =>
  let v10 := ((x8.1.1.length : Nat) : Int)
  (L_am_11 ((r9.1.1, (x8.1.1, (v10, ((0 : Int), ())))), ((), ()))).bind fun z15 =>
  match z15 with
  | .inl x16 =>
   some ((x16.1.1, ()), ())
  | .inr z15_ =>
   none
 | .inr z7_ =>
  none
abbrev C_am : Con := ⟨P_am, R_am, F_am, false⟩
abbrev G_am : Env := [(67, C_al)]
theorem g_am : EnvOk Try.prog G_am := (env_cons s_al env_nil)
abbrev c_am_11 : Cut := ⟨i_am_11, o_am_11, fun x => iterF l_am_11 lots x⟩
theorem t_am_11 (rec x) : run T G_am [] (nav Try.f27 [1, 1, 1, 1, 0, 1, 0, 0]) (mk 36 i_am_11 x) (loopK i_am_11 o_am_11 rec) = l_am_11 rec x := by kernel_rfl
theorem k_am_11 : CutOk Try.prog 36 (.loop (nav Try.f27 [1, 1, 1, 1, 0, 1, 0, 0])) c_am_11 :=
  loop_cut (L := []) hT g_am t_am_11 okP _
abbrev c_am_3 : Cut := ⟨i_am_3, o_am_3, fun x => iterF l_am_3 lots x⟩
theorem t_am_3 (rec x) : run T G_am [] (nav Try.f27 [1, 1, 0, 1, 0, 0]) (mk 36 i_am_3 x) (loopK i_am_3 o_am_3 rec) = l_am_3 rec x := by kernel_rfl
theorem k_am_3 : CutOk Try.prog 36 (.loop (nav Try.f27 [1, 1, 0, 1, 0, 0])) c_am_3 :=
  loop_cut (L := []) hT g_am t_am_3 okP _
theorem r_am (x) : runFn T G_am [(11, c_am_11), (3, c_am_3)] Try.f27 C_am.ps C_am.rs x = C_am.F x := by kernel_rfl
theorem s_am : CallsOk Try.prog 27 C_am := fnC (L := [(11, c_am_11), (3, c_am_3)]) hT g_am Try.f27 (okS okP (okS okP (okS (okS okP (okB (okU k_am_3))) (okS okP (okS (okS okP (okB (okU k_am_11))) okP))))) r_am
/-! impl.GapOf -/
abbrev P_an : List PK := [.val Y28, .val YI]
abbrev R_an : List VK := [.s (.dat Y32)]
abbrev i_an_8 : Shp := { slots := [(1, .s (.dat YI)), (4, .s (.ptr 4 0)), (6, .s (.dat YI)), (7, .s (.dat YI)), (26, .s (.own 37 Y32)), (27, .s (.dat YI)), (28, .s (.dat YI))], boxes := [(4, [.dat YI, .dat YI])], rows := [] }
abbrev o_an_8 : List (Ex × Shp) := [(.exit 0, { slots := [(4, .s (.ptr 4 0)), (6, .s (.dat YI))], boxes := [(4, [.dat YI, .dat YI])], rows := [] })]
def l_an_8 (rec : i_an_8.den → Option (denO o_an_8)) (u8 : i_an_8.den) : Option (denO o_an_8) :=
 if (ltI u8.1.2.2.2.2.2.2.1 u8.1.2.2.2.2.2.1) then
  if 0 ≤ u8.1.2.2.2.2.2.2.1 ∧ u8.1.2.2.2.2.2.2.1 < ((u8.1.2.2.2.2.1.length : Nat) : Int) then
   ((u8.1.2.2.2.2.1)[(u8.1.2.2.2.2.2.2.1).toNat]?).bind fun y6 =>
   let v7 := (IntKind.i64.wrap (u8.1.2.2.2.1 + y6.2.1))
   if (y6.1 == u8.1.1) then
    let v8 := (if (0 : Int) > u8.1.2.2.1 then (0 : Int) else u8.1.2.2.1)
    let v9 := (IntKind.i64.wrap (u8.1.2.2.2.2.2.2.1 + (1 : Int)))
    rec ((u8.1.1, ((), (v8, ((0 : Int), (u8.1.2.2.2.2.1, (u8.1.2.2.2.2.2.1, (v9, ()))))))), ((u8.2.1.1, ()), ()))
   else
    let v10 := (if v7 > u8.1.2.2.1 then v7 else u8.1.2.2.1)
    let v11 := (IntKind.i64.wrap (u8.1.2.2.2.2.2.2.1 + (1 : Int)))
    rec ((u8.1.1, ((), (v10, (v7, (u8.1.2.2.2.2.1, (u8.1.2.2.2.2.2.1, (v11, ()))))))), ((u8.2.1.1, ()), ()))
  else none
 else
  some (.inl (((), (u8.1.2.2.1, ())), ((u8.2.1.1, ()), ())))
def L_an_8 (x : i_an_8.den) : Option (denO o_an_8) := iterF l_an_8 lots x
def F_an (x : denP P_an) : Option (denV R_an × denQ P_an) :=
 (F_aj (x.1, x.2.1, ())).bind fun r1 =>
 if (r1.1.1 != (0 : Int)) then
  some (((r1.1.1, ((0 : Int), ())), ()), ())
 else
  (F_ak (x.1, x.2.1, ())).bind fun r2 =>
  if (r2.1.1 == (0 : Int)) then
   some ((((10 : Int), ((0 : Int), ())), ()), ())
  else
   (F_am ([x.1.2.2.2.1, x.1.2.2.2.1], ())).bind fun r3 =>
   let v4 := ((r3.1.1.length : Nat) : Int)
   (L_an_8 ((x.2.1, ((), ((0 : Int), ((0 : Int), (r3.1.1, (v4, ((0 : Int), ()))))))), ((((0 : Int), ((0 : Int), ())), ()), ()))).bind fun z12 =>
   match z12 with
   | .inl x13 =>
    some ((((0 : Int), (x13.1.2.1, ())), ()), ())
   | .inr z12_ =>
    none
abbrev C_an : Con := ⟨P_an, R_an, F_an, false⟩
abbrev G_an : Env := [(25, C_aj), (26, C_ak), (27, C_am)]
theorem g_an : EnvOk Try.prog G_an := (env_cons s_aj (env_cons s_ak (env_cons s_am env_nil)))
abbrev c_an_8 : Cut := ⟨i_an_8, o_an_8, fun x => iterF l_an_8 lots x⟩
theorem t_an_8 (rec x) : run T G_an [] (nav Try.f8 [1, 1, 1, 1, 0, 1, 0, 0]) (mk 46 i_an_8 x) (loopK i_an_8 o_an_8 rec) = l_an_8 rec x := by kernel_rfl
theorem k_an_8 : CutOk Try.prog 46 (.loop (nav Try.f8 [1, 1, 1, 1, 0, 1, 0, 0])) c_an_8 :=
  loop_cut (L := []) hT g_an t_an_8 okP _
theorem r_an (x) : runFn T G_an [(8, c_an_8)] Try.f8 C_an.ps C_an.rs x = C_an.F x := by kernel_rfl
theorem s_an : CallsOk Try.prog 8 C_an := fnC (L := [(8, c_an_8)]) hT g_an Try.f8 (okS okP (okS okP (okS okP (okS okP (okS (okS okP (okB (okU k_an_8))) okP))))) r_an
/-! spec.l6Rest -/
abbrev P_ao : List PK := [.ptr Y28]
abbrev R_ao : List VK := [.s (.dat YI)]
abbrev i_ao_9 : Shp := { slots := [(0, .s (.pd Y28)), (3, .s (.dat YI)), (4, .s (.ptr 4 0)), (6, .s (.dat YI))], boxes := [(4, [.dat YI, .dat YI])], rows := [] }
abbrev o_ao_9 : List (Ex × Shp) := [(.exit 2, { slots := [(0, .s (.pd Y28)), (3, .s (.dat YI))], boxes := [], rows := [] }), (.ret, { slots := [(2, .s (.dat YI))], boxes := [], rows := [] })]
def l_ao_9 (rec : i_ao_9.den → Option (denO o_ao_9)) (u9 : i_ao_9.den) : Option (denO o_ao_9) :=
 if (ltI u9.1.2.2.2.1 u9.1.2.1) then
  if 0 ≤ u9.1.2.2.2.1 then
   ((u9.1.1.2.2.1)[(u9.1.2.2.2.1).toNat]?).bind fun y11 =>
   if ((y11.1 == u9.2.1.1.1) && ((y11.2.1 == u9.2.1.1.2.1) && true)) then
    some (.inr (.inl (((6 : Int), ()), ((), ()))))
   else
    let v12 := (IntKind.i64.wrap (u9.1.2.2.2.1 + (1 : Int)))
    rec ((u9.1.1, (u9.1.2.1, ((), (v12, ())))), ((u9.2.1.1, ()), ()))
  else none
 else
  some (.inl ((u9.1.1, (u9.1.2.1, ())), ((), ())))
def L_ao_9 (x : i_ao_9.den) : Option (denO o_ao_9) := iterF l_ao_9 lots x
abbrev i_ao_16 : Shp := { slots := [(0, .s (.pd Y28)), (7, .s (.dat YI))], boxes := [], rows := [] }
abbrev o_ao_16 : List (Ex × Shp) := [(.exit 4, { slots := [], boxes := [], rows := [] }), (.ret, { slots := [(2, .s (.dat YI))], boxes := [], rows := [] })]
def l_ao_16 (rec : i_ao_16.den → Option (denO o_ao_16)) (u16 : i_ao_16.den) : Option (denO o_ao_16) :=
 let v25 := ((u16.1.1.2.2.2.1.length : Nat) : Int)
 if (ltI u16.1.2.1 v25) then
  if 0 ≤ u16.1.2.1 then
   ((u16.1.1.2.2.2.1)[(u16.1.2.1).toNat]?).bind fun y26 =>
   (F_h (u16.1.1, y26.1, ())).bind fun r27 =>
   if (!r27.1.1) then
    some (.inr (.inl (((4 : Int), ()), ((), ()))))
   else
    if 0 ≤ u16.1.2.1 then
     ((u16.1.1.2.2.2.1)[(u16.1.2.1).toNat]?).bind fun y28 =>
     (F_e (y28.2.1, (1 : Int), (50 : Int), ())).bind fun r29 =>
     if (!r29.1.1) then
      some (.inr (.inl (((3 : Int), ()), ((), ()))))
     else
      let v30 := (IntKind.i64.wrap (u16.1.2.1 + (1 : Int)))
      rec ((u16.1.1, (v30, ())), ((), ()))
    else none
  else none
 else
  some (.inl ((), ((), ())))
def L_ao_16 (x : i_ao_16.den) : Option (denO o_ao_16) := iterF l_ao_16 lots x
abbrev i_ao_2 : Shp := { slots := [(0, .s (.pd Y28)), (3, .s (.dat YI))], boxes := [], rows := [] }
abbrev o_ao_2 : List (Ex × Shp) := [(.exit 0, { slots := [(0, .s (.pd Y28))], boxes := [], rows := [] }), (.ret, { slots := [(2, .s (.dat YI))], boxes := [], rows := [] })]
def l_ao_2 (rec : i_ao_2.den → Option (denO o_ao_2)) (u2 : i_ao_2.den) : Option (denO o_ao_2) :=
 let v7 := ((u2.1.1.2.2.1.length : Nat) : Int)
 if (ltI u2.1.2.1 v7) then
  if 0 ≤ u2.1.2.1 then
   ((u2.1.1.2.2.1)[(u2.1.2.1).toNat]?).bind fun y8 =>
   (F_i (u2.1.1, y8.1, y8.2.1, ())).bind fun r9 =>
   if (r9.1.1 != (0 : Int)) then
    some (.inr (.inl ((r9.1.1, ()), ((), ()))))
   else
    (L_ao_9 ((u2.1.1, (u2.1.2.1, ((), ((0 : Int), ())))), (((y8.1, (y8.2.1, ())), ()), ()))).bind fun z13 =>
    match z13 with
    | .inl x14 =>
     let v15 := (IntKind.i64.wrap (x14.1.2.1 + (1 : Int)))
     rec ((x14.1.1, (v15, ())), ((), ()))
    | .inr z13_ =>
     match z13_ with
     | .inl x16 =>
      some (.inr (.inl ((x16.1.1, ()), ((), ()))))
     | .inr z13__ =>
      none
  else none
 else
  some (.inl ((u2.1.1, ()), ((), ())))
def L_ao_2 (x : i_ao_2.den) : Option (denO o_ao_2) := iterF l_ao_2 lots x
def F_ao (x : denP P_ao) : Option (denV R_ao × denQ P_ao) :=
 (L_ao_2 ((x.1, ((0 : Int), ())), ((), ()))).bind fun z17 =>
 match z17 with
 | .inl x18 =>
  let v19 := ((x18.1.1.2.2.2.1.length : Nat) : Int)
  if (ltI v19 (1 : Int)) = false then
   let v20 := ((x18.1.1.2.2.2.1.length : Nat) : Int)
   if (ltI (8 : Int) v20) then
    some (((2 : Int), ()), ())
   else
    (L_ao_16 ((x18.1.1, ((0 : Int), ())), ((), ()))).bind fun z31 =>
    match z31 with
    | .inl x32 =>
     some (((0 : Int), ()), ())
    | .inr z31_ =>
     match z31_ with
     | .inl x33 =>
      some ((x33.1.1, ()), ())
     | .inr z31__ =>
      none
  else
   some (((2 : Int), ()), ())
 | .inr z17_ =>
  match z17_ with
  | .inl x34 =>
   some ((x34.1.1, ()), ())
  | .inr z17__ =>
   none
abbrev C_ao : Con := ⟨P_ao, R_ao, F_ao, false⟩
abbrev G_ao : Env := [(69, C_h), (96, C_e), (117, C_i)]
theorem g_ao : EnvOk Try.prog G_ao := (env_cons s_h (env_cons s_e (env_cons s_i env_nil)))
abbrev c_ao_9 : Cut := ⟨i_ao_9, o_ao_9, fun x => iterF l_ao_9 lots x⟩
theorem t_ao_9 (rec x) : run T G_ao [] (nav Try.f95 [1, 0, 1, 0, 0, 1, 0, 0, 1, 1, 1, 0, 0]) (mk 91 i_ao_9 x) (loopK i_ao_9 o_ao_9 rec) = l_ao_9 rec x := by kernel_rfl
theorem k_ao_9 : CutOk Try.prog 91 (.loop (nav Try.f95 [1, 0, 1, 0, 0, 1, 0, 0, 1, 1, 1, 0, 0])) c_ao_9 :=
  loop_cut (L := []) hT g_ao t_ao_9 okP _
abbrev c_ao_16 : Cut := ⟨i_ao_16, o_ao_16, fun x => iterF l_ao_16 lots x⟩
theorem t_ao_16 (rec x) : run T G_ao [] (nav Try.f95 [1, 1, 1, 0, 1, 0, 0]) (mk 91 i_ao_16 x) (loopK i_ao_16 o_ao_16 rec) = l_ao_16 rec x := by kernel_rfl
theorem k_ao_16 : CutOk Try.prog 91 (.loop (nav Try.f95 [1, 1, 1, 0, 1, 0, 0])) c_ao_16 :=
  loop_cut (L := []) hT g_ao t_ao_16 okP _
abbrev c_ao_2 : Cut := ⟨i_ao_2, o_ao_2, fun x => iterF l_ao_2 lots x⟩
theorem t_ao_2 (rec x) : run T G_ao [(9, c_ao_9)] (nav Try.f95 [1, 0, 1, 0, 0]) (mk 91 i_ao_2 x) (loopK i_ao_2 o_ao_2 rec) = l_ao_2 rec x := by kernel_rfl
theorem k_ao_2 : CutOk Try.prog 91 (.loop (nav Try.f95 [1, 0, 1, 0, 0])) c_ao_2 :=
  loop_cut (L := [(9, c_ao_9)]) hT g_ao t_ao_2 (okS okP (okS (okB (okS okP (okS okP (okS okP (okB (okU k_ao_9)))))) okP)) _
theorem r_ao (x) : runFn T G_ao [(9, c_ao_9), (16, c_ao_16), (2, c_ao_2)] Try.f95 C_ao.ps C_ao.rs x = C_ao.F x := by kernel_rfl
theorem s_ao : CallsOk Try.prog 95 C_ao := fnC (L := [(9, c_ao_9), (16, c_ao_16), (2, c_ao_2)]) hT g_ao Try.f95 (okS okP (okS (okS okP (okB (okU k_ao_2))) (okS okP (okS (okS okP (okB (okU k_ao_16))) okP)))) r_ao
/-! spec.l6Fault -/
abbrev P_ap : List PK := [.ptr Y28]
abbrev R_ap : List VK := [.s (.dat YI)]
def F_ap (x : denP P_ap) : Option (denV R_ap × denQ P_ap) :=
 (F_g (x.1, ())).bind fun r1 =>
 if (r1.1.1 != (0 : Int)) then
  some ((r1.1.1, ()), ())
 else
  (F_l (x.1, ())).bind fun r2 =>
  if (r2.1.1 != (0 : Int)) then
   some ((r2.1.1, ()), ())
  else
   (F_ao (x.1, ())).bind fun r3 =>
   some ((r3.1.1, ()), ())
abbrev C_ap : Con := ⟨P_ap, R_ap, F_ap, false⟩
abbrev G_ap : Env := [(93, C_g), (94, C_l), (95, C_ao)]
theorem g_ap : EnvOk Try.prog G_ap := (env_cons s_g (env_cons s_l (env_cons s_ao env_nil)))
theorem r_ap (x) : runFn T G_ap [] Try.f68 C_ap.ps C_ap.rs x = C_ap.F x := by kernel_rfl
theorem s_ap : CallsOk Try.prog 68 C_ap := fnC (L := []) hT g_ap Try.f68 okP r_ap
/-! spec.l6Asked -/
abbrev P_aq : List PK := [.ptr Y28, .val YI]
abbrev R_aq : List VK := [.s (.dat YI)]
def F_aq (x : denP P_aq) : Option (denV R_aq × denQ P_aq) :=
 (F_ap (x.1, ())).bind fun r1 =>
 if (r1.1.1 != (0 : Int)) then
  some ((r1.1.1, ()), ())
 else
  (F_h (x.1, x.2.1, ())).bind fun r2 =>
  if (!r2.1.1) then
   some (((4 : Int), ()), ())
  else
   some (((0 : Int), ()), ())
abbrev C_aq : Con := ⟨P_aq, R_aq, F_aq, false⟩
abbrev G_aq : Env := [(68, C_ap), (69, C_h)]
theorem g_aq : EnvOk Try.prog G_aq := (env_cons s_ap (env_cons s_h env_nil))
theorem r_aq (x) : runFn T G_aq [] Try.f28 C_aq.ps C_aq.rs x = C_aq.F x := by kernel_rfl
theorem s_aq : CallsOk Try.prog 28 C_aq := fnC (L := []) hT g_aq Try.f28 okP r_aq
/-! spec.FramesOf -/
abbrev P_ar : List PK := [.val Y28, .val YI]
abbrev R_ar : List VK := [.s (.dat Y32)]
abbrev i_ar_6 : Shp := { slots := [(1, .s (.dat YI)), (2, .s (.ptr 2 0)), (4, .s (.ptr 4 0)), (6, .s (.dat YI)), (7, .s (.dat YI))], boxes := [(2, [.dat Y24, .dat Y25, .dat Y26, .dat Y26]), (4, [.dat YI, .dat YI])], rows := [] }
abbrev o_ar_6 : List (Ex × Shp) := [(.exit 0, { slots := [(4, .s (.ptr 4 0)), (6, .s (.dat YI))], boxes := [(4, [.dat YI, .dat YI])], rows := [] })]
def l_ar_6 (rec : i_ar_6.den → Option (denO o_ar_6)) (u6 : i_ar_6.den) : Option (denO o_ar_6) :=
 let v4 := ((u6.2.1.1.2.2.2.1.length : Nat) : Int)
 if (ltI u6.1.2.2.2.2.1 v4) then
  if 0 ≤ u6.1.2.2.2.2.1 then
   ((u6.2.1.1.2.2.2.1)[(u6.1.2.2.2.2.1).toNat]?).bind fun y5 =>
   if (y5.1 == u6.1.1) then
    if 0 ≤ u6.1.2.2.2.2.1 then
     ((u6.2.1.1.2.2.2.1)[(u6.1.2.2.2.2.1).toNat]?).bind fun y6 =>
     let v7 := (IntKind.i64.wrap (u6.1.2.2.2.1 + y6.2.1))
     let v8 := (IntKind.i64.wrap (u6.1.2.2.2.2.1 + (1 : Int)))
     rec ((u6.1.1, ((), ((), (v7, (v8, ()))))), ((u6.2.1.1, (u6.2.1.2.1, ())), ()))
    else none
   else
    let v9 := (IntKind.i64.wrap (u6.1.2.2.2.2.1 + (1 : Int)))
    rec ((u6.1.1, ((), ((), (u6.1.2.2.2.1, (v9, ()))))), ((u6.2.1.1, (u6.2.1.2.1, ())), ()))
  else none
 else
  some (.inl (((), (u6.1.2.2.2.1, ())), ((u6.2.1.2.1, ()), ())))
def L_ar_6 (x : i_ar_6.den) : Option (denO o_ar_6) := iterF l_ar_6 lots x
def F_ar (x : denP P_ar) : Option (denV R_ar × denQ P_ar) :=
 (F_aq (x.1, x.2.1, ())).bind fun r1 =>
 if (r1.1.1 != (0 : Int)) then
  some (((r1.1.1, ((0 : Int), ())), ()), ())
 else
  (L_ar_6 ((x.2.1, ((), ((), ((0 : Int), ((0 : Int), ()))))), (((x.1.1, (x.1.2.1, (x.1.2.2.1, (x.1.2.2.2.1, ())))), (((0 : Int), ((0 : Int), ())), ())), ()))).bind fun z10 =>
  match z10 with
  | .inl x11 =>
   some ((((0 : Int), (x11.1.2.1, ())), ()), ())
  | .inr z10_ =>
   none
abbrev C_ar : Con := ⟨P_ar, R_ar, F_ar, false⟩
abbrev G_ar : Env := [(28, C_aq)]
theorem g_ar : EnvOk Try.prog G_ar := (env_cons s_aq env_nil)
abbrev c_ar_6 : Cut := ⟨i_ar_6, o_ar_6, fun x => iterF l_ar_6 lots x⟩
theorem t_ar_6 (rec x) : run T G_ar [] (nav Try.f29 [1, 1, 1, 0, 1, 0, 0]) (mk 39 i_ar_6 x) (loopK i_ar_6 o_ar_6 rec) = l_ar_6 rec x := by kernel_rfl
theorem k_ar_6 : CutOk Try.prog 39 (.loop (nav Try.f29 [1, 1, 1, 0, 1, 0, 0])) c_ar_6 :=
  loop_cut (L := []) hT g_ar t_ar_6 okP _
theorem r_ar (x) : runFn T G_ar [(6, c_ar_6)] Try.f29 C_ar.ps C_ar.rs x = C_ar.F x := by kernel_rfl
theorem s_ar : CallsOk Try.prog 29 C_ar := fnC (L := [(6, c_ar_6)]) hT g_ar Try.f29 (okS okP (okS okP (okS okP (okS (okS okP (okB (okU k_ar_6))) okP)))) r_ar
/-! spec.l1Max -/
abbrev P_as : List PK := [.val YI, .val YI]
abbrev R_as : List VK := [.s (.dat YI)]
def F_as (x : denP P_as) : Option (denV R_as × denQ P_as) :=
 if (ltI x.2.1 x.1) then
  some ((x.1, ()), ())
 else
  some ((x.2.1, ()), ())
abbrev C_as : Con := ⟨P_as, R_as, F_as, false⟩
abbrev G_as : Env := []
theorem g_as : EnvOk Try.prog G_as := env_nil
theorem r_as (x) : runFn T G_as [] Try.f30 C_as.ps C_as.rs x = C_as.F x := by kernel_rfl
theorem s_as : CallsOk Try.prog 30 C_as := fnC (L := []) hT g_as Try.f30 okP r_as
/-! spec.GapOf -/
abbrev P_at : List PK := [.val Y28, .val YI]
abbrev R_at : List VK := [.s (.dat Y32)]
abbrev i_at_9 : Shp := { slots := [(1, .s (.dat YI)), (2, .s (.ptr 2 0)), (4, .s (.ptr 4 0)), (6, .s (.dat YI)), (7, .s (.dat YI)), (8, .s (.dat YI))], boxes := [(2, [.dat Y24, .dat Y25, .dat Y26, .dat Y26]), (4, [.dat YI, .dat YI])], rows := [] }
abbrev o_at_9 : List (Ex × Shp) := [(.exit 0, { slots := [(4, .s (.ptr 4 0)), (6, .s (.dat YI))], boxes := [(4, [.dat YI, .dat YI])], rows := [] })]
def l_at_9 (rec : i_at_9.den → Option (denO o_at_9)) (u9 : i_at_9.den) : Option (denO o_at_9) :=
 let v5 := ((u9.2.1.1.2.2.2.1.length : Nat) : Int)
 let v6 := (IntKind.i64.wrap ((2 : Int) * v5))
 if (ltI u9.1.2.2.2.2.2.1 v6) then
  let v7 := ((u9.2.1.1.2.2.2.1.length : Nat) : Int)
  if v7 = 0 then none else
  let v8 := ((u9.1.2.2.2.2.2.1).tmod v7)
  if 0 ≤ v8 then
   ((u9.2.1.1.2.2.2.1)[(v8).toNat]?).bind fun y9 =>
   if (y9.1 == u9.1.1) then
    let v10 := (IntKind.i64.wrap (u9.1.2.2.2.2.2.1 + (1 : Int)))
    rec ((u9.1.1, ((), ((), (u9.1.2.2.2.1, ((0 : Int), (v10, ())))))), ((u9.2.1.1, (u9.2.1.2.1, ())), ()))
   else
    let v11 := (IntKind.i64.wrap (u9.1.2.2.2.2.1 + y9.2.1))
    (F_as (u9.1.2.2.2.1, v11, ())).bind fun r12 =>
    let v13 := (IntKind.i64.wrap (u9.1.2.2.2.2.2.1 + (1 : Int)))
    rec ((u9.1.1, ((), ((), (r12.1.1, (v11, (v13, ())))))), ((u9.2.1.1, (u9.2.1.2.1, ())), ()))
  else none
 else
  some (.inl (((), (u9.1.2.2.2.1, ())), ((u9.2.1.2.1, ()), ())))
def L_at_9 (x : i_at_9.den) : Option (denO o_at_9) := iterF l_at_9 lots x
def F_at (x : denP P_at) : Option (denV R_at × denQ P_at) :=
 (F_aq (x.1, x.2.1, ())).bind fun r1 =>
 if (r1.1.1 != (0 : Int)) then
  some (((r1.1.1, ((0 : Int), ())), ()), ())
 else
  (F_ar (x.1, x.2.1, ())).bind fun r2 =>
  if (r2.1.1.2.1 == (0 : Int)) then
   some ((((10 : Int), ((0 : Int), ())), ()), ())
  else
   (L_at_9 ((x.2.1, ((), ((), ((0 : Int), ((0 : Int), ((0 : Int), ())))))), (((x.1.1, (x.1.2.1, (x.1.2.2.1, (x.1.2.2.2.1, ())))), (((0 : Int), ((0 : Int), ())), ())), ()))).bind fun z14 =>
   match z14 with
   | .inl x15 =>
    some ((((0 : Int), (x15.1.2.1, ())), ()), ())
   | .inr z14_ =>
    none
abbrev C_at : Con := ⟨P_at, R_at, F_at, false⟩
abbrev G_at : Env := [(28, C_aq), (29, C_ar), (30, C_as)]
theorem g_at : EnvOk Try.prog G_at := (env_cons s_aq (env_cons s_ar (env_cons s_as env_nil)))
abbrev c_at_9 : Cut := ⟨i_at_9, o_at_9, fun x => iterF l_at_9 lots x⟩
theorem t_at_9 (rec x) : run T G_at [] (nav Try.f9 [1, 1, 1, 1, 1, 0, 1, 0, 0]) (mk 52 i_at_9 x) (loopK i_at_9 o_at_9 rec) = l_at_9 rec x := by kernel_rfl
theorem k_at_9 : CutOk Try.prog 52 (.loop (nav Try.f9 [1, 1, 1, 1, 1, 0, 1, 0, 0])) c_at_9 :=
  loop_cut (L := []) hT g_at t_at_9 okP _
theorem r_at (x) : runFn T G_at [(9, c_at_9)] Try.f9 C_at.ps C_at.rs x = C_at.F x := by kernel_rfl
theorem s_at : CallsOk Try.prog 9 C_at := fnC (L := [(9, c_at_9)]) hT g_at Try.f9 (okS okP (okS okP (okS okP (okS okP (okS okP (okS (okS okP (okB (okU k_at_9))) okP)))))) r_at
/-! impl.RoundOf -/
abbrev P_au : List PK := [.val Y28]
abbrev R_au : List VK := [.s (.dat Y32)]
def F_au (x : denP P_au) : Option (denV R_au × denQ P_au) :=
 (F_ai (x.1, ())).bind fun r1 =>
 if (r1.1.1 != (0 : Int)) then
  some (((r1.1.1, ((0 : Int), ())), ()), ())
 else
  (F_ak (x.1, (-1 : Int), ())).bind fun r2 =>
  some ((((0 : Int), (r2.1.1, ())), ()), ())
abbrev C_au : Con := ⟨P_au, R_au, F_au, false⟩
abbrev G_au : Env := [(26, C_ak), (31, C_ai)]
theorem g_au : EnvOk Try.prog G_au := (env_cons s_ak (env_cons s_ai env_nil))
theorem r_au (x) : runFn T G_au [] Try.f10 C_au.ps C_au.rs x = C_au.F x := by kernel_rfl
theorem s_au : CallsOk Try.prog 10 C_au := fnC (L := []) hT g_au Try.f10 okP r_au
/-! impl.clockFault -/
abbrev P_av : List PK := [.val Y28, .val YI]
abbrev R_av : List VK := [.s (.dat YI)]
def F_av (x : denP P_av) : Option (denV R_av × denQ P_av) :=
 (F_ai (x.1, ())).bind fun r1 =>
 if (r1.1.1 == (0 : Int)) = true then
  (F_q (x.2.1, (0 : Int), (1000000 : Int), ())).bind fun r2 =>
  if (!r2.1.1) then
   some (((3 : Int), ()), ())
  else
   some ((r1.1.1, ()), ())
 else
  some ((r1.1.1, ()), ())
abbrev C_av : Con := ⟨P_av, R_av, F_av, false⟩
abbrev G_av : Env := [(31, C_ai), (74, C_q)]
theorem g_av : EnvOk Try.prog G_av := (env_cons s_ai (env_cons s_q env_nil))
theorem r_av (x) : runFn T G_av [] Try.f32 C_av.ps C_av.rs x = C_av.F x := by kernel_rfl
theorem s_av : CallsOk Try.prog 32 C_av := fnC (L := []) hT g_av Try.f32 okP r_av
/-! (*impl.Policy).turnAt -/
abbrev P_aw : List PK := [.ptr Y28, .val YI]
abbrev R_aw : List VK := [.s (.dat YI), .s (.dat YI)]
abbrev i_aw_3 : Shp := { slots := [(0, .s (.pd Y28)), (1, .s (.dat YI)), (6, .s (.dat YI))], boxes := [], rows := [] }
abbrev o_aw_3 : List (Ex × Shp) := [(.exit 0, { slots := [(0, .s (.pd Y28)), (1, .s (.dat YI)), (6, .s (.dat YI))], boxes := [], rows := [] })]
def l_aw_3 (rec : i_aw_3.den → Option (denO o_aw_3)) (u3 : i_aw_3.den) : Option (denO o_aw_3) :=
 if 0 ≤ u3.1.2.2.1 then
  ((u3.1.1.2.2.2.1)[(u3.1.2.2.1).toNat]?).bind fun y5 =>
  if (leI y5.2.1 u3.1.2.1) then
   if 0 ≤ u3.1.2.2.1 then
    ((u3.1.1.2.2.2.1)[(u3.1.2.2.1).toNat]?).bind fun y6 =>
    let v7 := (IntKind.i64.wrap (u3.1.2.1 - y6.2.1))
    let v8 := (IntKind.i64.wrap (u3.1.2.2.1 + (1 : Int)))
    rec ((u3.1.1, (v7, (v8, ()))), ((), ()))
   else none
  else
   some (.inl ((u3.1.1, (u3.1.2.1, (u3.1.2.2.1, ()))), ((), ())))
 else none
def L_aw_3 (x : i_aw_3.den) : Option (denO o_aw_3) := iterF l_aw_3 lots x
def F_aw (x : denP P_aw) : Option (denV R_aw × denQ P_aw) :=
 (F_ak (x.1, (-1 : Int), ())).bind fun r1 =>
 if r1.1.1 = 0 then none else
 let v2 := ((x.2.1).tmod r1.1.1)
 (L_aw_3 ((x.1, (v2, ((0 : Int), ()))), ((), ()))).bind fun z9 =>
 match z9 with
 | .inl x10 =>
  if 0 ≤ x10.1.2.2.1 then
   ((x10.1.1.2.2.2.1)[(x10.1.2.2.1).toNat]?).bind fun y11 =>
   let v12 := (IntKind.i64.wrap (y11.2.1 - x10.1.2.1))
   some ((x10.1.2.2.1, v12, ()), ())
  else none
 | .inr z9_ =>
  none
abbrev C_aw : Con := ⟨P_aw, R_aw, F_aw, false⟩
abbrev G_aw : Env := [(26, C_ak)]
theorem g_aw : EnvOk Try.prog G_aw := (env_cons s_ak env_nil)
abbrev c_aw_3 : Cut := ⟨i_aw_3, o_aw_3, fun x => iterF l_aw_3 lots x⟩
theorem t_aw_3 (rec x) : run T G_aw [] (nav Try.f33 [1, 1, 1, 0, 0, 0]) (mk 44 i_aw_3 x) (loopK i_aw_3 o_aw_3 rec) = l_aw_3 rec x := by kernel_rfl
theorem k_aw_3 : CutOk Try.prog 44 (.loop (nav Try.f33 [1, 1, 1, 0, 0, 0])) c_aw_3 :=
  loop_cut (L := []) hT g_aw t_aw_3 okP _
theorem r_aw (x) : runFn T G_aw [(3, c_aw_3)] Try.f33 C_aw.ps C_aw.rs x = C_aw.F x := by kernel_rfl
theorem s_aw : CallsOk Try.prog 33 C_aw := fnC (L := [(3, c_aw_3)]) hT g_aw Try.f33 (okS okP (okS okP (okS okP (okS (okB (okU k_aw_3)) okP)))) r_aw
/-! impl.TurnAt -/
abbrev P_ax : List PK := [.val Y28, .val YI]
abbrev R_ax : List VK := [.s (.dat Y38)]
def F_ax (x : denP P_ax) : Option (denV R_ax × denQ P_ax) :=
 (F_av (x.1, x.2.1, ())).bind fun r1 =>
 if (r1.1.1 != (0 : Int)) then
  some (((r1.1.1, ((0 : Int), (((0 : Int), ((0 : Int), ())), ()))), ()), ())
 else
  (F_aw (x.1, x.2.1, ())).bind fun r2 =>
  if 0 ≤ r2.1.1 then
   ((x.1.2.2.2.1)[(r2.1.1).toNat]?).bind fun y3 =>
   some ((((0 : Int), (r2.1.1, ((y3.1, (r2.1.2.1, ())), ()))), ()), ())
  else none
abbrev C_ax : Con := ⟨P_ax, R_ax, F_ax, false⟩
abbrev G_ax : Env := [(32, C_av), (33, C_aw)]
theorem g_ax : EnvOk Try.prog G_ax := (env_cons s_av (env_cons s_aw env_nil))
theorem r_ax (x) : runFn T G_ax [] Try.f11 C_ax.ps C_ax.rs x = C_ax.F x := by kernel_rfl
theorem s_ax : CallsOk Try.prog 11 C_ax := fnC (L := []) hT g_ax Try.f11 okP r_ax
/-! impl.FramesOf -/
abbrev P_ay : List PK := [.val Y28, .val YI]
abbrev R_ay : List VK := [.s (.dat Y32)]
def F_ay (x : denP P_ay) : Option (denV R_ay × denQ P_ay) :=
 (F_aj (x.1, x.2.1, ())).bind fun r1 =>
 if (r1.1.1 != (0 : Int)) then
  some (((r1.1.1, ((0 : Int), ())), ()), ())
 else
  (F_ak (x.1, x.2.1, ())).bind fun r2 =>
  some ((((0 : Int), (r2.1.1, ())), ()), ())
abbrev C_ay : Con := ⟨P_ay, R_ay, F_ay, false⟩
abbrev G_ay : Env := [(25, C_aj), (26, C_ak)]
theorem g_ay : EnvOk Try.prog G_ay := (env_cons s_aj (env_cons s_ak env_nil))
theorem r_ay (x) : runFn T G_ay [] Try.f12 C_ay.ps C_ay.rs x = C_ay.F x := by kernel_rfl
theorem s_ay : CallsOk Try.prog 12 C_ay := fnC (L := []) hT g_ay Try.f12 okP r_ay
/-! laws.FnGaps -/
abbrev P_az : List PK := [.val Y22]
abbrev R_az : List VK := [.s (.dat .bool)]
abbrev i_az_11 : Shp := { slots := [(3, .s (.ptr 3 0)), (4, .s (.dat YI)), (5, .s (.ptr 5 0)), (6, .s (.dat YI)), (7, .s (.dat YI)), (8, .s (.dat YI)), (9, .s (.dat YI))], boxes := [(3, [.dat Y24, .dat Y25, .dat Y26, .dat Y26]), (5, [.dat YI, .dat YI])], rows := [] }
abbrev o_az_11 : List (Ex × Shp) := [(.exit 0, { slots := [(3, .s (.ptr 3 0)), (4, .s (.dat YI)), (5, .s (.ptr 5 0)), (7, .s (.dat YI))], boxes := [(3, [.dat Y24, .dat Y25, .dat Y26, .dat Y26]), (5, [.dat YI, .dat YI])], rows := [] })]
def l_az_11 (rec : i_az_11.den → Option (denO o_az_11)) (u11 : i_az_11.den) : Option (denO o_az_11) :=
 let v7 := (IntKind.i64.wrap ((2 : Int) * u11.1.2.2.2.2.2.1))
 if (ltI u11.1.2.2.2.2.2.2.1 v7) then
  (F_ax (u11.2.1.1, u11.1.2.2.2.2.2.2.1, ())).bind fun r8 =>
  if (r8.1.1.2.2.1.1 == u11.1.2.1) then
   let v9 := (IntKind.i64.wrap (u11.1.2.2.2.2.2.2.1 + (1 : Int)))
   rec (((), (u11.1.2.1, ((), ((0 : Int), (u11.1.2.2.2.2.1, (u11.1.2.2.2.2.2.1, (v9, ()))))))), ((u11.2.1.1, (u11.2.1.2.1, ())), ()))
  else
   let v10 := (IntKind.i64.wrap (u11.1.2.2.2.1 + (1 : Int)))
   if (ltI u11.1.2.2.2.2.1 v10) then
    let v11 := (IntKind.i64.wrap (u11.1.2.2.2.2.2.2.1 + (1 : Int)))
    rec (((), (u11.1.2.1, ((), (v10, (v10, (u11.1.2.2.2.2.2.1, (v11, ()))))))), ((u11.2.1.1, (u11.2.1.2.1, ())), ()))
   else
    let v12 := (IntKind.i64.wrap (u11.1.2.2.2.2.2.2.1 + (1 : Int)))
    rec (((), (u11.1.2.1, ((), (v10, (u11.1.2.2.2.2.1, (u11.1.2.2.2.2.2.1, (v12, ()))))))), ((u11.2.1.1, (u11.2.1.2.1, ())), ()))
 else
  some (.inl (((), (u11.1.2.1, ((), (u11.1.2.2.2.2.1, ())))), ((u11.2.1.1, (u11.2.1.2.1, ())), ())))
def L_az_11 (x : i_az_11.den) : Option (denO o_az_11) := iterF l_az_11 lots x
def F_az (x : denP P_az) : Option (denV R_az × denQ P_az) :=
 (F_a (x.1, ())).bind fun r1 =>
 if r1.1.1 then
  some ((true, ()), ())
 else
  (F_p (x.1, ())).bind fun r2 =>
  (F_an (r2.1.1, r2.1.2.1, ())).bind fun r3 =>
  if (r3.1.1.1 != (0 : Int)) then
   (F_at (r2.1.1, r2.1.2.1, ())).bind fun r4 =>
   some (((r4.1.1.1 == r3.1.1.1), ()), ())
  else
   (F_au (r2.1.1, ())).bind fun r5 =>
   (L_az_11 (((), (r2.1.2.1, ((), ((0 : Int), ((0 : Int), (r5.1.1.2.1, ((0 : Int), ()))))))), (((r2.1.1.1, (r2.1.1.2.1, (r2.1.1.2.2.1, (r2.1.1.2.2.2.1, ())))), ((r3.1.1.1, (r3.1.1.2.1, ())), ())), ()))).bind fun z13 =>
   match z13 with
   | .inl x14 =>
    if (x14.1.2.2.2.1 == x14.2.1.2.1.2.1) = true then
     (F_ay (x14.2.1.1, x14.1.2.1, ())).bind fun r15 =>
     some (((ltI (0 : Int) r15.1.1.2.1), ()), ())
    else
     some ((false, ()), ())
   | .inr z13_ =>
    none
abbrev C_az : Con := ⟨P_az, R_az, F_az, false⟩
abbrev G_az : Env := [(6, C_a), (7, C_p), (8, C_an), (9, C_at), (10, C_au), (11, C_ax), (12, C_ay)]
theorem g_az : EnvOk Try.prog G_az := (env_cons s_a (env_cons s_p (env_cons s_an (env_cons s_at (env_cons s_au (env_cons s_ax (env_cons s_ay env_nil)))))))
abbrev c_az_11 : Cut := ⟨i_az_11, o_az_11, fun x => iterF l_az_11 lots x⟩
theorem t_az_11 (rec x) : run T G_az [] (nav Try.f3 [1, 1, 1, 1, 1, 1, 1, 1, 0, 1, 0, 0]) (mk 63 i_az_11 x) (loopK i_az_11 o_az_11 rec) = l_az_11 rec x := by kernel_rfl
theorem k_az_11 : CutOk Try.prog 63 (.loop (nav Try.f3 [1, 1, 1, 1, 1, 1, 1, 1, 0, 1, 0, 0])) c_az_11 :=
  loop_cut (L := []) hT g_az t_az_11 okP _
theorem r_az (x) : runFn T G_az [(11, c_az_11)] Try.f3 C_az.ps C_az.rs x = C_az.F x := by kernel_rfl
theorem s_az : CallsOk Try.prog 3 C_az := fnC (L := [(11, c_az_11)]) hT g_az Try.f3 (okS okP (okS okP (okS okP (okS okP (okS okP (okS okP (okS okP (okS okP (okS (okS okP (okB (okU k_az_11))) okP))))))))) r_az
theorem q_az : Sound Try.prog 3 C_az :=
  fn_snd (L := [(11, c_az_11)]) hT g_az Try.f3 (by kernel_rfl) (by kernel_rfl) (okS okP (okS okP (okS okP (okS okP (okS okP (okS okP (okS okP (okS okP (okS (okS okP (okB (okU k_az_11))) okP))))))))) r_az
end Go.Proofs.Ytilcgnimcdkfiaa
