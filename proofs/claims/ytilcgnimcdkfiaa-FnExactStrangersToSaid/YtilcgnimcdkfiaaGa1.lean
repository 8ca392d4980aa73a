/- The functions of the laws, each as a plain function of data (F), and that the program's text does what F says. Printed by a program (wip/tools/gen.py). -/
import Derived.Test.YtilcgnimcdkfiaaGt
namespace Go.Proofs.Ytilcgnimcdkfiaa
open Go Go.RowKit S Go.Proofs
set_option maxRecDepth 100000
set_option linter.unusedVariables false
/-! laws.szInt64S -/
abbrev P_a : List PK := [.val Y47, .val YI]
abbrev R_a : List VK := [.s (.dat YI)]
def F_a (x : denP P_a) : Option (denV R_a × denQ P_a) :=
 let v1 := ((x.1.length : Nat) : Int)
 let v2 := (IntKind.i64.wrap (x.2.1 - v1))
 if (ltI v2 (0 : Int)) then
  some (((-1 : Int), ()), ())
 else
  some ((v2, ()), ())
abbrev C_a : Con := ⟨P_a, R_a, F_a, false⟩
abbrev G_a : Env := []
theorem g_a : EnvOk Try.prog G_a := env_nil
theorem r_a (x) : runFn T G_a [] Try.f75 C_a.ps C_a.rs x = C_a.F x := by kernel_rfl
theorem s_a : CallsOk Try.prog 75 C_a := fnC (L := []) hT g_a Try.f75 okP r_a
/-! laws.szInt64SS -/
abbrev P_b : List PK := [.val Y24, .val YI]
abbrev R_b : List VK := [.s (.dat YI)]
abbrev i_b_5 : Shp := { slots := [(0, .s (.dat Y24)), (1, .s (.dat YI)), (5, .s (.dat YI))], boxes := [], rows := [] }
abbrev o_b_5 : List (Ex × Shp) := [(.exit 0, { slots := [(1, .s (.dat YI))], boxes := [], rows := [] }), (.ret, { slots := [(4, .s (.dat YI))], boxes := [], rows := [] })]
def l_b_5 (rec : i_b_5.den → Option (denO o_b_5)) (u5 : i_b_5.den) : Option (denO o_b_5) :=
 let v5 := ((u5.1.1.length : Nat) : Int)
 if (ltI u5.1.2.2.1 v5) then
  if 0 ≤ u5.1.2.2.1 then
   ((u5.1.1)[(u5.1.2.2.1).toNat]?).bind fun y6 =>
   (F_a (y6, u5.1.2.1, ())).bind fun r7 =>
   if (ltI r7.1.1 (0 : Int)) then
    some (.inr (.inl (((-1 : Int), ()), ((), ()))))
   else
    let v8 := (IntKind.i64.wrap (u5.1.2.2.1 + (1 : Int)))
    rec ((u5.1.1, (r7.1.1, (v8, ()))), ((), ()))
  else none
 else
  some (.inl ((u5.1.2.1, ()), ((), ())))
def L_b_5 (x : i_b_5.den) : Option (denO o_b_5) := iterF l_b_5 lots x
def F_b (x : denP P_b) : Option (denV R_b × denQ P_b) :=
 let v1 := ((x.1.length : Nat) : Int)
 let v2 := (IntKind.i64.wrap (x.2.1 - v1))
 if (ltI v2 (0 : Int)) then
  some (((-1 : Int), ()), ())
 else
  (L_b_5 ((x.1, (v2, ((0 : Int), ()))), ((), ()))).bind fun z9 =>
  match z9 with
  | .inl x10 =>
   some ((x10.1.1, ()), ())
  | .inr z9_ =>
   match z9_ with
   | .inl x11 =>
    some ((x11.1.1, ()), ())
   | .inr z9__ =>
    none
abbrev C_b : Con := ⟨P_b, R_b, F_b, false⟩
abbrev G_b : Env := [(75, C_a)]
theorem g_b : EnvOk Try.prog G_b := (env_cons s_a env_nil)
abbrev c_b_5 : Cut := ⟨i_b_5, o_b_5, fun x => iterF l_b_5 lots x⟩
theorem t_b_5 (rec x) : run T G_b [] (nav Try.f34 [1, 1, 1, 0, 1, 0, 0]) (mk 27 i_b_5 x) (loopK i_b_5 o_b_5 rec) = l_b_5 rec x := by kernel_rfl
theorem k_b_5 : CutOk Try.prog 27 (.loop (nav Try.f34 [1, 1, 1, 0, 1, 0, 0])) c_b_5 :=
  loop_cut (L := []) hT g_b t_b_5 okP _
theorem r_b (x) : runFn T G_b [(5, c_b_5)] Try.f34 C_b.ps C_b.rs x = C_b.F x := by kernel_rfl
theorem s_b : CallsOk Try.prog 34 C_b := fnC (L := [(5, c_b_5)]) hT g_b Try.f34 (okS okP (okS okP (okS okP (okS (okS okP (okB (okU k_b_5))) okP)))) r_b
/-! laws.szLaneS -/
abbrev P_c : List PK := [.val Y25, .val YI]
abbrev R_c : List VK := [.s (.dat YI)]
def F_c (x : denP P_c) : Option (denV R_c × denQ P_c) :=
 let v1 := ((x.1.length : Nat) : Int)
 let v2 := (IntKind.i64.wrap (x.2.1 - v1))
 if (ltI v2 (0 : Int)) then
  some (((-1 : Int), ()), ())
 else
  some ((v2, ()), ())
abbrev C_c : Con := ⟨P_c, R_c, F_c, false⟩
abbrev G_c : Env := []
theorem g_c : EnvOk Try.prog G_c := env_nil
theorem r_c (x) : runFn T G_c [] Try.f35 C_c.ps C_c.rs x = C_c.F x := by kernel_rfl
theorem s_c : CallsOk Try.prog 35 C_c := fnC (L := []) hT g_c Try.f35 okP r_c
/-! laws.szBellS -/
abbrev P_d : List PK := [.val Y26, .val YI]
abbrev R_d : List VK := [.s (.dat YI)]
def F_d (x : denP P_d) : Option (denV R_d × denQ P_d) :=
 let v1 := ((x.1.length : Nat) : Int)
 let v2 := (IntKind.i64.wrap (x.2.1 - v1))
 if (ltI v2 (0 : Int)) then
  some (((-1 : Int), ()), ())
 else
  some ((v2, ()), ())
abbrev C_d : Con := ⟨P_d, R_d, F_d, false⟩
abbrev G_d : Env := []
theorem g_d : EnvOk Try.prog G_d := env_nil
theorem r_d (x) : runFn T G_d [] Try.f36 C_d.ps C_d.rs x = C_d.F x := by kernel_rfl
theorem s_d : CallsOk Try.prog 36 C_d := fnC (L := []) hT g_d Try.f36 okP r_d
/-! laws.szSlotS -/
abbrev P_e : List PK := [.val Y26, .val YI]
abbrev R_e : List VK := [.s (.dat YI)]
def F_e (x : denP P_e) : Option (denV R_e × denQ P_e) :=
 let v1 := ((x.1.length : Nat) : Int)
 let v2 := (IntKind.i64.wrap (x.2.1 - v1))
 if (ltI v2 (0 : Int)) then
  some (((-1 : Int), ()), ())
 else
  some ((v2, ()), ())
abbrev C_e : Con := ⟨P_e, R_e, F_e, false⟩
abbrev G_e : Env := []
theorem g_e : EnvOk Try.prog G_e := env_nil
theorem r_e (x) : runFn T G_e [] Try.f37 C_e.ps C_e.rs x = C_e.F x := by kernel_rfl
theorem s_e : CallsOk Try.prog 37 C_e := fnC (L := []) hT g_e Try.f37 okP r_e
/-! laws.szPolicy -/
abbrev P_f : List PK := [.val Y28, .val YI]
abbrev R_f : List VK := [.s (.dat YI)]
def F_f (x : denP P_f) : Option (denV R_f × denQ P_f) :=
 (F_b (x.1.1, x.2.1, ())).bind fun r1 =>
 if (ltI r1.1.1 (0 : Int)) then
  some (((-1 : Int), ()), ())
 else
  (F_c (x.1.2.1, r1.1.1, ())).bind fun r2 =>
  if (ltI r2.1.1 (0 : Int)) then
   some (((-1 : Int), ()), ())
  else
   (F_d (x.1.2.2.1, r2.1.1, ())).bind fun r3 =>
   if (ltI r3.1.1 (0 : Int)) then
    some (((-1 : Int), ()), ())
   else
    (F_e (x.1.2.2.2.1, r3.1.1, ())).bind fun r4 =>
    if (ltI r4.1.1 (0 : Int)) then
     some (((-1 : Int), ()), ())
    else
     some ((r4.1.1, ()), ())
abbrev C_f : Con := ⟨P_f, R_f, F_f, false⟩
abbrev G_f : Env := [(34, C_b), (35, C_c), (36, C_d), (37, C_e)]
theorem g_f : EnvOk Try.prog G_f := (env_cons s_b (env_cons s_c (env_cons s_d (env_cons s_e env_nil))))
theorem r_f (x) : runFn T G_f [] Try.f13 C_f.ps C_f.rs x = C_f.F x := by kernel_rfl
theorem s_f : CallsOk Try.prog 13 C_f := fnC (L := []) hT g_f Try.f13 okP r_f
/-! laws.toInt64S -/
abbrev P_g : List PK := [.val Y47]
abbrev R_g : List VK := [.s (.own 2 YI)]
abbrev i_g_3 : Shp := { slots := [(0, .s (.dat Y47)), (3, .s (.own 2 YI)), (4, .s (.dat YI))], boxes := [], rows := [] }
abbrev o_g_3 : List (Ex × Shp) := [(.exit 0, { slots := [(3, .s (.own 2 YI))], boxes := [], rows := [] })]
def l_g_3 (rec : i_g_3.den → Option (denO o_g_3)) (u3 : i_g_3.den) : Option (denO o_g_3) :=
 let v4 := ((u3.1.1.length : Nat) : Int)
 if (ltI u3.1.2.2.1 v4) then
  if 0 ≤ u3.1.2.2.1 then
   ((u3.1.1)[(u3.1.2.2.1).toNat]?).bind fun y5 =>
   if 0 ≤ u3.1.2.2.1 ∧ u3.1.2.2.1 < ((u3.1.2.1.length : Nat) : Int) then
    ((u3.1.2.1)[(u3.1.2.2.1).toNat]?).bind fun y6 =>
    let v7 := (u3.1.2.1.set (u3.1.2.2.1).toNat y5)
    let v8 := (IntKind.i64.wrap (u3.1.2.2.1 + (1 : Int)))
    rec ((u3.1.1, (v7, (v8, ()))), ((), ()))
   else none
  else none
 else
  some (.inl ((u3.1.2.1, ()), ((), ())))
def L_g_3 (x : i_g_3.den) : Option (denO o_g_3) := iterF l_g_3 lots x
def F_g (x : denP P_g) : Option (denV R_g × denQ P_g) :=
 let v1 := ((x.1.length : Nat) : Int)
 if v1 = v1 ∧ 0 ≤ v1 ∧ v1 * 8 ≤ 140737488355328 ∧ v1 ≤ 9223372036854775807 then
  (L_g_3 ((x.1, ((List.replicate (v1).toNat (zeroD YI)), ((0 : Int), ()))), ((), ()))).bind fun z9 =>
  match z9 with
  | .inl x10 =>
   some ((x10.1.1, ()), ())
  | .inr z9_ =>
   none
 else none
abbrev C_g : Con := ⟨P_g, R_g, F_g, false⟩
abbrev G_g : Env := []
theorem g_g : EnvOk Try.prog G_g := env_nil
abbrev c_g_3 : Cut := ⟨i_g_3, o_g_3, fun x => iterF l_g_3 lots x⟩
theorem t_g_3 (rec x) : run T G_g [] (nav Try.f77 [1, 1, 0, 1, 0, 0]) (mk 22 i_g_3 x) (loopK i_g_3 o_g_3 rec) = l_g_3 rec x := by kernel_rfl
theorem k_g_3 : CutOk Try.prog 22 (.loop (nav Try.f77 [1, 1, 0, 1, 0, 0])) c_g_3 :=
  loop_cut (L := []) hT g_g t_g_3 okP _
theorem r_g (x) : runFn T G_g [(3, c_g_3)] Try.f77 C_g.ps C_g.rs x = C_g.F x := by kernel_rfl
theorem s_g : CallsOk Try.prog 77 C_g := fnC (L := [(3, c_g_3)]) hT g_g Try.f77 (okS okP (okS okP (okS (okS okP (okB (okU k_g_3))) okP))) r_g
/-! laws.toInt64SS -/
abbrev P_h : List PK := [.val Y24]
abbrev R_h : List VK := [.s (.own 3000047 Y47)]
abbrev i_h_3 : Shp := { slots := [(0, .s (.dat Y24)), (3, .s (.own 3000047 Y47)), (4, .s (.dat YI))], boxes := [], rows := [] }
abbrev o_h_3 : List (Ex × Shp) := [(.exit 0, { slots := [(3, .s (.own 3000047 Y47))], boxes := [], rows := [] })]
def l_h_3 (rec : i_h_3.den → Option (denO o_h_3)) (u3 : i_h_3.den) : Option (denO o_h_3) :=
 let v5 := ((u3.1.1.length : Nat) : Int)
 if (ltI u3.1.2.2.1 v5) then
  if 0 ≤ u3.1.2.2.1 then
   ((u3.1.1)[(u3.1.2.2.1).toNat]?).bind fun y6 =>
   (F_g (y6, ())).bind fun r7 =>
   if 0 ≤ u3.1.2.2.1 ∧ u3.1.2.2.1 < ((u3.1.2.1.length : Nat) : Int) then
    ((u3.1.2.1)[(u3.1.2.2.1).toNat]?).bind fun y8 =>
    let v9 := (u3.1.2.1.set (u3.1.2.2.1).toNat r7.1.1)
    let v10 := (IntKind.i64.wrap (u3.1.2.2.1 + (1 : Int)))
    rec ((u3.1.1, (v9, (v10, ()))), ((), ()))
   else none
  else none
 else
  some (.inl ((u3.1.2.1, ()), ((), ())))
def L_h_3 (x : i_h_3.den) : Option (denO o_h_3) := iterF l_h_3 lots x
def F_h (x : denP P_h) : Option (denV R_h × denQ P_h) :=
 let v1 := ((x.1.length : Nat) : Int)
 if v1 = v1 ∧ 0 ≤ v1 ∧ v1 * 24 ≤ 140737488355328 ∧ v1 ≤ 9223372036854775807 then
  (L_h_3 ((x.1, ((List.replicate (v1).toNat (zeroD Y47)), ((0 : Int), ()))), ((), ()))).bind fun z11 =>
  match z11 with
  | .inl x12 =>
   some ((x12.1.1, ()), ())
  | .inr z11_ =>
   none
 else none
abbrev C_h : Con := ⟨P_h, R_h, F_h, false⟩
abbrev G_h : Env := [(77, C_g)]
theorem g_h : EnvOk Try.prog G_h := (env_cons s_g env_nil)
abbrev c_h_3 : Cut := ⟨i_h_3, o_h_3, fun x => iterF l_h_3 lots x⟩
theorem t_h_3 (rec x) : run T G_h [] (nav Try.f40 [1, 1, 0, 1, 0, 0]) (mk 23 i_h_3 x) (loopK i_h_3 o_h_3 rec) = l_h_3 rec x := by kernel_rfl
theorem k_h_3 : CutOk Try.prog 23 (.loop (nav Try.f40 [1, 1, 0, 1, 0, 0])) c_h_3 :=
  loop_cut (L := []) hT g_h t_h_3 okP _
theorem r_h (x) : runFn T G_h [(3, c_h_3)] Try.f40 C_h.ps C_h.rs x = C_h.F x := by kernel_rfl
theorem s_h : CallsOk Try.prog 40 C_h := fnC (L := [(3, c_h_3)]) hT g_h Try.f40 (okS okP (okS okP (okS (okS okP (okB (okU k_h_3))) okP))) r_h
/-! laws.toLane -/
abbrev P_i : List PK := [.val Y104]
abbrev R_i : List VK := [.s (.dat Y104)]
def F_i (x : denP P_i) : Option (denV R_i × denQ P_i) :=
 some ((x.1, ()), ())
abbrev C_i : Con := ⟨P_i, R_i, F_i, false⟩
abbrev G_i : Env := []
theorem g_i : EnvOk Try.prog G_i := env_nil
theorem r_i (x) : runFn T G_i [] Try.f78 C_i.ps C_i.rs x = C_i.F x := by kernel_rfl
theorem s_i : CallsOk Try.prog 78 C_i := fnC (L := []) hT g_i Try.f78 okP r_i
/-! laws.toLaneS -/
abbrev P_j : List PK := [.val Y25]
abbrev R_j : List VK := [.s (.own 105 Y104)]
abbrev i_j_3 : Shp := { slots := [(0, .s (.dat Y25)), (3, .s (.own 105 Y104)), (4, .s (.dat YI))], boxes := [], rows := [] }
abbrev o_j_3 : List (Ex × Shp) := [(.exit 0, { slots := [(3, .s (.own 105 Y104))], boxes := [], rows := [] })]
def l_j_3 (rec : i_j_3.den → Option (denO o_j_3)) (u3 : i_j_3.den) : Option (denO o_j_3) :=
 let v5 := ((u3.1.1.length : Nat) : Int)
 if (ltI u3.1.2.2.1 v5) then
  if 0 ≤ u3.1.2.2.1 then
   ((u3.1.1)[(u3.1.2.2.1).toNat]?).bind fun y6 =>
   (F_i (y6, ())).bind fun r7 =>
   if 0 ≤ u3.1.2.2.1 ∧ u3.1.2.2.1 < ((u3.1.2.1.length : Nat) : Int) then
    ((u3.1.2.1)[(u3.1.2.2.1).toNat]?).bind fun y8 =>
    let v9 := (u3.1.2.1.set (u3.1.2.2.1).toNat r7.1.1)
    let v10 := (IntKind.i64.wrap (u3.1.2.2.1 + (1 : Int)))
    rec ((u3.1.1, (v9, (v10, ()))), ((), ()))
   else none
  else none
 else
  some (.inl ((u3.1.2.1, ()), ((), ())))
def L_j_3 (x : i_j_3.den) : Option (denO o_j_3) := iterF l_j_3 lots x
def F_j (x : denP P_j) : Option (denV R_j × denQ P_j) :=
 let v1 := ((x.1.length : Nat) : Int)
 if v1 = v1 ∧ 0 ≤ v1 ∧ v1 * 40 ≤ 140737488355328 ∧ v1 ≤ 9223372036854775807 then
  (L_j_3 ((x.1, ((List.replicate (v1).toNat (zeroD Y104)), ((0 : Int), ()))), ((), ()))).bind fun z11 =>
  match z11 with
  | .inl x12 =>
   some ((x12.1.1, ()), ())
  | .inr z11_ =>
   none
 else none
abbrev C_j : Con := ⟨P_j, R_j, F_j, false⟩
abbrev G_j : Env := [(78, C_i)]
theorem g_j : EnvOk Try.prog G_j := (env_cons s_i env_nil)
abbrev c_j_3 : Cut := ⟨i_j_3, o_j_3, fun x => iterF l_j_3 lots x⟩
theorem t_j_3 (rec x) : run T G_j [] (nav Try.f41 [1, 1, 0, 1, 0, 0]) (mk 23 i_j_3 x) (loopK i_j_3 o_j_3 rec) = l_j_3 rec x := by kernel_rfl
theorem k_j_3 : CutOk Try.prog 23 (.loop (nav Try.f41 [1, 1, 0, 1, 0, 0])) c_j_3 :=
  loop_cut (L := []) hT g_j t_j_3 okP _
theorem r_j (x) : runFn T G_j [(3, c_j_3)] Try.f41 C_j.ps C_j.rs x = C_j.F x := by kernel_rfl
theorem s_j : CallsOk Try.prog 41 C_j := fnC (L := [(3, c_j_3)]) hT g_j Try.f41 (okS okP (okS okP (okS (okS okP (okB (okU k_j_3))) okP))) r_j
/-! laws.toBell -/
abbrev P_k : List PK := [.val Y32]
abbrev R_k : List VK := [.s (.dat Y32)]
def F_k (x : denP P_k) : Option (denV R_k × denQ P_k) :=
 some ((x.1, ()), ())
abbrev C_k : Con := ⟨P_k, R_k, F_k, false⟩
abbrev G_k : Env := []
theorem g_k : EnvOk Try.prog G_k := env_nil
theorem r_k (x) : runFn T G_k [] Try.f79 C_k.ps C_k.rs x = C_k.F x := by kernel_rfl
theorem s_k : CallsOk Try.prog 79 C_k := fnC (L := []) hT g_k Try.f79 okP r_k
/-! laws.toBellS -/
abbrev P_l : List PK := [.val Y26]
abbrev R_l : List VK := [.s (.own 108 Y32)]
abbrev i_l_3 : Shp := { slots := [(0, .s (.dat Y26)), (3, .s (.own 108 Y32)), (4, .s (.dat YI))], boxes := [], rows := [] }
abbrev o_l_3 : List (Ex × Shp) := [(.exit 0, { slots := [(3, .s (.own 108 Y32))], boxes := [], rows := [] })]
def l_l_3 (rec : i_l_3.den → Option (denO o_l_3)) (u3 : i_l_3.den) : Option (denO o_l_3) :=
 let v5 := ((u3.1.1.length : Nat) : Int)
 if (ltI u3.1.2.2.1 v5) then
  if 0 ≤ u3.1.2.2.1 then
   ((u3.1.1)[(u3.1.2.2.1).toNat]?).bind fun y6 =>
   (F_k (y6, ())).bind fun r7 =>
   if 0 ≤ u3.1.2.2.1 ∧ u3.1.2.2.1 < ((u3.1.2.1.length : Nat) : Int) then
    ((u3.1.2.1)[(u3.1.2.2.1).toNat]?).bind fun y8 =>
    let v9 := (u3.1.2.1.set (u3.1.2.2.1).toNat r7.1.1)
    let v10 := (IntKind.i64.wrap (u3.1.2.2.1 + (1 : Int)))
    rec ((u3.1.1, (v9, (v10, ()))), ((), ()))
   else none
  else none
 else
  some (.inl ((u3.1.2.1, ()), ((), ())))
def L_l_3 (x : i_l_3.den) : Option (denO o_l_3) := iterF l_l_3 lots x
def F_l (x : denP P_l) : Option (denV R_l × denQ P_l) :=
 let v1 := ((x.1.length : Nat) : Int)
 if v1 = v1 ∧ 0 ≤ v1 ∧ v1 * 16 ≤ 140737488355328 ∧ v1 ≤ 9223372036854775807 then
  (L_l_3 ((x.1, ((List.replicate (v1).toNat (zeroD Y32)), ((0 : Int), ()))), ((), ()))).bind fun z11 =>
  match z11 with
  | .inl x12 =>
   some ((x12.1.1, ()), ())
  | .inr z11_ =>
   none
 else none
abbrev C_l : Con := ⟨P_l, R_l, F_l, false⟩
abbrev G_l : Env := [(79, C_k)]
theorem g_l : EnvOk Try.prog G_l := (env_cons s_k env_nil)
abbrev c_l_3 : Cut := ⟨i_l_3, o_l_3, fun x => iterF l_l_3 lots x⟩
theorem t_l_3 (rec x) : run T G_l [] (nav Try.f42 [1, 1, 0, 1, 0, 0]) (mk 23 i_l_3 x) (loopK i_l_3 o_l_3 rec) = l_l_3 rec x := by kernel_rfl
theorem k_l_3 : CutOk Try.prog 23 (.loop (nav Try.f42 [1, 1, 0, 1, 0, 0])) c_l_3 :=
  loop_cut (L := []) hT g_l t_l_3 okP _
theorem r_l (x) : runFn T G_l [(3, c_l_3)] Try.f42 C_l.ps C_l.rs x = C_l.F x := by kernel_rfl
theorem s_l : CallsOk Try.prog 42 C_l := fnC (L := [(3, c_l_3)]) hT g_l Try.f42 (okS okP (okS okP (okS (okS okP (okB (okU k_l_3))) okP))) r_l
/-! laws.toSlot -/
abbrev P_m : List PK := [.val Y32]
abbrev R_m : List VK := [.s (.dat Y32)]
def F_m (x : denP P_m) : Option (denV R_m × denQ P_m) :=
 some ((x.1, ()), ())
abbrev C_m : Con := ⟨P_m, R_m, F_m, false⟩
abbrev G_m : Env := []
theorem g_m : EnvOk Try.prog G_m := env_nil
theorem r_m (x) : runFn T G_m [] Try.f80 C_m.ps C_m.rs x = C_m.F x := by kernel_rfl
theorem s_m : CallsOk Try.prog 80 C_m := fnC (L := []) hT g_m Try.f80 okP r_m
/-! laws.toSlotS -/
abbrev P_n : List PK := [.val Y26]
abbrev R_n : List VK := [.s (.own 37 Y32)]
abbrev i_n_3 : Shp := { slots := [(0, .s (.dat Y26)), (3, .s (.own 37 Y32)), (4, .s (.dat YI))], boxes := [], rows := [] }
abbrev o_n_3 : List (Ex × Shp) := [(.exit 0, { slots := [(3, .s (.own 37 Y32))], boxes := [], rows := [] })]
def l_n_3 (rec : i_n_3.den → Option (denO o_n_3)) (u3 : i_n_3.den) : Option (denO o_n_3) :=
 let v5 := ((u3.1.1.length : Nat) : Int)
 if (ltI u3.1.2.2.1 v5) then
  if 0 ≤ u3.1.2.2.1 then
   ((u3.1.1)[(u3.1.2.2.1).toNat]?).bind fun y6 =>
   (F_m (y6, ())).bind fun r7 =>
   if 0 ≤ u3.1.2.2.1 ∧ u3.1.2.2.1 < ((u3.1.2.1.length : Nat) : Int) then
    ((u3.1.2.1)[(u3.1.2.2.1).toNat]?).bind fun y8 =>
    let v9 := (u3.1.2.1.set (u3.1.2.2.1).toNat r7.1.1)
    let v10 := (IntKind.i64.wrap (u3.1.2.2.1 + (1 : Int)))
    rec ((u3.1.1, (v9, (v10, ()))), ((), ()))
   else none
  else none
 else
  some (.inl ((u3.1.2.1, ()), ((), ())))
def L_n_3 (x : i_n_3.den) : Option (denO o_n_3) := iterF l_n_3 lots x
def F_n (x : denP P_n) : Option (denV R_n × denQ P_n) :=
 let v1 := ((x.1.length : Nat) : Int)
 if v1 = v1 ∧ 0 ≤ v1 ∧ v1 * 16 ≤ 140737488355328 ∧ v1 ≤ 9223372036854775807 then
  (L_n_3 ((x.1, ((List.replicate (v1).toNat (zeroD Y32)), ((0 : Int), ()))), ((), ()))).bind fun z11 =>
  match z11 with
  | .inl x12 =>
   some ((x12.1.1, ()), ())
  | .inr z11_ =>
   none
 else none
abbrev C_n : Con := ⟨P_n, R_n, F_n, false⟩
abbrev G_n : Env := [(80, C_m)]
theorem g_n : EnvOk Try.prog G_n := (env_cons s_m env_nil)
abbrev c_n_3 : Cut := ⟨i_n_3, o_n_3, fun x => iterF l_n_3 lots x⟩
theorem t_n_3 (rec x) : run T G_n [] (nav Try.f43 [1, 1, 0, 1, 0, 0]) (mk 23 i_n_3 x) (loopK i_n_3 o_n_3 rec) = l_n_3 rec x := by kernel_rfl
theorem k_n_3 : CutOk Try.prog 23 (.loop (nav Try.f43 [1, 1, 0, 1, 0, 0])) c_n_3 :=
  loop_cut (L := []) hT g_n t_n_3 okP _
theorem r_n (x) : runFn T G_n [(3, c_n_3)] Try.f43 C_n.ps C_n.rs x = C_n.F x := by kernel_rfl
theorem s_n : CallsOk Try.prog 43 C_n := fnC (L := [(3, c_n_3)]) hT g_n Try.f43 (okS okP (okS okP (okS (okS okP (okB (okU k_n_3))) okP))) r_n
/-! laws.toPolicy -/
abbrev P_o : List PK := [.val Y28]
abbrev R_o : List VK := [.g [.own 3000047 Y47, .own 105 Y104, .own 108 Y32, .own 37 Y32]]
def F_o (x : denP P_o) : Option (denV R_o × denQ P_o) :=
 (F_h (x.1.1, ())).bind fun r1 =>
 (F_j (x.1.2.1, ())).bind fun r2 =>
 (F_l (x.1.2.2.1, ())).bind fun r3 =>
 (F_n (x.1.2.2.2.1, ())).bind fun r4 =>
 some (((r1.1.1, (r2.1.1, (r3.1.1, (r4.1.1, ())))), ()), ())
abbrev C_o : Con := ⟨P_o, R_o, F_o, false⟩
abbrev G_o : Env := [(40, C_h), (41, C_j), (42, C_l), (43, C_n)]
theorem g_o : EnvOk Try.prog G_o := (env_cons s_h (env_cons s_j (env_cons s_l (env_cons s_n env_nil))))
theorem r_o (x) : runFn T G_o [] Try.f15 C_o.ps C_o.rs x = C_o.F x := by kernel_rfl
theorem s_o : CallsOk Try.prog 15 C_o := fnC (L := []) hT g_o Try.f15 okP r_o
/-! spec.l1In -/
abbrev P_p : List PK := [.val YI, .val YI, .val YI]
abbrev R_p : List VK := [.s (.dat .bool)]
def F_p (x : denP P_p) : Option (denV R_p × denQ P_p) :=
 if (leI x.2.1 x.1) = true then
  some (((leI x.1 x.2.2.1), ()), ())
 else
  some ((false, ()), ())
abbrev C_p : Con := ⟨P_p, R_p, F_p, false⟩
abbrev G_p : Env := []
theorem g_p : EnvOk Try.prog G_p := env_nil
theorem r_p (x) : runFn T G_p [] Try.f96 C_p.ps C_p.rs x = C_p.F x := by kernel_rfl
theorem s_p : CallsOk Try.prog 96 C_p := fnC (L := []) hT g_p Try.f96 okP r_p
/-! spec.l1Has -/
abbrev P_q : List PK := [.val Y47, .val YI]
abbrev R_q : List VK := [.s (.dat .bool)]
abbrev i_q_2 : Shp := { slots := [(0, .s (.dat Y47)), (1, .s (.dat YI)), (5, .s (.dat YI))], boxes := [], rows := [] }
abbrev o_q_2 : List (Ex × Shp) := [(.exit 0, { slots := [], boxes := [], rows := [] }), (.ret, { slots := [(4, .s (.dat .bool))], boxes := [], rows := [] })]
def l_q_2 (rec : i_q_2.den → Option (denO o_q_2)) (u2 : i_q_2.den) : Option (denO o_q_2) :=
 let v2 := ((u2.1.1.length : Nat) : Int)
 if (ltI u2.1.2.2.1 v2) then
  if 0 ≤ u2.1.2.2.1 then
   ((u2.1.1)[(u2.1.2.2.1).toNat]?).bind fun y3 =>
   if (y3 == u2.1.2.1) then
    some (.inr (.inl ((true, ()), ((), ()))))
   else
    let v4 := (IntKind.i64.wrap (u2.1.2.2.1 + (1 : Int)))
    rec ((u2.1.1, (u2.1.2.1, (v4, ()))), ((), ()))
  else none
 else
  some (.inl ((), ((), ())))
def L_q_2 (x : i_q_2.den) : Option (denO o_q_2) := iterF l_q_2 lots x
def F_q (x : denP P_q) : Option (denV R_q × denQ P_q) :=
 (L_q_2 ((x.1, (x.2.1, ((0 : Int), ()))), ((), ()))).bind fun z5 =>
 match z5 with
 | .inl x6 =>
  some ((false, ()), ())
 | .inr z5_ =>
  match z5_ with
  | .inl x7 =>
   some ((x7.1.1, ()), ())
  | .inr z5__ =>
   none
abbrev C_q : Con := ⟨P_q, R_q, F_q, false⟩
abbrev G_q : Env := []
theorem g_q : EnvOk Try.prog G_q := env_nil
abbrev c_q_2 : Cut := ⟨i_q_2, o_q_2, fun x => iterF l_q_2 lots x⟩
theorem t_q_2 (rec x) : run T G_q [] (nav Try.f39 [1, 0, 1, 0, 0]) (mk 18 i_q_2 x) (loopK i_q_2 o_q_2 rec) = l_q_2 rec x := by kernel_rfl
theorem k_q_2 : CutOk Try.prog 18 (.loop (nav Try.f39 [1, 0, 1, 0, 0])) c_q_2 :=
  loop_cut (L := []) hT g_q t_q_2 okP _
theorem r_q (x) : runFn T G_q [(2, c_q_2)] Try.f39 C_q.ps C_q.rs x = C_q.F x := by kernel_rfl
theorem s_q : CallsOk Try.prog 39 C_q := fnC (L := [(2, c_q_2)]) hT g_q Try.f39 (okS okP (okS (okS okP (okB (okU k_q_2))) okP)) r_q
/-! spec.l6Owns -/
abbrev P_r : List PK := [.ptr Y28]
abbrev R_r : List VK := [.s (.dat YI)]
abbrev i_r_18 : Shp := { slots := [(0, .s (.pd Y28)), (5, .s (.own 2 YI)), (6, .s (.dat YI)), (7, .s (.dat YI))], boxes := [], rows := [] }
abbrev o_r_18 : List (Ex × Shp) := [(.exit 6, { slots := [(0, .s (.pd Y28)), (5, .s (.own 2 YI)), (6, .s (.dat YI))], boxes := [], rows := [] }), (.ret, { slots := [(2, .s (.dat YI))], boxes := [], rows := [] })]
def l_r_18 (rec : i_r_18.den → Option (denO o_r_18)) (u18 : i_r_18.den) : Option (denO o_r_18) :=
 if 0 ≤ u18.1.2.2.1 then
  ((u18.1.1.1)[(u18.1.2.2.1).toNat]?).bind fun y49 =>
  let v50 := ((y49.length : Nat) : Int)
  if (ltI u18.1.2.2.2.1 v50) then
   if 0 ≤ u18.1.2.2.1 then
    ((u18.1.1.1)[(u18.1.2.2.1).toNat]?).bind fun y51 =>
    if 0 ≤ u18.1.2.2.2.1 then
     ((y51)[(u18.1.2.2.2.1).toNat]?).bind fun y52 =>
     (F_q (u18.1.2.1, y52, ())).bind fun r53 =>
     if r53.1.1 then
      some (.inr (.inl (((6 : Int), ()), ((), ()))))
     else
      if 0 ≤ u18.1.2.2.1 then
       ((u18.1.1.1)[(u18.1.2.2.1).toNat]?).bind fun y54 =>
       if 0 ≤ u18.1.2.2.2.1 then
        ((y54)[(u18.1.2.2.2.1).toNat]?).bind fun y55 =>
        if (u18.1.2.1.length + [y55].length) * 8 ≤ 140737488355328 then
         let v56 := (u18.1.2.1 ++ [y55])
         let v57 := (IntKind.i64.wrap (u18.1.2.2.2.1 + (1 : Int)))
         rec ((u18.1.1, (v56, (u18.1.2.2.1, (v57, ())))), ((), ()))
        else none
       else none
      else none
    else none
   else none
  else
   some (.inl ((u18.1.1, (u18.1.2.1, (u18.1.2.2.1, ()))), ((), ())))
 else none
def L_r_18 (x : i_r_18.den) : Option (denO o_r_18) := iterF l_r_18 lots x
abbrev i_r_9 : Shp := { slots := [(0, .s (.pd Y28)), (3, .s (.dat YI)), (4, .s (.dat YI)), (41, .s (.pd Y28)), (42, .s (.pd Y28)), (43, .s (.pd Y24)), (44, .s (.dat Y24)), (45, .s (.dat YI)), (46, .s (.pd Y47)), (47, .s (.dat Y47)), (48, .s (.dat YI)), (49, .s (.dat .bool))], boxes := [], rows := [] }
abbrev o_r_9 : List (Ex × Shp) := [(.exit 2, { slots := [(0, .s (.pd Y28)), (3, .s (.dat YI)), (41, .s (.pd Y28)), (42, .s (.pd Y28)), (43, .s (.pd Y24)), (44, .s (.dat Y24)), (45, .s (.dat YI)), (46, .s (.pd Y47)), (47, .s (.dat Y47)), (48, .s (.dat YI)), (49, .s (.dat .bool))], boxes := [], rows := [] }), (.ret, { slots := [(2, .s (.dat YI))], boxes := [], rows := [] })]
def l_r_9 (rec : i_r_9.den → Option (denO o_r_9)) (u9 : i_r_9.den) : Option (denO o_r_9) :=
 if 0 ≤ u9.1.2.1 then
  ((u9.1.1.1)[(u9.1.2.1).toNat]?).bind fun y21 =>
  let v22 := ((y21.length : Nat) : Int)
  if (ltI u9.1.2.2.1 v22) then
   if 0 ≤ u9.1.2.1 then
    ((u9.1.1.1)[(u9.1.2.1).toNat]?).bind fun y23 =>
    if 0 ≤ u9.1.2.2.1 then
     ((y23)[(u9.1.2.2.1).toNat]?).bind fun y24 =>
     (F_p (y24, (0 : Int), (23 : Int), ())).bind fun r25 =>
     if (!r25.1.1) then
      some (.inr (.inl (((3 : Int), ()), ((), ()))))
     else
      let v26 := (IntKind.i64.wrap (u9.1.2.2.1 + (1 : Int)))
      rec ((u9.1.1, (u9.1.2.1, (v26, (u9.1.2.2.2.1, (u9.1.2.2.2.2.1, (u9.1.2.2.2.2.2.1, (u9.1.2.2.2.2.2.2.1, (u9.1.2.2.2.2.2.2.2.1, (u9.1.2.2.2.2.2.2.2.2.1, (u9.1.2.2.2.2.2.2.2.2.2.1, (u9.1.2.2.2.2.2.2.2.2.2.2.1, (u9.1.2.2.2.2.2.2.2.2.2.2.2.1, ())))))))))))), ((), ()))
    else none
   else none
  else
   some (.inl ((u9.1.1, (u9.1.2.1, (u9.1.2.2.2.1, (u9.1.2.2.2.2.1, (u9.1.2.2.2.2.2.1, (u9.1.2.2.2.2.2.2.1, (u9.1.2.2.2.2.2.2.2.1, (u9.1.2.2.2.2.2.2.2.2.1, (u9.1.2.2.2.2.2.2.2.2.2.1, (u9.1.2.2.2.2.2.2.2.2.2.2.1, (u9.1.2.2.2.2.2.2.2.2.2.2.2.1, ()))))))))))), ((), ())))
 else none
def L_r_9 (x : i_r_9.den) : Option (denO o_r_9) := iterF l_r_9 lots x
abbrev i_r_15 : Shp := { slots := [(0, .s (.pd Y28)), (5, .s (.own 2 YI)), (6, .s (.dat YI))], boxes := [], rows := [] }
abbrev o_r_15 : List (Ex × Shp) := [(.exit 4, { slots := [], boxes := [], rows := [] }), (.ret, { slots := [(2, .s (.dat YI))], boxes := [], rows := [] })]
def l_r_15 (rec : i_r_15.den → Option (denO o_r_15)) (u15 : i_r_15.den) : Option (denO o_r_15) :=
 let v42 := ((u15.1.1.1.length : Nat) : Int)
 if (ltI u15.1.2.2.1 v42) then
  (L_r_18 ((u15.1.1, (u15.1.2.1, (u15.1.2.2.1, ((0 : Int), ())))), ((), ()))).bind fun z58 =>
  match z58 with
  | .inl x59 =>
   let v60 := (IntKind.i64.wrap (x59.1.2.2.1 + (1 : Int)))
   rec ((x59.1.1, (x59.1.2.1, (v60, ()))), ((), ()))
  | .inr z58_ =>
   match z58_ with
   | .inl x61 =>
    some (.inr (.inl ((x61.1.1, ()), ((), ()))))
   | .inr z58__ =>
    none
 else
  some (.inl ((), ((), ())))
def L_r_15 (x : i_r_15.den) : Option (denO o_r_15) := iterF l_r_15 lots x
abbrev i_r_4 : Shp := { slots := [(0, .s (.pd Y28)), (3, .s (.dat YI))], boxes := [], rows := [] }
abbrev o_r_4 : List (Ex × Shp) := [(.exit 0, { slots := [(0, .s (.pd Y28))], boxes := [], rows := [] }), (.ret, { slots := [(2, .s (.dat YI))], boxes := [], rows := [] })]
def l_r_4 (rec : i_r_4.den → Option (denO o_r_4)) (u4 : i_r_4.den) : Option (denO o_r_4) :=
 let v12 := ((u4.1.1.1.length : Nat) : Int)
 if (ltI u4.1.2.1 v12) then
  if 0 ≤ u4.1.2.1 then
   ((u4.1.1.1)[(u4.1.2.1).toNat]?).bind fun y13 =>
   let v14 := ((y13.length : Nat) : Int)
   if (ltI v14 (1 : Int)) = false then
    if 0 ≤ u4.1.2.1 then
     ((u4.1.1.1)[(u4.1.2.1).toNat]?).bind fun y15 =>
     let v16 := ((y15.length : Nat) : Int)
     if (ltI (5 : Int) v16) then
      some (.inr (.inl (((2 : Int), ()), ((), ()))))
     else
      (L_r_9 ((u4.1.1, (u4.1.2.1, ((0 : Int), (u4.1.1, (u4.1.1, (u4.1.1.1, (u4.1.1.1, (u4.1.2.1, (y15, (y15, (v16, ((ltI (5 : Int) v16), ())))))))))))), ((), ()))).bind fun z27 =>
      match z27 with
      | .inl x28 =>
       let v29 := (IntKind.i64.wrap (x28.1.2.1 + (1 : Int)))
       rec ((x28.1.1, (v29, ())), ((), ()))
      | .inr z27_ =>
       match z27_ with
       | .inl x30 =>
        some (.inr (.inl ((x30.1.1, ()), ((), ()))))
       | .inr z27__ =>
        none
    else none
   else
    some (.inr (.inl (((2 : Int), ()), ((), ()))))
  else none
 else
  some (.inl ((u4.1.1, ()), ((), ())))
def L_r_4 (x : i_r_4.den) : Option (denO o_r_4) := iterF l_r_4 lots x
def F_r (x : denP P_r) : Option (denV R_r × denQ P_r) :=
 let v1 := ((x.1.1.length : Nat) : Int)
 if (ltI v1 (1 : Int)) = false then
  let v2 := ((x.1.1.length : Nat) : Int)
  if (ltI (3 : Int) v2) then
   some (((2 : Int), ()), ())
  else
   (L_r_4 ((x.1, ((0 : Int), ())), ((), ()))).bind fun z31 =>
   match z31 with
   | .inl x32 =>
    (L_r_15 ((x32.1.1, (([] : List (den YI)), ((0 : Int), ()))), ((), ()))).bind fun z62 =>
    match z62 with
    | .inl x63 =>
     some (((0 : Int), ()), ())
    | .inr z62_ =>
     match z62_ with
     | .inl x64 =>
      some ((x64.1.1, ()), ())
     | .inr z62__ =>
      none
   | .inr z31_ =>
    match z31_ with
    | .inl x65 =>
     some ((x65.1.1, ()), ())
    | .inr z31__ =>
     none
 else
  some (((2 : Int), ()), ())
abbrev C_r : Con := ⟨P_r, R_r, F_r, false⟩
abbrev G_r : Env := [(39, C_q), (96, C_p)]
theorem g_r : EnvOk Try.prog G_r := (env_cons s_q (env_cons s_p env_nil))
abbrev c_r_18 : Cut := ⟨i_r_18, o_r_18, fun x => iterF l_r_18 lots x⟩
theorem t_r_18 (rec x) : run T G_r [] (nav Try.f93 [1, 1, 1, 1, 0, 1, 0, 0, 1, 0, 0, 1, 0, 0]) (mk 122 i_r_18 x) (loopK i_r_18 o_r_18 rec) = l_r_18 rec x := by kernel_rfl
theorem k_r_18 : CutOk Try.prog 122 (.loop (nav Try.f93 [1, 1, 1, 1, 0, 1, 0, 0, 1, 0, 0, 1, 0, 0])) c_r_18 :=
  loop_cut (L := []) hT g_r t_r_18 okP _
abbrev c_r_9 : Cut := ⟨i_r_9, o_r_9, fun x => iterF l_r_9 lots x⟩
theorem t_r_9 (rec x) : run T G_r [] (nav Try.f93 [1, 1, 0, 1, 0, 0, 1, 0, 0, 1, 1, 0, 0]) (mk 122 i_r_9 x) (loopK i_r_9 o_r_9 rec) = l_r_9 rec x := by kernel_rfl
theorem k_r_9 : CutOk Try.prog 122 (.loop (nav Try.f93 [1, 1, 0, 1, 0, 0, 1, 0, 0, 1, 1, 0, 0])) c_r_9 :=
  loop_cut (L := []) hT g_r t_r_9 okP _
abbrev c_r_15 : Cut := ⟨i_r_15, o_r_15, fun x => iterF l_r_15 lots x⟩
theorem t_r_15 (rec x) : run T G_r [(18, c_r_18)] (nav Try.f93 [1, 1, 1, 1, 0, 1, 0, 0]) (mk 122 i_r_15 x) (loopK i_r_15 o_r_15 rec) = l_r_15 rec x := by kernel_rfl
theorem k_r_15 : CutOk Try.prog 122 (.loop (nav Try.f93 [1, 1, 1, 1, 0, 1, 0, 0])) c_r_15 :=
  loop_cut (L := [(18, c_r_18)]) hT g_r t_r_15 (okS okP (okS (okB (okS okP (okB (okU k_r_18)))) okP)) _
abbrev c_r_4 : Cut := ⟨i_r_4, o_r_4, fun x => iterF l_r_4 lots x⟩
theorem t_r_4 (rec x) : run T G_r [(9, c_r_9)] (nav Try.f93 [1, 1, 0, 1, 0, 0]) (mk 122 i_r_4 x) (loopK i_r_4 o_r_4 rec) = l_r_4 rec x := by kernel_rfl
theorem k_r_4 : CutOk Try.prog 122 (.loop (nav Try.f93 [1, 1, 0, 1, 0, 0])) c_r_4 :=
  loop_cut (L := [(9, c_r_9)]) hT g_r t_r_4 (okS okP (okS (okB (okS okP (okS okP (okB (okU k_r_9))))) okP)) _
theorem r_r (x) : runFn T G_r [(18, c_r_18), (9, c_r_9), (15, c_r_15), (4, c_r_4)] Try.f93 C_r.ps C_r.rs x = C_r.F x := by kernel_rfl
theorem s_r : CallsOk Try.prog 93 C_r := fnC (L := [(18, c_r_18), (9, c_r_9), (15, c_r_15), (4, c_r_4)]) hT g_r Try.f93 (okS okP (okS okP (okS (okS okP (okB (okU k_r_4))) (okS okP (okS (okS okP (okB (okU k_r_15))) okP))))) r_r
/-! spec.l6Guest -/
abbrev P_s : List PK := [.ptr Y28, .val YI]
abbrev R_s : List VK := [.s (.dat .bool)]
def F_s (x : denP P_s) : Option (denV R_s × denQ P_s) :=
 let v1 := ((x.1.1.length : Nat) : Int)
 let v2 := (IntKind.i64.wrap (v1 - (1 : Int)))
 (F_p (x.2.1, (0 : Int), v2, ())).bind fun r3 =>
 some ((r3.1.1, ()), ())
abbrev C_s : Con := ⟨P_s, R_s, F_s, false⟩
abbrev G_s : Env := [(96, C_p)]
theorem g_s : EnvOk Try.prog G_s := (env_cons s_p env_nil)
theorem r_s (x) : runFn T G_s [] Try.f69 C_s.ps C_s.rs x = C_s.F x := by kernel_rfl
theorem s_s : CallsOk Try.prog 69 C_s := fnC (L := []) hT g_s Try.f69 okP r_s
/-! spec.l6Ends -/
abbrev P_t : List PK := [.ptr Y28, .val YI, .val YI]
abbrev R_t : List VK := [.s (.dat YI)]
def F_t (x : denP P_t) : Option (denV R_t × denQ P_t) :=
 (F_s (x.1, x.2.1, ())).bind fun r1 =>
 if (!r1.1.1) = false then
  (F_s (x.1, x.2.2.1, ())).bind fun r2 =>
  if (!r2.1.1) then
   some (((4 : Int), ()), ())
  else
   if (x.2.1 == x.2.2.1) then
    some (((1 : Int), ()), ())
   else
    some (((0 : Int), ()), ())
 else
  some (((4 : Int), ()), ())
abbrev C_t : Con := ⟨P_t, R_t, F_t, false⟩
abbrev G_t : Env := [(69, C_s)]
theorem g_t : EnvOk Try.prog G_t := (env_cons s_s env_nil)
theorem r_t (x) : runFn T G_t [] Try.f117 C_t.ps C_t.rs x = C_t.F x := by kernel_rfl
theorem s_t : CallsOk Try.prog 117 C_t := fnC (L := []) hT g_t Try.f117 okP r_t
/-! spec.l6Owner -/
abbrev P_u : List PK := [.ptr Y28, .val YI]
abbrev R_u : List VK := [.s (.dat YI)]
abbrev i_u_2 : Shp := { slots := [(0, .s (.pd Y28)), (1, .s (.dat YI)), (5, .s (.dat YI))], boxes := [], rows := [] }
abbrev o_u_2 : List (Ex × Shp) := [(.exit 0, { slots := [], boxes := [], rows := [] }), (.ret, { slots := [(4, .s (.dat YI))], boxes := [], rows := [] })]
def l_u_2 (rec : i_u_2.den → Option (denO o_u_2)) (u2 : i_u_2.den) : Option (denO o_u_2) :=
 let v3 := ((u2.1.1.1.length : Nat) : Int)
 if (ltI u2.1.2.2.1 v3) then
  if 0 ≤ u2.1.2.2.1 then
   ((u2.1.1.1)[(u2.1.2.2.1).toNat]?).bind fun y4 =>
   (F_q (y4, u2.1.2.1, ())).bind fun r5 =>
   if r5.1.1 then
    some (.inr (.inl ((u2.1.2.2.1, ()), ((), ()))))
   else
    let v6 := (IntKind.i64.wrap (u2.1.2.2.1 + (1 : Int)))
    rec ((u2.1.1, (u2.1.2.1, (v6, ()))), ((), ()))
  else none
 else
  some (.inl ((), ((), ())))
def L_u_2 (x : i_u_2.den) : Option (denO o_u_2) := iterF l_u_2 lots x
def F_u (x : denP P_u) : Option (denV R_u × denQ P_u) :=
 (L_u_2 ((x.1, (x.2.1, ((0 : Int), ()))), ((), ()))).bind fun z7 =>
 match z7 with
 | .inl x8 =>
  some (((-1 : Int), ()), ())
 | .inr z7_ =>
  match z7_ with
  | .inl x9 =>
   some ((x9.1.1, ()), ())
  | .inr z7__ =>
   none
abbrev C_u : Con := ⟨P_u, R_u, F_u, false⟩
abbrev G_u : Env := [(39, C_q)]
theorem g_u : EnvOk Try.prog G_u := (env_cons s_q env_nil)
abbrev c_u_2 : Cut := ⟨i_u_2, o_u_2, fun x => iterF l_u_2 lots x⟩
theorem t_u_2 (rec x) : run T G_u [] (nav Try.f118 [1, 0, 1, 0, 0]) (mk 25 i_u_2 x) (loopK i_u_2 o_u_2 rec) = l_u_2 rec x := by kernel_rfl
theorem k_u_2 : CutOk Try.prog 25 (.loop (nav Try.f118 [1, 0, 1, 0, 0])) c_u_2 :=
  loop_cut (L := []) hT g_u t_u_2 okP _
theorem r_u (x) : runFn T G_u [(2, c_u_2)] Try.f118 C_u.ps C_u.rs x = C_u.F x := by kernel_rfl
theorem s_u : CallsOk Try.prog 118 C_u := fnC (L := [(2, c_u_2)]) hT g_u Try.f118 (okS okP (okS (okS okP (okB (okU k_u_2))) okP)) r_u
/-! spec.l6At -/
abbrev P_v : List PK := [.val Y104, .val YI, .val YI]
abbrev R_v : List VK := [.s (.dat .bool)]
def F_v (x : denP P_v) : Option (denV R_v × denQ P_v) :=
 if (x.1.1 == x.2.1) = true then
  if (x.1.2.2.2.1 == x.2.2.1) = false then
   if (x.1.2.1 == x.2.1) = true then
    some (((x.1.2.2.2.2.1 == x.2.2.1), ()), ())
   else
    some ((false, ()), ())
  else
   some ((true, ()), ())
 else
  if (x.1.2.1 == x.2.1) = true then
   some (((x.1.2.2.2.2.1 == x.2.2.1), ()), ())
  else
   some ((false, ()), ())
abbrev C_v : Con := ⟨P_v, R_v, F_v, false⟩
abbrev G_v : Env := []
theorem g_v : EnvOk Try.prog G_v := env_nil
theorem r_v (x) : runFn T G_v [] Try.f119 C_v.ps C_v.rs x = C_v.F x := by kernel_rfl
theorem s_v : CallsOk Try.prog 119 C_v := fnC (L := []) hT g_v Try.f119 okP r_v
/-! spec.l6Lanes -/
abbrev P_w : List PK := [.ptr Y28]
abbrev R_w : List VK := [.s (.dat YI)]
abbrev i_w_15 : Shp := { slots := [(0, .s (.pd Y28)), (3, .s (.dat YI)), (4, .s (.ptr 4 0)), (6, .s (.dat YI)), (52, .s (.ptr 4 3)), (53, .s (.dat YI)), (54, .s (.dat .bool)), (55, .s (.dat .bool)), (58, .s (.ptr 4 4)), (59, .s (.dat YI)), (60, .s (.dat .bool)), (61, .s (.dat .bool))], boxes := [(4, [.dat YI, .dat YI, .dat YI, .dat YI, .dat YI])], rows := [] }
abbrev o_w_15 : List (Ex × Shp) := [(.exit 2, { slots := [(0, .s (.pd Y28)), (3, .s (.dat YI)), (52, .s (.ptr 4 3)), (53, .s (.dat YI)), (54, .s (.dat .bool)), (55, .s (.dat .bool)), (58, .s (.ptr 4 4)), (59, .s (.dat YI)), (60, .s (.dat .bool)), (61, .s (.dat .bool))], boxes := [(4, [.dat YI, .dat YI, .dat YI, .dat YI, .dat YI])], rows := [] }), (.ret, { slots := [(2, .s (.dat YI))], boxes := [], rows := [] })]
def l_w_15 (rec : i_w_15.den → Option (denO o_w_15)) (u15 : i_w_15.den) : Option (denO o_w_15) :=
 if (ltI u15.1.2.2.2.1 u15.1.2.1) then
  if 0 ≤ u15.1.2.2.2.1 then
   ((u15.1.1.2.1)[(u15.1.2.2.2.1).toNat]?).bind fun y25 =>
   if (y25.2.2.1 == u15.2.1.1.2.2.1) = false then
    (F_v (y25, u15.2.1.1.1, u15.2.1.1.2.2.2.1, ())).bind fun r26 =>
    if r26.1.1 = false then
     (F_v (y25, u15.2.1.1.2.1, u15.2.1.1.2.2.2.2.1, ())).bind fun r27 =>
     if r27.1.1 then
      some (.inr (.inl (((6 : Int), ()), ((), ()))))
     else
      let v28 := (IntKind.i64.wrap (u15.1.2.2.2.1 + (1 : Int)))
      rec ((u15.1.1, (u15.1.2.1, ((), (v28, ((), (u15.1.2.2.2.2.2.1, (u15.1.2.2.2.2.2.2.1, (u15.1.2.2.2.2.2.2.2.1, ((), (u15.1.2.2.2.2.2.2.2.2.2.1, (u15.1.2.2.2.2.2.2.2.2.2.2.1, (u15.1.2.2.2.2.2.2.2.2.2.2.2.1, ())))))))))))), ((u15.2.1.1, ()), ()))
    else
     some (.inr (.inl (((6 : Int), ()), ((), ()))))
   else
    some (.inr (.inl (((6 : Int), ()), ((), ()))))
  else none
 else
  some (.inl ((u15.1.1, (u15.1.2.1, ((), (u15.1.2.2.2.2.2.1, (u15.1.2.2.2.2.2.2.1, (u15.1.2.2.2.2.2.2.2.1, ((), (u15.1.2.2.2.2.2.2.2.2.2.1, (u15.1.2.2.2.2.2.2.2.2.2.2.1, (u15.1.2.2.2.2.2.2.2.2.2.2.2.1, ())))))))))), ((u15.2.1.1, ()), ())))
def L_w_15 (x : i_w_15.den) : Option (denO o_w_15) := iterF l_w_15 lots x
abbrev i_w_4 : Shp := { slots := [(0, .s (.pd Y28)), (3, .s (.dat YI))], boxes := [], rows := [] }
abbrev o_w_4 : List (Ex × Shp) := [(.exit 0, { slots := [], boxes := [], rows := [] }), (.ret, { slots := [(2, .s (.dat YI))], boxes := [], rows := [] })]
def l_w_4 (rec : i_w_4.den → Option (denO o_w_4)) (u4 : i_w_4.den) : Option (denO o_w_4) :=
 let v15 := ((u4.1.1.2.1.length : Nat) : Int)
 if (ltI u4.1.2.1 v15) then
  if 0 ≤ u4.1.2.1 then
   ((u4.1.1.2.1)[(u4.1.2.1).toNat]?).bind fun y16 =>
   (F_t (u4.1.1, y16.1, y16.2.1, ())).bind fun r17 =>
   if (r17.1.1 != (0 : Int)) then
    some (.inr (.inl ((r17.1.1, ()), ((), ()))))
   else
    (F_p (y16.2.2.1, (0 : Int), (23 : Int), ())).bind fun r18 =>
    if (!r18.1.1) = false then
     (F_p (y16.2.2.2.1, (5 : Int), (6 : Int), ())).bind fun r19 =>
     if (!r19.1.1) = false then
      (F_p (y16.2.2.2.2.1, (5 : Int), (6 : Int), ())).bind fun r20 =>
      if (!r20.1.1) then
       some (.inr (.inl (((3 : Int), ()), ((), ()))))
      else
       (F_u (u4.1.1, y16.2.2.1, ())).bind fun r21 =>
       if (leI (0 : Int) r21.1.1) then
        some (.inr (.inl (((6 : Int), ()), ((), ()))))
       else
        (L_w_15 ((u4.1.1, (u4.1.2.1, ((), ((0 : Int), ((), (y16.2.2.2.1, (r19.1.1, ((!r19.1.1), ((), (y16.2.2.2.2.1, (r20.1.1, ((!r20.1.1), ())))))))))))), (((y16.1, (y16.2.1, (y16.2.2.1, (y16.2.2.2.1, (y16.2.2.2.2.1, ()))))), ()), ()))).bind fun z29 =>
        match z29 with
        | .inl x30 =>
         let v31 := (IntKind.i64.wrap (x30.1.2.1 + (1 : Int)))
         rec ((x30.1.1, (v31, ())), ((), ()))
        | .inr z29_ =>
         match z29_ with
         | .inl x32 =>
          some (.inr (.inl ((x32.1.1, ()), ((), ()))))
         | .inr z29__ =>
          none
     else
      some (.inr (.inl (((3 : Int), ()), ((), ()))))
    else
     some (.inr (.inl (((3 : Int), ()), ((), ()))))
  else none
 else
  some (.inl ((), ((), ())))
def L_w_4 (x : i_w_4.den) : Option (denO o_w_4) := iterF l_w_4 lots x
def F_w (x : denP P_w) : Option (denV R_w × denQ P_w) :=
 let v1 := ((x.1.2.1.length : Nat) : Int)
 if (ltI (4 : Int) v1) = false then
  let v2 := ((x.1.2.2.1.length : Nat) : Int)
  if (ltI (4 : Int) v2) then
   some (((2 : Int), ()), ())
  else
   (L_w_4 ((x.1, ((0 : Int), ())), ((), ()))).bind fun z33 =>
   match z33 with
   | .inl x34 =>
    some (((0 : Int), ()), ())
   | .inr z33_ =>
    match z33_ with
    | .inl x35 =>
     some ((x35.1.1, ()), ())
    | .inr z33__ =>
     none
 else
  some (((2 : Int), ()), ())
abbrev C_w : Con := ⟨P_w, R_w, F_w, false⟩
abbrev G_w : Env := [(96, C_p), (117, C_t), (118, C_u), (119, C_v)]
theorem g_w : EnvOk Try.prog G_w := (env_cons s_p (env_cons s_t (env_cons s_u (env_cons s_v env_nil))))
abbrev c_w_15 : Cut := ⟨i_w_15, o_w_15, fun x => iterF l_w_15 lots x⟩
theorem t_w_15 (rec x) : run T G_w [] (nav Try.f94 [1, 1, 0, 1, 0, 0, 1, 0, 0, 1, 1, 1, 1, 1, 0, 0]) (mk 101 i_w_15 x) (loopK i_w_15 o_w_15 rec) = l_w_15 rec x := by kernel_rfl
theorem k_w_15 : CutOk Try.prog 101 (.loop (nav Try.f94 [1, 1, 0, 1, 0, 0, 1, 0, 0, 1, 1, 1, 1, 1, 0, 0])) c_w_15 :=
  loop_cut (L := []) hT g_w t_w_15 okP _
abbrev c_w_4 : Cut := ⟨i_w_4, o_w_4, fun x => iterF l_w_4 lots x⟩
theorem t_w_4 (rec x) : run T G_w [(15, c_w_15)] (nav Try.f94 [1, 1, 0, 1, 0, 0]) (mk 101 i_w_4 x) (loopK i_w_4 o_w_4 rec) = l_w_4 rec x := by kernel_rfl
theorem k_w_4 : CutOk Try.prog 101 (.loop (nav Try.f94 [1, 1, 0, 1, 0, 0])) c_w_4 :=
  loop_cut (L := [(15, c_w_15)]) hT g_w t_w_4 (okS okP (okS (okB (okS okP (okS okP (okS okP (okS okP (okS okP (okB (okU k_w_15)))))))) okP)) _
theorem r_w (x) : runFn T G_w [(15, c_w_15), (4, c_w_4)] Try.f94 C_w.ps C_w.rs x = C_w.F x := by kernel_rfl
theorem s_w : CallsOk Try.prog 94 C_w := fnC (L := [(15, c_w_15), (4, c_w_4)]) hT g_w Try.f94 (okS okP (okS okP (okS (okS okP (okB (okU k_w_4))) okP))) r_w
/-! spec.l6Rest -/
abbrev P_x : List PK := [.ptr Y28]
abbrev R_x : List VK := [.s (.dat YI)]
abbrev i_x_9 : Shp := { slots := [(0, .s (.pd Y28)), (3, .s (.dat YI)), (4, .s (.ptr 4 0)), (6, .s (.dat YI))], boxes := [(4, [.dat YI, .dat YI])], rows := [] }
abbrev o_x_9 : List (Ex × Shp) := [(.exit 2, { slots := [(0, .s (.pd Y28)), (3, .s (.dat YI))], boxes := [], rows := [] }), (.ret, { slots := [(2, .s (.dat YI))], boxes := [], rows := [] })]
def l_x_9 (rec : i_x_9.den → Option (denO o_x_9)) (u9 : i_x_9.den) : Option (denO o_x_9) :=
 if (ltI u9.1.2.2.2.1 u9.1.2.1) then
  if 0 ≤ u9.1.2.2.2.1 then
   ((u9.1.1.2.2.1)[(u9.1.2.2.2.1).toNat]?).bind fun y11 =>
   if ((y11.1 == u9.2.1.1.1) && ((y11.2.1 == u9.2.1.1.2.1) && true)) then
    some (.inr (.inl (((6 : Int), ()), ((), ()))))
   else
    let v12 := (IntKind.i64.wrap (u9.1.2.2.2.1 + (1 : Int)))
    rec ((u9.1.1, (u9.1.2.1, ((), (v12, ())))), ((u9.2.1.1, ()), ()))
  else none
 else
  some (.inl ((u9.1.1, (u9.1.2.1, ())), ((), ())))
def L_x_9 (x : i_x_9.den) : Option (denO o_x_9) := iterF l_x_9 lots x
abbrev i_x_16 : Shp := { slots := [(0, .s (.pd Y28)), (7, .s (.dat YI))], boxes := [], rows := [] }
abbrev o_x_16 : List (Ex × Shp) := [(.exit 4, { slots := [], boxes := [], rows := [] }), (.ret, { slots := [(2, .s (.dat YI))], boxes := [], rows := [] })]
def l_x_16 (rec : i_x_16.den → Option (denO o_x_16)) (u16 : i_x_16.den) : Option (denO o_x_16) :=
 let v25 := ((u16.1.1.2.2.2.1.length : Nat) : Int)
 if (ltI u16.1.2.1 v25) then
  if 0 ≤ u16.1.2.1 then
   ((u16.1.1.2.2.2.1)[(u16.1.2.1).toNat]?).bind fun y26 =>
   (F_s (u16.1.1, y26.1, ())).bind fun r27 =>
   if (!r27.1.1) then
    some (.inr (.inl (((4 : Int), ()), ((), ()))))
   else
    if 0 ≤ u16.1.2.1 then
     ((u16.1.1.2.2.2.1)[(u16.1.2.1).toNat]?).bind fun y28 =>
     (F_p (y28.2.1, (1 : Int), (50 : Int), ())).bind fun r29 =>
     if (!r29.1.1) then
      some (.inr (.inl (((3 : Int), ()), ((), ()))))
     else
      let v30 := (IntKind.i64.wrap (u16.1.2.1 + (1 : Int)))
      rec ((u16.1.1, (v30, ())), ((), ()))
    else none
  else none
 else
  some (.inl ((), ((), ())))
def L_x_16 (x : i_x_16.den) : Option (denO o_x_16) := iterF l_x_16 lots x
abbrev i_x_2 : Shp := { slots := [(0, .s (.pd Y28)), (3, .s (.dat YI))], boxes := [], rows := [] }
abbrev o_x_2 : List (Ex × Shp) := [(.exit 0, { slots := [(0, .s (.pd Y28))], boxes := [], rows := [] }), (.ret, { slots := [(2, .s (.dat YI))], boxes := [], rows := [] })]
def l_x_2 (rec : i_x_2.den → Option (denO o_x_2)) (u2 : i_x_2.den) : Option (denO o_x_2) :=
 let v7 := ((u2.1.1.2.2.1.length : Nat) : Int)
 if (ltI u2.1.2.1 v7) then
  if 0 ≤ u2.1.2.1 then
   ((u2.1.1.2.2.1)[(u2.1.2.1).toNat]?).bind fun y8 =>
   (F_t (u2.1.1, y8.1, y8.2.1, ())).bind fun r9 =>
   if (r9.1.1 != (0 : Int)) then
    some (.inr (.inl ((r9.1.1, ()), ((), ()))))
   else
    (L_x_9 ((u2.1.1, (u2.1.2.1, ((), ((0 : Int), ())))), (((y8.1, (y8.2.1, ())), ()), ()))).bind fun z13 =>
    match z13 with
    | .inl x14 =>
     let v15 := (IntKind.i64.wrap (x14.1.2.1 + (1 : Int)))
     rec ((x14.1.1, (v15, ())), ((), ()))
    | .inr z13_ =>
     match z13_ with
     | .inl x16 =>
      some (.inr (.inl ((x16.1.1, ()), ((), ()))))
     | .inr z13__ =>
      none
  else none
 else
  some (.inl ((u2.1.1, ()), ((), ())))
def L_x_2 (x : i_x_2.den) : Option (denO o_x_2) := iterF l_x_2 lots x
def F_x (x : denP P_x) : Option (denV R_x × denQ P_x) :=
 (L_x_2 ((x.1, ((0 : Int), ())), ((), ()))).bind fun z17 =>
 match z17 with
 | .inl x18 =>
  let v19 := ((x18.1.1.2.2.2.1.length : Nat) : Int)
  if (ltI v19 (1 : Int)) = false then
   let v20 := ((x18.1.1.2.2.2.1.length : Nat) : Int)
   if (ltI (8 : Int) v20) then
    some (((2 : Int), ()), ())
   else
    (L_x_16 ((x18.1.1, ((0 : Int), ())), ((), ()))).bind fun z31 =>
    match z31 with
    | .inl x32 =>
     some (((0 : Int), ()), ())
    | .inr z31_ =>
     match z31_ with
     | .inl x33 =>
      some ((x33.1.1, ()), ())
     | .inr z31__ =>
      none
  else
   some (((2 : Int), ()), ())
 | .inr z17_ =>
  match z17_ with
  | .inl x34 =>
   some ((x34.1.1, ()), ())
  | .inr z17__ =>
   none
abbrev C_x : Con := ⟨P_x, R_x, F_x, false⟩
abbrev G_x : Env := [(69, C_s), (96, C_p), (117, C_t)]
theorem g_x : EnvOk Try.prog G_x := (env_cons s_s (env_cons s_p (env_cons s_t env_nil)))
abbrev c_x_9 : Cut := ⟨i_x_9, o_x_9, fun x => iterF l_x_9 lots x⟩
theorem t_x_9 (rec x) : run T G_x [] (nav Try.f95 [1, 0, 1, 0, 0, 1, 0, 0, 1, 1, 1, 0, 0]) (mk 91 i_x_9 x) (loopK i_x_9 o_x_9 rec) = l_x_9 rec x := by kernel_rfl
theorem k_x_9 : CutOk Try.prog 91 (.loop (nav Try.f95 [1, 0, 1, 0, 0, 1, 0, 0, 1, 1, 1, 0, 0])) c_x_9 :=
  loop_cut (L := []) hT g_x t_x_9 okP _
abbrev c_x_16 : Cut := ⟨i_x_16, o_x_16, fun x => iterF l_x_16 lots x⟩
theorem t_x_16 (rec x) : run T G_x [] (nav Try.f95 [1, 1, 1, 0, 1, 0, 0]) (mk 91 i_x_16 x) (loopK i_x_16 o_x_16 rec) = l_x_16 rec x := by kernel_rfl
theorem k_x_16 : CutOk Try.prog 91 (.loop (nav Try.f95 [1, 1, 1, 0, 1, 0, 0])) c_x_16 :=
  loop_cut (L := []) hT g_x t_x_16 okP _
abbrev c_x_2 : Cut := ⟨i_x_2, o_x_2, fun x => iterF l_x_2 lots x⟩
theorem t_x_2 (rec x) : run T G_x [(9, c_x_9)] (nav Try.f95 [1, 0, 1, 0, 0]) (mk 91 i_x_2 x) (loopK i_x_2 o_x_2 rec) = l_x_2 rec x := by kernel_rfl
theorem k_x_2 : CutOk Try.prog 91 (.loop (nav Try.f95 [1, 0, 1, 0, 0])) c_x_2 :=
  loop_cut (L := [(9, c_x_9)]) hT g_x t_x_2 (okS okP (okS (okB (okS okP (okS okP (okS okP (okB (okU k_x_9)))))) okP)) _
theorem r_x (x) : runFn T G_x [(9, c_x_9), (16, c_x_16), (2, c_x_2)] Try.f95 C_x.ps C_x.rs x = C_x.F x := by kernel_rfl
theorem s_x : CallsOk Try.prog 95 C_x := fnC (L := [(9, c_x_9), (16, c_x_16), (2, c_x_2)]) hT g_x Try.f95 (okS okP (okS (okS okP (okB (okU k_x_2))) (okS okP (okS (okS okP (okB (okU k_x_16))) okP)))) r_x
/-! spec.l6Fault -/
abbrev P_y : List PK := [.ptr Y28]
abbrev R_y : List VK := [.s (.dat YI)]
def F_y (x : denP P_y) : Option (denV R_y × denQ P_y) :=
 (F_r (x.1, ())).bind fun r1 =>
 if (r1.1.1 != (0 : Int)) then
  some ((r1.1.1, ()), ())
 else
  (F_w (x.1, ())).bind fun r2 =>
  if (r2.1.1 != (0 : Int)) then
   some ((r2.1.1, ()), ())
  else
   (F_x (x.1, ())).bind fun r3 =>
   some ((r3.1.1, ()), ())
abbrev C_y : Con := ⟨P_y, R_y, F_y, false⟩
abbrev G_y : Env := [(93, C_r), (94, C_w), (95, C_x)]
theorem g_y : EnvOk Try.prog G_y := (env_cons s_r (env_cons s_w (env_cons s_x env_nil)))
theorem r_y (x) : runFn T G_y [] Try.f68 C_y.ps C_y.rs x = C_y.F x := by kernel_rfl
theorem s_y : CallsOk Try.prog 68 C_y := fnC (L := []) hT g_y Try.f68 okP r_y
/-! spec.l6Asked -/
abbrev P_z : List PK := [.ptr Y28, .val YI]
abbrev R_z : List VK := [.s (.dat YI)]
def F_z (x : denP P_z) : Option (denV R_z × denQ P_z) :=
 (F_y (x.1, ())).bind fun r1 =>
 if (r1.1.1 != (0 : Int)) then
  some ((r1.1.1, ()), ())
 else
  (F_s (x.1, x.2.1, ())).bind fun r2 =>
  if (!r2.1.1) then
   some (((4 : Int), ()), ())
  else
   some (((0 : Int), ()), ())
abbrev C_z : Con := ⟨P_z, R_z, F_z, false⟩
abbrev G_z : Env := [(68, C_y), (69, C_s)]
theorem g_z : EnvOk Try.prog G_z := (env_cons s_y (env_cons s_s env_nil))
theorem r_z (x) : runFn T G_z [] Try.f28 C_z.ps C_z.rs x = C_z.F x := by kernel_rfl
theorem s_z : CallsOk Try.prog 28 C_z := fnC (L := []) hT g_z Try.f28 okP r_z
/-! spec.l1Rise -/
abbrev P_aa : List PK := [.val Y47, .val YI]
abbrev R_aa : List VK := [.s (.dat Y47)]
abbrev i_aa_2 : Shp := { slots := [(0, .s (.dat Y47)), (1, .s (.dat YI)), (5, .s (.dat YI))], boxes := [], rows := [] }
abbrev o_aa_2 : List (Ex × Shp) := [(.exit 0, { slots := [(0, .s (.dat Y47)), (1, .s (.dat YI)), (5, .s (.dat YI))], boxes := [], rows := [] })]
def l_aa_2 (rec : i_aa_2.den → Option (denO o_aa_2)) (u2 : i_aa_2.den) : Option (denO o_aa_2) :=
 let v2 := ((u2.1.1.length : Nat) : Int)
 if (ltI u2.1.2.2.1 v2) = true then
  if 0 ≤ u2.1.2.2.1 then
   ((u2.1.1)[(u2.1.2.2.1).toNat]?).bind fun y3 =>
   if (ltI y3 u2.1.2.1) then
    let v4 := (IntKind.i64.wrap (u2.1.2.2.1 + (1 : Int)))
    rec ((u2.1.1, (u2.1.2.1, (v4, ()))), ((), ()))
   else
    some (.inl ((u2.1.1, (u2.1.2.1, (u2.1.2.2.1, ()))), ((), ())))
  else none
 else
  some (.inl ((u2.1.1, (u2.1.2.1, (u2.1.2.2.1, ()))), ((), ())))
def L_aa_2 (x : i_aa_2.den) : Option (denO o_aa_2) := iterF l_aa_2 lots x
def F_aa (x : denP P_aa) : Option (denV R_aa × denQ P_aa) :=
 (L_aa_2 ((x.1, (x.2.1, ((0 : Int), ()))), ((), ()))).bind fun z5 =>
 match z5 with
 | .inl x6 =>
  let v7 := ((x6.1.1.length : Nat) : Int)
  if (ltI x6.1.2.2.1 v7) = true then
   if 0 ≤ x6.1.2.2.1 then
    ((x6.1.1)[(x6.1.2.2.1).toNat]?).bind fun y8 =>
    if (y8 == x6.1.2.1) then
     some ((x6.1.1, ()), ())
    else
     if 0 ≤ (0 : Int) ∧ (0 : Int) ≤ x6.1.2.2.1 ∧ x6.1.2.2.1 ≤ ((x6.1.1.length : Nat) : Int) then
      let v9 := ((x6.1.1.drop ((0 : Int)).toNat).take ((x6.1.2.2.1).toNat - ((0 : Int)).toNat))
      if (([] : List (den YI)).length + v9.length) * 8 ≤ 140737488355328 then
       let v10 := (([] : List (den YI)) ++ v9)
       if (v10.length + [x6.1.2.1].length) * 8 ≤ 140737488355328 then
        let v11 := (v10 ++ [x6.1.2.1])
        if 0 ≤ x6.1.2.2.1 ∧ x6.1.2.2.1 ≤ ((x6.1.1.length : Nat) : Int) ∧ ((x6.1.1.length : Nat) : Int) ≤ ((x6.1.1.length : Nat) : Int) then
         let v12 := ((x6.1.1.drop (x6.1.2.2.1).toNat).take ((((x6.1.1.length : Nat) : Int)).toNat - (x6.1.2.2.1).toNat))
         if (v11.length + v12.length) * 8 ≤ 140737488355328 then
          let v13 := (v11 ++ v12)
          some ((v13, ()), ())
         else none
        else none
       else none
      else none
     else none
   else none
  else
   if 0 ≤ (0 : Int) ∧ (0 : Int) ≤ x6.1.2.2.1 ∧ x6.1.2.2.1 ≤ ((x6.1.1.length : Nat) : Int) then
    let v14 := ((x6.1.1.drop ((0 : Int)).toNat).take ((x6.1.2.2.1).toNat - ((0 : Int)).toNat))
    if (([] : List (den YI)).length + v14.length) * 8 ≤ 140737488355328 then
     let v15 := (([] : List (den YI)) ++ v14)
     if (v15.length + [x6.1.2.1].length) * 8 ≤ 140737488355328 then
      let v16 := (v15 ++ [x6.1.2.1])
      if 0 ≤ x6.1.2.2.1 ∧ x6.1.2.2.1 ≤ ((x6.1.1.length : Nat) : Int) ∧ ((x6.1.1.length : Nat) : Int) ≤ ((x6.1.1.length : Nat) : Int) then
       let v17 := ((x6.1.1.drop (x6.1.2.2.1).toNat).take ((((x6.1.1.length : Nat) : Int)).toNat - (x6.1.2.2.1).toNat))
       if (v16.length + v17.length) * 8 ≤ 140737488355328 then
        let v18 := (v16 ++ v17)
        some ((v18, ()), ())
       else none
      else none
     else none
    else none
   else none
 | .inr z5_ =>
  none
abbrev C_aa : Con := ⟨P_aa, R_aa, F_aa, false⟩
abbrev G_aa : Env := []
theorem g_aa : EnvOk Try.prog G_aa := env_nil
abbrev c_aa_2 : Cut := ⟨i_aa_2, o_aa_2, fun x => iterF l_aa_2 lots x⟩
theorem t_aa_2 (rec x) : run T G_aa [] (nav Try.f60 [1, 1, 0, 0, 0]) (mk 45 i_aa_2 x) (loopK i_aa_2 o_aa_2 rec) = l_aa_2 rec x := by kernel_rfl
theorem k_aa_2 : CutOk Try.prog 45 (.loop (nav Try.f60 [1, 1, 0, 0, 0])) c_aa_2 :=
  loop_cut (L := []) hT g_aa t_aa_2 okP _
theorem r_aa (x) : runFn T G_aa [(2, c_aa_2)] Try.f60 C_aa.ps C_aa.rs x = C_aa.F x := by kernel_rfl
theorem s_aa : CallsOk Try.prog 60 C_aa := fnC (L := [(2, c_aa_2)]) hT g_aa Try.f60 (okS okP (okS okP (okS (okB (okU k_aa_2)) okP))) r_aa
/-! spec.l6Links -/
abbrev P_ab : List PK := [.ptr Y28, .val YI]
abbrev R_ab : List VK := [.s (.dat Y47)]
abbrev i_ab_8 : Shp := { slots := [(0, .s (.pd Y28)), (1, .s (.dat YI)), (5, .s (.dat Y47)), (7, .s (.dat YI))], boxes := [], rows := [] }
abbrev o_ab_8 : List (Ex × Shp) := [(.exit 2, { slots := [(5, .s (.dat Y47))], boxes := [], rows := [] })]
def l_ab_8 (rec : i_ab_8.den → Option (denO o_ab_8)) (u8 : i_ab_8.den) : Option (denO o_ab_8) :=
 let v18 := ((u8.1.1.2.2.1.length : Nat) : Int)
 if (ltI u8.1.2.2.2.1 v18) then
  if 0 ≤ u8.1.2.2.2.1 then
   ((u8.1.1.2.2.1)[(u8.1.2.2.2.1).toNat]?).bind fun y19 =>
   if (y19.2.1 == u8.1.2.1) then
    if 0 ≤ u8.1.2.2.2.1 then
     ((u8.1.1.2.2.1)[(u8.1.2.2.2.1).toNat]?).bind fun y20 =>
     (F_aa (u8.1.2.2.1, y20.1, ())).bind fun r21 =>
     let v22 := (IntKind.i64.wrap (u8.1.2.2.2.1 + (1 : Int)))
     rec ((u8.1.1, (u8.1.2.1, (r21.1.1, (v22, ())))), ((), ()))
    else none
   else
    let v23 := (IntKind.i64.wrap (u8.1.2.2.2.1 + (1 : Int)))
    rec ((u8.1.1, (u8.1.2.1, (u8.1.2.2.1, (v23, ())))), ((), ()))
  else none
 else
  some (.inl ((u8.1.2.2.1, ()), ((), ())))
def L_ab_8 (x : i_ab_8.den) : Option (denO o_ab_8) := iterF l_ab_8 lots x
abbrev i_ab_3 : Shp := { slots := [(0, .s (.pd Y28)), (1, .s (.dat YI)), (5, .s (.dat Y47)), (6, .s (.dat YI))], boxes := [], rows := [] }
abbrev o_ab_3 : List (Ex × Shp) := [(.exit 0, { slots := [(0, .s (.pd Y28)), (1, .s (.dat YI)), (5, .s (.dat Y47))], boxes := [], rows := [] })]
def l_ab_3 (rec : i_ab_3.den → Option (denO o_ab_3)) (u3 : i_ab_3.den) : Option (denO o_ab_3) :=
 let v7 := ((u3.1.1.2.1.length : Nat) : Int)
 if (ltI u3.1.2.2.2.1 v7) then
  if 0 ≤ u3.1.2.2.2.1 then
   ((u3.1.1.2.1)[(u3.1.2.2.2.1).toNat]?).bind fun y8 =>
   if (y8.2.1 == u3.1.2.1) then
    if 0 ≤ u3.1.2.2.2.1 then
     ((u3.1.1.2.1)[(u3.1.2.2.2.1).toNat]?).bind fun y9 =>
     (F_aa (u3.1.2.2.1, y9.1, ())).bind fun r10 =>
     let v11 := (IntKind.i64.wrap (u3.1.2.2.2.1 + (1 : Int)))
     rec ((u3.1.1, (u3.1.2.1, (r10.1.1, (v11, ())))), ((), ()))
    else none
   else
    let v12 := (IntKind.i64.wrap (u3.1.2.2.2.1 + (1 : Int)))
    rec ((u3.1.1, (u3.1.2.1, (u3.1.2.2.1, (v12, ())))), ((), ()))
  else none
 else
  some (.inl ((u3.1.1, (u3.1.2.1, (u3.1.2.2.1, ()))), ((), ())))
def L_ab_3 (x : i_ab_3.den) : Option (denO o_ab_3) := iterF l_ab_3 lots x
def F_ab (x : denP P_ab) : Option (denV R_ab × denQ P_ab) :=
 (L_ab_3 ((x.1, (x.2.1, (([] : List (den YI)), ((0 : Int), ())))), ((), ()))).bind fun z13 =>
 match z13 with
 | .inl x14 =>
  (L_ab_8 ((x14.1.1, (x14.1.2.1, (x14.1.2.2.1, ((0 : Int), ())))), ((), ()))).bind fun z24 =>
  match z24 with
  | .inl x25 =>
   some ((x25.1.1, ()), ())
  | .inr z24_ =>
   none
 | .inr z13_ =>
  none
abbrev C_ab : Con := ⟨P_ab, R_ab, F_ab, false⟩
abbrev G_ab : Env := [(60, C_aa)]
theorem g_ab : EnvOk Try.prog G_ab := (env_cons s_aa env_nil)
abbrev c_ab_8 : Cut := ⟨i_ab_8, o_ab_8, fun x => iterF l_ab_8 lots x⟩
theorem t_ab_8 (rec x) : run T G_ab [] (nav Try.f76 [1, 1, 1, 0, 1, 0, 0]) (mk 68 i_ab_8 x) (loopK i_ab_8 o_ab_8 rec) = l_ab_8 rec x := by kernel_rfl
theorem k_ab_8 : CutOk Try.prog 68 (.loop (nav Try.f76 [1, 1, 1, 0, 1, 0, 0])) c_ab_8 :=
  loop_cut (L := []) hT g_ab t_ab_8 okP _
abbrev c_ab_3 : Cut := ⟨i_ab_3, o_ab_3, fun x => iterF l_ab_3 lots x⟩
theorem t_ab_3 (rec x) : run T G_ab [] (nav Try.f76 [1, 1, 0, 1, 0, 0]) (mk 68 i_ab_3 x) (loopK i_ab_3 o_ab_3 rec) = l_ab_3 rec x := by kernel_rfl
theorem k_ab_3 : CutOk Try.prog 68 (.loop (nav Try.f76 [1, 1, 0, 1, 0, 0])) c_ab_3 :=
  loop_cut (L := []) hT g_ab t_ab_3 okP _
theorem r_ab (x) : runFn T G_ab [(8, c_ab_8), (3, c_ab_3)] Try.f76 C_ab.ps C_ab.rs x = C_ab.F x := by kernel_rfl
theorem s_ab : CallsOk Try.prog 76 C_ab := fnC (L := [(8, c_ab_8), (3, c_ab_3)]) hT g_ab Try.f76 (okS okP (okS okP (okS (okS okP (okB (okU k_ab_3))) (okS (okS okP (okB (okU k_ab_8))) okP)))) r_ab
/-! spec.l6Reach -/
abbrev P_ac : List PK := [.ptr Y28, .val YI]
abbrev R_ac : List VK := [.s (.dat Y47)]
abbrev i_ac_11 : Shp := { slots := [(0, .s (.pd Y28)), (5, .s (.dat Y47)), (6, .s (.dat YI)), (7, .s (.dat Y47)), (8, .s (.dat YI)), (9, .s (.dat Y47)), (10, .s (.dat YI))], boxes := [], rows := [] }
abbrev o_ac_11 : List (Ex × Shp) := [(.exit 4, { slots := [(0, .s (.pd Y28)), (5, .s (.dat Y47)), (6, .s (.dat YI)), (7, .s (.dat Y47)), (8, .s (.dat YI))], boxes := [], rows := [] })]
def l_ac_11 (rec : i_ac_11.den → Option (denO o_ac_11)) (u11 : i_ac_11.den) : Option (denO o_ac_11) :=
 let v21 := ((u11.1.2.2.2.2.2.1.length : Nat) : Int)
 if (ltI u11.1.2.2.2.2.2.2.1 v21) then
  if 0 ≤ u11.1.2.2.2.2.2.2.1 then
   ((u11.1.2.2.2.2.2.1)[(u11.1.2.2.2.2.2.2.1).toNat]?).bind fun y22 =>
   (F_aa (u11.1.2.2.2.1, y22, ())).bind fun r23 =>
   let v24 := (IntKind.i64.wrap (u11.1.2.2.2.2.2.2.1 + (1 : Int)))
   rec ((u11.1.1, (u11.1.2.1, (u11.1.2.2.1, (r23.1.1, (u11.1.2.2.2.2.1, (u11.1.2.2.2.2.2.1, (v24, ()))))))), ((), ()))
  else none
 else
  some (.inl ((u11.1.1, (u11.1.2.1, (u11.1.2.2.1, (u11.1.2.2.2.1, (u11.1.2.2.2.2.1, ()))))), ((), ())))
def L_ac_11 (x : i_ac_11.den) : Option (denO o_ac_11) := iterF l_ac_11 lots x
abbrev i_ac_7 : Shp := { slots := [(0, .s (.pd Y28)), (5, .s (.dat Y47)), (6, .s (.dat YI)), (7, .s (.dat Y47)), (8, .s (.dat YI))], boxes := [], rows := [] }
abbrev o_ac_7 : List (Ex × Shp) := [(.exit 2, { slots := [(0, .s (.pd Y28)), (6, .s (.dat YI)), (7, .s (.dat Y47))], boxes := [], rows := [] })]
def l_ac_7 (rec : i_ac_7.den → Option (denO o_ac_7)) (u7 : i_ac_7.den) : Option (denO o_ac_7) :=
 let v16 := ((u7.1.2.1.length : Nat) : Int)
 if (ltI u7.1.2.2.2.2.1 v16) then
  if 0 ≤ u7.1.2.2.2.2.1 then
   ((u7.1.2.1)[(u7.1.2.2.2.2.1).toNat]?).bind fun y17 =>
   (F_ab (u7.1.1, y17, ())).bind fun r18 =>
   (L_ac_11 ((u7.1.1, (u7.1.2.1, (u7.1.2.2.1, (u7.1.2.2.2.1, (u7.1.2.2.2.2.1, (r18.1.1, ((0 : Int), ()))))))), ((), ()))).bind fun z25 =>
   match z25 with
   | .inl x26 =>
    let v27 := (IntKind.i64.wrap (x26.1.2.2.2.2.1 + (1 : Int)))
    rec ((x26.1.1, (x26.1.2.1, (x26.1.2.2.1, (x26.1.2.2.2.1, (v27, ()))))), ((), ()))
   | .inr z25_ =>
    none
  else none
 else
  some (.inl ((u7.1.1, (u7.1.2.2.1, (u7.1.2.2.2.1, ()))), ((), ())))
def L_ac_7 (x : i_ac_7.den) : Option (denO o_ac_7) := iterF l_ac_7 lots x
abbrev i_ac_3 : Shp := { slots := [(0, .s (.pd Y28)), (5, .s (.dat Y47)), (6, .s (.dat YI))], boxes := [], rows := [] }
abbrev o_ac_3 : List (Ex × Shp) := [(.exit 0, { slots := [(5, .s (.dat Y47))], boxes := [], rows := [] })]
def l_ac_3 (rec : i_ac_3.den → Option (denO o_ac_3)) (u3 : i_ac_3.den) : Option (denO o_ac_3) :=
 if (ltI u3.1.2.2.1 (3 : Int)) then
  (L_ac_7 ((u3.1.1, (u3.1.2.1, (u3.1.2.2.1, (u3.1.2.1, ((0 : Int), ()))))), ((), ()))).bind fun z28 =>
  match z28 with
  | .inl x29 =>
   let v30 := (IntKind.i64.wrap (x29.1.2.1 + (1 : Int)))
   rec ((x29.1.1, (x29.1.2.2.1, (v30, ()))), ((), ()))
  | .inr z28_ =>
   none
 else
  some (.inl ((u3.1.2.1, ()), ((), ())))
def L_ac_3 (x : i_ac_3.den) : Option (denO o_ac_3) := iterF l_ac_3 lots x
def F_ac (x : denP P_ac) : Option (denV R_ac × denQ P_ac) :=
 (F_ab (x.1, x.2.1, ())).bind fun r1 =>
 (L_ac_3 ((x.1, (r1.1.1, ((0 : Int), ()))), ((), ()))).bind fun z31 =>
 match z31 with
 | .inl x32 =>
  some ((x32.1.1, ()), ())
 | .inr z31_ =>
  none
abbrev C_ac : Con := ⟨P_ac, R_ac, F_ac, false⟩
abbrev G_ac : Env := [(60, C_aa), (76, C_ab)]
theorem g_ac : EnvOk Try.prog G_ac := (env_cons s_aa (env_cons s_ab env_nil))
abbrev c_ac_11 : Cut := ⟨i_ac_11, o_ac_11, fun x => iterF l_ac_11 lots x⟩
theorem t_ac_11 (rec x) : run T G_ac [] (nav Try.f38 [1, 1, 0, 1, 0, 0, 1, 0, 0, 1, 0, 1, 0, 0, 1, 0, 0, 1, 1, 0, 0]) (mk 45 i_ac_11 x) (loopK i_ac_11 o_ac_11 rec) = l_ac_11 rec x := by kernel_rfl
theorem k_ac_11 : CutOk Try.prog 45 (.loop (nav Try.f38 [1, 1, 0, 1, 0, 0, 1, 0, 0, 1, 0, 1, 0, 0, 1, 0, 0, 1, 1, 0, 0])) c_ac_11 :=
  loop_cut (L := []) hT g_ac t_ac_11 okP _
abbrev c_ac_7 : Cut := ⟨i_ac_7, o_ac_7, fun x => iterF l_ac_7 lots x⟩
theorem t_ac_7 (rec x) : run T G_ac [(11, c_ac_11)] (nav Try.f38 [1, 1, 0, 1, 0, 0, 1, 0, 0, 1, 0, 1, 0, 0]) (mk 45 i_ac_7 x) (loopK i_ac_7 o_ac_7 rec) = l_ac_7 rec x := by kernel_rfl
theorem k_ac_7 : CutOk Try.prog 45 (.loop (nav Try.f38 [1, 1, 0, 1, 0, 0, 1, 0, 0, 1, 0, 1, 0, 0])) c_ac_7 :=
  loop_cut (L := [(11, c_ac_11)]) hT g_ac t_ac_7 (okS okP (okS (okB (okS okP (okS okP (okB (okU k_ac_11))))) okP)) _
abbrev c_ac_3 : Cut := ⟨i_ac_3, o_ac_3, fun x => iterF l_ac_3 lots x⟩
theorem t_ac_3 (rec x) : run T G_ac [(11, c_ac_11), (7, c_ac_7)] (nav Try.f38 [1, 1, 0, 1, 0, 0]) (mk 45 i_ac_3 x) (loopK i_ac_3 o_ac_3 rec) = l_ac_3 rec x := by kernel_rfl
theorem k_ac_3 : CutOk Try.prog 45 (.loop (nav Try.f38 [1, 1, 0, 1, 0, 0])) c_ac_3 :=
  loop_cut (L := [(11, c_ac_11), (7, c_ac_7)]) hT g_ac t_ac_3 (okS okP (okS (okB (okS okP (okS (okS okP (okB (okU k_ac_7))) okP))) okP)) _
theorem r_ac (x) : runFn T G_ac [(11, c_ac_11), (7, c_ac_7), (3, c_ac_3)] Try.f38 C_ac.ps C_ac.rs x = C_ac.F x := by kernel_rfl
theorem s_ac : CallsOk Try.prog 38 C_ac := fnC (L := [(11, c_ac_11), (7, c_ac_7), (3, c_ac_3)]) hT g_ac Try.f38 (okS okP (okS okP (okS (okS okP (okB (okU k_ac_3))) okP))) r_ac
/-! spec.StrangersTo -/
abbrev P_ad : List PK := [.val Y28, .val YI]
abbrev R_ad : List VK := [.g [.dat YI, .own 2 YI]]
abbrev i_ad_7 : Shp := { slots := [(1, .s (.dat YI)), (2, .s (.ptr 2 0)), (4, .s (.ptr 4 0)), (6, .s (.dat Y47)), (7, .s (.ptr 7 0)), (8, .s (.dat YI))], boxes := [(2, [.dat Y24, .dat Y25, .dat Y26, .dat Y26]), (4, [.dat YI, .own 2 YI]), (7, [.dat YI, .own 2 YI])], rows := [] }
abbrev o_ad_7 : List (Ex × Shp) := [(.exit 0, { slots := [(4, .s (.ptr 4 0)), (7, .s (.ptr 7 0))], boxes := [(4, [.dat YI, .own 2 YI]), (7, [.dat YI, .own 2 YI])], rows := [] })]
def l_ad_7 (rec : i_ad_7.den → Option (denO o_ad_7)) (u7 : i_ad_7.den) : Option (denO o_ad_7) :=
 let v4 := ((u7.2.1.1.1.length : Nat) : Int)
 if (ltI u7.1.2.2.2.2.2.1 v4) then
  if (u7.1.2.2.2.2.2.1 != u7.1.1) = true then
   (F_q (u7.1.2.2.2.1, u7.1.2.2.2.2.2.1, ())).bind fun r5 =>
   if (!r5.1.1) then
    if (u7.2.1.2.2.1.2.1.length + [u7.1.2.2.2.2.2.1].length) * 8 ≤ 140737488355328 then
     let v6 := (u7.2.1.2.2.1.2.1 ++ [u7.1.2.2.2.2.2.1])
     let v7 := (IntKind.i64.wrap (u7.1.2.2.2.2.2.1 + (1 : Int)))
     rec ((u7.1.1, ((), ((), (u7.1.2.2.2.1, ((), (v7, ())))))), ((u7.2.1.1, (u7.2.1.2.1, ((u7.2.1.2.2.1.1, (v6, ())), ()))), ()))
    else none
   else
    let v8 := (IntKind.i64.wrap (u7.1.2.2.2.2.2.1 + (1 : Int)))
    rec ((u7.1.1, ((), ((), (u7.1.2.2.2.1, ((), (v8, ())))))), ((u7.2.1.1, (u7.2.1.2.1, (u7.2.1.2.2.1, ()))), ()))
  else
   let v9 := (IntKind.i64.wrap (u7.1.2.2.2.2.2.1 + (1 : Int)))
   rec ((u7.1.1, ((), ((), (u7.1.2.2.2.1, ((), (v9, ())))))), ((u7.2.1.1, (u7.2.1.2.1, (u7.2.1.2.2.1, ()))), ()))
 else
  some (.inl (((), ((), ())), ((u7.2.1.2.1, (u7.2.1.2.2.1, ())), ())))
def L_ad_7 (x : i_ad_7.den) : Option (denO o_ad_7) := iterF l_ad_7 lots x
def F_ad (x : denP P_ad) : Option (denV R_ad × denQ P_ad) :=
 (F_z (x.1, x.2.1, ())).bind fun r1 =>
 if (r1.1.1 != (0 : Int)) then
  some (((r1.1.1, (([] : List (den YI)), ())), ()), ())
 else
  (F_ac (x.1, x.2.1, ())).bind fun r2 =>
  (L_ad_7 ((x.2.1, ((), ((), (r2.1.1, ((), ((0 : Int), ())))))), (((x.1.1, (x.1.2.1, (x.1.2.2.1, (x.1.2.2.2.1, ())))), (((0 : Int), (([] : List (den YI)), ())), (((0 : Int), (([] : List (den YI)), ())), ()))), ()))).bind fun z10 =>
  match z10 with
  | .inl x11 =>
   some ((x11.2.1.2.1, ()), ())
  | .inr z10_ =>
   none
abbrev C_ad : Con := ⟨P_ad, R_ad, F_ad, false⟩
abbrev G_ad : Env := [(28, C_z), (38, C_ac), (39, C_q)]
theorem g_ad : EnvOk Try.prog G_ad := (env_cons s_z (env_cons s_ac (env_cons s_q env_nil)))
abbrev c_ad_7 : Cut := ⟨i_ad_7, o_ad_7, fun x => iterF l_ad_7 lots x⟩
theorem t_ad_7 (rec x) : run T G_ad [] (nav Try.f14 [1, 1, 1, 1, 0, 1, 0, 0]) (mk 41 i_ad_7 x) (loopK i_ad_7 o_ad_7 rec) = l_ad_7 rec x := by kernel_rfl
theorem k_ad_7 : CutOk Try.prog 41 (.loop (nav Try.f14 [1, 1, 1, 1, 0, 1, 0, 0])) c_ad_7 :=
  loop_cut (L := []) hT g_ad t_ad_7 okP _
theorem r_ad (x) : runFn T G_ad [(7, c_ad_7)] Try.f14 C_ad.ps C_ad.rs x = C_ad.F x := by kernel_rfl
theorem s_ad : CallsOk Try.prog 14 C_ad := fnC (L := [(7, c_ad_7)]) hT g_ad Try.f14 (okS okP (okS okP (okS okP (okS okP (okS (okS okP (okB (okU k_ad_7))) okP))))) r_ad
/-! impl.within -/
abbrev P_ae : List PK := [.val YI, .val YI, .val YI]
abbrev R_ae : List VK := [.s (.dat .bool)]
def F_ae (x : denP P_ae) : Option (denV R_ae × denQ P_ae) :=
 if (leI x.2.1 x.1) = true then
  some (((leI x.1 x.2.2.1), ()), ())
 else
  some ((false, ()), ())
abbrev C_ae : Con := ⟨P_ae, R_ae, F_ae, false⟩
abbrev G_ae : Env := []
theorem g_ae : EnvOk Try.prog G_ae := env_nil
theorem r_ae (x) : runFn T G_ae [] Try.f74 C_ae.ps C_ae.rs x = C_ae.F x := by kernel_rfl
theorem s_ae : CallsOk Try.prog 74 C_ae := fnC (L := []) hT g_ae Try.f74 okP r_ae
/-! (*impl.Policy).ownFault -/
abbrev P_af : List PK := [.ptr Y28]
abbrev R_af : List VK := [.s (.dat YI)]
abbrev i_af_10 : Shp := { slots := [(3, .s (.mp)), (4, .s (.dat .bool)), (20, .s (.dat Y24)), (21, .s (.dat YI)), (22, .s (.dat YI)), (30, .s (.dat Y47)), (31, .s (.dat YI)), (32, .s (.dat YI))], boxes := [], rows := [] }
abbrev o_af_10 : List (Ex × Shp) := [(.exit 2, { slots := [(3, .s (.mp)), (4, .s (.dat .bool)), (20, .s (.dat Y24)), (21, .s (.dat YI)), (22, .s (.dat YI))], boxes := [], rows := [] }), (.ret, { slots := [(2, .s (.dat YI))], boxes := [], rows := [] })]
def l_af_10 (rec : i_af_10.den → Option (denO o_af_10)) (u10 : i_af_10.den) : Option (denO o_af_10) :=
 if (ltI u10.1.2.2.2.2.2.2.2.1 u10.1.2.2.2.2.2.2.1) then
  if 0 ≤ u10.1.2.2.2.2.2.2.2.1 then
   ((u10.1.2.2.2.2.2.1)[(u10.1.2.2.2.2.2.2.2.1).toNat]?).bind fun y17 =>
   (F_ae (y17, (0 : Int), (23 : Int), ())).bind fun r18 =>
   if (!r18.1.1) then
    some (.inr (.inl (((3 : Int), ()), ((), ()))))
   else
    if u10.1.2.1 = false then
     let v19 := (IntKind.i64.wrap (u10.1.2.2.2.2.2.2.2.1 + (1 : Int)))
     rec (((setM u10.1.1 y17 true), ((getM u10.1.1 y17), (u10.1.2.2.1, (u10.1.2.2.2.1, (u10.1.2.2.2.2.1, (u10.1.2.2.2.2.2.1, (u10.1.2.2.2.2.2.2.1, (v19, ())))))))), ((), ()))
    else
     let v20 := (IntKind.i64.wrap (u10.1.2.2.2.2.2.2.2.1 + (1 : Int)))
     rec (((setM u10.1.1 y17 true), (true, (u10.1.2.2.1, (u10.1.2.2.2.1, (u10.1.2.2.2.2.1, (u10.1.2.2.2.2.2.1, (u10.1.2.2.2.2.2.2.1, (v20, ())))))))), ((), ()))
  else none
 else
  some (.inl ((u10.1.1, (u10.1.2.1, (u10.1.2.2.1, (u10.1.2.2.2.1, (u10.1.2.2.2.2.1, ()))))), ((), ())))
def L_af_10 (x : i_af_10.den) : Option (denO o_af_10) := iterF l_af_10 lots x
abbrev i_af_5 : Shp := { slots := [(3, .s (.mp)), (4, .s (.dat .bool)), (20, .s (.dat Y24)), (21, .s (.dat YI)), (22, .s (.dat YI))], boxes := [], rows := [] }
abbrev o_af_5 : List (Ex × Shp) := [(.exit 0, { slots := [(4, .s (.dat .bool))], boxes := [], rows := [] }), (.ret, { slots := [(2, .s (.dat YI))], boxes := [], rows := [] })]
def l_af_5 (rec : i_af_5.den → Option (denO o_af_5)) (u5 : i_af_5.den) : Option (denO o_af_5) :=
 if (ltI u5.1.2.2.2.2.1 u5.1.2.2.2.1) then
  if 0 ≤ u5.1.2.2.2.2.1 then
   ((u5.1.2.2.1)[(u5.1.2.2.2.2.1).toNat]?).bind fun y11 =>
   let v12 := ((y11.length : Nat) : Int)
   (F_ae (v12, (1 : Int), (5 : Int), ())).bind fun r13 =>
   if (!r13.1.1) then
    some (.inr (.inl (((2 : Int), ()), ((), ()))))
   else
    let v14 := ((y11.length : Nat) : Int)
    (L_af_10 ((u5.1.1, (u5.1.2.1, (u5.1.2.2.1, (u5.1.2.2.2.1, (u5.1.2.2.2.2.1, (y11, (v14, ((0 : Int), ())))))))), ((), ()))).bind fun z21 =>
    match z21 with
    | .inl x22 =>
     let v23 := (IntKind.i64.wrap (x22.1.2.2.2.2.1 + (1 : Int)))
     rec ((x22.1.1, (x22.1.2.1, (x22.1.2.2.1, (x22.1.2.2.2.1, (v23, ()))))), ((), ()))
    | .inr z21_ =>
     match z21_ with
     | .inl x24 =>
      some (.inr (.inl ((x24.1.1, ()), ((), ()))))
     | .inr z21__ =>
      none
  else none
 else
  some (.inl ((u5.1.2.1, ()), ((), ())))
def L_af_5 (x : i_af_5.den) : Option (denO o_af_5) := iterF l_af_5 lots x
def F_af (x : denP P_af) : Option (denV R_af × denQ P_af) :=
 let v1 := ((x.1.1.length : Nat) : Int)
 (F_ae (v1, (1 : Int), (3 : Int), ())).bind fun r2 =>
 if (!r2.1.1) then
  some (((2 : Int), ()), ())
 else
  let v3 := ((x.1.1.length : Nat) : Int)
  (L_af_5 ((([] : List (Int × Bool)), (false, (x.1.1, (v3, ((0 : Int), ()))))), ((), ()))).bind fun z25 =>
  match z25 with
  | .inl x26 =>
   if x26.1.1 then
    some (((6 : Int), ()), ())
   else
    some (((0 : Int), ()), ())
  | .inr z25_ =>
   match z25_ with
   | .inl x27 =>
    some ((x27.1.1, ()), ())
   | .inr z25__ =>
    none
abbrev C_af : Con := ⟨P_af, R_af, F_af, false⟩
abbrev G_af : Env := [(74, C_ae)]
theorem g_af : EnvOk Try.prog G_af := (env_cons s_ae env_nil)
abbrev c_af_10 : Cut := ⟨i_af_10, o_af_10, fun x => iterF l_af_10 lots x⟩
theorem t_af_10 (rec x) : run T G_af [] (nav Try.f70 [1, 1, 1, 0, 1, 0, 0, 1, 1, 0, 0, 1, 1, 1, 0, 0]) (mk 50 i_af_10 x) (loopK i_af_10 o_af_10 rec) = l_af_10 rec x := by kernel_rfl
theorem k_af_10 : CutOk Try.prog 50 (.loop (nav Try.f70 [1, 1, 1, 0, 1, 0, 0, 1, 1, 0, 0, 1, 1, 1, 0, 0])) c_af_10 :=
  loop_cut (L := []) hT g_af t_af_10 okP _
abbrev c_af_5 : Cut := ⟨i_af_5, o_af_5, fun x => iterF l_af_5 lots x⟩
theorem t_af_5 (rec x) : run T G_af [(10, c_af_10)] (nav Try.f70 [1, 1, 1, 0, 1, 0, 0]) (mk 50 i_af_5 x) (loopK i_af_5 o_af_5 rec) = l_af_5 rec x := by kernel_rfl
theorem k_af_5 : CutOk Try.prog 50 (.loop (nav Try.f70 [1, 1, 1, 0, 1, 0, 0])) c_af_5 :=
  loop_cut (L := [(10, c_af_10)]) hT g_af t_af_5 (okS okP (okS okP (okS (okB (okS okP (okS okP (okS okP (okB (okU k_af_10)))))) okP))) _
theorem r_af (x) : runFn T G_af [(10, c_af_10), (5, c_af_5)] Try.f70 C_af.ps C_af.rs x = C_af.F x := by kernel_rfl
theorem s_af : CallsOk Try.prog 70 C_af := fnC (L := [(10, c_af_10), (5, c_af_5)]) hT g_af Try.f70 (okS okP (okS okP (okS okP (okS (okS okP (okB (okU k_af_5))) okP)))) r_af
/-! (*impl.Policy).isGuest -/
abbrev P_ag : List PK := [.ptr Y28, .val YI]
abbrev R_ag : List VK := [.s (.dat .bool)]
def F_ag (x : denP P_ag) : Option (denV R_ag × denQ P_ag) :=
 let v1 := ((x.1.1.length : Nat) : Int)
 let v2 := (IntKind.i64.wrap (v1 - (1 : Int)))
 (F_ae (x.2.1, (0 : Int), v2, ())).bind fun r3 =>
 some ((r3.1.1, ()), ())
abbrev C_ag : Con := ⟨P_ag, R_ag, F_ag, false⟩
abbrev G_ag : Env := [(74, C_ae)]
theorem g_ag : EnvOk Try.prog G_ag := (env_cons s_ae env_nil)
theorem r_ag (x) : runFn T G_ag [] Try.f66 C_ag.ps C_ag.rs x = C_ag.F x := by kernel_rfl
theorem s_ag : CallsOk Try.prog 66 C_ag := fnC (L := []) hT g_ag Try.f66 okP r_ag
/-! (*impl.Policy).linkFault -/
abbrev P_ah : List PK := [.ptr Y28, .val YI, .val YI]
abbrev R_ah : List VK := [.s (.dat YI)]
def F_ah (x : denP P_ah) : Option (denV R_ah × denQ P_ah) :=
 (F_ag (x.1, x.2.1, ())).bind fun r1 =>
 if (!r1.1.1) = false then
  (F_ag (x.1, x.2.2.1, ())).bind fun r2 =>
  if (!r2.1.1) then
   some (((4 : Int), ()), ())
  else
   if (x.2.1 == x.2.2.1) then
    some (((1 : Int), ()), ())
   else
    some (((0 : Int), ()), ())
 else
  some (((4 : Int), ()), ())
abbrev C_ah : Con := ⟨P_ah, R_ah, F_ah, false⟩
abbrev G_ah : Env := [(66, C_ag)]
theorem g_ah : EnvOk Try.prog G_ah := (env_cons s_ag env_nil)
theorem r_ah (x) : runFn T G_ah [] Try.f97 C_ah.ps C_ah.rs x = C_ah.F x := by kernel_rfl
theorem s_ah : CallsOk Try.prog 97 C_ah := fnC (L := []) hT g_ah Try.f97 okP r_ah
/-! slices.Index[int64,int64] -/
abbrev P_ai : List PK := [.val Y47, .val YI]
abbrev R_ai : List VK := [.s (.dat YI)]
abbrev i_ai_2 : Shp := { slots := [(0, .s (.dat Y47)), (1, .s (.dat YI)), (7, .s (.dat YI)), (8, .s (.dat YI))], boxes := [], rows := [] }
abbrev o_ai_2 : List (Ex × Shp) := [(.exit 0, { slots := [], boxes := [], rows := [] }), (.ret, { slots := [(4, .s (.dat YI))], boxes := [], rows := [] })]
def l_ai_2 (rec : i_ai_2.den → Option (denO o_ai_2)) (u2 : i_ai_2.den) : Option (denO o_ai_2) :=
 if (ltI u2.1.2.2.2.1 u2.1.2.2.1) then
  if 0 ≤ u2.1.2.2.2.1 then
   ((u2.1.1)[(u2.1.2.2.2.1).toNat]?).bind fun y3 =>
   if (u2.1.2.1 == y3) then
    some (.inr (.inl ((u2.1.2.2.2.1, ()), ((), ()))))
   else
    let v4 := (IntKind.i64.wrap (u2.1.2.2.2.1 + (1 : Int)))
    rec ((u2.1.1, (u2.1.2.1, (u2.1.2.2.1, (v4, ())))), ((), ()))
  else none
 else
  some (.inl ((), ((), ())))
def L_ai_2 (x : i_ai_2.den) : Option (denO o_ai_2) := iterF l_ai_2 lots x
def F_ai (x : denP P_ai) : Option (denV R_ai × denQ P_ai) :=
 let v1 := ((x.1.length : Nat) : Int)
 (L_ai_2 ((x.1, (x.2.1, (v1, ((0 : Int), ())))), ((), ()))).bind fun z5 =>
 match z5 with
 | .inl x6 =>
  some (((-1 : Int), ()), ())
 | .inr z5_ =>
  match z5_ with
  | .inl x7 =>
   some ((x7.1.1, ()), ())
  | .inr z5__ =>
   none
abbrev C_ai : Con := ⟨P_ai, R_ai, F_ai, false⟩
abbrev G_ai : Env := []
theorem g_ai : EnvOk Try.prog G_ai := env_nil
abbrev c_ai_2 : Cut := ⟨i_ai_2, o_ai_2, fun x => iterF l_ai_2 lots x⟩
theorem t_ai_2 (rec x) : run T G_ai [] (nav Try.f82 [1, 0, 1, 0, 0]) (mk 19 i_ai_2 x) (loopK i_ai_2 o_ai_2 rec) = l_ai_2 rec x := by kernel_rfl
theorem k_ai_2 : CutOk Try.prog 19 (.loop (nav Try.f82 [1, 0, 1, 0, 0])) c_ai_2 :=
  loop_cut (L := []) hT g_ai t_ai_2 okP _
theorem r_ai (x) : runFn T G_ai [(2, c_ai_2)] Try.f82 C_ai.ps C_ai.rs x = C_ai.F x := by kernel_rfl
theorem s_ai : CallsOk Try.prog 82 C_ai := fnC (L := [(2, c_ai_2)]) hT g_ai Try.f82 (okS okP (okS (okS okP (okB (okU k_ai_2))) okP)) r_ai
/-! slices.Contains[int64,int64] -/
abbrev P_aj : List PK := [.val Y47, .val YI]
abbrev R_aj : List VK := [.s (.dat .bool)]
def F_aj (x : denP P_aj) : Option (denV R_aj × denQ P_aj) :=
 (F_ai (x.1, x.2.1, ())).bind fun r1 =>
 some (((leI (0 : Int) r1.1.1), ()), ())
abbrev C_aj : Con := ⟨P_aj, R_aj, F_aj, false⟩
abbrev G_aj : Env := [(82, C_ai)]
theorem g_aj : EnvOk Try.prog G_aj := (env_cons s_ai env_nil)
theorem r_aj (x) : runFn T G_aj [] Try.f47 C_aj.ps C_aj.rs x = C_aj.F x := by kernel_rfl
theorem s_aj : CallsOk Try.prog 47 C_aj := fnC (L := []) hT g_aj Try.f47 okP r_aj
/-! (*impl.Policy).owner.1 -/
abbrev P_ak_1 : List PK := [.val Y47, .ptr YI]
abbrev R_ak_1 : List VK := [.s (.dat .bool)]
def F_ak_1 (x : denP P_ak_1) : Option (denV R_ak_1 × denQ P_ak_1) :=
 (F_aj (x.1, x.2.1, ())).bind fun r1 =>
 some ((r1.1.1, ()), ())
abbrev C_ak_1 : Con := ⟨P_ak_1, R_ak_1, F_ak_1, false⟩
abbrev G_ak_1 : Env := [(47, C_aj)]
theorem g_ak_1 : EnvOk Try.prog G_ak_1 := (env_cons s_aj env_nil)
theorem r_ak_1 (x) : runFn T G_ak_1 [] Try.f121 C_ak_1.ps C_ak_1.rs x = C_ak_1.F x := by kernel_rfl
theorem s_ak_1 : CallsOk Try.prog 121 C_ak_1 := fnC (L := []) hT g_ak_1 Try.f121 okP r_ak_1
/-! slices.IndexFunc[int64,int64] -/
abbrev P_al_1 : List PK := [.val Y24, .fn 121 [YI]]
abbrev R_al_1 : List VK := [.s (.dat YI)]
abbrev i_am_2 : Shp := { slots := [(0, .s (.dat Y24)), (1, .s (.fn 121 [YI])), (7, .s (.dat YI)), (8, .s (.dat YI))], boxes := [], rows := [] }
abbrev o_am_2 : List (Ex × Shp) := [(.exit 0, { slots := [], boxes := [], rows := [] }), (.ret, { slots := [(4, .s (.dat YI))], boxes := [], rows := [] })]
def l_am_2 (rec : i_am_2.den → Option (denO o_am_2)) (u2 : i_am_2.den) : Option (denO o_am_2) :=
 if (ltI u2.1.2.2.2.1 u2.1.2.2.1) then
  if 0 ≤ u2.1.2.2.2.1 then
   ((u2.1.1)[(u2.1.2.2.2.1).toNat]?).bind fun y4 =>
   (F_ak_1 (y4, u2.1.2.1.1, ())).bind fun r5 =>
   if r5.1.1 then
    some (.inr (.inl ((u2.1.2.2.2.1, ()), ((), ()))))
   else
    let v6 := (IntKind.i64.wrap (u2.1.2.2.2.1 + (1 : Int)))
    rec ((u2.1.1, ((u2.1.2.1.1, ()), (u2.1.2.2.1, (v6, ())))), ((), ()))
  else none
 else
  some (.inl ((), ((), ())))
def L_am_2 (x : i_am_2.den) : Option (denO o_am_2) := iterF l_am_2 lots x
def F_al_1 (x : denP P_al_1) : Option (denV R_al_1 × denQ P_al_1) :=
 let v1 := ((x.1.length : Nat) : Int)
 (L_am_2 ((x.1, ((x.2.1.1, ()), (v1, ((0 : Int), ())))), ((), ()))).bind fun z7 =>
 match z7 with
 | .inl x8 =>
  some (((-1 : Int), ()), ())
 | .inr z7_ =>
  match z7_ with
  | .inl x9 =>
   some ((x9.1.1, ()), ())
  | .inr z7__ =>
   none
abbrev C_al_1 : Con := ⟨P_al_1, R_al_1, F_al_1, false⟩
abbrev G_al_1 : Env := [(121, C_ak_1)]
theorem g_al_1 : EnvOk Try.prog G_al_1 := (env_cons s_ak_1 env_nil)
abbrev c_am_2 : Cut := ⟨i_am_2, o_am_2, fun x => iterF l_am_2 lots x⟩
theorem t_am_2 (rec x) : run T G_al_1 [] (nav Try.f120 [1, 0, 1, 0, 0]) (mk 19 i_am_2 x) (loopK i_am_2 o_am_2 rec) = l_am_2 rec x := by kernel_rfl
theorem k_am_2 : CutOk Try.prog 19 (.loop (nav Try.f120 [1, 0, 1, 0, 0])) c_am_2 :=
  loop_cut (L := []) hT g_al_1 t_am_2 okP _
theorem r_al_1 (x) : runFn T G_al_1 [(2, c_am_2)] Try.f120 C_al_1.ps C_al_1.rs x = C_al_1.F x := by kernel_rfl
theorem s_al_1 : CallsOk Try.prog 120 C_al_1 := fnC (L := [(2, c_am_2)]) hT g_al_1 Try.f120 (okS okP (okS (okS okP (okB (okU k_am_2))) okP)) r_al_1
/-! (*impl.Policy).owner -/
abbrev P_ak : List PK := [.ptr Y28, .val YI]
abbrev R_ak : List VK := [.s (.dat YI)]
def F_ak (x : denP P_ak) : Option (denV R_ak × denQ P_ak) :=
 (F_al_1 (x.1.1, (x.2.1, ()), ())).bind fun r1 =>
 some ((r1.1.1, ()), ())
abbrev C_ak : Con := ⟨P_ak, R_ak, F_ak, false⟩
abbrev G_ak : Env := [(120, C_al_1)]
theorem g_ak : EnvOk Try.prog G_ak := (env_cons s_al_1 env_nil)
theorem r_ak (x) : runFn T G_ak [] Try.f98 C_ak.ps C_ak.rs x = C_ak.F x := by kernel_rfl
theorem s_ak : CallsOk Try.prog 98 C_ak := fnC (L := []) hT g_ak Try.f98 okP r_ak
/-! (impl.Lane).sits -/
abbrev P_an : List PK := [.val Y104, .val YI, .val YI]
abbrev R_an : List VK := [.s (.dat .bool)]
def F_an (x : denP P_an) : Option (denV R_an × denQ P_an) :=
 if (x.1.1 == x.2.1) = true then
  if (x.1.2.2.2.1 == x.2.2.1) = false then
   if (x.1.2.1 == x.2.1) = true then
    some (((x.1.2.2.2.2.1 == x.2.2.1), ()), ())
   else
    some ((false, ()), ())
  else
   some ((true, ()), ())
 else
  if (x.1.2.1 == x.2.1) = true then
   some (((x.1.2.2.2.2.1 == x.2.2.1), ()), ())
  else
   some ((false, ()), ())
abbrev C_an : Con := ⟨P_an, R_an, F_an, false⟩
abbrev G_an : Env := []
theorem g_an : EnvOk Try.prog G_an := env_nil
theorem r_an (x) : runFn T G_an [] Try.f101 C_an.ps C_an.rs x = C_an.F x := by kernel_rfl
theorem s_an : CallsOk Try.prog 101 C_an := fnC (L := []) hT g_an Try.f101 okP r_an
/-! (*impl.Policy).laneFault.1 -/
abbrev P_ao_1 : List PK := [.val Y104, .ptr Y104]
abbrev R_ao_1 : List VK := [.s (.dat .bool)]
def F_ao_1 (x : denP P_ao_1) : Option (denV R_ao_1 × denQ P_ao_1) :=
 if (x.1.2.2.1 == x.2.1.2.2.1) = false then
  (F_an (x.1, x.2.1.1, x.2.1.2.2.2.1, ())).bind fun r1 =>
  if r1.1.1 = false then
   (F_an (x.1, x.2.1.2.1, x.2.1.2.2.2.2.1, ())).bind fun r2 =>
   some ((r2.1.1, ()), ())
  else
   some ((true, ()), ())
 else
  some ((true, ()), ())
abbrev C_ao_1 : Con := ⟨P_ao_1, R_ao_1, F_ao_1, false⟩
abbrev G_ao_1 : Env := [(101, C_an)]
theorem g_ao_1 : EnvOk Try.prog G_ao_1 := (env_cons s_an env_nil)
theorem r_ao_1 (x) : runFn T G_ao_1 [] Try.f100 C_ao_1.ps C_ao_1.rs x = C_ao_1.F x := by kernel_rfl
theorem s_ao_1 : CallsOk Try.prog 100 C_ao_1 := fnC (L := []) hT g_ao_1 Try.f100 okP r_ao_1
/-! slices.IndexFunc[impl.Lane,impl.Lane] -/
abbrev P_ap_1 : List PK := [.val Y25, .fn 100 [Y104]]
abbrev R_ap_1 : List VK := [.s (.dat YI)]
abbrev i_aq_2 : Shp := { slots := [(0, .s (.dat Y25)), (1, .s (.fn 100 [Y104])), (7, .s (.dat YI)), (8, .s (.dat YI))], boxes := [], rows := [] }
abbrev o_aq_2 : List (Ex × Shp) := [(.exit 0, { slots := [], boxes := [], rows := [] }), (.ret, { slots := [(4, .s (.dat YI))], boxes := [], rows := [] })]
def l_aq_2 (rec : i_aq_2.den → Option (denO o_aq_2)) (u2 : i_aq_2.den) : Option (denO o_aq_2) :=
 if (ltI u2.1.2.2.2.1 u2.1.2.2.1) then
  if 0 ≤ u2.1.2.2.2.1 then
   ((u2.1.1)[(u2.1.2.2.2.1).toNat]?).bind fun y4 =>
   (F_ao_1 (y4, u2.1.2.1.1, ())).bind fun r5 =>
   if r5.1.1 then
    some (.inr (.inl ((u2.1.2.2.2.1, ()), ((), ()))))
   else
    let v6 := (IntKind.i64.wrap (u2.1.2.2.2.1 + (1 : Int)))
    rec ((u2.1.1, ((u2.1.2.1.1, ()), (u2.1.2.2.1, (v6, ())))), ((), ()))
  else none
 else
  some (.inl ((), ((), ())))
def L_aq_2 (x : i_aq_2.den) : Option (denO o_aq_2) := iterF l_aq_2 lots x
def F_ap_1 (x : denP P_ap_1) : Option (denV R_ap_1 × denQ P_ap_1) :=
 let v1 := ((x.1.length : Nat) : Int)
 (L_aq_2 ((x.1, ((x.2.1.1, ()), (v1, ((0 : Int), ())))), ((), ()))).bind fun z7 =>
 match z7 with
 | .inl x8 =>
  some (((-1 : Int), ()), ())
 | .inr z7_ =>
  match z7_ with
  | .inl x9 =>
   some ((x9.1.1, ()), ())
  | .inr z7__ =>
   none
abbrev C_ap_1 : Con := ⟨P_ap_1, R_ap_1, F_ap_1, false⟩
abbrev G_ap_1 : Env := [(100, C_ao_1)]
theorem g_ap_1 : EnvOk Try.prog G_ap_1 := (env_cons s_ao_1 env_nil)
abbrev c_aq_2 : Cut := ⟨i_aq_2, o_aq_2, fun x => iterF l_aq_2 lots x⟩
theorem t_aq_2 (rec x) : run T G_ap_1 [] (nav Try.f122 [1, 0, 1, 0, 0]) (mk 19 i_aq_2 x) (loopK i_aq_2 o_aq_2 rec) = l_aq_2 rec x := by kernel_rfl
theorem k_aq_2 : CutOk Try.prog 19 (.loop (nav Try.f122 [1, 0, 1, 0, 0])) c_aq_2 :=
  loop_cut (L := []) hT g_ap_1 t_aq_2 okP _
theorem r_ap_1 (x) : runFn T G_ap_1 [(2, c_aq_2)] Try.f122 C_ap_1.ps C_ap_1.rs x = C_ap_1.F x := by kernel_rfl
theorem s_ap_1 : CallsOk Try.prog 122 C_ap_1 := fnC (L := [(2, c_aq_2)]) hT g_ap_1 Try.f122 (okS okP (okS (okS okP (okB (okU k_aq_2))) okP)) r_ap_1
/-! slices.ContainsFunc[impl.Lane,impl.Lane] -/
abbrev P_ar_1 : List PK := [.val Y25, .fn 100 [Y104]]
abbrev R_ar_1 : List VK := [.s (.dat .bool)]
def F_ar_1 (x : denP P_ar_1) : Option (denV R_ar_1 × denQ P_ar_1) :=
 (F_ap_1 (x.1, (x.2.1.1, ()), ())).bind fun r1 =>
 some (((leI (0 : Int) r1.1.1), ()), ())
abbrev C_ar_1 : Con := ⟨P_ar_1, R_ar_1, F_ar_1, false⟩
abbrev G_ar_1 : Env := [(122, C_ap_1)]
theorem g_ar_1 : EnvOk Try.prog G_ar_1 := (env_cons s_ap_1 env_nil)
theorem r_ar_1 (x) : runFn T G_ar_1 [] Try.f99 C_ar_1.ps C_ar_1.rs x = C_ar_1.F x := by kernel_rfl
theorem s_ar_1 : CallsOk Try.prog 99 C_ar_1 := fnC (L := []) hT g_ar_1 Try.f99 okP r_ar_1
/-! (*impl.Policy).laneFault -/
abbrev P_ao : List PK := [.ptr Y28, .val Y104, .val Y25]
abbrev R_ao : List VK := [.s (.dat YI)]
def F_ao (x : denP P_ao) : Option (denV R_ao × denQ P_ao) :=
 (F_ah (x.1, x.2.1.1, x.2.1.2.1, ())).bind fun r1 =>
 if (r1.1.1 != (0 : Int)) then
  some ((r1.1.1, ()), ())
 else
  (F_ae (x.2.1.2.2.1, (0 : Int), (23 : Int), ())).bind fun r2 =>
  if (!r2.1.1) = false then
   (F_ae (x.2.1.2.2.2.1, (5 : Int), (6 : Int), ())).bind fun r3 =>
   if (!r3.1.1) = false then
    (F_ae (x.2.1.2.2.2.2.1, (5 : Int), (6 : Int), ())).bind fun r4 =>
    if (!r4.1.1) then
     some (((3 : Int), ()), ())
    else
     (F_ak (x.1, x.2.1.2.2.1, ())).bind fun r5 =>
     if (leI (0 : Int) r5.1.1) = false then
      (F_ar_1 (x.2.2.1, (x.2.1, ()), ())).bind fun r6 =>
      if r6.1.1 then
       some (((6 : Int), ()), ())
      else
       some (((0 : Int), ()), ())
     else
      some (((6 : Int), ()), ())
   else
    some (((3 : Int), ()), ())
  else
   some (((3 : Int), ()), ())
abbrev C_ao : Con := ⟨P_ao, R_ao, F_ao, false⟩
abbrev G_ao : Env := [(74, C_ae), (97, C_ah), (98, C_ak), (99, C_ar_1)]
theorem g_ao : EnvOk Try.prog G_ao := (env_cons s_ae (env_cons s_ah (env_cons s_ak (env_cons s_ar_1 env_nil))))
theorem r_ao (x) : runFn T G_ao [] Try.f71 C_ao.ps C_ao.rs x = C_ao.F x := by kernel_rfl
theorem s_ao : CallsOk Try.prog 71 C_ao := fnC (L := []) hT g_ao Try.f71 okP r_ao
/-! slices.Index[impl.Bell,impl.Bell] -/
abbrev P_as : List PK := [.val Y26, .val Y32]
abbrev R_as : List VK := [.s (.dat YI)]
abbrev i_as_2 : Shp := { slots := [(0, .s (.dat Y26)), (3, .s (.ptr 3 0)), (7, .s (.dat YI)), (8, .s (.dat YI))], boxes := [(3, [.dat YI, .dat YI])], rows := [] }
abbrev o_as_2 : List (Ex × Shp) := [(.exit 0, { slots := [], boxes := [], rows := [] }), (.ret, { slots := [(4, .s (.dat YI))], boxes := [], rows := [] })]
def l_as_2 (rec : i_as_2.den → Option (denO o_as_2)) (u2 : i_as_2.den) : Option (denO o_as_2) :=
 if (ltI u2.1.2.2.2.1 u2.1.2.2.1) then
  if 0 ≤ u2.1.2.2.2.1 then
   ((u2.1.1)[(u2.1.2.2.2.1).toNat]?).bind fun y3 =>
   if ((u2.2.1.1.1 == y3.1) && ((u2.2.1.1.2.1 == y3.2.1) && true)) then
    some (.inr (.inl ((u2.1.2.2.2.1, ()), ((), ()))))
   else
    let v4 := (IntKind.i64.wrap (u2.1.2.2.2.1 + (1 : Int)))
    rec ((u2.1.1, ((), (u2.1.2.2.1, (v4, ())))), ((u2.2.1.1, ()), ()))
  else none
 else
  some (.inl ((), ((), ())))
def L_as_2 (x : i_as_2.den) : Option (denO o_as_2) := iterF l_as_2 lots x
def F_as (x : denP P_as) : Option (denV R_as × denQ P_as) :=
 let v1 := ((x.1.length : Nat) : Int)
 (L_as_2 ((x.1, ((), (v1, ((0 : Int), ())))), (((x.2.1.1, (x.2.1.2.1, ())), ()), ()))).bind fun z5 =>
 match z5 with
 | .inl x6 =>
  some (((-1 : Int), ()), ())
 | .inr z5_ =>
  match z5_ with
  | .inl x7 =>
   some ((x7.1.1, ()), ())
  | .inr z5__ =>
   none
abbrev C_as : Con := ⟨P_as, R_as, F_as, false⟩
abbrev G_as : Env := []
theorem g_as : EnvOk Try.prog G_as := env_nil
abbrev c_as_2 : Cut := ⟨i_as_2, o_as_2, fun x => iterF l_as_2 lots x⟩
theorem t_as_2 (rec x) : run T G_as [] (nav Try.f123 [1, 0, 1, 0, 0]) (mk 19 i_as_2 x) (loopK i_as_2 o_as_2 rec) = l_as_2 rec x := by kernel_rfl
theorem k_as_2 : CutOk Try.prog 19 (.loop (nav Try.f123 [1, 0, 1, 0, 0])) c_as_2 :=
  loop_cut (L := []) hT g_as t_as_2 okP _
theorem r_as (x) : runFn T G_as [(2, c_as_2)] Try.f123 C_as.ps C_as.rs x = C_as.F x := by kernel_rfl
theorem s_as : CallsOk Try.prog 123 C_as := fnC (L := [(2, c_as_2)]) hT g_as Try.f123 (okS okP (okS (okS okP (okB (okU k_as_2))) okP)) r_as
/-! slices.Contains[impl.Bell,impl.Bell] -/
abbrev P_at : List PK := [.val Y26, .val Y32]
abbrev R_at : List VK := [.s (.dat .bool)]
def F_at (x : denP P_at) : Option (denV R_at × denQ P_at) :=
 (F_as (x.1, x.2.1, ())).bind fun r1 =>
 some (((leI (0 : Int) r1.1.1), ()), ())
abbrev C_at : Con := ⟨P_at, R_at, F_at, false⟩
abbrev G_at : Env := [(123, C_as)]
theorem g_at : EnvOk Try.prog G_at := (env_cons s_as env_nil)
theorem r_at (x) : runFn T G_at [] Try.f102 C_at.ps C_at.rs x = C_at.F x := by kernel_rfl
theorem s_at : CallsOk Try.prog 102 C_at := fnC (L := []) hT g_at Try.f102 okP r_at
/-! (*impl.Policy).bellFault -/
abbrev P_au : List PK := [.ptr Y28, .val Y32, .val Y26]
abbrev R_au : List VK := [.s (.dat YI)]
def F_au (x : denP P_au) : Option (denV R_au × denQ P_au) :=
 (F_ah (x.1, x.2.1.1, x.2.1.2.1, ())).bind fun r1 =>
 if (r1.1.1 != (0 : Int)) then
  some ((r1.1.1, ()), ())
 else
  (F_at (x.2.2.1, x.2.1, ())).bind fun r2 =>
  if r2.1.1 then
   some (((6 : Int), ()), ())
  else
   some (((0 : Int), ()), ())
abbrev C_au : Con := ⟨P_au, R_au, F_au, false⟩
abbrev G_au : Env := [(97, C_ah), (102, C_at)]
theorem g_au : EnvOk Try.prog G_au := (env_cons s_ah (env_cons s_at env_nil))
theorem r_au (x) : runFn T G_au [] Try.f72 C_au.ps C_au.rs x = C_au.F x := by kernel_rfl
theorem s_au : CallsOk Try.prog 72 C_au := fnC (L := []) hT g_au Try.f72 okP r_au
/-! (*impl.Policy).planFault -/
abbrev P_av : List PK := [.ptr Y28]
abbrev R_av : List VK := [.s (.dat YI)]
abbrev i_av_4 : Shp := { slots := [(0, .s (.pd Y28)), (15, .s (.dat Y26)), (16, .s (.dat YI)), (17, .s (.dat YI))], boxes := [], rows := [] }
abbrev o_av_4 : List (Ex × Shp) := [(.exit 0, { slots := [], boxes := [], rows := [] }), (.ret, { slots := [(2, .s (.dat YI))], boxes := [], rows := [] })]
def l_av_4 (rec : i_av_4.den → Option (denO o_av_4)) (u4 : i_av_4.den) : Option (denO o_av_4) :=
 if (ltI u4.1.2.2.2.1 u4.1.2.2.1) then
  if 0 ≤ u4.1.2.2.2.1 then
   ((u4.1.2.1)[(u4.1.2.2.2.1).toNat]?).bind fun y7 =>
   (F_ag (u4.1.1, y7.1, ())).bind fun r8 =>
   if (!r8.1.1) then
    some (.inr (.inl (((4 : Int), ()), ((), ()))))
   else
    (F_ae (y7.2.1, (1 : Int), (50 : Int), ())).bind fun r9 =>
    if (!r9.1.1) then
     some (.inr (.inl (((3 : Int), ()), ((), ()))))
    else
     let v10 := (IntKind.i64.wrap (u4.1.2.2.2.1 + (1 : Int)))
     rec ((u4.1.1, (u4.1.2.1, (u4.1.2.2.1, (v10, ())))), ((), ()))
  else none
 else
  some (.inl ((), ((), ())))
def L_av_4 (x : i_av_4.den) : Option (denO o_av_4) := iterF l_av_4 lots x
def F_av (x : denP P_av) : Option (denV R_av × denQ P_av) :=
 let v1 := ((x.1.2.2.2.1.length : Nat) : Int)
 (F_ae (v1, (1 : Int), (8 : Int), ())).bind fun r2 =>
 if (!r2.1.1) then
  some (((2 : Int), ()), ())
 else
  let v3 := ((x.1.2.2.2.1.length : Nat) : Int)
  (L_av_4 ((x.1, (x.1.2.2.2.1, (v3, ((0 : Int), ())))), ((), ()))).bind fun z11 =>
  match z11 with
  | .inl x12 =>
   some (((0 : Int), ()), ())
  | .inr z11_ =>
   match z11_ with
   | .inl x13 =>
    some ((x13.1.1, ()), ())
   | .inr z11__ =>
    none
abbrev C_av : Con := ⟨P_av, R_av, F_av, false⟩
abbrev G_av : Env := [(66, C_ag), (74, C_ae)]
theorem g_av : EnvOk Try.prog G_av := (env_cons s_ag (env_cons s_ae env_nil))
abbrev c_av_4 : Cut := ⟨i_av_4, o_av_4, fun x => iterF l_av_4 lots x⟩
theorem t_av_4 (rec x) : run T G_av [] (nav Try.f73 [1, 1, 0, 1, 0, 0]) (mk 33 i_av_4 x) (loopK i_av_4 o_av_4 rec) = l_av_4 rec x := by kernel_rfl
theorem k_av_4 : CutOk Try.prog 33 (.loop (nav Try.f73 [1, 1, 0, 1, 0, 0])) c_av_4 :=
  loop_cut (L := []) hT g_av t_av_4 okP _
theorem r_av (x) : runFn T G_av [(4, c_av_4)] Try.f73 C_av.ps C_av.rs x = C_av.F x := by kernel_rfl
theorem s_av : CallsOk Try.prog 73 C_av := fnC (L := [(4, c_av_4)]) hT g_av Try.f73 (okS okP (okS okP (okS (okS okP (okB (okU k_av_4))) okP))) r_av
/-! impl.PolicyFault -/
abbrev P_aw : List PK := [.val Y28]
abbrev R_aw : List VK := [.s (.dat YI)]
abbrev i_aw_14 : Shp := { slots := [(1, .s (.ptr 1 0)), (43, .s (.dat Y26)), (44, .s (.dat YI)), (45, .s (.dat YI))], boxes := [(1, [.dat Y24, .dat Y25, .dat Y26, .dat Y26])], rows := [] }
abbrev o_aw_14 : List (Ex × Shp) := [(.exit 2, { slots := [(1, .s (.ptr 1 0))], boxes := [(1, [.dat Y24, .dat Y25, .dat Y26, .dat Y26])], rows := [] }), (.ret, { slots := [(2, .s (.dat YI))], boxes := [], rows := [] })]
def l_aw_14 (rec : i_aw_14.den → Option (denO o_aw_14)) (u14 : i_aw_14.den) : Option (denO o_aw_14) :=
 if (ltI u14.1.2.2.2.1 u14.1.2.2.1) then
  if 0 ≤ u14.1.2.2.2.1 then
   ((u14.1.2.1)[(u14.1.2.2.2.1).toNat]?).bind fun y16 =>
   if 0 ≤ (0 : Int) ∧ (0 : Int) ≤ u14.1.2.2.2.1 ∧ u14.1.2.2.2.1 ≤ ((u14.2.1.1.2.2.1.length : Nat) : Int) then
    let v17 := ((u14.2.1.1.2.2.1.drop ((0 : Int)).toNat).take ((u14.1.2.2.2.1).toNat - ((0 : Int)).toNat))
    (F_au (u14.2.1.1, y16, v17, ())).bind fun r18 =>
    if (r18.1.1 != (0 : Int)) then
     some (.inr (.inl ((r18.1.1, ()), ((), ()))))
    else
     let v19 := (IntKind.i64.wrap (u14.1.2.2.2.1 + (1 : Int)))
     rec (((), (u14.1.2.1, (u14.1.2.2.1, (v19, ())))), ((u14.2.1.1, ()), ()))
   else none
  else none
 else
  some (.inl (((), ()), ((u14.2.1.1, ()), ())))
def L_aw_14 (x : i_aw_14.den) : Option (denO o_aw_14) := iterF l_aw_14 lots x
abbrev i_aw_7 : Shp := { slots := [(1, .s (.ptr 1 0)), (25, .s (.dat Y25)), (26, .s (.dat YI)), (27, .s (.dat YI))], boxes := [(1, [.dat Y24, .dat Y25, .dat Y26, .dat Y26])], rows := [] }
abbrev o_aw_7 : List (Ex × Shp) := [(.exit 0, { slots := [(1, .s (.ptr 1 0))], boxes := [(1, [.dat Y24, .dat Y25, .dat Y26, .dat Y26])], rows := [] }), (.ret, { slots := [(2, .s (.dat YI))], boxes := [], rows := [] })]
def l_aw_7 (rec : i_aw_7.den → Option (denO o_aw_7)) (u7 : i_aw_7.den) : Option (denO o_aw_7) :=
 if (ltI u7.1.2.2.2.1 u7.1.2.2.1) then
  if 0 ≤ u7.1.2.2.2.1 then
   ((u7.1.2.1)[(u7.1.2.2.2.1).toNat]?).bind fun y7 =>
   if 0 ≤ (0 : Int) ∧ (0 : Int) ≤ u7.1.2.2.2.1 ∧ u7.1.2.2.2.1 ≤ ((u7.2.1.1.2.1.length : Nat) : Int) then
    let v8 := ((u7.2.1.1.2.1.drop ((0 : Int)).toNat).take ((u7.1.2.2.2.1).toNat - ((0 : Int)).toNat))
    (F_ao (u7.2.1.1, y7, v8, ())).bind fun r9 =>
    if (r9.1.1 != (0 : Int)) then
     some (.inr (.inl ((r9.1.1, ()), ((), ()))))
    else
     let v10 := (IntKind.i64.wrap (u7.1.2.2.2.1 + (1 : Int)))
     rec (((), (u7.1.2.1, (u7.1.2.2.1, (v10, ())))), ((u7.2.1.1, ()), ()))
   else none
  else none
 else
  some (.inl (((), ()), ((u7.2.1.1, ()), ())))
def L_aw_7 (x : i_aw_7.den) : Option (denO o_aw_7) := iterF l_aw_7 lots x
def F_aw (x : denP P_aw) : Option (denV R_aw × denQ P_aw) :=
 (F_af (x.1, ())).bind fun r1 =>
 if (r1.1.1 != (0 : Int)) then
  some ((r1.1.1, ()), ())
 else
  let v2 := ((x.1.2.1.length : Nat) : Int)
  if (ltI (4 : Int) v2) = false then
   let v3 := ((x.1.2.2.1.length : Nat) : Int)
   if (ltI (4 : Int) v3) then
    some (((2 : Int), ()), ())
   else
    let v4 := ((x.1.2.1.length : Nat) : Int)
    (L_aw_7 (((), (x.1.2.1, (v4, ((0 : Int), ())))), (((x.1.1, (x.1.2.1, (x.1.2.2.1, (x.1.2.2.2.1, ())))), ()), ()))).bind fun z11 =>
    match z11 with
    | .inl x12 =>
     let v13 := ((x12.2.1.1.2.2.1.length : Nat) : Int)
     (L_aw_14 (((), (x12.2.1.1.2.2.1, (v13, ((0 : Int), ())))), ((x12.2.1.1, ()), ()))).bind fun z20 =>
     match z20 with
     | .inl x21 =>
      (F_av (x21.2.1.1, ())).bind fun r22 =>
      some ((r22.1.1, ()), ())
     | .inr z20_ =>
      match z20_ with
      | .inl x23 =>
       some ((x23.1.1, ()), ())
      | .inr z20__ =>
       none
    | .inr z11_ =>
     match z11_ with
     | .inl x24 =>
      some ((x24.1.1, ()), ())
     | .inr z11__ =>
      none
  else
   some (((2 : Int), ()), ())
abbrev C_aw : Con := ⟨P_aw, R_aw, F_aw, false⟩
abbrev G_aw : Env := [(70, C_af), (71, C_ao), (72, C_au), (73, C_av)]
theorem g_aw : EnvOk Try.prog G_aw := (env_cons s_af (env_cons s_ao (env_cons s_au (env_cons s_av env_nil))))
abbrev c_aw_14 : Cut := ⟨i_aw_14, o_aw_14, fun x => iterF l_aw_14 lots x⟩
theorem t_aw_14 (rec x) : run T G_aw [] (nav Try.f31 [1, 1, 1, 1, 0, 1, 0, 0]) (mk 61 i_aw_14 x) (loopK i_aw_14 o_aw_14 rec) = l_aw_14 rec x := by kernel_rfl
theorem k_aw_14 : CutOk Try.prog 61 (.loop (nav Try.f31 [1, 1, 1, 1, 0, 1, 0, 0])) c_aw_14 :=
  loop_cut (L := []) hT g_aw t_aw_14 okP _
abbrev c_aw_7 : Cut := ⟨i_aw_7, o_aw_7, fun x => iterF l_aw_7 lots x⟩
theorem t_aw_7 (rec x) : run T G_aw [] (nav Try.f31 [1, 1, 1, 0, 1, 0, 0]) (mk 61 i_aw_7 x) (loopK i_aw_7 o_aw_7 rec) = l_aw_7 rec x := by kernel_rfl
theorem k_aw_7 : CutOk Try.prog 61 (.loop (nav Try.f31 [1, 1, 1, 0, 1, 0, 0])) c_aw_7 :=
  loop_cut (L := []) hT g_aw t_aw_7 okP _
theorem r_aw (x) : runFn T G_aw [(14, c_aw_14), (7, c_aw_7)] Try.f31 C_aw.ps C_aw.rs x = C_aw.F x := by kernel_rfl
theorem s_aw : CallsOk Try.prog 31 C_aw := fnC (L := [(14, c_aw_14), (7, c_aw_7)]) hT g_aw Try.f31 (okS okP (okS okP (okS okP (okS (okS okP (okB (okU k_aw_7))) (okS (okS okP (okB (okU k_aw_14))) okP))))) r_aw
/-! impl.guestFault -/
abbrev P_ax : List PK := [.val Y28, .val YI]
abbrev R_ax : List VK := [.s (.dat YI)]
def F_ax (x : denP P_ax) : Option (denV R_ax × denQ P_ax) :=
 (F_aw (x.1, ())).bind fun r1 =>
 if (r1.1.1 == (0 : Int)) = true then
  (F_ag (x.1, x.2.1, ())).bind fun r2 =>
  if (!r2.1.1) then
   some (((4 : Int), ()), ())
  else
   some ((r1.1.1, ()), ())
 else
  some ((r1.1.1, ()), ())
abbrev C_ax : Con := ⟨P_ax, R_ax, F_ax, false⟩
abbrev G_ax : Env := [(31, C_aw), (66, C_ag)]
theorem g_ax : EnvOk Try.prog G_ax := (env_cons s_aw (env_cons s_ag env_nil))
theorem r_ax (x) : runFn T G_ax [] Try.f25 C_ax.ps C_ax.rs x = C_ax.F x := by kernel_rfl
theorem s_ax : CallsOk Try.prog 25 C_ax := fnC (L := []) hT g_ax Try.f25 okP r_ax
/-! (*impl.Policy).links.1 -/
abbrev P_ay_1 : List PK := [.val Y104, .ptr YI, .ptr YI]
abbrev R_ay_1 : List VK := [.s (.dat .bool)]
def F_ay_1 (x : denP P_ay_1) : Option (denV R_ay_1 × denQ P_ay_1) :=
 if (x.1.1 == x.2.1) = true then
  some (((x.1.2.1 == x.2.2.1), ()), ())
 else
  some ((false, ()), ())
abbrev C_ay_1 : Con := ⟨P_ay_1, R_ay_1, F_ay_1, false⟩
abbrev G_ay_1 : Env := []
theorem g_ay_1 : EnvOk Try.prog G_ay_1 := env_nil
theorem r_ay_1 (x) : runFn T G_ay_1 [] Try.f124 C_ay_1.ps C_ay_1.rs x = C_ay_1.F x := by kernel_rfl
theorem s_ay_1 : CallsOk Try.prog 124 C_ay_1 := fnC (L := []) hT g_ay_1 Try.f124 okP r_ay_1
/-! slices.IndexFunc[impl.Lane,impl.Lane] -/
abbrev P_az_1 : List PK := [.val Y25, .fn 124 [YI, YI]]
abbrev R_az_1 : List VK := [.s (.dat YI)]
abbrev i_ba_2 : Shp := { slots := [(0, .s (.dat Y25)), (1, .s (.fn 124 [YI, YI])), (7, .s (.dat YI)), (8, .s (.dat YI))], boxes := [], rows := [] }
abbrev o_ba_2 : List (Ex × Shp) := [(.exit 0, { slots := [], boxes := [], rows := [] }), (.ret, { slots := [(4, .s (.dat YI))], boxes := [], rows := [] })]
def l_ba_2 (rec : i_ba_2.den → Option (denO o_ba_2)) (u2 : i_ba_2.den) : Option (denO o_ba_2) :=
 if (ltI u2.1.2.2.2.1 u2.1.2.2.1) then
  if 0 ≤ u2.1.2.2.2.1 then
   ((u2.1.1)[(u2.1.2.2.2.1).toNat]?).bind fun y4 =>
   (F_ay_1 (y4, u2.1.2.1.1, u2.1.2.1.2.1, ())).bind fun r5 =>
   if r5.1.1 then
    some (.inr (.inl ((u2.1.2.2.2.1, ()), ((), ()))))
   else
    let v6 := (IntKind.i64.wrap (u2.1.2.2.2.1 + (1 : Int)))
    rec ((u2.1.1, ((u2.1.2.1.1, (u2.1.2.1.2.1, ())), (u2.1.2.2.1, (v6, ())))), ((), ()))
  else none
 else
  some (.inl ((), ((), ())))
def L_ba_2 (x : i_ba_2.den) : Option (denO o_ba_2) := iterF l_ba_2 lots x
def F_az_1 (x : denP P_az_1) : Option (denV R_az_1 × denQ P_az_1) :=
 let v1 := ((x.1.length : Nat) : Int)
 (L_ba_2 ((x.1, ((x.2.1.1, (x.2.1.2.1, ())), (v1, ((0 : Int), ())))), ((), ()))).bind fun z7 =>
 match z7 with
 | .inl x8 =>
  some (((-1 : Int), ()), ())
 | .inr z7_ =>
  match z7_ with
  | .inl x9 =>
   some ((x9.1.1, ()), ())
  | .inr z7__ =>
   none
abbrev C_az_1 : Con := ⟨P_az_1, R_az_1, F_az_1, false⟩
abbrev G_az_1 : Env := [(124, C_ay_1)]
theorem g_az_1 : EnvOk Try.prog G_az_1 := (env_cons s_ay_1 env_nil)
abbrev c_ba_2 : Cut := ⟨i_ba_2, o_ba_2, fun x => iterF l_ba_2 lots x⟩
theorem t_ba_2 (rec x) : run T G_az_1 [] (nav Try.f122 [1, 0, 1, 0, 0]) (mk 19 i_ba_2 x) (loopK i_ba_2 o_ba_2 rec) = l_ba_2 rec x := by kernel_rfl
theorem k_ba_2 : CutOk Try.prog 19 (.loop (nav Try.f122 [1, 0, 1, 0, 0])) c_ba_2 :=
  loop_cut (L := []) hT g_az_1 t_ba_2 okP _
theorem r_az_1 (x) : runFn T G_az_1 [(2, c_ba_2)] Try.f122 C_az_1.ps C_az_1.rs x = C_az_1.F x := by kernel_rfl
theorem s_az_1 : CallsOk Try.prog 122 C_az_1 := fnC (L := [(2, c_ba_2)]) hT g_az_1 Try.f122 (okS okP (okS (okS okP (okB (okU k_ba_2))) okP)) r_az_1
/-! slices.ContainsFunc[impl.Lane,impl.Lane] -/
abbrev P_bb_1 : List PK := [.val Y25, .fn 124 [YI, YI]]
abbrev R_bb_1 : List VK := [.s (.dat .bool)]
def F_bb_1 (x : denP P_bb_1) : Option (denV R_bb_1 × denQ P_bb_1) :=
 (F_az_1 (x.1, (x.2.1.1, (x.2.1.2.1, ())), ())).bind fun r1 =>
 some (((leI (0 : Int) r1.1.1), ()), ())
abbrev C_bb_1 : Con := ⟨P_bb_1, R_bb_1, F_bb_1, false⟩
abbrev G_bb_1 : Env := [(122, C_az_1)]
theorem g_bb_1 : EnvOk Try.prog G_bb_1 := (env_cons s_az_1 env_nil)
theorem r_bb_1 (x) : runFn T G_bb_1 [] Try.f99 C_bb_1.ps C_bb_1.rs x = C_bb_1.F x := by kernel_rfl
theorem s_bb_1 : CallsOk Try.prog 99 C_bb_1 := fnC (L := []) hT g_bb_1 Try.f99 okP r_bb_1
/-! (*impl.Policy).links -/
abbrev P_ay : List PK := [.ptr Y28, .val YI, .val YI]
abbrev R_ay : List VK := [.s (.dat .bool)]
def F_ay (x : denP P_ay) : Option (denV R_ay × denQ P_ay) :=
 (F_bb_1 (x.1.2.1, (x.2.1, (x.2.2.1, ())), ())).bind fun r1 =>
 if r1.1.1 = false then
  (F_at (x.1.2.2.1, (x.2.1, (x.2.2.1, ())), ())).bind fun r2 =>
  some ((r2.1.1, ()), ())
 else
  some ((true, ()), ())
abbrev C_ay : Con := ⟨P_ay, R_ay, F_ay, false⟩
abbrev G_ay : Env := [(99, C_bb_1), (102, C_at)]
theorem g_ay : EnvOk Try.prog G_ay := (env_cons s_bb_1 (env_cons s_at env_nil))
theorem r_ay (x) : runFn T G_ay [] Try.f104 C_ay.ps C_ay.rs x = C_ay.F x := by kernel_rfl
theorem s_ay : CallsOk Try.prog 104 C_ay := fnC (L := []) hT g_ay Try.f104 okP r_ay
/-! (*impl.Policy).linksTo.1 -/
abbrev P_bc_1 : List PK := [.val YI, .ptr (.pair .opq Y28), .ptr YI]
abbrev R_bc_1 : List VK := [.s (.dat .bool)]
def F_bc_1 (x : denP P_bc_1) : Option (denV R_bc_1 × denQ P_bc_1) :=
 (F_ay (x.2.1.2, x.1, x.2.2.1, ())).bind fun r1 =>
 some ((r1.1.1, ()), ())
abbrev C_bc_1 : Con := ⟨P_bc_1, R_bc_1, F_bc_1, false⟩
abbrev G_bc_1 : Env := [(104, C_ay)]
theorem g_bc_1 : EnvOk Try.prog G_bc_1 := (env_cons s_ay env_nil)
theorem r_bc_1 (x) : runFn T G_bc_1 [] Try.f103 C_bc_1.ps C_bc_1.rs x = C_bc_1.F x := by kernel_rfl
theorem s_bc_1 : CallsOk Try.prog 103 C_bc_1 := fnC (L := []) hT g_bc_1 Try.f103 okP r_bc_1
/-! (*impl.Policy).guests -/
abbrev P_bd_1 : List PK := [.ptr Y28, .fn 103 [(.pair .opq Y28), YI]]
abbrev R_bd_1 : List VK := [.s (.own 2 YI)]
abbrev i_be_3 : Shp := { slots := [(1, .s (.fn 103 [(.pair .opq Y28), YI])), (5, .s (.own 2 YI)), (12, .s (.dat YI)), (13, .s (.dat YI))], boxes := [], rows := [] }
abbrev o_be_3 : List (Ex × Shp) := [(.exit 0, { slots := [(5, .s (.own 2 YI))], boxes := [], rows := [] })]
def l_be_3 (rec : i_be_3.den → Option (denO o_be_3)) (u3 : i_be_3.den) : Option (denO o_be_3) :=
 if (ltI u3.1.2.2.2.1 u3.1.2.2.1) then
  (F_bc_1 (u3.1.2.2.2.1, u3.1.1.1, u3.1.1.2.1, ())).bind fun r3 =>
  if r3.1.1 then
   if (u3.1.2.1.length + [u3.1.2.2.2.1].length) * 8 ≤ 140737488355328 then
    let v4 := (u3.1.2.1 ++ [u3.1.2.2.2.1])
    let v5 := (IntKind.i64.wrap (u3.1.2.2.2.1 + (1 : Int)))
    rec (((u3.1.1.1, (u3.1.1.2.1, ())), (v4, (u3.1.2.2.1, (v5, ())))), ((), ()))
   else none
  else
   let v6 := (IntKind.i64.wrap (u3.1.2.2.2.1 + (1 : Int)))
   rec (((u3.1.1.1, (u3.1.1.2.1, ())), (u3.1.2.1, (u3.1.2.2.1, (v6, ())))), ((), ()))
 else
  some (.inl ((u3.1.2.1, ()), ((), ())))
def L_be_3 (x : i_be_3.den) : Option (denO o_be_3) := iterF l_be_3 lots x
def F_bd_1 (x : denP P_bd_1) : Option (denV R_bd_1 × denQ P_bd_1) :=
 let v1 := ((x.1.1.length : Nat) : Int)
 (L_be_3 (((x.2.1.1, (x.2.1.2.1, ())), (([] : List (den YI)), (v1, ((0 : Int), ())))), ((), ()))).bind fun z7 =>
 match z7 with
 | .inl x8 =>
  some ((x8.1.1, ()), ())
 | .inr z7_ =>
  none
abbrev C_bd_1 : Con := ⟨P_bd_1, R_bd_1, F_bd_1, false⟩
abbrev G_bd_1 : Env := [(103, C_bc_1)]
theorem g_bd_1 : EnvOk Try.prog G_bd_1 := (env_cons s_bc_1 env_nil)
abbrev c_be_3 : Cut := ⟨i_be_3, o_be_3, fun x => iterF l_be_3 lots x⟩
theorem t_be_3 (rec x) : run T G_bd_1 [] (nav Try.f45 [1, 1, 0, 1, 0, 0]) (mk 25 i_be_3 x) (loopK i_be_3 o_be_3 rec) = l_be_3 rec x := by kernel_rfl
theorem k_be_3 : CutOk Try.prog 25 (.loop (nav Try.f45 [1, 1, 0, 1, 0, 0])) c_be_3 :=
  loop_cut (L := []) hT g_bd_1 t_be_3 okP _
theorem r_bd_1 (x) : runFn T G_bd_1 [(3, c_be_3)] Try.f45 C_bd_1.ps C_bd_1.rs x = C_bd_1.F x := by kernel_rfl
theorem s_bd_1 : CallsOk Try.prog 45 C_bd_1 := fnC (L := [(3, c_be_3)]) hT g_bd_1 Try.f45 (okS okP (okS okP (okS (okS okP (okB (okU k_be_3))) okP))) r_bd_1
/-! (*impl.Policy).linksTo -/
abbrev P_bc : List PK := [.ptr Y28, .val YI]
abbrev R_bc : List VK := [.s (.own 2 YI)]
def F_bc (x : denP P_bc) : Option (denV R_bc × denQ P_bc) :=
 (F_bd_1 (x.1, (((), x.1), (x.2.1, ())), ())).bind fun r1 =>
 some ((r1.1.1, ()), ())
abbrev C_bc : Con := ⟨P_bc, R_bc, F_bc, false⟩
abbrev G_bc : Env := [(45, C_bd_1)]
theorem g_bc : EnvOk Try.prog G_bc := (env_cons s_bd_1 env_nil)
theorem r_bc (x) : runFn T G_bc [] Try.f81 C_bc.ps C_bc.rs x = C_bc.F x := by kernel_rfl
theorem s_bc : CallsOk Try.prog 81 C_bc := fnC (L := []) hT g_bc Try.f81 okP r_bc
def strK0 : List UInt8 := [0, 1, 2, 2, 3, 3, 3, 3, 4, 4, 4, 4, 4, 4, 4, 4, 5, 5, 5, 5, 5, 5, 5, 5, 5, 5, 5, 5, 5, 5, 5, 5, 6, 6, 6, 6, 6, 6, 6, 6, 6, 6, 6, 6, 6, 6, 6, 6, 6, 6, 6, 6, 6, 6, 6, 6, 6, 6, 6, 6, 6, 6, 6, 6, 7, 7, 7, 7, 7, 7, 7, 7, 7, 7, 7, 7, 7, 7, 7, 7, 7, 7, 7, 7, 7, 7, 7, 7, 7, 7, 7, 7, 7, 7, 7, 7, 7, 7, 7, 7, 7, 7, 7, 7, 7, 7, 7, 7, 7, 7, 7, 7, 7, 7, 7, 7, 7, 7, 7, 7, 7, 7, 7, 7, 7, 7, 7, 7, 8, 8, 8, 8, 8, 8, 8, 8, 8, 8, 8, 8, 8, 8, 8, 8, 8, 8, 8, 8, 8, 8, 8, 8, 8, 8, 8, 8, 8, 8, 8, 8, 8, 8, 8, 8, 8, 8, 8, 8, 8, 8, 8, 8, 8, 8, 8, 8, 8, 8, 8, 8, 8, 8, 8, 8, 8, 8, 8, 8, 8, 8, 8, 8, 8, 8, 8, 8, 8, 8, 8, 8, 8, 8, 8, 8, 8, 8, 8, 8, 8, 8, 8, 8, 8, 8, 8, 8, 8, 8, 8, 8, 8, 8, 8, 8, 8, 8, 8, 8, 8, 8, 8, 8, 8, 8, 8, 8, 8, 8, 8, 8, 8, 8, 8, 8, 8, 8, 8, 8, 8, 8, 8, 8, 8, 8, 8, 8]
/-! math/bits.Len64 -/
abbrev P_bf : List PK := [.val (.int .u64)]
abbrev R_bf : List VK := [.s (.dat YI)]
def F_bf (x : denP P_bf) : Option (denV R_bf × denQ P_bf) :=
 if (leI (4294967296 : Int) x.1) then
  let v1 := ((x.1).fdiv (2 ^ 32))
  if (leI (65536 : Int) v1) then
   let v2 := ((v1).fdiv (2 ^ 16))
   if (leI (256 : Int) v2) then
    let v3 := ((v2).fdiv (2 ^ 8))
    let v4 := (IntKind.u8.wrap v3)
    if 0 ≤ v4 then
     ((strK0)[(v4).toNat]?).bind fun y5 =>
     let v6 := (IntKind.i64.wrap ((y5).toNat : Int))
     let v7 := (IntKind.i64.wrap ((56 : Int) + v6))
     some ((v7, ()), ())
    else none
   else
    let v8 := (IntKind.u8.wrap v2)
    if 0 ≤ v8 then
     ((strK0)[(v8).toNat]?).bind fun y9 =>
     let v10 := (IntKind.i64.wrap ((y9).toNat : Int))
     let v11 := (IntKind.i64.wrap ((48 : Int) + v10))
     some ((v11, ()), ())
    else none
  else
   if (leI (256 : Int) v1) then
    let v12 := ((v1).fdiv (2 ^ 8))
    let v13 := (IntKind.u8.wrap v12)
    if 0 ≤ v13 then
     ((strK0)[(v13).toNat]?).bind fun y14 =>
     let v15 := (IntKind.i64.wrap ((y14).toNat : Int))
     let v16 := (IntKind.i64.wrap ((40 : Int) + v15))
     some ((v16, ()), ())
    else none
   else
    let v17 := (IntKind.u8.wrap v1)
    if 0 ≤ v17 then
     ((strK0)[(v17).toNat]?).bind fun y18 =>
     let v19 := (IntKind.i64.wrap ((y18).toNat : Int))
     let v20 := (IntKind.i64.wrap ((32 : Int) + v19))
     some ((v20, ()), ())
    else none
 else
  if (leI (65536 : Int) x.1) then
   let v21 := ((x.1).fdiv (2 ^ 16))
   if (leI (256 : Int) v21) then
    let v22 := ((v21).fdiv (2 ^ 8))
    let v23 := (IntKind.u8.wrap v22)
    if 0 ≤ v23 then
     ((strK0)[(v23).toNat]?).bind fun y24 =>
     let v25 := (IntKind.i64.wrap ((y24).toNat : Int))
     let v26 := (IntKind.i64.wrap ((24 : Int) + v25))
     some ((v26, ()), ())
    else none
   else
    let v27 := (IntKind.u8.wrap v21)
    if 0 ≤ v27 then
     ((strK0)[(v27).toNat]?).bind fun y28 =>
     let v29 := (IntKind.i64.wrap ((y28).toNat : Int))
     let v30 := (IntKind.i64.wrap ((16 : Int) + v29))
     some ((v30, ()), ())
    else none
  else
   if (leI (256 : Int) x.1) then
    let v31 := ((x.1).fdiv (2 ^ 8))
    let v32 := (IntKind.u8.wrap v31)
    if 0 ≤ v32 then
     ((strK0)[(v32).toNat]?).bind fun y33 =>
     let v34 := (IntKind.i64.wrap ((y33).toNat : Int))
     let v35 := (IntKind.i64.wrap ((8 : Int) + v34))
     some ((v35, ()), ())
    else none
   else
    let v36 := (IntKind.u8.wrap x.1)
    if 0 ≤ v36 then
     ((strK0)[(v36).toNat]?).bind fun y37 =>
     let v38 := (IntKind.i64.wrap ((y37).toNat : Int))
     let v39 := (IntKind.i64.wrap ((0 : Int) + v38))
     some ((v39, ()), ())
    else none
abbrev C_bf : Con := ⟨P_bf, R_bf, F_bf, false⟩
abbrev G_bf : Env := []
theorem g_bf : EnvOk Try.prog G_bf := env_nil
theorem r_bf (x) : runFn T G_bf [] Try.f116 C_bf.ps C_bf.rs x = C_bf.F x := by kernel_rfl
theorem s_bf : CallsOk Try.prog 116 C_bf := fnC (L := []) hT g_bf Try.f116 okP r_bf
/-! math/bits.Len -/
abbrev P_bg : List PK := [.val (.int .u64)]
abbrev R_bg : List VK := [.s (.dat YI)]
def F_bg (x : denP P_bg) : Option (denV R_bg × denQ P_bg) :=
 (F_bf (x.1, ())).bind fun r1 =>
 some ((r1.1.1, ()), ())
abbrev C_bg : Con := ⟨P_bg, R_bg, F_bg, false⟩
abbrev G_bg : Env := [(116, C_bf)]
theorem g_bg : EnvOk Try.prog G_bg := (env_cons s_bf env_nil)
theorem r_bg (x) : runFn T G_bg [] Try.f90 C_bg.ps C_bg.rs x = C_bg.F x := by kernel_rfl
theorem s_bg : CallsOk Try.prog 90 C_bg := fnC (L := []) hT g_bg Try.f90 okP r_bg
/-! cmp.isNaN[int64] -/
abbrev P_cmp_isNaN_int64 : List PK := [.val YI]
abbrev R_cmp_isNaN_int64 : List VK := [.s (.dat .bool)]
def F_cmp_isNaN_int64 (x : denP P_cmp_isNaN_int64) : Option (denV R_cmp_isNaN_int64 × denQ P_cmp_isNaN_int64) :=
 some (((x.1 != x.1), ()), ())
abbrev C_cmp_isNaN_int64 : Con := ⟨P_cmp_isNaN_int64, R_cmp_isNaN_int64, F_cmp_isNaN_int64, false⟩
abbrev G_cmp_isNaN_int64 : Env := []
theorem g_cmp_isNaN_int64 : EnvOk Try.prog G_cmp_isNaN_int64 := env_nil
theorem r_cmp_isNaN_int64 (x) : runFn T G_cmp_isNaN_int64 [] Try.f132 C_cmp_isNaN_int64.ps C_cmp_isNaN_int64.rs x = C_cmp_isNaN_int64.F x := by kernel_rfl
theorem s_cmp_isNaN_int64 : CallsOk Try.prog 132 C_cmp_isNaN_int64 := fnC (L := []) hT g_cmp_isNaN_int64 Try.f132 okP r_cmp_isNaN_int64
/-! cmp.Less[int64] -/
abbrev P_cmp_Less_int64 : List PK := [.val YI, .val YI]
abbrev R_cmp_Less_int64 : List VK := [.s (.dat .bool)]
def F_cmp_Less_int64 (x : denP P_cmp_Less_int64) : Option (denV R_cmp_Less_int64 × denQ P_cmp_Less_int64) :=
 (F_cmp_isNaN_int64 (x.1, ())).bind fun r1 =>
 if r1.1.1 = true then
  (F_cmp_isNaN_int64 (x.2.1, ())).bind fun r2 =>
  if (!r2.1.1) = false then
   some (((ltI x.1 x.2.1), ()), ())
  else
   some ((true, ()), ())
 else
  some (((ltI x.1 x.2.1), ()), ())
abbrev C_cmp_Less_int64 : Con := ⟨P_cmp_Less_int64, R_cmp_Less_int64, F_cmp_Less_int64, false⟩
abbrev G_cmp_Less_int64 : Env := [(132, C_cmp_isNaN_int64)]
theorem g_cmp_Less_int64 : EnvOk Try.prog G_cmp_Less_int64 := (env_cons s_cmp_isNaN_int64 env_nil)
theorem r_cmp_Less_int64 (x) : runFn T G_cmp_Less_int64 [] Try.f112 C_cmp_Less_int64.ps C_cmp_Less_int64.rs x = C_cmp_Less_int64.F x := by kernel_rfl
theorem s_cmp_Less_int64 : CallsOk Try.prog 112 C_cmp_Less_int64 := fnC (L := []) hT g_cmp_Less_int64 Try.f112 okP r_cmp_Less_int64
end Go.Proofs.Ytilcgnimcdkfiaa
