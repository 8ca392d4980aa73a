/- The functions of the laws, each as a plain function of data (F), and that the program's text does what F says. Printed by a program (wip/tools/gen.py). -/
import Derived.Test.YtajnommlfjfgpaaGreatGt
namespace Go.Proofs.YtajnommlfjfgpaaGreat
open Go Go.RowKit S Go.Proofs
set_option maxRecDepth 100000
set_option linter.unusedVariables false
/-! laws.szInt64S -/
abbrev P_a : List PK := [.val Y28, .val YI]
abbrev R_a : List VK := [.s (.dat YI)]
def F_a (x : denP P_a) : Option (denV R_a × denQ P_a) :=
 let v1 := ((x.1.length : Nat) : Int)
 let v2 := (IntKind.i64.wrap (x.2.1 - v1))
 if (ltI v2 (0 : Int)) then
  some (((-1 : Int), ()), ())
 else
  some ((v2, ()), ())
abbrev C_a : Con := ⟨P_a, R_a, F_a, false⟩
abbrev G_a : Env := []
theorem g_a : EnvOk Tryz.prog G_a := env_nil
theorem r_a (x) : runFn T G_a [] Tryz.f14 C_a.ps C_a.rs x = C_a.F x := by kernel_rfl
theorem s_a : CallsOk Tryz.prog 14 C_a := fnC (L := []) hT g_a Tryz.f14 okP r_a
/-! laws.szInt64SS -/
abbrev P_b : List PK := [.val Y22, .val YI]
abbrev R_b : List VK := [.s (.dat YI)]
abbrev i_b_5 : Shp := { slots := [(0, .s (.dat Y22)), (1, .s (.dat YI)), (5, .s (.dat YI))], boxes := [], rows := [] }
abbrev o_b_5 : List (Ex × Shp) := [(.exit 0, { slots := [(1, .s (.dat YI))], boxes := [], rows := [] }), (.ret, { slots := [(4, .s (.dat YI))], boxes := [], rows := [] })]
def l_b_5 (rec : i_b_5.den → Option (denO o_b_5)) (u5 : i_b_5.den) : Option (denO o_b_5) :=
 let v5 := ((u5.1.1.length : Nat) : Int)
 if (ltI u5.1.2.2.1 v5) then
  if 0 ≤ u5.1.2.2.1 then
   ((u5.1.1)[(u5.1.2.2.1).toNat]?).bind fun y6 =>
   (F_a (y6, u5.1.2.1, ())).bind fun r7 =>
   if (ltI r7.1.1 (0 : Int)) then
    some (.inr (.inl (((-1 : Int), ()), ((), ()))))
   else
    let v8 := (IntKind.i64.wrap (u5.1.2.2.1 + (1 : Int)))
    rec ((u5.1.1, (r7.1.1, (v8, ()))), ((), ()))
  else none
 else
  some (.inl ((u5.1.2.1, ()), ((), ())))
def L_b_5 (x : i_b_5.den) : Option (denO o_b_5) := iterF l_b_5 lots x
def F_b (x : denP P_b) : Option (denV R_b × denQ P_b) :=
 let v1 := ((x.1.length : Nat) : Int)
 let v2 := (IntKind.i64.wrap (x.2.1 - v1))
 if (ltI v2 (0 : Int)) then
  some (((-1 : Int), ()), ())
 else
  (L_b_5 ((x.1, (v2, ((0 : Int), ()))), ((), ()))).bind fun z9 =>
  match z9 with
  | .inl x10 =>
   some ((x10.1.1, ()), ())
  | .inr z9_ =>
   match z9_ with
   | .inl x11 =>
    some ((x11.1.1, ()), ())
   | .inr z9__ =>
    none
abbrev C_b : Con := ⟨P_b, R_b, F_b, false⟩
abbrev G_b : Env := [(14, C_a)]
theorem g_b : EnvOk Tryz.prog G_b := (env_cons s_a env_nil)
abbrev c_b_5 : Cut := ⟨i_b_5, o_b_5, fun x => iterF l_b_5 lots x⟩
theorem t_b_5 (rec x) : run T G_b [] (nav Tryz.f37 [1, 1, 1, 0, 1, 0, 0]) (mk 27 i_b_5 x) (loopK i_b_5 o_b_5 rec) = l_b_5 rec x := by kernel_rfl
theorem k_b_5 : CutOk Tryz.prog 27 (.loop (nav Tryz.f37 [1, 1, 1, 0, 1, 0, 0])) c_b_5 :=
  loop_cut (L := []) hT g_b t_b_5 okP _
theorem r_b (x) : runFn T G_b [(5, c_b_5)] Tryz.f37 C_b.ps C_b.rs x = C_b.F x := by kernel_rfl
theorem s_b : CallsOk Tryz.prog 37 C_b := fnC (L := [(5, c_b_5)]) hT g_b Tryz.f37 (okS okP (okS okP (okS okP (okS (okS okP (okB (okU k_b_5))) okP)))) r_b
/-! laws.szLaneS -/
abbrev P_c : List PK := [.val Y23, .val YI]
abbrev R_c : List VK := [.s (.dat YI)]
def F_c (x : denP P_c) : Option (denV R_c × denQ P_c) :=
 let v1 := ((x.1.length : Nat) : Int)
 let v2 := (IntKind.i64.wrap (x.2.1 - v1))
 if (ltI v2 (0 : Int)) then
  some (((-1 : Int), ()), ())
 else
  some ((v2, ()), ())
abbrev C_c : Con := ⟨P_c, R_c, F_c, false⟩
abbrev G_c : Env := []
theorem g_c : EnvOk Tryz.prog G_c := env_nil
theorem r_c (x) : runFn T G_c [] Tryz.f38 C_c.ps C_c.rs x = C_c.F x := by kernel_rfl
theorem s_c : CallsOk Tryz.prog 38 C_c := fnC (L := []) hT g_c Tryz.f38 okP r_c
/-! laws.szBellS -/
abbrev P_d : List PK := [.val Y24, .val YI]
abbrev R_d : List VK := [.s (.dat YI)]
def F_d (x : denP P_d) : Option (denV R_d × denQ P_d) :=
 let v1 := ((x.1.length : Nat) : Int)
 let v2 := (IntKind.i64.wrap (x.2.1 - v1))
 if (ltI v2 (0 : Int)) then
  some (((-1 : Int), ()), ())
 else
  some ((v2, ()), ())
abbrev C_d : Con := ⟨P_d, R_d, F_d, false⟩
abbrev G_d : Env := []
theorem g_d : EnvOk Tryz.prog G_d := env_nil
theorem r_d (x) : runFn T G_d [] Tryz.f39 C_d.ps C_d.rs x = C_d.F x := by kernel_rfl
theorem s_d : CallsOk Tryz.prog 39 C_d := fnC (L := []) hT g_d Tryz.f39 okP r_d
/-! laws.szSlotS -/
abbrev P_e : List PK := [.val Y24, .val YI]
abbrev R_e : List VK := [.s (.dat YI)]
def F_e (x : denP P_e) : Option (denV R_e × denQ P_e) :=
 let v1 := ((x.1.length : Nat) : Int)
 let v2 := (IntKind.i64.wrap (x.2.1 - v1))
 if (ltI v2 (0 : Int)) then
  some (((-1 : Int), ()), ())
 else
  some ((v2, ()), ())
abbrev C_e : Con := ⟨P_e, R_e, F_e, false⟩
abbrev G_e : Env := []
theorem g_e : EnvOk Tryz.prog G_e := env_nil
theorem r_e (x) : runFn T G_e [] Tryz.f40 C_e.ps C_e.rs x = C_e.F x := by kernel_rfl
theorem s_e : CallsOk Tryz.prog 40 C_e := fnC (L := []) hT g_e Tryz.f40 okP r_e
/-! laws.szPolicy -/
abbrev P_f : List PK := [.val Y26, .val YI]
abbrev R_f : List VK := [.s (.dat YI)]
def F_f (x : denP P_f) : Option (denV R_f × denQ P_f) :=
 (F_b (x.1.1, x.2.1, ())).bind fun r1 =>
 if (ltI r1.1.1 (0 : Int)) then
  some (((-1 : Int), ()), ())
 else
  (F_c (x.1.2.1, r1.1.1, ())).bind fun r2 =>
  if (ltI r2.1.1 (0 : Int)) then
   some (((-1 : Int), ()), ())
  else
   (F_d (x.1.2.2.1, r2.1.1, ())).bind fun r3 =>
   if (ltI r3.1.1 (0 : Int)) then
    some (((-1 : Int), ()), ())
   else
    (F_e (x.1.2.2.2.1, r3.1.1, ())).bind fun r4 =>
    if (ltI r4.1.1 (0 : Int)) then
     some (((-1 : Int), ()), ())
    else
     some ((r4.1.1, ()), ())
abbrev C_f : Con := ⟨P_f, R_f, F_f, false⟩
abbrev G_f : Env := [(37, C_b), (38, C_c), (39, C_d), (40, C_e)]
theorem g_f : EnvOk Tryz.prog G_f := (env_cons s_b (env_cons s_c (env_cons s_d (env_cons s_e env_nil))))
theorem r_f (x) : runFn T G_f [] Tryz.f13 C_f.ps C_f.rs x = C_f.F x := by kernel_rfl
theorem s_f : CallsOk Tryz.prog 13 C_f := fnC (L := []) hT g_f Tryz.f13 okP r_f
/-! laws.szHart -/
abbrev P_g : List PK := [.val Y33, .val YI]
abbrev R_g : List VK := [.s (.dat YI)]
def F_g (x : denP P_g) : Option (denV R_g × denQ P_g) :=
 (F_a (x.1.1, x.2.1, ())).bind fun r1 =>
 if (ltI r1.1.1 (0 : Int)) then
  some (((-1 : Int), ()), ())
 else
  (F_a (x.1.2.2.1, r1.1.1, ())).bind fun r2 =>
  if (ltI r2.1.1 (0 : Int)) then
   some (((-1 : Int), ()), ())
  else
   (F_a (x.1.2.2.2.2.2.2.2.1, r2.1.1, ())).bind fun r3 =>
   if (ltI r3.1.1 (0 : Int)) then
    some (((-1 : Int), ()), ())
   else
    (F_a (x.1.2.2.2.2.2.2.2.2.1, r3.1.1, ())).bind fun r4 =>
    if (ltI r4.1.1 (0 : Int)) then
     some (((-1 : Int), ()), ())
    else
     some ((r4.1.1, ()), ())
abbrev C_g : Con := ⟨P_g, R_g, F_g, false⟩
abbrev G_g : Env := [(14, C_a)]
theorem g_g : EnvOk Tryz.prog G_g := (env_cons s_a env_nil)
theorem r_g (x) : runFn T G_g [] Tryz.f41 C_g.ps C_g.rs x = C_g.F x := by kernel_rfl
theorem s_g : CallsOk Tryz.prog 41 C_g := fnC (L := []) hT g_g Tryz.f41 okP r_g
/-! laws.szHartS -/
abbrev P_h : List PK := [.val Y29, .val YI]
abbrev R_h : List VK := [.s (.dat YI)]
abbrev i_h_5 : Shp := { slots := [(0, .s (.dat Y29)), (1, .s (.dat YI)), (5, .s (.dat YI))], boxes := [], rows := [] }
abbrev o_h_5 : List (Ex × Shp) := [(.exit 0, { slots := [(1, .s (.dat YI))], boxes := [], rows := [] }), (.ret, { slots := [(4, .s (.dat YI))], boxes := [], rows := [] })]
def l_h_5 (rec : i_h_5.den → Option (denO o_h_5)) (u5 : i_h_5.den) : Option (denO o_h_5) :=
 let v5 := ((u5.1.1.length : Nat) : Int)
 if (ltI u5.1.2.2.1 v5) then
  if 0 ≤ u5.1.2.2.1 then
   ((u5.1.1)[(u5.1.2.2.1).toNat]?).bind fun y6 =>
   (F_g (y6, u5.1.2.1, ())).bind fun r7 =>
   if (ltI r7.1.1 (0 : Int)) then
    some (.inr (.inl (((-1 : Int), ()), ((), ()))))
   else
    let v8 := (IntKind.i64.wrap (u5.1.2.2.1 + (1 : Int)))
    rec ((u5.1.1, (r7.1.1, (v8, ()))), ((), ()))
  else none
 else
  some (.inl ((u5.1.2.1, ()), ((), ())))
def L_h_5 (x : i_h_5.den) : Option (denO o_h_5) := iterF l_h_5 lots x
def F_h (x : denP P_h) : Option (denV R_h × denQ P_h) :=
 let v1 := ((x.1.length : Nat) : Int)
 let v2 := (IntKind.i64.wrap (x.2.1 - v1))
 if (ltI v2 (0 : Int)) then
  some (((-1 : Int), ()), ())
 else
  (L_h_5 ((x.1, (v2, ((0 : Int), ()))), ((), ()))).bind fun z9 =>
  match z9 with
  | .inl x10 =>
   some ((x10.1.1, ()), ())
  | .inr z9_ =>
   match z9_ with
   | .inl x11 =>
    some ((x11.1.1, ()), ())
   | .inr z9__ =>
    none
abbrev C_h : Con := ⟨P_h, R_h, F_h, false⟩
abbrev G_h : Env := [(41, C_g)]
theorem g_h : EnvOk Tryz.prog G_h := (env_cons s_g env_nil)
abbrev c_h_5 : Cut := ⟨i_h_5, o_h_5, fun x => iterF l_h_5 lots x⟩
theorem t_h_5 (rec x) : run T G_h [] (nav Tryz.f15 [1, 1, 1, 0, 1, 0, 0]) (mk 27 i_h_5 x) (loopK i_h_5 o_h_5 rec) = l_h_5 rec x := by kernel_rfl
theorem k_h_5 : CutOk Tryz.prog 27 (.loop (nav Tryz.f15 [1, 1, 1, 0, 1, 0, 0])) c_h_5 :=
  loop_cut (L := []) hT g_h t_h_5 okP _
theorem r_h (x) : runFn T G_h [(5, c_h_5)] Tryz.f15 C_h.ps C_h.rs x = C_h.F x := by kernel_rfl
theorem s_h : CallsOk Tryz.prog 15 C_h := fnC (L := [(5, c_h_5)]) hT g_h Tryz.f15 (okS okP (okS okP (okS okP (okS (okS okP (okB (okU k_h_5))) okP)))) r_h
/-! laws.szHost -/
abbrev P_i : List PK := [.val Y30, .val YI]
abbrev R_i : List VK := [.s (.dat YI)]
def F_i (x : denP P_i) : Option (denV R_i × denQ P_i) :=
 (F_f (x.1.1, x.2.1, ())).bind fun r1 =>
 if (ltI r1.1.1 (0 : Int)) then
  some (((-1 : Int), ()), ())
 else
  (F_a (x.1.2.1, r1.1.1, ())).bind fun r2 =>
  if (ltI r2.1.1 (0 : Int)) then
   some (((-1 : Int), ()), ())
  else
   (F_h (x.1.2.2.1, r2.1.1, ())).bind fun r3 =>
   if (ltI r3.1.1 (0 : Int)) then
    some (((-1 : Int), ()), ())
   else
    some ((r3.1.1, ()), ())
abbrev C_i : Con := ⟨P_i, R_i, F_i, false⟩
abbrev G_i : Env := [(13, C_f), (14, C_a), (15, C_h)]
theorem g_i : EnvOk Tryz.prog G_i := (env_cons s_f (env_cons s_a (env_cons s_h env_nil)))
theorem r_i (x) : runFn T G_i [] Tryz.f4 C_i.ps C_i.rs x = C_i.F x := by kernel_rfl
theorem s_i : CallsOk Tryz.prog 4 C_i := fnC (L := []) hT g_i Tryz.f4 okP r_i
/-! laws.toInt64S -/
abbrev P_j : List PK := [.val Y28]
abbrev R_j : List VK := [.s (.own 2 YI)]
abbrev i_j_3 : Shp := { slots := [(0, .s (.dat Y28)), (3, .s (.own 2 YI)), (4, .s (.dat YI))], boxes := [], rows := [] }
abbrev o_j_3 : List (Ex × Shp) := [(.exit 0, { slots := [(3, .s (.own 2 YI))], boxes := [], rows := [] })]
def l_j_3 (rec : i_j_3.den → Option (denO o_j_3)) (u3 : i_j_3.den) : Option (denO o_j_3) :=
 let v4 := ((u3.1.1.length : Nat) : Int)
 if (ltI u3.1.2.2.1 v4) then
  if 0 ≤ u3.1.2.2.1 then
   ((u3.1.1)[(u3.1.2.2.1).toNat]?).bind fun y5 =>
   if 0 ≤ u3.1.2.2.1 ∧ u3.1.2.2.1 < ((u3.1.2.1.length : Nat) : Int) then
    ((u3.1.2.1)[(u3.1.2.2.1).toNat]?).bind fun y6 =>
    let v7 := (u3.1.2.1.set (u3.1.2.2.1).toNat y5)
    let v8 := (IntKind.i64.wrap (u3.1.2.2.1 + (1 : Int)))
    rec ((u3.1.1, (v7, (v8, ()))), ((), ()))
   else none
  else none
 else
  some (.inl ((u3.1.2.1, ()), ((), ())))
def L_j_3 (x : i_j_3.den) : Option (denO o_j_3) := iterF l_j_3 lots x
def F_j (x : denP P_j) : Option (denV R_j × denQ P_j) :=
 let v1 := ((x.1.length : Nat) : Int)
 if v1 = v1 ∧ 0 ≤ v1 ∧ v1 * 8 ≤ 140737488355328 ∧ v1 ≤ 9223372036854775807 then
  (L_j_3 ((x.1, ((List.replicate (v1).toNat (zeroD YI)), ((0 : Int), ()))), ((), ()))).bind fun z9 =>
  match z9 with
  | .inl x10 =>
   some ((x10.1.1, ()), ())
  | .inr z9_ =>
   none
 else none
abbrev C_j : Con := ⟨P_j, R_j, F_j, false⟩
abbrev G_j : Env := []
theorem g_j : EnvOk Tryz.prog G_j := env_nil
abbrev c_j_3 : Cut := ⟨i_j_3, o_j_3, fun x => iterF l_j_3 lots x⟩
theorem t_j_3 (rec x) : run T G_j [] (nav Tryz.f20 [1, 1, 0, 1, 0, 0]) (mk 22 i_j_3 x) (loopK i_j_3 o_j_3 rec) = l_j_3 rec x := by kernel_rfl
theorem k_j_3 : CutOk Tryz.prog 22 (.loop (nav Tryz.f20 [1, 1, 0, 1, 0, 0])) c_j_3 :=
  loop_cut (L := []) hT g_j t_j_3 okP _
theorem r_j (x) : runFn T G_j [(3, c_j_3)] Tryz.f20 C_j.ps C_j.rs x = C_j.F x := by kernel_rfl
theorem s_j : CallsOk Tryz.prog 20 C_j := fnC (L := [(3, c_j_3)]) hT g_j Tryz.f20 (okS okP (okS okP (okS (okS okP (okB (okU k_j_3))) okP))) r_j
/-! laws.toInt64SS -/
abbrev P_k : List PK := [.val Y22]
abbrev R_k : List VK := [.s (.own 3000028 Y28)]
abbrev i_k_3 : Shp := { slots := [(0, .s (.dat Y22)), (3, .s (.own 3000028 Y28)), (4, .s (.dat YI))], boxes := [], rows := [] }
abbrev o_k_3 : List (Ex × Shp) := [(.exit 0, { slots := [(3, .s (.own 3000028 Y28))], boxes := [], rows := [] })]
def l_k_3 (rec : i_k_3.den → Option (denO o_k_3)) (u3 : i_k_3.den) : Option (denO o_k_3) :=
 let v5 := ((u3.1.1.length : Nat) : Int)
 if (ltI u3.1.2.2.1 v5) then
  if 0 ≤ u3.1.2.2.1 then
   ((u3.1.1)[(u3.1.2.2.1).toNat]?).bind fun y6 =>
   (F_j (y6, ())).bind fun r7 =>
   if 0 ≤ u3.1.2.2.1 ∧ u3.1.2.2.1 < ((u3.1.2.1.length : Nat) : Int) then
    ((u3.1.2.1)[(u3.1.2.2.1).toNat]?).bind fun y8 =>
    let v9 := (u3.1.2.1.set (u3.1.2.2.1).toNat r7.1.1)
    let v10 := (IntKind.i64.wrap (u3.1.2.2.1 + (1 : Int)))
    rec ((u3.1.1, (v9, (v10, ()))), ((), ()))
   else none
  else none
 else
  some (.inl ((u3.1.2.1, ()), ((), ())))
def L_k_3 (x : i_k_3.den) : Option (denO o_k_3) := iterF l_k_3 lots x
def F_k (x : denP P_k) : Option (denV R_k × denQ P_k) :=
 let v1 := ((x.1.length : Nat) : Int)
 if v1 = v1 ∧ 0 ≤ v1 ∧ v1 * 24 ≤ 140737488355328 ∧ v1 ≤ 9223372036854775807 then
  (L_k_3 ((x.1, ((List.replicate (v1).toNat (zeroD Y28)), ((0 : Int), ()))), ((), ()))).bind fun z11 =>
  match z11 with
  | .inl x12 =>
   some ((x12.1.1, ()), ())
  | .inr z11_ =>
   none
 else none
abbrev C_k : Con := ⟨P_k, R_k, F_k, false⟩
abbrev G_k : Env := [(20, C_j)]
theorem g_k : EnvOk Tryz.prog G_k := (env_cons s_j env_nil)
abbrev c_k_3 : Cut := ⟨i_k_3, o_k_3, fun x => iterF l_k_3 lots x⟩
theorem t_k_3 (rec x) : run T G_k [] (nav Tryz.f52 [1, 1, 0, 1, 0, 0]) (mk 23 i_k_3 x) (loopK i_k_3 o_k_3 rec) = l_k_3 rec x := by kernel_rfl
theorem k_k_3 : CutOk Tryz.prog 23 (.loop (nav Tryz.f52 [1, 1, 0, 1, 0, 0])) c_k_3 :=
  loop_cut (L := []) hT g_k t_k_3 okP _
theorem r_k (x) : runFn T G_k [(3, c_k_3)] Tryz.f52 C_k.ps C_k.rs x = C_k.F x := by kernel_rfl
theorem s_k : CallsOk Tryz.prog 52 C_k := fnC (L := [(3, c_k_3)]) hT g_k Tryz.f52 (okS okP (okS okP (okS (okS okP (okB (okU k_k_3))) okP))) r_k
/-! laws.toLane -/
abbrev P_l : List PK := [.val Y108]
abbrev R_l : List VK := [.s (.dat Y108)]
def F_l (x : denP P_l) : Option (denV R_l × denQ P_l) :=
 some ((x.1, ()), ())
abbrev C_l : Con := ⟨P_l, R_l, F_l, false⟩
abbrev G_l : Env := []
theorem g_l : EnvOk Tryz.prog G_l := env_nil
theorem r_l (x) : runFn T G_l [] Tryz.f87 C_l.ps C_l.rs x = C_l.F x := by kernel_rfl
theorem s_l : CallsOk Tryz.prog 87 C_l := fnC (L := []) hT g_l Tryz.f87 okP r_l
/-! laws.toLaneS -/
abbrev P_m : List PK := [.val Y23]
abbrev R_m : List VK := [.s (.own 109 Y108)]
abbrev i_m_3 : Shp := { slots := [(0, .s (.dat Y23)), (3, .s (.own 109 Y108)), (4, .s (.dat YI))], boxes := [], rows := [] }
abbrev o_m_3 : List (Ex × Shp) := [(.exit 0, { slots := [(3, .s (.own 109 Y108))], boxes := [], rows := [] })]
def l_m_3 (rec : i_m_3.den → Option (denO o_m_3)) (u3 : i_m_3.den) : Option (denO o_m_3) :=
 let v5 := ((u3.1.1.length : Nat) : Int)
 if (ltI u3.1.2.2.1 v5) then
  if 0 ≤ u3.1.2.2.1 then
   ((u3.1.1)[(u3.1.2.2.1).toNat]?).bind fun y6 =>
   (F_l (y6, ())).bind fun r7 =>
   if 0 ≤ u3.1.2.2.1 ∧ u3.1.2.2.1 < ((u3.1.2.1.length : Nat) : Int) then
    ((u3.1.2.1)[(u3.1.2.2.1).toNat]?).bind fun y8 =>
    let v9 := (u3.1.2.1.set (u3.1.2.2.1).toNat r7.1.1)
    let v10 := (IntKind.i64.wrap (u3.1.2.2.1 + (1 : Int)))
    rec ((u3.1.1, (v9, (v10, ()))), ((), ()))
   else none
  else none
 else
  some (.inl ((u3.1.2.1, ()), ((), ())))
def L_m_3 (x : i_m_3.den) : Option (denO o_m_3) := iterF l_m_3 lots x
def F_m (x : denP P_m) : Option (denV R_m × denQ P_m) :=
 let v1 := ((x.1.length : Nat) : Int)
 if v1 = v1 ∧ 0 ≤ v1 ∧ v1 * 40 ≤ 140737488355328 ∧ v1 ≤ 9223372036854775807 then
  (L_m_3 ((x.1, ((List.replicate (v1).toNat (zeroD Y108)), ((0 : Int), ()))), ((), ()))).bind fun z11 =>
  match z11 with
  | .inl x12 =>
   some ((x12.1.1, ()), ())
  | .inr z11_ =>
   none
 else none
abbrev C_m : Con := ⟨P_m, R_m, F_m, false⟩
abbrev G_m : Env := [(87, C_l)]
theorem g_m : EnvOk Tryz.prog G_m := (env_cons s_l env_nil)
abbrev c_m_3 : Cut := ⟨i_m_3, o_m_3, fun x => iterF l_m_3 lots x⟩
theorem t_m_3 (rec x) : run T G_m [] (nav Tryz.f53 [1, 1, 0, 1, 0, 0]) (mk 23 i_m_3 x) (loopK i_m_3 o_m_3 rec) = l_m_3 rec x := by kernel_rfl
theorem k_m_3 : CutOk Tryz.prog 23 (.loop (nav Tryz.f53 [1, 1, 0, 1, 0, 0])) c_m_3 :=
  loop_cut (L := []) hT g_m t_m_3 okP _
theorem r_m (x) : runFn T G_m [(3, c_m_3)] Tryz.f53 C_m.ps C_m.rs x = C_m.F x := by kernel_rfl
theorem s_m : CallsOk Tryz.prog 53 C_m := fnC (L := [(3, c_m_3)]) hT g_m Tryz.f53 (okS okP (okS okP (okS (okS okP (okB (okU k_m_3))) okP))) r_m
/-! laws.toBell -/
abbrev P_n : List PK := [.val Y69]
abbrev R_n : List VK := [.s (.dat Y69)]
def F_n (x : denP P_n) : Option (denV R_n × denQ P_n) :=
 some ((x.1, ()), ())
abbrev C_n : Con := ⟨P_n, R_n, F_n, false⟩
abbrev G_n : Env := []
theorem g_n : EnvOk Tryz.prog G_n := env_nil
theorem r_n (x) : runFn T G_n [] Tryz.f88 C_n.ps C_n.rs x = C_n.F x := by kernel_rfl
theorem s_n : CallsOk Tryz.prog 88 C_n := fnC (L := []) hT g_n Tryz.f88 okP r_n
/-! laws.toBellS -/
abbrev P_o : List PK := [.val Y24]
abbrev R_o : List VK := [.s (.own 127 Y69)]
abbrev i_o_3 : Shp := { slots := [(0, .s (.dat Y24)), (3, .s (.own 127 Y69)), (4, .s (.dat YI))], boxes := [], rows := [] }
abbrev o_o_3 : List (Ex × Shp) := [(.exit 0, { slots := [(3, .s (.own 127 Y69))], boxes := [], rows := [] })]
def l_o_3 (rec : i_o_3.den → Option (denO o_o_3)) (u3 : i_o_3.den) : Option (denO o_o_3) :=
 let v5 := ((u3.1.1.length : Nat) : Int)
 if (ltI u3.1.2.2.1 v5) then
  if 0 ≤ u3.1.2.2.1 then
   ((u3.1.1)[(u3.1.2.2.1).toNat]?).bind fun y6 =>
   (F_n (y6, ())).bind fun r7 =>
   if 0 ≤ u3.1.2.2.1 ∧ u3.1.2.2.1 < ((u3.1.2.1.length : Nat) : Int) then
    ((u3.1.2.1)[(u3.1.2.2.1).toNat]?).bind fun y8 =>
    let v9 := (u3.1.2.1.set (u3.1.2.2.1).toNat r7.1.1)
    let v10 := (IntKind.i64.wrap (u3.1.2.2.1 + (1 : Int)))
    rec ((u3.1.1, (v9, (v10, ()))), ((), ()))
   else none
  else none
 else
  some (.inl ((u3.1.2.1, ()), ((), ())))
def L_o_3 (x : i_o_3.den) : Option (denO o_o_3) := iterF l_o_3 lots x
def F_o (x : denP P_o) : Option (denV R_o × denQ P_o) :=
 let v1 := ((x.1.length : Nat) : Int)
 if v1 = v1 ∧ 0 ≤ v1 ∧ v1 * 16 ≤ 140737488355328 ∧ v1 ≤ 9223372036854775807 then
  (L_o_3 ((x.1, ((List.replicate (v1).toNat (zeroD Y69)), ((0 : Int), ()))), ((), ()))).bind fun z11 =>
  match z11 with
  | .inl x12 =>
   some ((x12.1.1, ()), ())
  | .inr z11_ =>
   none
 else none
abbrev C_o : Con := ⟨P_o, R_o, F_o, false⟩
abbrev G_o : Env := [(88, C_n)]
theorem g_o : EnvOk Tryz.prog G_o := (env_cons s_n env_nil)
abbrev c_o_3 : Cut := ⟨i_o_3, o_o_3, fun x => iterF l_o_3 lots x⟩
theorem t_o_3 (rec x) : run T G_o [] (nav Tryz.f54 [1, 1, 0, 1, 0, 0]) (mk 23 i_o_3 x) (loopK i_o_3 o_o_3 rec) = l_o_3 rec x := by kernel_rfl
theorem k_o_3 : CutOk Tryz.prog 23 (.loop (nav Tryz.f54 [1, 1, 0, 1, 0, 0])) c_o_3 :=
  loop_cut (L := []) hT g_o t_o_3 okP _
theorem r_o (x) : runFn T G_o [(3, c_o_3)] Tryz.f54 C_o.ps C_o.rs x = C_o.F x := by kernel_rfl
theorem s_o : CallsOk Tryz.prog 54 C_o := fnC (L := [(3, c_o_3)]) hT g_o Tryz.f54 (okS okP (okS okP (okS (okS okP (okB (okU k_o_3))) okP))) r_o
/-! laws.toSlot -/
abbrev P_p : List PK := [.val Y69]
abbrev R_p : List VK := [.s (.dat Y69)]
def F_p (x : denP P_p) : Option (denV R_p × denQ P_p) :=
 some ((x.1, ()), ())
abbrev C_p : Con := ⟨P_p, R_p, F_p, false⟩
abbrev G_p : Env := []
theorem g_p : EnvOk Tryz.prog G_p := env_nil
theorem r_p (x) : runFn T G_p [] Tryz.f89 C_p.ps C_p.rs x = C_p.F x := by kernel_rfl
theorem s_p : CallsOk Tryz.prog 89 C_p := fnC (L := []) hT g_p Tryz.f89 okP r_p
/-! laws.toSlotS -/
abbrev P_q : List PK := [.val Y24]
abbrev R_q : List VK := [.s (.own 123 Y69)]
abbrev i_q_3 : Shp := { slots := [(0, .s (.dat Y24)), (3, .s (.own 123 Y69)), (4, .s (.dat YI))], boxes := [], rows := [] }
abbrev o_q_3 : List (Ex × Shp) := [(.exit 0, { slots := [(3, .s (.own 123 Y69))], boxes := [], rows := [] })]
def l_q_3 (rec : i_q_3.den → Option (denO o_q_3)) (u3 : i_q_3.den) : Option (denO o_q_3) :=
 let v5 := ((u3.1.1.length : Nat) : Int)
 if (ltI u3.1.2.2.1 v5) then
  if 0 ≤ u3.1.2.2.1 then
   ((u3.1.1)[(u3.1.2.2.1).toNat]?).bind fun y6 =>
   (F_p (y6, ())).bind fun r7 =>
   if 0 ≤ u3.1.2.2.1 ∧ u3.1.2.2.1 < ((u3.1.2.1.length : Nat) : Int) then
    ((u3.1.2.1)[(u3.1.2.2.1).toNat]?).bind fun y8 =>
    let v9 := (u3.1.2.1.set (u3.1.2.2.1).toNat r7.1.1)
    let v10 := (IntKind.i64.wrap (u3.1.2.2.1 + (1 : Int)))
    rec ((u3.1.1, (v9, (v10, ()))), ((), ()))
   else none
  else none
 else
  some (.inl ((u3.1.2.1, ()), ((), ())))
def L_q_3 (x : i_q_3.den) : Option (denO o_q_3) := iterF l_q_3 lots x
def F_q (x : denP P_q) : Option (denV R_q × denQ P_q) :=
 let v1 := ((x.1.length : Nat) : Int)
 if v1 = v1 ∧ 0 ≤ v1 ∧ v1 * 16 ≤ 140737488355328 ∧ v1 ≤ 9223372036854775807 then
  (L_q_3 ((x.1, ((List.replicate (v1).toNat (zeroD Y69)), ((0 : Int), ()))), ((), ()))).bind fun z11 =>
  match z11 with
  | .inl x12 =>
   some ((x12.1.1, ()), ())
  | .inr z11_ =>
   none
 else none
abbrev C_q : Con := ⟨P_q, R_q, F_q, false⟩
abbrev G_q : Env := [(89, C_p)]
theorem g_q : EnvOk Tryz.prog G_q := (env_cons s_p env_nil)
abbrev c_q_3 : Cut := ⟨i_q_3, o_q_3, fun x => iterF l_q_3 lots x⟩
theorem t_q_3 (rec x) : run T G_q [] (nav Tryz.f55 [1, 1, 0, 1, 0, 0]) (mk 23 i_q_3 x) (loopK i_q_3 o_q_3 rec) = l_q_3 rec x := by kernel_rfl
theorem k_q_3 : CutOk Tryz.prog 23 (.loop (nav Tryz.f55 [1, 1, 0, 1, 0, 0])) c_q_3 :=
  loop_cut (L := []) hT g_q t_q_3 okP _
theorem r_q (x) : runFn T G_q [(3, c_q_3)] Tryz.f55 C_q.ps C_q.rs x = C_q.F x := by kernel_rfl
theorem s_q : CallsOk Tryz.prog 55 C_q := fnC (L := [(3, c_q_3)]) hT g_q Tryz.f55 (okS okP (okS okP (okS (okS okP (okB (okU k_q_3))) okP))) r_q
/-! laws.toPolicy -/
abbrev P_r : List PK := [.val Y26]
abbrev R_r : List VK := [.g [.own 3000028 Y28, .own 109 Y108, .own 127 Y69, .own 123 Y69]]
def F_r (x : denP P_r) : Option (denV R_r × denQ P_r) :=
 (F_k (x.1.1, ())).bind fun r1 =>
 (F_m (x.1.2.1, ())).bind fun r2 =>
 (F_o (x.1.2.2.1, ())).bind fun r3 =>
 (F_q (x.1.2.2.2.1, ())).bind fun r4 =>
 some (((r1.1.1, (r2.1.1, (r3.1.1, (r4.1.1, ())))), ()), ())
abbrev C_r : Con := ⟨P_r, R_r, F_r, false⟩
abbrev G_r : Env := [(52, C_k), (53, C_m), (54, C_o), (55, C_q)]
theorem g_r : EnvOk Tryz.prog G_r := (env_cons s_k (env_cons s_m (env_cons s_o (env_cons s_q env_nil))))
theorem r_r (x) : runFn T G_r [] Tryz.f19 C_r.ps C_r.rs x = C_r.F x := by kernel_rfl
theorem s_r : CallsOk Tryz.prog 19 C_r := fnC (L := []) hT g_r Tryz.f19 okP r_r
/-! laws.toHart -/
abbrev P_s : List PK := [.val Y33]
abbrev R_s : List VK := [.g [.own 2 YI, .dat YI, .own 2 YI, .dat .bool, .dat .bool, .dat .bool, .dat YI, .own 2 YI, .own 2 YI]]
def F_s (x : denP P_s) : Option (denV R_s × denQ P_s) :=
 (F_j (x.1.1, ())).bind fun r1 =>
 (F_j (x.1.2.2.1, ())).bind fun r2 =>
 (F_j (x.1.2.2.2.2.2.2.2.1, ())).bind fun r3 =>
 (F_j (x.1.2.2.2.2.2.2.2.2.1, ())).bind fun r4 =>
 some (((r1.1.1, (x.1.2.1, (r2.1.1, (x.1.2.2.2.1, (x.1.2.2.2.2.1, (x.1.2.2.2.2.2.1, (x.1.2.2.2.2.2.2.1, (r3.1.1, (r4.1.1, ()))))))))), ()), ())
abbrev C_s : Con := ⟨P_s, R_s, F_s, false⟩
abbrev G_s : Env := [(20, C_j)]
theorem g_s : EnvOk Tryz.prog G_s := (env_cons s_j env_nil)
theorem r_s (x) : runFn T G_s [] Tryz.f56 C_s.ps C_s.rs x = C_s.F x := by kernel_rfl
theorem s_s : CallsOk Tryz.prog 56 C_s := fnC (L := []) hT g_s Tryz.f56 okP r_s
/-! laws.toHartS -/
abbrev P_t : List PK := [.val Y29]
abbrev R_t : List VK := [.s (.own 3000034 Y33)]
abbrev i_t_3 : Shp := { slots := [(0, .s (.dat Y29)), (3, .s (.own 3000034 Y33)), (4, .s (.dat YI))], boxes := [], rows := [] }
abbrev o_t_3 : List (Ex × Shp) := [(.exit 0, { slots := [(3, .s (.own 3000034 Y33))], boxes := [], rows := [] })]
def l_t_3 (rec : i_t_3.den → Option (denO o_t_3)) (u3 : i_t_3.den) : Option (denO o_t_3) :=
 let v5 := ((u3.1.1.length : Nat) : Int)
 if (ltI u3.1.2.2.1 v5) then
  if 0 ≤ u3.1.2.2.1 then
   ((u3.1.1)[(u3.1.2.2.1).toNat]?).bind fun y6 =>
   (F_s (y6, ())).bind fun r7 =>
   if 0 ≤ u3.1.2.2.1 ∧ u3.1.2.2.1 < ((u3.1.2.1.length : Nat) : Int) then
    ((u3.1.2.1)[(u3.1.2.2.1).toNat]?).bind fun y8 =>
    let v9 := (u3.1.2.1.set (u3.1.2.2.1).toNat r7.1.1)
    let v10 := (IntKind.i64.wrap (u3.1.2.2.1 + (1 : Int)))
    rec ((u3.1.1, (v9, (v10, ()))), ((), ()))
   else none
  else none
 else
  some (.inl ((u3.1.2.1, ()), ((), ())))
def L_t_3 (x : i_t_3.den) : Option (denO o_t_3) := iterF l_t_3 lots x
def F_t (x : denP P_t) : Option (denV R_t × denQ P_t) :=
 let v1 := ((x.1.length : Nat) : Int)
 if v1 = v1 ∧ 0 ≤ v1 ∧ v1 * 120 ≤ 140737488355328 ∧ v1 ≤ 9223372036854775807 then
  (L_t_3 ((x.1, ((List.replicate (v1).toNat (zeroD Y33)), ((0 : Int), ()))), ((), ()))).bind fun z11 =>
  match z11 with
  | .inl x12 =>
   some ((x12.1.1, ()), ())
  | .inr z11_ =>
   none
 else none
abbrev C_t : Con := ⟨P_t, R_t, F_t, false⟩
abbrev G_t : Env := [(56, C_s)]
theorem g_t : EnvOk Tryz.prog G_t := (env_cons s_s env_nil)
abbrev c_t_3 : Cut := ⟨i_t_3, o_t_3, fun x => iterF l_t_3 lots x⟩
theorem t_t_3 (rec x) : run T G_t [] (nav Tryz.f21 [1, 1, 0, 1, 0, 0]) (mk 23 i_t_3 x) (loopK i_t_3 o_t_3 rec) = l_t_3 rec x := by kernel_rfl
theorem k_t_3 : CutOk Tryz.prog 23 (.loop (nav Tryz.f21 [1, 1, 0, 1, 0, 0])) c_t_3 :=
  loop_cut (L := []) hT g_t t_t_3 okP _
theorem r_t (x) : runFn T G_t [(3, c_t_3)] Tryz.f21 C_t.ps C_t.rs x = C_t.F x := by kernel_rfl
theorem s_t : CallsOk Tryz.prog 21 C_t := fnC (L := [(3, c_t_3)]) hT g_t Tryz.f21 (okS okP (okS okP (okS (okS okP (okB (okU k_t_3))) okP))) r_t
/-! laws.toHost -/
abbrev P_u : List PK := [.val Y30]
abbrev R_u : List VK := [.g [.own 3000028 Y28, .own 109 Y108, .own 127 Y69, .own 123 Y69, .own 2 YI, .own 3000034 Y33, .dat YI, .dat YI, .dat YI]]
def F_u (x : denP P_u) : Option (denV R_u × denQ P_u) :=
 (F_r (x.1.1, ())).bind fun r1 =>
 (F_j (x.1.2.1, ())).bind fun r2 =>
 (F_t (x.1.2.2.1, ())).bind fun r3 =>
 some (((r1.1.1.1, (r1.1.1.2.1, (r1.1.1.2.2.1, (r1.1.1.2.2.2.1, (r2.1.1, (r3.1.1, (x.1.2.2.2.1, (x.1.2.2.2.2.1, (x.1.2.2.2.2.2.1, ()))))))))), ()), ())
abbrev C_u : Con := ⟨P_u, R_u, F_u, false⟩
abbrev G_u : Env := [(19, C_r), (20, C_j), (21, C_t)]
theorem g_u : EnvOk Tryz.prog G_u := (env_cons s_r (env_cons s_j (env_cons s_t env_nil)))
theorem r_u (x) : runFn T G_u [] Tryz.f6 C_u.ps C_u.rs x = C_u.F x := by kernel_rfl
theorem s_u : CallsOk Tryz.prog 6 C_u := fnC (L := []) hT g_u Tryz.f6 okP r_u
/-! spec.l1In -/
abbrev P_v : List PK := [.val YI, .val YI, .val YI]
abbrev R_v : List VK := [.s (.dat .bool)]
def F_v (x : denP P_v) : Option (denV R_v × denQ P_v) :=
 if (leI x.2.1 x.1) = true then
  some (((leI x.1 x.2.2.1), ()), ())
 else
  some ((false, ()), ())
abbrev C_v : Con := ⟨P_v, R_v, F_v, false⟩
abbrev G_v : Env := []
theorem g_v : EnvOk Tryz.prog G_v := env_nil
theorem r_v (x) : runFn T G_v [] Tryz.f45 C_v.ps C_v.rs x = C_v.F x := by kernel_rfl
theorem s_v : CallsOk Tryz.prog 45 C_v := fnC (L := []) hT g_v Tryz.f45 okP r_v
/-! spec.l1Has -/
abbrev P_w : List PK := [.val Y28, .val YI]
abbrev R_w : List VK := [.s (.dat .bool)]
abbrev i_w_2 : Shp := { slots := [(0, .s (.dat Y28)), (1, .s (.dat YI)), (5, .s (.dat YI))], boxes := [], rows := [] }
abbrev o_w_2 : List (Ex × Shp) := [(.exit 0, { slots := [], boxes := [], rows := [] }), (.ret, { slots := [(4, .s (.dat .bool))], boxes := [], rows := [] })]
def l_w_2 (rec : i_w_2.den → Option (denO o_w_2)) (u2 : i_w_2.den) : Option (denO o_w_2) :=
 let v2 := ((u2.1.1.length : Nat) : Int)
 if (ltI u2.1.2.2.1 v2) then
  if 0 ≤ u2.1.2.2.1 then
   ((u2.1.1)[(u2.1.2.2.1).toNat]?).bind fun y3 =>
   if (y3 == u2.1.2.1) then
    some (.inr (.inl ((true, ()), ((), ()))))
   else
    let v4 := (IntKind.i64.wrap (u2.1.2.2.1 + (1 : Int)))
    rec ((u2.1.1, (u2.1.2.1, (v4, ()))), ((), ()))
  else none
 else
  some (.inl ((), ((), ())))
def L_w_2 (x : i_w_2.den) : Option (denO o_w_2) := iterF l_w_2 lots x
def F_w (x : denP P_w) : Option (denV R_w × denQ P_w) :=
 (L_w_2 ((x.1, (x.2.1, ((0 : Int), ()))), ((), ()))).bind fun z5 =>
 match z5 with
 | .inl x6 =>
  some ((false, ()), ())
 | .inr z5_ =>
  match z5_ with
  | .inl x7 =>
   some ((x7.1.1, ()), ())
  | .inr z5__ =>
   none
abbrev C_w : Con := ⟨P_w, R_w, F_w, false⟩
abbrev G_w : Env := []
theorem g_w : EnvOk Tryz.prog G_w := env_nil
abbrev c_w_2 : Cut := ⟨i_w_2, o_w_2, fun x => iterF l_w_2 lots x⟩
theorem t_w_2 (rec x) : run T G_w [] (nav Tryz.f103 [1, 0, 1, 0, 0]) (mk 18 i_w_2 x) (loopK i_w_2 o_w_2 rec) = l_w_2 rec x := by kernel_rfl
theorem k_w_2 : CutOk Tryz.prog 18 (.loop (nav Tryz.f103 [1, 0, 1, 0, 0])) c_w_2 :=
  loop_cut (L := []) hT g_w t_w_2 okP _
theorem r_w (x) : runFn T G_w [(2, c_w_2)] Tryz.f103 C_w.ps C_w.rs x = C_w.F x := by kernel_rfl
theorem s_w : CallsOk Tryz.prog 103 C_w := fnC (L := [(2, c_w_2)]) hT g_w Tryz.f103 (okS okP (okS (okS okP (okB (okU k_w_2))) okP)) r_w
/-! spec.l6Owns -/
abbrev P_x : List PK := [.ptr Y26]
abbrev R_x : List VK := [.s (.dat YI)]
abbrev i_x_18 : Shp := { slots := [(0, .s (.pd Y26)), (5, .s (.own 2 YI)), (6, .s (.dat YI)), (7, .s (.dat YI))], boxes := [], rows := [] }
abbrev o_x_18 : List (Ex × Shp) := [(.exit 6, { slots := [(0, .s (.pd Y26)), (5, .s (.own 2 YI)), (6, .s (.dat YI))], boxes := [], rows := [] }), (.ret, { slots := [(2, .s (.dat YI))], boxes := [], rows := [] })]
def l_x_18 (rec : i_x_18.den → Option (denO o_x_18)) (u18 : i_x_18.den) : Option (denO o_x_18) :=
 if 0 ≤ u18.1.2.2.1 then
  ((u18.1.1.1)[(u18.1.2.2.1).toNat]?).bind fun y49 =>
  let v50 := ((y49.length : Nat) : Int)
  if (ltI u18.1.2.2.2.1 v50) then
   if 0 ≤ u18.1.2.2.1 then
    ((u18.1.1.1)[(u18.1.2.2.1).toNat]?).bind fun y51 =>
    if 0 ≤ u18.1.2.2.2.1 then
     ((y51)[(u18.1.2.2.2.1).toNat]?).bind fun y52 =>
     (F_w (u18.1.2.1, y52, ())).bind fun r53 =>
     if r53.1.1 then
      some (.inr (.inl (((6 : Int), ()), ((), ()))))
     else
      if 0 ≤ u18.1.2.2.1 then
       ((u18.1.1.1)[(u18.1.2.2.1).toNat]?).bind fun y54 =>
       if 0 ≤ u18.1.2.2.2.1 then
        ((y54)[(u18.1.2.2.2.1).toNat]?).bind fun y55 =>
        if (u18.1.2.1.length + [y55].length) * 8 ≤ 140737488355328 then
         let v56 := (u18.1.2.1 ++ [y55])
         let v57 := (IntKind.i64.wrap (u18.1.2.2.2.1 + (1 : Int)))
         rec ((u18.1.1, (v56, (u18.1.2.2.1, (v57, ())))), ((), ()))
        else none
       else none
      else none
    else none
   else none
  else
   some (.inl ((u18.1.1, (u18.1.2.1, (u18.1.2.2.1, ()))), ((), ())))
 else none
def L_x_18 (x : i_x_18.den) : Option (denO o_x_18) := iterF l_x_18 lots x
abbrev i_x_9 : Shp := { slots := [(0, .s (.pd Y26)), (3, .s (.dat YI)), (4, .s (.dat YI)), (41, .s (.pd Y26)), (42, .s (.pd Y26)), (43, .s (.pd Y22)), (44, .s (.dat Y22)), (45, .s (.dat YI)), (46, .s (.pd Y28)), (47, .s (.dat Y28)), (48, .s (.dat YI)), (49, .s (.dat .bool))], boxes := [], rows := [] }
abbrev o_x_9 : List (Ex × Shp) := [(.exit 2, { slots := [(0, .s (.pd Y26)), (3, .s (.dat YI)), (41, .s (.pd Y26)), (42, .s (.pd Y26)), (43, .s (.pd Y22)), (44, .s (.dat Y22)), (45, .s (.dat YI)), (46, .s (.pd Y28)), (47, .s (.dat Y28)), (48, .s (.dat YI)), (49, .s (.dat .bool))], boxes := [], rows := [] }), (.ret, { slots := [(2, .s (.dat YI))], boxes := [], rows := [] })]
def l_x_9 (rec : i_x_9.den → Option (denO o_x_9)) (u9 : i_x_9.den) : Option (denO o_x_9) :=
 if 0 ≤ u9.1.2.1 then
  ((u9.1.1.1)[(u9.1.2.1).toNat]?).bind fun y21 =>
  let v22 := ((y21.length : Nat) : Int)
  if (ltI u9.1.2.2.1 v22) then
   if 0 ≤ u9.1.2.1 then
    ((u9.1.1.1)[(u9.1.2.1).toNat]?).bind fun y23 =>
    if 0 ≤ u9.1.2.2.1 then
     ((y23)[(u9.1.2.2.1).toNat]?).bind fun y24 =>
     (F_v (y24, (0 : Int), (23 : Int), ())).bind fun r25 =>
     if (!r25.1.1) then
      some (.inr (.inl (((3 : Int), ()), ((), ()))))
     else
      let v26 := (IntKind.i64.wrap (u9.1.2.2.1 + (1 : Int)))
      rec ((u9.1.1, (u9.1.2.1, (v26, (u9.1.2.2.2.1, (u9.1.2.2.2.2.1, (u9.1.2.2.2.2.2.1, (u9.1.2.2.2.2.2.2.1, (u9.1.2.2.2.2.2.2.2.1, (u9.1.2.2.2.2.2.2.2.2.1, (u9.1.2.2.2.2.2.2.2.2.2.1, (u9.1.2.2.2.2.2.2.2.2.2.2.1, (u9.1.2.2.2.2.2.2.2.2.2.2.2.1, ())))))))))))), ((), ()))
    else none
   else none
  else
   some (.inl ((u9.1.1, (u9.1.2.1, (u9.1.2.2.2.1, (u9.1.2.2.2.2.1, (u9.1.2.2.2.2.2.1, (u9.1.2.2.2.2.2.2.1, (u9.1.2.2.2.2.2.2.2.1, (u9.1.2.2.2.2.2.2.2.2.1, (u9.1.2.2.2.2.2.2.2.2.2.1, (u9.1.2.2.2.2.2.2.2.2.2.2.1, (u9.1.2.2.2.2.2.2.2.2.2.2.2.1, ()))))))))))), ((), ())))
 else none
def L_x_9 (x : i_x_9.den) : Option (denO o_x_9) := iterF l_x_9 lots x
abbrev i_x_15 : Shp := { slots := [(0, .s (.pd Y26)), (5, .s (.own 2 YI)), (6, .s (.dat YI))], boxes := [], rows := [] }
abbrev o_x_15 : List (Ex × Shp) := [(.exit 4, { slots := [], boxes := [], rows := [] }), (.ret, { slots := [(2, .s (.dat YI))], boxes := [], rows := [] })]
def l_x_15 (rec : i_x_15.den → Option (denO o_x_15)) (u15 : i_x_15.den) : Option (denO o_x_15) :=
 let v42 := ((u15.1.1.1.length : Nat) : Int)
 if (ltI u15.1.2.2.1 v42) then
  (L_x_18 ((u15.1.1, (u15.1.2.1, (u15.1.2.2.1, ((0 : Int), ())))), ((), ()))).bind fun z58 =>
  match z58 with
  | .inl x59 =>
   let v60 := (IntKind.i64.wrap (x59.1.2.2.1 + (1 : Int)))
   rec ((x59.1.1, (x59.1.2.1, (v60, ()))), ((), ()))
  | .inr z58_ =>
   match z58_ with
   | .inl x61 =>
    some (.inr (.inl ((x61.1.1, ()), ((), ()))))
   | .inr z58__ =>
    none
 else
  some (.inl ((), ((), ())))
def L_x_15 (x : i_x_15.den) : Option (denO o_x_15) := iterF l_x_15 lots x
abbrev i_x_4 : Shp := { slots := [(0, .s (.pd Y26)), (3, .s (.dat YI))], boxes := [], rows := [] }
abbrev o_x_4 : List (Ex × Shp) := [(.exit 0, { slots := [(0, .s (.pd Y26))], boxes := [], rows := [] }), (.ret, { slots := [(2, .s (.dat YI))], boxes := [], rows := [] })]
def l_x_4 (rec : i_x_4.den → Option (denO o_x_4)) (u4 : i_x_4.den) : Option (denO o_x_4) :=
 let v12 := ((u4.1.1.1.length : Nat) : Int)
 if (ltI u4.1.2.1 v12) then
  if 0 ≤ u4.1.2.1 then
   ((u4.1.1.1)[(u4.1.2.1).toNat]?).bind fun y13 =>
   let v14 := ((y13.length : Nat) : Int)
   if (ltI v14 (1 : Int)) = false then
    if 0 ≤ u4.1.2.1 then
     ((u4.1.1.1)[(u4.1.2.1).toNat]?).bind fun y15 =>
     let v16 := ((y15.length : Nat) : Int)
     if (ltI (5 : Int) v16) then
      some (.inr (.inl (((2 : Int), ()), ((), ()))))
     else
      (L_x_9 ((u4.1.1, (u4.1.2.1, ((0 : Int), (u4.1.1, (u4.1.1, (u4.1.1.1, (u4.1.1.1, (u4.1.2.1, (y15, (y15, (v16, ((ltI (5 : Int) v16), ())))))))))))), ((), ()))).bind fun z27 =>
      match z27 with
      | .inl x28 =>
       let v29 := (IntKind.i64.wrap (x28.1.2.1 + (1 : Int)))
       rec ((x28.1.1, (v29, ())), ((), ()))
      | .inr z27_ =>
       match z27_ with
       | .inl x30 =>
        some (.inr (.inl ((x30.1.1, ()), ((), ()))))
       | .inr z27__ =>
        none
    else none
   else
    some (.inr (.inl (((2 : Int), ()), ((), ()))))
  else none
 else
  some (.inl ((u4.1.1, ()), ((), ())))
def L_x_4 (x : i_x_4.den) : Option (denO o_x_4) := iterF l_x_4 lots x
def F_x (x : denP P_x) : Option (denV R_x × denQ P_x) :=
 let v1 := ((x.1.1.length : Nat) : Int)
 if (ltI v1 (1 : Int)) = false then
  let v2 := ((x.1.1.length : Nat) : Int)
  if (ltI (3 : Int) v2) then
   some (((2 : Int), ()), ())
  else
   (L_x_4 ((x.1, ((0 : Int), ())), ((), ()))).bind fun z31 =>
   match z31 with
   | .inl x32 =>
    (L_x_15 ((x32.1.1, (([] : List (den YI)), ((0 : Int), ()))), ((), ()))).bind fun z62 =>
    match z62 with
    | .inl x63 =>
     some (((0 : Int), ()), ())
    | .inr z62_ =>
     match z62_ with
     | .inl x64 =>
      some ((x64.1.1, ()), ())
     | .inr z62__ =>
      none
   | .inr z31_ =>
    match z31_ with
    | .inl x65 =>
     some ((x65.1.1, ()), ())
    | .inr z31__ =>
     none
 else
  some (((2 : Int), ()), ())
abbrev C_x : Con := ⟨P_x, R_x, F_x, false⟩
abbrev G_x : Env := [(45, C_v), (103, C_w)]
theorem g_x : EnvOk Tryz.prog G_x := (env_cons s_v (env_cons s_w env_nil))
abbrev c_x_18 : Cut := ⟨i_x_18, o_x_18, fun x => iterF l_x_18 lots x⟩
theorem t_x_18 (rec x) : run T G_x [] (nav Tryz.f80 [1, 1, 1, 1, 0, 1, 0, 0, 1, 0, 0, 1, 0, 0]) (mk 122 i_x_18 x) (loopK i_x_18 o_x_18 rec) = l_x_18 rec x := by kernel_rfl
theorem k_x_18 : CutOk Tryz.prog 122 (.loop (nav Tryz.f80 [1, 1, 1, 1, 0, 1, 0, 0, 1, 0, 0, 1, 0, 0])) c_x_18 :=
  loop_cut (L := []) hT g_x t_x_18 okP _
abbrev c_x_9 : Cut := ⟨i_x_9, o_x_9, fun x => iterF l_x_9 lots x⟩
theorem t_x_9 (rec x) : run T G_x [] (nav Tryz.f80 [1, 1, 0, 1, 0, 0, 1, 0, 0, 1, 1, 0, 0]) (mk 122 i_x_9 x) (loopK i_x_9 o_x_9 rec) = l_x_9 rec x := by kernel_rfl
theorem k_x_9 : CutOk Tryz.prog 122 (.loop (nav Tryz.f80 [1, 1, 0, 1, 0, 0, 1, 0, 0, 1, 1, 0, 0])) c_x_9 :=
  loop_cut (L := []) hT g_x t_x_9 okP _
abbrev c_x_15 : Cut := ⟨i_x_15, o_x_15, fun x => iterF l_x_15 lots x⟩
theorem t_x_15 (rec x) : run T G_x [(18, c_x_18)] (nav Tryz.f80 [1, 1, 1, 1, 0, 1, 0, 0]) (mk 122 i_x_15 x) (loopK i_x_15 o_x_15 rec) = l_x_15 rec x := by kernel_rfl
theorem k_x_15 : CutOk Tryz.prog 122 (.loop (nav Tryz.f80 [1, 1, 1, 1, 0, 1, 0, 0])) c_x_15 :=
  loop_cut (L := [(18, c_x_18)]) hT g_x t_x_15 (okS okP (okS (okB (okS okP (okB (okU k_x_18)))) okP)) _
abbrev c_x_4 : Cut := ⟨i_x_4, o_x_4, fun x => iterF l_x_4 lots x⟩
theorem t_x_4 (rec x) : run T G_x [(9, c_x_9)] (nav Tryz.f80 [1, 1, 0, 1, 0, 0]) (mk 122 i_x_4 x) (loopK i_x_4 o_x_4 rec) = l_x_4 rec x := by kernel_rfl
theorem k_x_4 : CutOk Tryz.prog 122 (.loop (nav Tryz.f80 [1, 1, 0, 1, 0, 0])) c_x_4 :=
  loop_cut (L := [(9, c_x_9)]) hT g_x t_x_4 (okS okP (okS (okB (okS okP (okS okP (okB (okU k_x_9))))) okP)) _
theorem r_x (x) : runFn T G_x [(18, c_x_18), (9, c_x_9), (15, c_x_15), (4, c_x_4)] Tryz.f80 C_x.ps C_x.rs x = C_x.F x := by kernel_rfl
theorem s_x : CallsOk Tryz.prog 80 C_x := fnC (L := [(18, c_x_18), (9, c_x_9), (15, c_x_15), (4, c_x_4)]) hT g_x Tryz.f80 (okS okP (okS okP (okS (okS okP (okB (okU k_x_4))) (okS okP (okS (okS okP (okB (okU k_x_15))) okP))))) r_x
/-! spec.l6Guest -/
abbrev P_y : List PK := [.ptr Y26, .val YI]
abbrev R_y : List VK := [.s (.dat .bool)]
def F_y (x : denP P_y) : Option (denV R_y × denQ P_y) :=
 let v1 := ((x.1.1.length : Nat) : Int)
 let v2 := (IntKind.i64.wrap (v1 - (1 : Int)))
 (F_v (x.2.1, (0 : Int), v2, ())).bind fun r3 =>
 some ((r3.1.1, ()), ())
abbrev C_y : Con := ⟨P_y, R_y, F_y, false⟩
abbrev G_y : Env := [(45, C_v)]
theorem g_y : EnvOk Tryz.prog G_y := (env_cons s_v env_nil)
theorem r_y (x) : runFn T G_y [] Tryz.f17 C_y.ps C_y.rs x = C_y.F x := by kernel_rfl
theorem s_y : CallsOk Tryz.prog 17 C_y := fnC (L := []) hT g_y Tryz.f17 okP r_y
/-! spec.l6Ends -/
abbrev P_z : List PK := [.ptr Y26, .val YI, .val YI]
abbrev R_z : List VK := [.s (.dat YI)]
def F_z (x : denP P_z) : Option (denV R_z × denQ P_z) :=
 (F_y (x.1, x.2.1, ())).bind fun r1 =>
 if (!r1.1.1) = false then
  (F_y (x.1, x.2.2.1, ())).bind fun r2 =>
  if (!r2.1.1) then
   some (((4 : Int), ()), ())
  else
   if (x.2.1 == x.2.2.1) then
    some (((1 : Int), ()), ())
   else
    some (((0 : Int), ()), ())
 else
  some (((4 : Int), ()), ())
abbrev C_z : Con := ⟨P_z, R_z, F_z, false⟩
abbrev G_z : Env := [(17, C_y)]
theorem g_z : EnvOk Tryz.prog G_z := (env_cons s_y env_nil)
theorem r_z (x) : runFn T G_z [] Tryz.f104 C_z.ps C_z.rs x = C_z.F x := by kernel_rfl
theorem s_z : CallsOk Tryz.prog 104 C_z := fnC (L := []) hT g_z Tryz.f104 okP r_z
/-! spec.l6Owner -/
abbrev P_aa : List PK := [.ptr Y26, .val YI]
abbrev R_aa : List VK := [.s (.dat YI)]
abbrev i_aa_2 : Shp := { slots := [(0, .s (.pd Y26)), (1, .s (.dat YI)), (5, .s (.dat YI))], boxes := [], rows := [] }
abbrev o_aa_2 : List (Ex × Shp) := [(.exit 0, { slots := [], boxes := [], rows := [] }), (.ret, { slots := [(4, .s (.dat YI))], boxes := [], rows := [] })]
def l_aa_2 (rec : i_aa_2.den → Option (denO o_aa_2)) (u2 : i_aa_2.den) : Option (denO o_aa_2) :=
 let v3 := ((u2.1.1.1.length : Nat) : Int)
 if (ltI u2.1.2.2.1 v3) then
  if 0 ≤ u2.1.2.2.1 then
   ((u2.1.1.1)[(u2.1.2.2.1).toNat]?).bind fun y4 =>
   (F_w (y4, u2.1.2.1, ())).bind fun r5 =>
   if r5.1.1 then
    some (.inr (.inl ((u2.1.2.2.1, ()), ((), ()))))
   else
    let v6 := (IntKind.i64.wrap (u2.1.2.2.1 + (1 : Int)))
    rec ((u2.1.1, (u2.1.2.1, (v6, ()))), ((), ()))
  else none
 else
  some (.inl ((), ((), ())))
def L_aa_2 (x : i_aa_2.den) : Option (denO o_aa_2) := iterF l_aa_2 lots x
def F_aa (x : denP P_aa) : Option (denV R_aa × denQ P_aa) :=
 (L_aa_2 ((x.1, (x.2.1, ((0 : Int), ()))), ((), ()))).bind fun z7 =>
 match z7 with
 | .inl x8 =>
  some (((-1 : Int), ()), ())
 | .inr z7_ =>
  match z7_ with
  | .inl x9 =>
   some ((x9.1.1, ()), ())
  | .inr z7__ =>
   none
abbrev C_aa : Con := ⟨P_aa, R_aa, F_aa, false⟩
abbrev G_aa : Env := [(103, C_w)]
theorem g_aa : EnvOk Tryz.prog G_aa := (env_cons s_w env_nil)
abbrev c_aa_2 : Cut := ⟨i_aa_2, o_aa_2, fun x => iterF l_aa_2 lots x⟩
theorem t_aa_2 (rec x) : run T G_aa [] (nav Tryz.f105 [1, 0, 1, 0, 0]) (mk 25 i_aa_2 x) (loopK i_aa_2 o_aa_2 rec) = l_aa_2 rec x := by kernel_rfl
theorem k_aa_2 : CutOk Tryz.prog 25 (.loop (nav Tryz.f105 [1, 0, 1, 0, 0])) c_aa_2 :=
  loop_cut (L := []) hT g_aa t_aa_2 okP _
theorem r_aa (x) : runFn T G_aa [(2, c_aa_2)] Tryz.f105 C_aa.ps C_aa.rs x = C_aa.F x := by kernel_rfl
theorem s_aa : CallsOk Tryz.prog 105 C_aa := fnC (L := [(2, c_aa_2)]) hT g_aa Tryz.f105 (okS okP (okS (okS okP (okB (okU k_aa_2))) okP)) r_aa
/-! spec.l6At -/
abbrev P_ab : List PK := [.val Y108, .val YI, .val YI]
abbrev R_ab : List VK := [.s (.dat .bool)]
def F_ab (x : denP P_ab) : Option (denV R_ab × denQ P_ab) :=
 if (x.1.1 == x.2.1) = true then
  if (x.1.2.2.2.1 == x.2.2.1) = false then
   if (x.1.2.1 == x.2.1) = true then
    some (((x.1.2.2.2.2.1 == x.2.2.1), ()), ())
   else
    some ((false, ()), ())
  else
   some ((true, ()), ())
 else
  if (x.1.2.1 == x.2.1) = true then
   some (((x.1.2.2.2.2.1 == x.2.2.1), ()), ())
  else
   some ((false, ()), ())
abbrev C_ab : Con := ⟨P_ab, R_ab, F_ab, false⟩
abbrev G_ab : Env := []
theorem g_ab : EnvOk Tryz.prog G_ab := env_nil
theorem r_ab (x) : runFn T G_ab [] Tryz.f106 C_ab.ps C_ab.rs x = C_ab.F x := by kernel_rfl
theorem s_ab : CallsOk Tryz.prog 106 C_ab := fnC (L := []) hT g_ab Tryz.f106 okP r_ab
/-! spec.l6Lanes -/
abbrev P_ac : List PK := [.ptr Y26]
abbrev R_ac : List VK := [.s (.dat YI)]
abbrev i_ac_15 : Shp := { slots := [(0, .s (.pd Y26)), (3, .s (.dat YI)), (4, .s (.ptr 4 0)), (6, .s (.dat YI)), (52, .s (.ptr 4 3)), (53, .s (.dat YI)), (54, .s (.dat .bool)), (55, .s (.dat .bool)), (58, .s (.ptr 4 4)), (59, .s (.dat YI)), (60, .s (.dat .bool)), (61, .s (.dat .bool))], boxes := [(4, [.dat YI, .dat YI, .dat YI, .dat YI, .dat YI])], rows := [] }
abbrev o_ac_15 : List (Ex × Shp) := [(.exit 2, { slots := [(0, .s (.pd Y26)), (3, .s (.dat YI)), (52, .s (.ptr 4 3)), (53, .s (.dat YI)), (54, .s (.dat .bool)), (55, .s (.dat .bool)), (58, .s (.ptr 4 4)), (59, .s (.dat YI)), (60, .s (.dat .bool)), (61, .s (.dat .bool))], boxes := [(4, [.dat YI, .dat YI, .dat YI, .dat YI, .dat YI])], rows := [] }), (.ret, { slots := [(2, .s (.dat YI))], boxes := [], rows := [] })]
def l_ac_15 (rec : i_ac_15.den → Option (denO o_ac_15)) (u15 : i_ac_15.den) : Option (denO o_ac_15) :=
 if (ltI u15.1.2.2.2.1 u15.1.2.1) then
  if 0 ≤ u15.1.2.2.2.1 then
   ((u15.1.1.2.1)[(u15.1.2.2.2.1).toNat]?).bind fun y25 =>
   if (y25.2.2.1 == u15.2.1.1.2.2.1) = false then
    (F_ab (y25, u15.2.1.1.1, u15.2.1.1.2.2.2.1, ())).bind fun r26 =>
    if r26.1.1 = false then
     (F_ab (y25, u15.2.1.1.2.1, u15.2.1.1.2.2.2.2.1, ())).bind fun r27 =>
     if r27.1.1 then
      some (.inr (.inl (((6 : Int), ()), ((), ()))))
     else
      let v28 := (IntKind.i64.wrap (u15.1.2.2.2.1 + (1 : Int)))
      rec ((u15.1.1, (u15.1.2.1, ((), (v28, ((), (u15.1.2.2.2.2.2.1, (u15.1.2.2.2.2.2.2.1, (u15.1.2.2.2.2.2.2.2.1, ((), (u15.1.2.2.2.2.2.2.2.2.2.1, (u15.1.2.2.2.2.2.2.2.2.2.2.1, (u15.1.2.2.2.2.2.2.2.2.2.2.2.1, ())))))))))))), ((u15.2.1.1, ()), ()))
    else
     some (.inr (.inl (((6 : Int), ()), ((), ()))))
   else
    some (.inr (.inl (((6 : Int), ()), ((), ()))))
  else none
 else
  some (.inl ((u15.1.1, (u15.1.2.1, ((), (u15.1.2.2.2.2.2.1, (u15.1.2.2.2.2.2.2.1, (u15.1.2.2.2.2.2.2.2.1, ((), (u15.1.2.2.2.2.2.2.2.2.2.1, (u15.1.2.2.2.2.2.2.2.2.2.2.1, (u15.1.2.2.2.2.2.2.2.2.2.2.2.1, ())))))))))), ((u15.2.1.1, ()), ())))
def L_ac_15 (x : i_ac_15.den) : Option (denO o_ac_15) := iterF l_ac_15 lots x
abbrev i_ac_4 : Shp := { slots := [(0, .s (.pd Y26)), (3, .s (.dat YI))], boxes := [], rows := [] }
abbrev o_ac_4 : List (Ex × Shp) := [(.exit 0, { slots := [], boxes := [], rows := [] }), (.ret, { slots := [(2, .s (.dat YI))], boxes := [], rows := [] })]
def l_ac_4 (rec : i_ac_4.den → Option (denO o_ac_4)) (u4 : i_ac_4.den) : Option (denO o_ac_4) :=
 let v15 := ((u4.1.1.2.1.length : Nat) : Int)
 if (ltI u4.1.2.1 v15) then
  if 0 ≤ u4.1.2.1 then
   ((u4.1.1.2.1)[(u4.1.2.1).toNat]?).bind fun y16 =>
   (F_z (u4.1.1, y16.1, y16.2.1, ())).bind fun r17 =>
   if (r17.1.1 != (0 : Int)) then
    some (.inr (.inl ((r17.1.1, ()), ((), ()))))
   else
    (F_v (y16.2.2.1, (0 : Int), (23 : Int), ())).bind fun r18 =>
    if (!r18.1.1) = false then
     (F_v (y16.2.2.2.1, (5 : Int), (6 : Int), ())).bind fun r19 =>
     if (!r19.1.1) = false then
      (F_v (y16.2.2.2.2.1, (5 : Int), (6 : Int), ())).bind fun r20 =>
      if (!r20.1.1) then
       some (.inr (.inl (((3 : Int), ()), ((), ()))))
      else
       (F_aa (u4.1.1, y16.2.2.1, ())).bind fun r21 =>
       if (leI (0 : Int) r21.1.1) then
        some (.inr (.inl (((6 : Int), ()), ((), ()))))
       else
        (L_ac_15 ((u4.1.1, (u4.1.2.1, ((), ((0 : Int), ((), (y16.2.2.2.1, (r19.1.1, ((!r19.1.1), ((), (y16.2.2.2.2.1, (r20.1.1, ((!r20.1.1), ())))))))))))), (((y16.1, (y16.2.1, (y16.2.2.1, (y16.2.2.2.1, (y16.2.2.2.2.1, ()))))), ()), ()))).bind fun z29 =>
        match z29 with
        | .inl x30 =>
         let v31 := (IntKind.i64.wrap (x30.1.2.1 + (1 : Int)))
         rec ((x30.1.1, (v31, ())), ((), ()))
        | .inr z29_ =>
         match z29_ with
         | .inl x32 =>
          some (.inr (.inl ((x32.1.1, ()), ((), ()))))
         | .inr z29__ =>
          none
     else
      some (.inr (.inl (((3 : Int), ()), ((), ()))))
    else
     some (.inr (.inl (((3 : Int), ()), ((), ()))))
  else none
 else
  some (.inl ((), ((), ())))
def L_ac_4 (x : i_ac_4.den) : Option (denO o_ac_4) := iterF l_ac_4 lots x
def F_ac (x : denP P_ac) : Option (denV R_ac × denQ P_ac) :=
 let v1 := ((x.1.2.1.length : Nat) : Int)
 if (ltI (4 : Int) v1) = false then
  let v2 := ((x.1.2.2.1.length : Nat) : Int)
  if (ltI (4 : Int) v2) then
   some (((2 : Int), ()), ())
  else
   (L_ac_4 ((x.1, ((0 : Int), ())), ((), ()))).bind fun z33 =>
   match z33 with
   | .inl x34 =>
    some (((0 : Int), ()), ())
   | .inr z33_ =>
    match z33_ with
    | .inl x35 =>
     some ((x35.1.1, ()), ())
    | .inr z33__ =>
     none
 else
  some (((2 : Int), ()), ())
abbrev C_ac : Con := ⟨P_ac, R_ac, F_ac, false⟩
abbrev G_ac : Env := [(45, C_v), (104, C_z), (105, C_aa), (106, C_ab)]
theorem g_ac : EnvOk Tryz.prog G_ac := (env_cons s_v (env_cons s_z (env_cons s_aa (env_cons s_ab env_nil))))
abbrev c_ac_15 : Cut := ⟨i_ac_15, o_ac_15, fun x => iterF l_ac_15 lots x⟩
theorem t_ac_15 (rec x) : run T G_ac [] (nav Tryz.f81 [1, 1, 0, 1, 0, 0, 1, 0, 0, 1, 1, 1, 1, 1, 0, 0]) (mk 101 i_ac_15 x) (loopK i_ac_15 o_ac_15 rec) = l_ac_15 rec x := by kernel_rfl
theorem k_ac_15 : CutOk Tryz.prog 101 (.loop (nav Tryz.f81 [1, 1, 0, 1, 0, 0, 1, 0, 0, 1, 1, 1, 1, 1, 0, 0])) c_ac_15 :=
  loop_cut (L := []) hT g_ac t_ac_15 okP _
abbrev c_ac_4 : Cut := ⟨i_ac_4, o_ac_4, fun x => iterF l_ac_4 lots x⟩
theorem t_ac_4 (rec x) : run T G_ac [(15, c_ac_15)] (nav Tryz.f81 [1, 1, 0, 1, 0, 0]) (mk 101 i_ac_4 x) (loopK i_ac_4 o_ac_4 rec) = l_ac_4 rec x := by kernel_rfl
theorem k_ac_4 : CutOk Tryz.prog 101 (.loop (nav Tryz.f81 [1, 1, 0, 1, 0, 0])) c_ac_4 :=
  loop_cut (L := [(15, c_ac_15)]) hT g_ac t_ac_4 (okS okP (okS (okB (okS okP (okS okP (okS okP (okS okP (okS okP (okB (okU k_ac_15)))))))) okP)) _
theorem r_ac (x) : runFn T G_ac [(15, c_ac_15), (4, c_ac_4)] Tryz.f81 C_ac.ps C_ac.rs x = C_ac.F x := by kernel_rfl
theorem s_ac : CallsOk Tryz.prog 81 C_ac := fnC (L := [(15, c_ac_15), (4, c_ac_4)]) hT g_ac Tryz.f81 (okS okP (okS okP (okS (okS okP (okB (okU k_ac_4))) okP))) r_ac
/-! spec.l6Rest -/
abbrev P_ad : List PK := [.ptr Y26]
abbrev R_ad : List VK := [.s (.dat YI)]
abbrev i_ad_9 : Shp := { slots := [(0, .s (.pd Y26)), (3, .s (.dat YI)), (4, .s (.ptr 4 0)), (6, .s (.dat YI))], boxes := [(4, [.dat YI, .dat YI])], rows := [] }
abbrev o_ad_9 : List (Ex × Shp) := [(.exit 2, { slots := [(0, .s (.pd Y26)), (3, .s (.dat YI))], boxes := [], rows := [] }), (.ret, { slots := [(2, .s (.dat YI))], boxes := [], rows := [] })]
def l_ad_9 (rec : i_ad_9.den → Option (denO o_ad_9)) (u9 : i_ad_9.den) : Option (denO o_ad_9) :=
 if (ltI u9.1.2.2.2.1 u9.1.2.1) then
  if 0 ≤ u9.1.2.2.2.1 then
   ((u9.1.1.2.2.1)[(u9.1.2.2.2.1).toNat]?).bind fun y11 =>
   if ((y11.1 == u9.2.1.1.1) && ((y11.2.1 == u9.2.1.1.2.1) && true)) then
    some (.inr (.inl (((6 : Int), ()), ((), ()))))
   else
    let v12 := (IntKind.i64.wrap (u9.1.2.2.2.1 + (1 : Int)))
    rec ((u9.1.1, (u9.1.2.1, ((), (v12, ())))), ((u9.2.1.1, ()), ()))
  else none
 else
  some (.inl ((u9.1.1, (u9.1.2.1, ())), ((), ())))
def L_ad_9 (x : i_ad_9.den) : Option (denO o_ad_9) := iterF l_ad_9 lots x
abbrev i_ad_16 : Shp := { slots := [(0, .s (.pd Y26)), (7, .s (.dat YI))], boxes := [], rows := [] }
abbrev o_ad_16 : List (Ex × Shp) := [(.exit 4, { slots := [], boxes := [], rows := [] }), (.ret, { slots := [(2, .s (.dat YI))], boxes := [], rows := [] })]
def l_ad_16 (rec : i_ad_16.den → Option (denO o_ad_16)) (u16 : i_ad_16.den) : Option (denO o_ad_16) :=
 let v25 := ((u16.1.1.2.2.2.1.length : Nat) : Int)
 if (ltI u16.1.2.1 v25) then
  if 0 ≤ u16.1.2.1 then
   ((u16.1.1.2.2.2.1)[(u16.1.2.1).toNat]?).bind fun y26 =>
   (F_y (u16.1.1, y26.1, ())).bind fun r27 =>
   if (!r27.1.1) then
    some (.inr (.inl (((4 : Int), ()), ((), ()))))
   else
    if 0 ≤ u16.1.2.1 then
     ((u16.1.1.2.2.2.1)[(u16.1.2.1).toNat]?).bind fun y28 =>
     (F_v (y28.2.1, (1 : Int), (50 : Int), ())).bind fun r29 =>
     if (!r29.1.1) then
      some (.inr (.inl (((3 : Int), ()), ((), ()))))
     else
      let v30 := (IntKind.i64.wrap (u16.1.2.1 + (1 : Int)))
      rec ((u16.1.1, (v30, ())), ((), ()))
    else none
  else none
 else
  some (.inl ((), ((), ())))
def L_ad_16 (x : i_ad_16.den) : Option (denO o_ad_16) := iterF l_ad_16 lots x
abbrev i_ad_2 : Shp := { slots := [(0, .s (.pd Y26)), (3, .s (.dat YI))], boxes := [], rows := [] }
abbrev o_ad_2 : List (Ex × Shp) := [(.exit 0, { slots := [(0, .s (.pd Y26))], boxes := [], rows := [] }), (.ret, { slots := [(2, .s (.dat YI))], boxes := [], rows := [] })]
def l_ad_2 (rec : i_ad_2.den → Option (denO o_ad_2)) (u2 : i_ad_2.den) : Option (denO o_ad_2) :=
 let v7 := ((u2.1.1.2.2.1.length : Nat) : Int)
 if (ltI u2.1.2.1 v7) then
  if 0 ≤ u2.1.2.1 then
   ((u2.1.1.2.2.1)[(u2.1.2.1).toNat]?).bind fun y8 =>
   (F_z (u2.1.1, y8.1, y8.2.1, ())).bind fun r9 =>
   if (r9.1.1 != (0 : Int)) then
    some (.inr (.inl ((r9.1.1, ()), ((), ()))))
   else
    (L_ad_9 ((u2.1.1, (u2.1.2.1, ((), ((0 : Int), ())))), (((y8.1, (y8.2.1, ())), ()), ()))).bind fun z13 =>
    match z13 with
    | .inl x14 =>
     let v15 := (IntKind.i64.wrap (x14.1.2.1 + (1 : Int)))
     rec ((x14.1.1, (v15, ())), ((), ()))
    | .inr z13_ =>
     match z13_ with
     | .inl x16 =>
      some (.inr (.inl ((x16.1.1, ()), ((), ()))))
     | .inr z13__ =>
      none
  else none
 else
  some (.inl ((u2.1.1, ()), ((), ())))
def L_ad_2 (x : i_ad_2.den) : Option (denO o_ad_2) := iterF l_ad_2 lots x
def F_ad (x : denP P_ad) : Option (denV R_ad × denQ P_ad) :=
 (L_ad_2 ((x.1, ((0 : Int), ())), ((), ()))).bind fun z17 =>
 match z17 with
 | .inl x18 =>
  let v19 := ((x18.1.1.2.2.2.1.length : Nat) : Int)
  if (ltI v19 (1 : Int)) = false then
   let v20 := ((x18.1.1.2.2.2.1.length : Nat) : Int)
   if (ltI (8 : Int) v20) then
    some (((2 : Int), ()), ())
   else
    (L_ad_16 ((x18.1.1, ((0 : Int), ())), ((), ()))).bind fun z31 =>
    match z31 with
    | .inl x32 =>
     some (((0 : Int), ()), ())
    | .inr z31_ =>
     match z31_ with
     | .inl x33 =>
      some ((x33.1.1, ()), ())
     | .inr z31__ =>
      none
  else
   some (((2 : Int), ()), ())
 | .inr z17_ =>
  match z17_ with
  | .inl x34 =>
   some ((x34.1.1, ()), ())
  | .inr z17__ =>
   none
abbrev C_ad : Con := ⟨P_ad, R_ad, F_ad, false⟩
abbrev G_ad : Env := [(17, C_y), (45, C_v), (104, C_z)]
theorem g_ad : EnvOk Tryz.prog G_ad := (env_cons s_y (env_cons s_v (env_cons s_z env_nil)))
abbrev c_ad_9 : Cut := ⟨i_ad_9, o_ad_9, fun x => iterF l_ad_9 lots x⟩
theorem t_ad_9 (rec x) : run T G_ad [] (nav Tryz.f82 [1, 0, 1, 0, 0, 1, 0, 0, 1, 1, 1, 0, 0]) (mk 91 i_ad_9 x) (loopK i_ad_9 o_ad_9 rec) = l_ad_9 rec x := by kernel_rfl
theorem k_ad_9 : CutOk Tryz.prog 91 (.loop (nav Tryz.f82 [1, 0, 1, 0, 0, 1, 0, 0, 1, 1, 1, 0, 0])) c_ad_9 :=
  loop_cut (L := []) hT g_ad t_ad_9 okP _
abbrev c_ad_16 : Cut := ⟨i_ad_16, o_ad_16, fun x => iterF l_ad_16 lots x⟩
theorem t_ad_16 (rec x) : run T G_ad [] (nav Tryz.f82 [1, 1, 1, 0, 1, 0, 0]) (mk 91 i_ad_16 x) (loopK i_ad_16 o_ad_16 rec) = l_ad_16 rec x := by kernel_rfl
theorem k_ad_16 : CutOk Tryz.prog 91 (.loop (nav Tryz.f82 [1, 1, 1, 0, 1, 0, 0])) c_ad_16 :=
  loop_cut (L := []) hT g_ad t_ad_16 okP _
abbrev c_ad_2 : Cut := ⟨i_ad_2, o_ad_2, fun x => iterF l_ad_2 lots x⟩
theorem t_ad_2 (rec x) : run T G_ad [(9, c_ad_9)] (nav Tryz.f82 [1, 0, 1, 0, 0]) (mk 91 i_ad_2 x) (loopK i_ad_2 o_ad_2 rec) = l_ad_2 rec x := by kernel_rfl
theorem k_ad_2 : CutOk Tryz.prog 91 (.loop (nav Tryz.f82 [1, 0, 1, 0, 0])) c_ad_2 :=
  loop_cut (L := [(9, c_ad_9)]) hT g_ad t_ad_2 (okS okP (okS (okB (okS okP (okS okP (okS okP (okB (okU k_ad_9)))))) okP)) _
theorem r_ad (x) : runFn T G_ad [(9, c_ad_9), (16, c_ad_16), (2, c_ad_2)] Tryz.f82 C_ad.ps C_ad.rs x = C_ad.F x := by kernel_rfl
theorem s_ad : CallsOk Tryz.prog 82 C_ad := fnC (L := [(9, c_ad_9), (16, c_ad_16), (2, c_ad_2)]) hT g_ad Tryz.f82 (okS okP (okS (okS okP (okB (okU k_ad_2))) (okS okP (okS (okS okP (okB (okU k_ad_16))) okP)))) r_ad
/-! spec.l6Fault -/
abbrev P_ae : List PK := [.ptr Y26]
abbrev R_ae : List VK := [.s (.dat YI)]
def F_ae (x : denP P_ae) : Option (denV R_ae × denQ P_ae) :=
 (F_x (x.1, ())).bind fun r1 =>
 if (r1.1.1 != (0 : Int)) then
  some ((r1.1.1, ()), ())
 else
  (F_ac (x.1, ())).bind fun r2 =>
  if (r2.1.1 != (0 : Int)) then
   some ((r2.1.1, ()), ())
  else
   (F_ad (x.1, ())).bind fun r3 =>
   some ((r3.1.1, ()), ())
abbrev C_ae : Con := ⟨P_ae, R_ae, F_ae, false⟩
abbrev G_ae : Env := [(80, C_x), (81, C_ac), (82, C_ad)]
theorem g_ae : EnvOk Tryz.prog G_ae := (env_cons s_x (env_cons s_ac (env_cons s_ad env_nil)))
theorem r_ae (x) : runFn T G_ae [] Tryz.f42 C_ae.ps C_ae.rs x = C_ae.F x := by kernel_rfl
theorem s_ae : CallsOk Tryz.prog 42 C_ae := fnC (L := []) hT g_ae Tryz.f42 okP r_ae
/-! spec.MemoryFault -/
abbrev P_af : List PK := [.val Y28]
abbrev R_af : List VK := [.s (.dat YI)]
abbrev i_af_4 : Shp := { slots := [(0, .s (.dat Y28)), (3, .s (.dat YI))], boxes := [], rows := [] }
abbrev o_af_4 : List (Ex × Shp) := [(.exit 0, { slots := [], boxes := [], rows := [] }), (.ret, { slots := [(2, .s (.dat YI))], boxes := [], rows := [] })]
def l_af_4 (rec : i_af_4.den → Option (denO o_af_4)) (u4 : i_af_4.den) : Option (denO o_af_4) :=
 let v7 := ((u4.1.1.length : Nat) : Int)
 if (ltI u4.1.2.1 v7) then
  if 0 ≤ u4.1.2.1 then
   ((u4.1.1)[(u4.1.2.1).toNat]?).bind fun y8 =>
   (F_v (y8, (0 : Int), (4294967295 : Int), ())).bind fun r9 =>
   if (!r9.1.1) then
    some (.inr (.inl (((3 : Int), ()), ((), ()))))
   else
    let v10 := (IntKind.i64.wrap (u4.1.2.1 + (1 : Int)))
    rec ((u4.1.1, (v10, ())), ((), ()))
  else none
 else
  some (.inl ((), ((), ())))
def L_af_4 (x : i_af_4.den) : Option (denO o_af_4) := iterF l_af_4 lots x
def F_af (x : denP P_af) : Option (denV R_af × denQ P_af) :=
 let v1 := ((x.1.length : Nat) : Int)
 let v2 := ((v1).tmod (8 : Int))
 if (v2 != (0 : Int)) = false then
  let v3 := ((x.1.length : Nat) : Int)
  if (ltI v3 (8 : Int)) = false then
   let v4 := ((x.1.length : Nat) : Int)
   if (ltI (192 : Int) v4) then
    some (((1 : Int), ()), ())
   else
    (L_af_4 ((x.1, ((0 : Int), ())), ((), ()))).bind fun z11 =>
    match z11 with
    | .inl x12 =>
     some (((0 : Int), ()), ())
    | .inr z11_ =>
     match z11_ with
     | .inl x13 =>
      some ((x13.1.1, ()), ())
     | .inr z11__ =>
      none
  else
   some (((1 : Int), ()), ())
 else
  some (((1 : Int), ()), ())
abbrev C_af : Con := ⟨P_af, R_af, F_af, false⟩
abbrev G_af : Env := [(45, C_v)]
theorem g_af : EnvOk Tryz.prog G_af := (env_cons s_v env_nil)
abbrev c_af_4 : Cut := ⟨i_af_4, o_af_4, fun x => iterF l_af_4 lots x⟩
theorem t_af_4 (rec x) : run T G_af [] (nav Tryz.f83 [1, 1, 0, 1, 0, 0]) (mk 30 i_af_4 x) (loopK i_af_4 o_af_4 rec) = l_af_4 rec x := by kernel_rfl
theorem k_af_4 : CutOk Tryz.prog 30 (.loop (nav Tryz.f83 [1, 1, 0, 1, 0, 0])) c_af_4 :=
  loop_cut (L := []) hT g_af t_af_4 okP _
theorem r_af (x) : runFn T G_af [(4, c_af_4)] Tryz.f83 C_af.ps C_af.rs x = C_af.F x := by kernel_rfl
theorem s_af : CallsOk Tryz.prog 83 C_af := fnC (L := [(4, c_af_4)]) hT g_af Tryz.f83 (okS okP (okS okP (okS (okS okP (okB (okU k_af_4))) okP))) r_af
/-! spec.l7Whole -/
abbrev P_ag : List PK := [.val Y28]
abbrev R_ag : List VK := [.s (.dat .bool)]
def F_ag (x : denP P_ag) : Option (denV R_ag × denQ P_ag) :=
 (F_af (x.1, ())).bind fun r1 =>
 if (r1.1.1 == (0 : Int)) = true then
  let v2 := ((x.1.length : Nat) : Int)
  some (((v2 == (192 : Int)), ()), ())
 else
  some ((false, ()), ())
abbrev C_ag : Con := ⟨P_ag, R_ag, F_ag, false⟩
abbrev G_ag : Env := [(83, C_af)]
theorem g_ag : EnvOk Tryz.prog G_ag := (env_cons s_af env_nil)
theorem r_ag (x) : runFn T G_ag [] Tryz.f43 C_ag.ps C_ag.rs x = C_ag.F x := by kernel_rfl
theorem s_ag : CallsOk Tryz.prog 43 C_ag := fnC (L := []) hT g_ag Tryz.f43 okP r_ag
/-! spec.l8Word -/
abbrev P_ah : List PK := [.val YI]
abbrev R_ah : List VK := [.s (.dat .bool)]
def F_ah (x : denP P_ah) : Option (denV R_ah × denQ P_ah) :=
 (F_v (x.1, (0 : Int), (4294967295 : Int), ())).bind fun r1 =>
 some ((r1.1.1, ()), ())
abbrev C_ah : Con := ⟨P_ah, R_ah, F_ah, false⟩
abbrev G_ah : Env := [(45, C_v)]
theorem g_ah : EnvOk Tryz.prog G_ah := (env_cons s_v env_nil)
theorem r_ah (x) : runFn T G_ah [] Tryz.f85 C_ah.ps C_ah.rs x = C_ah.F x := by kernel_rfl
theorem s_ah : CallsOk Tryz.prog 85 C_ah := fnC (L := []) hT g_ah Tryz.f85 okP r_ah
/-! spec.l8All -/
abbrev P_ai : List PK := [.val Y28]
abbrev R_ai : List VK := [.s (.dat .bool)]
abbrev i_ai_2 : Shp := { slots := [(0, .s (.dat Y28)), (3, .s (.dat YI))], boxes := [], rows := [] }
abbrev o_ai_2 : List (Ex × Shp) := [(.exit 0, { slots := [], boxes := [], rows := [] }), (.ret, { slots := [(2, .s (.dat .bool))], boxes := [], rows := [] })]
def l_ai_2 (rec : i_ai_2.den → Option (denO o_ai_2)) (u2 : i_ai_2.den) : Option (denO o_ai_2) :=
 let v3 := ((u2.1.1.length : Nat) : Int)
 if (ltI u2.1.2.1 v3) then
  if 0 ≤ u2.1.2.1 then
   ((u2.1.1)[(u2.1.2.1).toNat]?).bind fun y4 =>
   (F_ah (y4, ())).bind fun r5 =>
   if (!r5.1.1) then
    some (.inr (.inl ((false, ()), ((), ()))))
   else
    let v6 := (IntKind.i64.wrap (u2.1.2.1 + (1 : Int)))
    rec ((u2.1.1, (v6, ())), ((), ()))
  else none
 else
  some (.inl ((), ((), ())))
def L_ai_2 (x : i_ai_2.den) : Option (denO o_ai_2) := iterF l_ai_2 lots x
def F_ai (x : denP P_ai) : Option (denV R_ai × denQ P_ai) :=
 (L_ai_2 ((x.1, ((0 : Int), ())), ((), ()))).bind fun z7 =>
 match z7 with
 | .inl x8 =>
  some ((true, ()), ())
 | .inr z7_ =>
  match z7_ with
  | .inl x9 =>
   some ((x9.1.1, ()), ())
  | .inr z7__ =>
   none
abbrev C_ai : Con := ⟨P_ai, R_ai, F_ai, false⟩
abbrev G_ai : Env := [(85, C_ah)]
theorem g_ai : EnvOk Tryz.prog G_ai := (env_cons s_ah env_nil)
abbrev c_ai_2 : Cut := ⟨i_ai_2, o_ai_2, fun x => iterF l_ai_2 lots x⟩
theorem t_ai_2 (rec x) : run T G_ai [] (nav Tryz.f84 [1, 0, 1, 0, 0]) (mk 16 i_ai_2 x) (loopK i_ai_2 o_ai_2 rec) = l_ai_2 rec x := by kernel_rfl
theorem k_ai_2 : CutOk Tryz.prog 16 (.loop (nav Tryz.f84 [1, 0, 1, 0, 0])) c_ai_2 :=
  loop_cut (L := []) hT g_ai t_ai_2 okP _
theorem r_ai (x) : runFn T G_ai [(2, c_ai_2)] Tryz.f84 C_ai.ps C_ai.rs x = C_ai.F x := by kernel_rfl
theorem s_ai : CallsOk Tryz.prog 84 C_ai := fnC (L := [(2, c_ai_2)]) hT g_ai Tryz.f84 (okS okP (okS (okS okP (okB (okU k_ai_2))) okP)) r_ai
/-! spec.l8Fault -/
abbrev P_aj : List PK := [.ptr Y33]
abbrev R_aj : List VK := [.s (.dat YI)]
def F_aj (x : denP P_aj) : Option (denV R_aj × denQ P_aj) :=
 let v1 := ((x.1.1.length : Nat) : Int)
 if (v1 != (16 : Int)) = false then
  let v2 := ((x.1.2.2.1.length : Nat) : Int)
  if (v2 != (11 : Int)) = false then
   ((x.1.1)[((0 : Int)).toNat]?).bind fun y3 =>
   if (y3 != (0 : Int)) then
    some (((1 : Int), ()), ())
   else
    (F_ai (x.1.1, ())).bind fun r4 =>
    if (!r4.1.1) = false then
     (F_ah (x.1.2.1, ())).bind fun r5 =>
     if (!r5.1.1) = false then
      (F_ai (x.1.2.2.1, ())).bind fun r6 =>
      if (!r6.1.1) = false then
       (F_ai (x.1.2.2.2.2.2.2.2.1, ())).bind fun r7 =>
       if (!r7.1.1) = false then
        (F_ai (x.1.2.2.2.2.2.2.2.2.1, ())).bind fun r8 =>
        if (!r8.1.1) then
         some (((3 : Int), ()), ())
        else
         let v9 := ((x.1.2.2.2.2.2.2.2.1.length : Nat) : Int)
         if (ltI (40 : Int) v9) = false then
          let v10 := ((x.1.2.2.2.2.2.2.2.2.1.length : Nat) : Int)
          if (ltI (40 : Int) v10) then
           some (((2 : Int), ()), ())
          else
           (F_v (x.1.2.2.2.2.2.2.1, (0 : Int), (1000000000 : Int), ())).bind fun r11 =>
           if (!r11.1.1) then
            some (((3 : Int), ()), ())
           else
            ((x.1.2.2.1)[((0 : Int)).toNat]?).bind fun y12 =>
            if (ltI (3 : Int) y12) = false then
             ((x.1.2.2.1)[((7 : Int)).toNat]?).bind fun y13 =>
             if (ltI (7 : Int) y13) = false then
              ((x.1.2.2.1)[((10 : Int)).toNat]?).bind fun y14 =>
              if (ltI (8 : Int) y14) = false then
               ((x.1.2.2.1)[((6 : Int)).toNat]?).bind fun y15 =>
               if (y15 != (0 : Int)) = false then
                ((x.1.2.2.1)[((8 : Int)).toNat]?).bind fun y16 =>
                if (y16 != (0 : Int)) then
                 some (((1 : Int), ()), ())
                else
                 some (((0 : Int), ()), ())
               else
                some (((1 : Int), ()), ())
              else
               some (((1 : Int), ()), ())
             else
              some (((1 : Int), ()), ())
            else
             some (((1 : Int), ()), ())
         else
          some (((2 : Int), ()), ())
       else
        some (((3 : Int), ()), ())
      else
       some (((3 : Int), ()), ())
     else
      some (((3 : Int), ()), ())
    else
     some (((3 : Int), ()), ())
  else
   some (((1 : Int), ()), ())
 else
  some (((1 : Int), ()), ())
abbrev C_aj : Con := ⟨P_aj, R_aj, F_aj, false⟩
abbrev G_aj : Env := [(45, C_v), (84, C_ai), (85, C_ah)]
theorem g_aj : EnvOk Tryz.prog G_aj := (env_cons s_v (env_cons s_ai (env_cons s_ah env_nil)))
theorem r_aj (x) : runFn T G_aj [] Tryz.f44 C_aj.ps C_aj.rs x = C_aj.F x := by kernel_rfl
theorem s_aj : CallsOk Tryz.prog 44 C_aj := fnC (L := []) hT g_aj Tryz.f44 okP r_aj
/-! spec.l12Turn -/
abbrev P_ak : List PK := [.ptr Y26, .val YI]
abbrev R_ak : List VK := [.s (.dat YI), .s (.dat YI)]
abbrev i_ak_8 : Shp := { slots := [(0, .s (.pd Y26)), (8, .s (.dat YI)), (9, .s (.dat YI))], boxes := [], rows := [] }
abbrev o_ak_8 : List (Ex × Shp) := [(.exit 2, { slots := [(0, .s (.pd Y26)), (8, .s (.dat YI)), (9, .s (.dat YI))], boxes := [], rows := [] })]
def l_ak_8 (rec : i_ak_8.den → Option (denO o_ak_8)) (u8 : i_ak_8.den) : Option (denO o_ak_8) :=
 if 0 ≤ u8.1.2.2.1 then
  ((u8.1.1.2.2.2.1)[(u8.1.2.2.1).toNat]?).bind fun y11 =>
  if (leI y11.2.1 u8.1.2.1) then
   if 0 ≤ u8.1.2.2.1 then
    ((u8.1.1.2.2.2.1)[(u8.1.2.2.1).toNat]?).bind fun y12 =>
    let v13 := (IntKind.i64.wrap (u8.1.2.1 - y12.2.1))
    let v14 := (IntKind.i64.wrap (u8.1.2.2.1 + (1 : Int)))
    rec ((u8.1.1, (v13, (v14, ()))), ((), ()))
   else none
  else
   some (.inl ((u8.1.1, (u8.1.2.1, (u8.1.2.2.1, ()))), ((), ())))
 else none
def L_ak_8 (x : i_ak_8.den) : Option (denO o_ak_8) := iterF l_ak_8 lots x
abbrev i_ak_3 : Shp := { slots := [(0, .s (.pd Y26)), (1, .s (.dat YI)), (6, .s (.dat YI)), (7, .s (.dat YI))], boxes := [], rows := [] }
abbrev o_ak_3 : List (Ex × Shp) := [(.exit 0, { slots := [(0, .s (.pd Y26)), (1, .s (.dat YI)), (6, .s (.dat YI))], boxes := [], rows := [] })]
def l_ak_3 (rec : i_ak_3.den → Option (denO o_ak_3)) (u3 : i_ak_3.den) : Option (denO o_ak_3) :=
 let v2 := ((u3.1.1.2.2.2.1.length : Nat) : Int)
 if (ltI u3.1.2.2.2.1 v2) then
  if 0 ≤ u3.1.2.2.2.1 then
   ((u3.1.1.2.2.2.1)[(u3.1.2.2.2.1).toNat]?).bind fun y3 =>
   let v4 := (IntKind.i64.wrap (u3.1.2.2.1 + y3.2.1))
   let v5 := (IntKind.i64.wrap (u3.1.2.2.2.1 + (1 : Int)))
   rec ((u3.1.1, (u3.1.2.1, (v4, (v5, ())))), ((), ()))
  else none
 else
  some (.inl ((u3.1.1, (u3.1.2.1, (u3.1.2.2.1, ()))), ((), ())))
def L_ak_3 (x : i_ak_3.den) : Option (denO o_ak_3) := iterF l_ak_3 lots x
def F_ak (x : denP P_ak) : Option (denV R_ak × denQ P_ak) :=
 (L_ak_3 ((x.1, (x.2.1, ((0 : Int), ((0 : Int), ())))), ((), ()))).bind fun z6 =>
 match z6 with
 | .inl x7 =>
  if x7.1.2.2.1 = 0 then none else
  let v8 := ((x7.1.2.1).tmod x7.1.2.2.1)
  (L_ak_8 ((x7.1.1, (v8, ((0 : Int), ()))), ((), ()))).bind fun z15 =>
  match z15 with
  | .inl x16 =>
   if 0 ≤ x16.1.2.2.1 then
    ((x16.1.1.2.2.2.1)[(x16.1.2.2.1).toNat]?).bind fun y17 =>
    let v18 := (IntKind.i64.wrap (y17.2.1 - x16.1.2.1))
    some ((x16.1.2.2.1, v18, ()), ())
   else none
  | .inr z15_ =>
   none
 | .inr z6_ =>
  none
abbrev C_ak : Con := ⟨P_ak, R_ak, F_ak, false⟩
abbrev G_ak : Env := []
theorem g_ak : EnvOk Tryz.prog G_ak := env_nil
abbrev c_ak_8 : Cut := ⟨i_ak_8, o_ak_8, fun x => iterF l_ak_8 lots x⟩
theorem t_ak_8 (rec x) : run T G_ak [] (nav Tryz.f46 [1, 1, 1, 1, 1, 0, 0, 0]) (mk 65 i_ak_8 x) (loopK i_ak_8 o_ak_8 rec) = l_ak_8 rec x := by kernel_rfl
theorem k_ak_8 : CutOk Tryz.prog 65 (.loop (nav Tryz.f46 [1, 1, 1, 1, 1, 0, 0, 0])) c_ak_8 :=
  loop_cut (L := []) hT g_ak t_ak_8 okP _
abbrev c_ak_3 : Cut := ⟨i_ak_3, o_ak_3, fun x => iterF l_ak_3 lots x⟩
theorem t_ak_3 (rec x) : run T G_ak [] (nav Tryz.f46 [1, 1, 0, 1, 0, 0]) (mk 65 i_ak_3 x) (loopK i_ak_3 o_ak_3 rec) = l_ak_3 rec x := by kernel_rfl
theorem k_ak_3 : CutOk Tryz.prog 65 (.loop (nav Tryz.f46 [1, 1, 0, 1, 0, 0])) c_ak_3 :=
  loop_cut (L := []) hT g_ak t_ak_3 okP _
theorem r_ak (x) : runFn T G_ak [(8, c_ak_8), (3, c_ak_3)] Tryz.f46 C_ak.ps C_ak.rs x = C_ak.F x := by kernel_rfl
theorem s_ak : CallsOk Tryz.prog 46 C_ak := fnC (L := [(8, c_ak_8), (3, c_ak_3)]) hT g_ak Tryz.f46 (okS okP (okS okP (okS (okS okP (okB (okU k_ak_3))) (okS okP (okS okP (okS (okB (okU k_ak_8)) okP)))))) r_ak
/-! spec.l12Fault -/
abbrev P_al : List PK := [.ptr Y30]
abbrev R_al : List VK := [.s (.dat YI)]
abbrev i_al_7 : Shp := { slots := [(0, .s (.pd Y30)), (4, .s (.dat YI))], boxes := [], rows := [] }
abbrev o_al_7 : List (Ex × Shp) := [(.exit 0, { slots := [(0, .s (.pd Y30))], boxes := [], rows := [] }), (.ret, { slots := [(2, .s (.dat YI))], boxes := [], rows := [] })]
def l_al_7 (rec : i_al_7.den → Option (denO o_al_7)) (u7 : i_al_7.den) : Option (denO o_al_7) :=
 let v7 := ((u7.1.1.2.2.1.length : Nat) : Int)
 if (ltI u7.1.2.1 v7) then
  if 0 ≤ u7.1.2.1 then
   ((u7.1.1.2.2.1)[(u7.1.2.1).toNat]?).bind fun y8 =>
   (F_aj (y8, ())).bind fun r9 =>
   if (r9.1.1 != (0 : Int)) then
    some (.inr (.inl ((r9.1.1, ()), ((), ()))))
   else
    let v10 := (IntKind.i64.wrap (u7.1.2.1 + (1 : Int)))
    rec ((u7.1.1, (v10, ())), ((), ()))
  else none
 else
  some (.inl ((u7.1.1, ()), ((), ())))
def L_al_7 (x : i_al_7.den) : Option (denO o_al_7) := iterF l_al_7 lots x
def F_al (x : denP P_al) : Option (denV R_al × denQ P_al) :=
 (F_ae (x.1.1, ())).bind fun r1 =>
 if (r1.1.1 != (0 : Int)) then
  some ((r1.1.1, ()), ())
 else
  (F_ag (x.1.2.1, ())).bind fun r2 =>
  if (!r2.1.1) = false then
   let v3 := ((x.1.2.2.1.length : Nat) : Int)
   let v4 := ((x.1.1.1.length : Nat) : Int)
   if (v3 != v4) then
    some (((1 : Int), ()), ())
   else
    (L_al_7 ((x.1, ((0 : Int), ())), ((), ()))).bind fun z11 =>
    match z11 with
    | .inl x12 =>
     (F_v (x12.1.1.2.2.2.2.2.1, (0 : Int), (1000000 : Int), ())).bind fun r13 =>
     if (!r13.1.1) then
      some (((3 : Int), ()), ())
     else
      (F_ak (x12.1.1.1, x12.1.1.2.2.2.2.2.1, ())).bind fun r14 =>
      if (x12.1.1.2.2.2.1 != r14.1.1) = false then
       if (x12.1.1.2.2.2.2.1 != r14.1.2.1) then
        some (((1 : Int), ()), ())
       else
        some (((0 : Int), ()), ())
      else
       some (((1 : Int), ()), ())
    | .inr z11_ =>
     match z11_ with
     | .inl x15 =>
      some ((x15.1.1, ()), ())
     | .inr z11__ =>
      none
  else
   some (((1 : Int), ()), ())
abbrev C_al : Con := ⟨P_al, R_al, F_al, false⟩
abbrev G_al : Env := [(42, C_ae), (43, C_ag), (44, C_aj), (45, C_v), (46, C_ak)]
theorem g_al : EnvOk Tryz.prog G_al := (env_cons s_ae (env_cons s_ag (env_cons s_aj (env_cons s_v (env_cons s_ak env_nil)))))
abbrev c_al_7 : Cut := ⟨i_al_7, o_al_7, fun x => iterF l_al_7 lots x⟩
theorem t_al_7 (rec x) : run T G_al [] (nav Tryz.f16 [1, 1, 1, 0, 1, 0, 0]) (mk 85 i_al_7 x) (loopK i_al_7 o_al_7 rec) = l_al_7 rec x := by kernel_rfl
theorem k_al_7 : CutOk Tryz.prog 85 (.loop (nav Tryz.f16 [1, 1, 1, 0, 1, 0, 0])) c_al_7 :=
  loop_cut (L := []) hT g_al t_al_7 okP _
theorem r_al (x) : runFn T G_al [(7, c_al_7)] Tryz.f16 C_al.ps C_al.rs x = C_al.F x := by kernel_rfl
theorem s_al : CallsOk Tryz.prog 16 C_al := fnC (L := [(7, c_al_7)]) hT g_al Tryz.f16 (okS okP (okS okP (okS okP (okS (okS okP (okB (okU k_al_7))) okP)))) r_al
/-! spec.l8Copy -/
abbrev P_am : List PK := [.val Y33]
abbrev R_am : List VK := [.g [.own 2 YI, .dat YI, .own 2 YI, .dat .bool, .dat .bool, .dat .bool, .dat YI, .own 2 YI, .own 2 YI]]
def F_am (x : denP P_am) : Option (denV R_am × denQ P_am) :=
 if (([] : List (den YI)).length + x.1.1.length) * 8 ≤ 140737488355328 then
  let v1 := (([] : List (den YI)) ++ x.1.1)
  if (([] : List (den YI)).length + x.1.2.2.1.length) * 8 ≤ 140737488355328 then
   let v2 := (([] : List (den YI)) ++ x.1.2.2.1)
   if (([] : List (den YI)).length + x.1.2.2.2.2.2.2.2.1.length) * 8 ≤ 140737488355328 then
    let v3 := (([] : List (den YI)) ++ x.1.2.2.2.2.2.2.2.1)
    if (([] : List (den YI)).length + x.1.2.2.2.2.2.2.2.2.1.length) * 8 ≤ 140737488355328 then
     let v4 := (([] : List (den YI)) ++ x.1.2.2.2.2.2.2.2.2.1)
     some (((v1, (x.1.2.1, (v2, (x.1.2.2.2.1, (x.1.2.2.2.2.1, (x.1.2.2.2.2.2.1, (x.1.2.2.2.2.2.2.1, (v3, (v4, ()))))))))), ()), ())
    else none
   else none
  else none
 else none
abbrev C_am : Con := ⟨P_am, R_am, F_am, false⟩
abbrev G_am : Env := []
theorem g_am : EnvOk Tryz.prog G_am := env_nil
theorem r_am (x) : runFn T G_am [] Tryz.f47 C_am.ps C_am.rs x = C_am.F x := by kernel_rfl
theorem s_am : CallsOk Tryz.prog 47 C_am := fnC (L := []) hT g_am Tryz.f47 okP r_am
/-! spec.l4None -/
abbrev P_an : List PK := []
abbrev R_an : List VK := [.s (.dat Y69)]
def F_an (x : denP P_an) : Option (denV R_an × denQ P_an) :=
 some ((((-1 : Int), ((0 : Int), ())), ()), ())
abbrev C_an : Con := ⟨P_an, R_an, F_an, false⟩
abbrev G_an : Env := []
theorem g_an : EnvOk Tryz.prog G_an := env_nil
theorem r_an (x) : runFn T G_an [] Tryz.f86 C_an.ps C_an.rs x = C_an.F x := by kernel_rfl
theorem s_an : CallsOk Tryz.prog 86 C_an := fnC (L := []) hT g_an Tryz.f86 okP r_an
/-! spec.l7Pages -/
abbrev P_ao : List PK := [.ptr Y26, .val YI]
abbrev R_ao : List VK := [.s (.own 70 Y69)]
abbrev i_ao_11 : Shp := { slots := [(0, .s (.pd Y26)), (1, .s (.dat YI)), (5, .s (.own 70 Y69)), (8, .s (.dat YI))], boxes := [], rows := [] }
abbrev o_ao_11 : List (Ex × Shp) := [(.exit 4, { slots := [(5, .s (.own 70 Y69))], boxes := [], rows := [] })]
def l_ao_11 (rec : i_ao_11.den → Option (denO o_ao_11)) (u11 : i_ao_11.den) : Option (denO o_ao_11) :=
 let v24 := ((u11.1.1.2.1.length : Nat) : Int)
 if (ltI u11.1.2.2.2.1 v24) then
  if 0 ≤ u11.1.2.2.2.1 then
   ((u11.1.1.2.1)[(u11.1.2.2.2.1).toNat]?).bind fun y25 =>
   if (y25.1 == u11.1.2.1) then
    if 0 ≤ y25.2.2.2.1 ∧ y25.2.2.2.1 < ((u11.1.2.2.1.length : Nat) : Int) then
     ((u11.1.2.2.1)[(y25.2.2.2.1).toNat]?).bind fun y26 =>
     let v27 := (u11.1.2.2.1.set (y25.2.2.2.1).toNat (y25.2.2.1, ((3 : Int), ())))
     if (y25.2.1 == u11.1.2.1) then
      if 0 ≤ y25.2.2.2.2.1 ∧ y25.2.2.2.2.1 < ((v27.length : Nat) : Int) then
       ((v27)[(y25.2.2.2.2.1).toNat]?).bind fun y28 =>
       let v29 := (v27.set (y25.2.2.2.2.1).toNat (y25.2.2.1, ((1 : Int), ())))
       let v30 := (IntKind.i64.wrap (u11.1.2.2.2.1 + (1 : Int)))
       rec ((u11.1.1, (u11.1.2.1, (v29, (v30, ())))), ((), ()))
      else none
     else
      let v31 := (IntKind.i64.wrap (u11.1.2.2.2.1 + (1 : Int)))
      rec ((u11.1.1, (u11.1.2.1, (v27, (v31, ())))), ((), ()))
    else none
   else
    if (y25.2.1 == u11.1.2.1) then
     if 0 ≤ y25.2.2.2.2.1 ∧ y25.2.2.2.2.1 < ((u11.1.2.2.1.length : Nat) : Int) then
      ((u11.1.2.2.1)[(y25.2.2.2.2.1).toNat]?).bind fun y32 =>
      let v33 := (u11.1.2.2.1.set (y25.2.2.2.2.1).toNat (y25.2.2.1, ((1 : Int), ())))
      let v34 := (IntKind.i64.wrap (u11.1.2.2.2.1 + (1 : Int)))
      rec ((u11.1.1, (u11.1.2.1, (v33, (v34, ())))), ((), ()))
     else none
    else
     let v35 := (IntKind.i64.wrap (u11.1.2.2.2.1 + (1 : Int)))
     rec ((u11.1.1, (u11.1.2.1, (u11.1.2.2.1, (v35, ())))), ((), ()))
  else none
 else
  some (.inl ((u11.1.2.2.1, ()), ((), ())))
def L_ao_11 (x : i_ao_11.den) : Option (denO o_ao_11) := iterF l_ao_11 lots x
abbrev i_ao_7 : Shp := { slots := [(0, .s (.pd Y26)), (1, .s (.dat YI)), (5, .s (.own 70 Y69)), (7, .s (.dat YI))], boxes := [], rows := [] }
abbrev o_ao_7 : List (Ex × Shp) := [(.exit 2, { slots := [(0, .s (.pd Y26)), (1, .s (.dat YI)), (5, .s (.own 70 Y69))], boxes := [], rows := [] })]
def l_ao_7 (rec : i_ao_7.den → Option (denO o_ao_7)) (u7 : i_ao_7.den) : Option (denO o_ao_7) :=
 if 0 ≤ u7.1.2.1 then
  ((u7.1.1.1)[(u7.1.2.1).toNat]?).bind fun y11 =>
  let v12 := ((y11.length : Nat) : Int)
  if (ltI u7.1.2.2.2.1 v12) then
   if 0 ≤ u7.1.2.1 then
    ((u7.1.1.1)[(u7.1.2.1).toNat]?).bind fun y13 =>
    if 0 ≤ u7.1.2.2.2.1 then
     ((y13)[(u7.1.2.2.2.1).toNat]?).bind fun y14 =>
     if 0 ≤ u7.1.2.2.2.1 ∧ u7.1.2.2.2.1 < ((u7.1.2.2.1.length : Nat) : Int) then
      ((u7.1.2.2.1)[(u7.1.2.2.2.1).toNat]?).bind fun y15 =>
      let v16 := (u7.1.2.2.1.set (u7.1.2.2.2.1).toNat (y14, ((7 : Int), ())))
      let v17 := (IntKind.i64.wrap (u7.1.2.2.2.1 + (1 : Int)))
      rec ((u7.1.1, (u7.1.2.1, (v16, (v17, ())))), ((), ()))
     else none
    else none
   else none
  else
   some (.inl ((u7.1.1, (u7.1.2.1, (u7.1.2.2.1, ()))), ((), ())))
 else none
def L_ao_7 (x : i_ao_7.den) : Option (denO o_ao_7) := iterF l_ao_7 lots x
abbrev i_ao_3 : Shp := { slots := [(0, .s (.pd Y26)), (1, .s (.dat YI)), (5, .s (.own 70 Y69)), (6, .s (.dat YI))], boxes := [], rows := [] }
abbrev o_ao_3 : List (Ex × Shp) := [(.exit 0, { slots := [(0, .s (.pd Y26)), (1, .s (.dat YI)), (5, .s (.own 70 Y69))], boxes := [], rows := [] })]
def l_ao_3 (rec : i_ao_3.den → Option (denO o_ao_3)) (u3 : i_ao_3.den) : Option (denO o_ao_3) :=
 if (ltI u3.1.2.2.2.1 (8 : Int)) then
  (F_an ()).bind fun r2 =>
  if (u3.1.2.2.1.length + [r2.1.1].length) * 16 ≤ 140737488355328 then
   let v3 := (u3.1.2.2.1 ++ [r2.1.1])
   let v4 := (IntKind.i64.wrap (u3.1.2.2.2.1 + (1 : Int)))
   rec ((u3.1.1, (u3.1.2.1, (v3, (v4, ())))), ((), ()))
  else none
 else
  some (.inl ((u3.1.1, (u3.1.2.1, (u3.1.2.2.1, ()))), ((), ())))
def L_ao_3 (x : i_ao_3.den) : Option (denO o_ao_3) := iterF l_ao_3 lots x
def F_ao (x : denP P_ao) : Option (denV R_ao × denQ P_ao) :=
 (L_ao_3 ((x.1, (x.2.1, (([] : List (den Y69)), ((0 : Int), ())))), ((), ()))).bind fun z5 =>
 match z5 with
 | .inl x6 =>
  (L_ao_7 ((x6.1.1, (x6.1.2.1, (x6.1.2.2.1, ((0 : Int), ())))), ((), ()))).bind fun z18 =>
  match z18 with
  | .inl x19 =>
   (L_ao_11 ((x19.1.1, (x19.1.2.1, (x19.1.2.2.1, ((0 : Int), ())))), ((), ()))).bind fun z36 =>
   match z36 with
   | .inl x37 =>
    some ((x37.1.1, ()), ())
   | .inr z36_ =>
    none
  | .inr z18_ =>
   none
 | .inr z5_ =>
  none
abbrev C_ao : Con := ⟨P_ao, R_ao, F_ao, false⟩
abbrev G_ao : Env := [(86, C_an)]
theorem g_ao : EnvOk Tryz.prog G_ao := (env_cons s_an env_nil)
abbrev c_ao_11 : Cut := ⟨i_ao_11, o_ao_11, fun x => iterF l_ao_11 lots x⟩
theorem t_ao_11 (rec x) : run T G_ao [] (nav Tryz.f49 [1, 1, 1, 1, 0, 1, 0, 0]) (mk 84 i_ao_11 x) (loopK i_ao_11 o_ao_11 rec) = l_ao_11 rec x := by kernel_rfl
theorem k_ao_11 : CutOk Tryz.prog 84 (.loop (nav Tryz.f49 [1, 1, 1, 1, 0, 1, 0, 0])) c_ao_11 :=
  loop_cut (L := []) hT g_ao t_ao_11 okP _
abbrev c_ao_7 : Cut := ⟨i_ao_7, o_ao_7, fun x => iterF l_ao_7 lots x⟩
theorem t_ao_7 (rec x) : run T G_ao [] (nav Tryz.f49 [1, 1, 1, 0, 1, 0, 0]) (mk 84 i_ao_7 x) (loopK i_ao_7 o_ao_7 rec) = l_ao_7 rec x := by kernel_rfl
theorem k_ao_7 : CutOk Tryz.prog 84 (.loop (nav Tryz.f49 [1, 1, 1, 0, 1, 0, 0])) c_ao_7 :=
  loop_cut (L := []) hT g_ao t_ao_7 okP _
abbrev c_ao_3 : Cut := ⟨i_ao_3, o_ao_3, fun x => iterF l_ao_3 lots x⟩
theorem t_ao_3 (rec x) : run T G_ao [] (nav Tryz.f49 [1, 1, 0, 1, 0, 0]) (mk 84 i_ao_3 x) (loopK i_ao_3 o_ao_3 rec) = l_ao_3 rec x := by kernel_rfl
theorem k_ao_3 : CutOk Tryz.prog 84 (.loop (nav Tryz.f49 [1, 1, 0, 1, 0, 0])) c_ao_3 :=
  loop_cut (L := []) hT g_ao t_ao_3 okP _
theorem r_ao (x) : runFn T G_ao [(11, c_ao_11), (7, c_ao_7), (3, c_ao_3)] Tryz.f49 C_ao.ps C_ao.rs x = C_ao.F x := by kernel_rfl
theorem s_ao : CallsOk Tryz.prog 49 C_ao := fnC (L := [(11, c_ao_11), (7, c_ao_7), (3, c_ao_3)]) hT g_ao Tryz.f49 (okS okP (okS okP (okS (okS okP (okB (okU k_ao_3))) (okS (okS okP (okB (okU k_ao_7))) (okS (okS okP (okB (okU k_ao_11))) okP))))) r_ao
/-! spec.l11Pages -/
abbrev P_ap : List PK := [.ptr Y26, .val YI]
abbrev R_ap : List VK := [.s (.own 70 Y69)]
abbrev i_ap_3 : Shp := { slots := [(5, .s (.own 70 Y69)), (6, .s (.dat YI))], boxes := [], rows := [] }
abbrev o_ap_3 : List (Ex × Shp) := [(.exit 0, { slots := [(5, .s (.own 70 Y69))], boxes := [], rows := [] })]
def l_ap_3 (rec : i_ap_3.den → Option (denO o_ap_3)) (u3 : i_ap_3.den) : Option (denO o_ap_3) :=
 let v4 := ((u3.1.1.length : Nat) : Int)
 if (ltI u3.1.2.1 v4) then
  if 0 ≤ u3.1.2.1 ∧ u3.1.2.1 < ((u3.1.1.length : Nat) : Int) then
   ((u3.1.1)[(u3.1.2.1).toNat]?).bind fun y5 =>
   if (leI (0 : Int) y5.1) then
    if 0 ≤ u3.1.2.1 ∧ u3.1.2.1 < ((u3.1.1.length : Nat) : Int) then
     ((u3.1.1)[(u3.1.2.1).toNat]?).bind fun y6 =>
     let v7 := (u3.1.1.set (u3.1.2.1).toNat (u3.1.2.1, y6.2))
     let v8 := (IntKind.i64.wrap (u3.1.2.1 + (1 : Int)))
     rec ((v7, (v8, ())), ((), ()))
    else none
   else
    let v9 := (IntKind.i64.wrap (u3.1.2.1 + (1 : Int)))
    rec ((u3.1.1, (v9, ())), ((), ()))
  else none
 else
  some (.inl ((u3.1.1, ()), ((), ())))
def L_ap_3 (x : i_ap_3.den) : Option (denO o_ap_3) := iterF l_ap_3 lots x
def F_ap (x : denP P_ap) : Option (denV R_ap × denQ P_ap) :=
 (F_ao (x.1, x.2.1, ())).bind fun r1 =>
 (L_ap_3 ((r1.1.1, ((0 : Int), ())), ((), ()))).bind fun z10 =>
 match z10 with
 | .inl x11 =>
  some ((x11.1.1, ()), ())
 | .inr z10_ =>
  none
abbrev C_ap : Con := ⟨P_ap, R_ap, F_ap, false⟩
abbrev G_ap : Env := [(49, C_ao)]
theorem g_ap : EnvOk Tryz.prog G_ap := (env_cons s_ao env_nil)
abbrev c_ap_3 : Cut := ⟨i_ap_3, o_ap_3, fun x => iterF l_ap_3 lots x⟩
theorem t_ap_3 (rec x) : run T G_ap [] (nav Tryz.f48 [1, 1, 0, 1, 0, 0]) (mk 28 i_ap_3 x) (loopK i_ap_3 o_ap_3 rec) = l_ap_3 rec x := by kernel_rfl
theorem k_ap_3 : CutOk Tryz.prog 28 (.loop (nav Tryz.f48 [1, 1, 0, 1, 0, 0])) c_ap_3 :=
  loop_cut (L := []) hT g_ap t_ap_3 okP _
theorem r_ap (x) : runFn T G_ap [(3, c_ap_3)] Tryz.f48 C_ap.ps C_ap.rs x = C_ap.F x := by kernel_rfl
theorem s_ap : CallsOk Tryz.prog 48 C_ap := fnC (L := [(3, c_ap_3)]) hT g_ap Tryz.f48 (okS okP (okS okP (okS (okS okP (okB (okU k_ap_3))) okP))) r_ap
/-! spec.l7Words -/
abbrev P_aq : List PK := [.val Y28, .val Y28]
abbrev R_aq : List VK := [.s (.own 2 YI)]
abbrev i_aq_3 : Shp := { slots := [(0, .s (.dat Y28)), (1, .s (.dat Y28)), (5, .s (.own 2 YI)), (6, .s (.dat YI))], boxes := [], rows := [] }
abbrev o_aq_3 : List (Ex × Shp) := [(.exit 0, { slots := [(5, .s (.own 2 YI))], boxes := [], rows := [] })]
def l_aq_3 (rec : i_aq_3.den → Option (denO o_aq_3)) (u3 : i_aq_3.den) : Option (denO o_aq_3) :=
 let v3 := ((u3.1.2.1.length : Nat) : Int)
 if (ltI u3.1.2.2.2.1 v3) then
  if 0 ≤ u3.1.2.2.2.1 then
   ((u3.1.2.1)[(u3.1.2.2.2.1).toNat]?).bind fun y4 =>
   let v5 := (IntKind.i64.wrap (y4 * (8 : Int)))
   if 0 ≤ u3.1.2.2.2.1 then
    ((u3.1.2.1)[(u3.1.2.2.2.1).toNat]?).bind fun y6 =>
    let v7 := (IntKind.i64.wrap (y6 + (1 : Int)))
    let v8 := (IntKind.i64.wrap (v7 * (8 : Int)))
    if 0 ≤ v5 ∧ v5 ≤ v8 ∧ v8 ≤ ((u3.1.1.length : Nat) : Int) then
     let v9 := ((u3.1.1.drop (v5).toNat).take ((v8).toNat - (v5).toNat))
     if (u3.1.2.2.1.length + v9.length) * 8 ≤ 140737488355328 then
      let v10 := (u3.1.2.2.1 ++ v9)
      let v11 := (IntKind.i64.wrap (u3.1.2.2.2.1 + (1 : Int)))
      rec ((u3.1.1, (u3.1.2.1, (v10, (v11, ())))), ((), ()))
     else none
    else none
   else none
  else none
 else
  some (.inl ((u3.1.2.2.1, ()), ((), ())))
def L_aq_3 (x : i_aq_3.den) : Option (denO o_aq_3) := iterF l_aq_3 lots x
def F_aq (x : denP P_aq) : Option (denV R_aq × denQ P_aq) :=
 (L_aq_3 ((x.1, (x.2.1, (([] : List (den YI)), ((0 : Int), ())))), ((), ()))).bind fun z12 =>
 match z12 with
 | .inl x13 =>
  some ((x13.1.1, ()), ())
 | .inr z12_ =>
  none
abbrev C_aq : Con := ⟨P_aq, R_aq, F_aq, false⟩
abbrev G_aq : Env := []
theorem g_aq : EnvOk Tryz.prog G_aq := env_nil
abbrev c_aq_3 : Cut := ⟨i_aq_3, o_aq_3, fun x => iterF l_aq_3 lots x⟩
theorem t_aq_3 (rec x) : run T G_aq [] (nav Tryz.f51 [1, 1, 0, 1, 0, 0]) (mk 30 i_aq_3 x) (loopK i_aq_3 o_aq_3 rec) = l_aq_3 rec x := by kernel_rfl
theorem k_aq_3 : CutOk Tryz.prog 30 (.loop (nav Tryz.f51 [1, 1, 0, 1, 0, 0])) c_aq_3 :=
  loop_cut (L := []) hT g_aq t_aq_3 okP _
theorem r_aq (x) : runFn T G_aq [(3, c_aq_3)] Tryz.f51 C_aq.ps C_aq.rs x = C_aq.F x := by kernel_rfl
theorem s_aq : CallsOk Tryz.prog 51 C_aq := fnC (L := [(3, c_aq_3)]) hT g_aq Tryz.f51 (okS okP (okS okP (okS (okS okP (okB (okU k_aq_3))) okP))) r_aq
/-! spec.l16Feed -/
abbrev P_ar : List PK := [.box [.dat Y28, .dat YI, .dat Y28, .dat .bool, .dat .bool, .dat .bool, .dat YI, .dat Y28, .dat Y28, .dat Y24, .own 2 YI] [.dat Y28, .dat YI, .dat Y28, .dat .bool, .dat .bool, .dat .bool, .dat YI, .dat Y28, .dat Y28, .dat Y24, .own 2 YI], .val YI, .val Y28]
abbrev R_ar : List VK := []
abbrev i_ar_1 : Shp := { slots := [(0, .s (.ptr 9000000 0)), (1, .s (.dat YI)), (2, .s (.dat Y28)), (6, .s (.dat YI))], boxes := [(9000000, [.dat Y28, .dat YI, .dat Y28, .dat .bool, .dat .bool, .dat .bool, .dat YI, .dat Y28, .dat Y28, .dat Y24, .own 2 YI])], rows := [] }
abbrev o_ar_1 : List (Ex × Shp) := [(.exit 0, { slots := [], boxes := [(9000000, [.dat Y28, .dat YI, .dat Y28, .dat .bool, .dat .bool, .dat .bool, .dat YI, .dat Y28, .dat Y28, .dat Y24, .own 2 YI])], rows := [] })]
def l_ar_1 (rec : i_ar_1.den → Option (denO o_ar_1)) (u1 : i_ar_1.den) : Option (denO o_ar_1) :=
 let v3 := ((u1.1.2.2.1.length : Nat) : Int)
 if (ltI u1.1.2.2.2.1 v3) then
  let v4 := (IntKind.i64.wrap (u1.1.2.1 * (8 : Int)))
  let v5 := (IntKind.i64.wrap (v4 + u1.1.2.2.2.1))
  if 0 ≤ u1.1.2.2.2.1 then
   ((u1.1.2.2.1)[(u1.1.2.2.2.1).toNat]?).bind fun y6 =>
   if 0 ≤ v5 ∧ v5 < ((u1.2.1.1.2.2.2.2.2.2.2.2.2.2.1.length : Nat) : Int) then
    ((u1.2.1.1.2.2.2.2.2.2.2.2.2.2.1)[(v5).toNat]?).bind fun y7 =>
    let v8 := (u1.2.1.1.2.2.2.2.2.2.2.2.2.2.1.set (v5).toNat y6)
    let v9 := (IntKind.i64.wrap (u1.1.2.2.2.1 + (1 : Int)))
    rec (((), (u1.1.2.1, (u1.1.2.2.1, (v9, ())))), (((u1.2.1.1.1, (u1.2.1.1.2.1, (u1.2.1.1.2.2.1, (u1.2.1.1.2.2.2.1, (u1.2.1.1.2.2.2.2.1, (u1.2.1.1.2.2.2.2.2.1, (u1.2.1.1.2.2.2.2.2.2.1, (u1.2.1.1.2.2.2.2.2.2.2.1, (u1.2.1.1.2.2.2.2.2.2.2.2.1, (u1.2.1.1.2.2.2.2.2.2.2.2.2.1, (v8, ()))))))))))), ()), ()))
   else none
  else none
 else
  some (.inl ((), ((u1.2.1.1, ()), ())))
def L_ar_1 (x : i_ar_1.den) : Option (denO o_ar_1) := iterF l_ar_1 lots x
def F_ar (x : denP P_ar) : Option (denV R_ar × denQ P_ar) :=
 (L_ar_1 (((), (x.2.1, (x.2.2.1, ((0 : Int), ())))), ((x.1, ()), ()))).bind fun z10 =>
 match z10 with
 | .inl x11 =>
  some ((), (x11.2.1.1, ()))
 | .inr z10_ =>
  none
abbrev C_ar : Con := ⟨P_ar, R_ar, F_ar, false⟩
abbrev G_ar : Env := []
theorem g_ar : EnvOk Tryz.prog G_ar := env_nil
abbrev c_ar_1 : Cut := ⟨i_ar_1, o_ar_1, fun x => iterF l_ar_1 lots x⟩
theorem t_ar_1 (rec x) : run T G_ar [] (nav Tryz.f50 [1, 0, 0]) (mk 26 i_ar_1 x) (loopK i_ar_1 o_ar_1 rec) = l_ar_1 rec x := by kernel_rfl
theorem k_ar_1 : CutOk Tryz.prog 26 (.loop (nav Tryz.f50 [1, 0, 0])) c_ar_1 :=
  loop_cut (L := []) hT g_ar t_ar_1 okP _
theorem r_ar (x) : runFn T G_ar [(1, c_ar_1)] Tryz.f50 C_ar.ps C_ar.rs x = C_ar.F x := by kernel_rfl
theorem s_ar : CallsOk Tryz.prog 50 C_ar := fnC (L := [(1, c_ar_1)]) hT g_ar Tryz.f50 (okS okP (okB (okU k_ar_1))) r_ar
/-! spec.l16Solo -/
abbrev P_as : List PK := [.ptr Y30, .val YI]
abbrev R_as : List VK := [.g [.dat Y28, .dat YI, .dat Y28, .dat .bool, .dat .bool, .dat .bool, .dat YI, .dat Y28, .dat Y28, .dat Y24, .own 2 YI]]
abbrev i_as_4 : Shp := { slots := [(0, .s (.pd Y30)), (4, .s (.ptr 4 0)), (5, .s (.ptr 5 0)), (6, .s (.own 70 Y69)), (7, .s (.dat YI))], boxes := [(4, [.own 2 YI, .dat YI, .own 2 YI, .dat .bool, .dat .bool, .dat .bool, .dat YI, .own 2 YI, .own 2 YI, .own 70 Y69, .own 2 YI]), (5, [.dat Y28, .dat YI, .dat Y28, .dat .bool, .dat .bool, .dat .bool, .dat YI, .dat Y28, .dat Y28, .dat Y24, .own 2 YI])], rows := [] }
abbrev o_as_4 : List (Ex × Shp) := [(.exit 0, { slots := [(4, .s (.ptr 4 0)), (5, .s (.ptr 5 0))], boxes := [(4, [.own 2 YI, .dat YI, .own 2 YI, .dat .bool, .dat .bool, .dat .bool, .dat YI, .own 2 YI, .own 2 YI, .own 70 Y69, .own 2 YI]), (5, [.dat Y28, .dat YI, .dat Y28, .dat .bool, .dat .bool, .dat .bool, .dat YI, .dat Y28, .dat Y28, .dat Y24, .own 2 YI])], rows := [] })]
def l_as_4 (rec : i_as_4.den → Option (denO o_as_4)) (u4 : i_as_4.den) : Option (denO o_as_4) :=
 if (ltI u4.1.2.2.2.2.1 (8 : Int)) then
  if 0 ≤ u4.1.2.2.2.2.1 ∧ u4.1.2.2.2.2.1 < ((u4.1.2.2.2.1.length : Nat) : Int) then
   ((u4.1.2.2.2.1)[(u4.1.2.2.2.2.1).toNat]?).bind fun y13 =>
   if (leI (0 : Int) y13.1) then
    if 0 ≤ u4.1.2.2.2.2.1 ∧ u4.1.2.2.2.2.1 < ((u4.1.2.2.2.1.length : Nat) : Int) then
     ((u4.1.2.2.2.1)[(u4.1.2.2.2.2.1).toNat]?).bind fun y14 =>
     (F_aq (u4.1.1.2.1, [y14.1], ())).bind fun r15 =>
     (F_ar (u4.2.1.2.1, u4.1.2.2.2.2.1, r15.1.1, ())).bind fun r16 =>
     let v17 := (IntKind.i64.wrap (u4.1.2.2.2.2.1 + (1 : Int)))
     rec ((u4.1.1, ((), ((), (u4.1.2.2.2.1, (v17, ()))))), ((u4.2.1.1, (r16.2.1, ())), ()))
    else none
   else
    let v18 := (IntKind.i64.wrap (u4.1.2.2.2.2.1 + (1 : Int)))
    rec ((u4.1.1, ((), ((), (u4.1.2.2.2.1, (v18, ()))))), ((u4.2.1.1, (u4.2.1.2.1, ())), ()))
  else none
 else
  some (.inl (((), ((), ())), ((u4.2.1.1, (u4.2.1.2.1, ())), ())))
def L_as_4 (x : i_as_4.den) : Option (denO o_as_4) := iterF l_as_4 lots x
def F_as (x : denP P_as) : Option (denV R_as × denQ P_as) :=
 if 0 ≤ x.2.1 then
  ((x.1.2.2.1)[(x.2.1).toNat]?).bind fun y1 =>
  (F_am (y1, ())).bind fun r2 =>
  (F_ap (x.1.1, x.2.1, ())).bind fun r3 =>
  (F_ao (x.1.1, x.2.1, ())).bind fun r4 =>
  (L_as_4 ((x.1, ((), ((), (r4.1.1, ((0 : Int), ()))))), (((([] : List (den YI)), ((0 : Int), (([] : List (den YI)), (false, (false, (false, ((0 : Int), (([] : List (den YI)), (([] : List (den YI)), (([] : List (den Y69)), (([] : List (den YI)), ()))))))))))), ((r2.1.1.1, (r2.1.1.2.1, (r2.1.1.2.2.1, (r2.1.1.2.2.2.1, (r2.1.1.2.2.2.2.1, (r2.1.1.2.2.2.2.2.1, (r2.1.1.2.2.2.2.2.2.1, (r2.1.1.2.2.2.2.2.2.2.1, (r2.1.1.2.2.2.2.2.2.2.2.1, (r3.1.1, ((List.replicate ((64 : Int)).toNat (zeroD YI)), ()))))))))))), ())), ()))).bind fun z19 =>
  match z19 with
  | .inl x20 =>
   some ((x20.2.1.2.1, ()), ())
  | .inr z19_ =>
   none
 else none
abbrev C_as : Con := ⟨P_as, R_as, F_as, false⟩
abbrev G_as : Env := [(47, C_am), (48, C_ap), (49, C_ao), (50, C_ar), (51, C_aq)]
theorem g_as : EnvOk Tryz.prog G_as := (env_cons s_am (env_cons s_ap (env_cons s_ao (env_cons s_ar (env_cons s_aq env_nil)))))
abbrev c_as_4 : Cut := ⟨i_as_4, o_as_4, fun x => iterF l_as_4 lots x⟩
theorem t_as_4 (rec x) : run T G_as [] (nav Tryz.f18 [1, 1, 1, 0, 1, 0, 0]) (mk 52 i_as_4 x) (loopK i_as_4 o_as_4 rec) = l_as_4 rec x := by kernel_rfl
theorem k_as_4 : CutOk Tryz.prog 52 (.loop (nav Tryz.f18 [1, 1, 1, 0, 1, 0, 0])) c_as_4 :=
  loop_cut (L := []) hT g_as t_as_4 okP _
theorem r_as (x) : runFn T G_as [(4, c_as_4)] Tryz.f18 C_as.ps C_as.rs x = C_as.F x := by kernel_rfl
theorem s_as : CallsOk Tryz.prog 18 C_as := fnC (L := [(4, c_as_4)]) hT g_as Tryz.f18 (okS okP (okS okP (okS okP (okS (okS okP (okB (okU k_as_4))) okP)))) r_as
/-! spec.SoloFrom -/
abbrev P_at : List PK := [.val Y30, .val YI]
abbrev R_at : List VK := [.g [.dat YI, .dat Y28, .dat YI, .dat Y28, .dat .bool, .dat .bool, .dat .bool, .dat YI, .dat Y28, .dat Y28, .dat Y24, .own 2 YI]]
def F_at (x : denP P_at) : Option (denV R_at × denQ P_at) :=
 (F_al (x.1, ())).bind fun r1 =>
 if (r1.1.1 != (0 : Int)) then
  some (((r1.1.1, (([] : List (den YI)), ((0 : Int), (([] : List (den YI)), (false, (false, (false, ((0 : Int), (([] : List (den YI)), (([] : List (den YI)), (([] : List (den Y69)), (([] : List (den YI)), ())))))))))))), ()), ())
 else
  (F_y (x.1.1, x.2.1, ())).bind fun r2 =>
  if (!r2.1.1) then
   some ((((4 : Int), (([] : List (den YI)), ((0 : Int), (([] : List (den YI)), (false, (false, (false, ((0 : Int), (([] : List (den YI)), (([] : List (den YI)), (([] : List (den Y69)), (([] : List (den YI)), ())))))))))))), ()), ())
  else
   (F_as (x.1, x.2.1, ())).bind fun r3 =>
   some ((((0 : Int), r3.1.1), ()), ())
abbrev C_at : Con := ⟨P_at, R_at, F_at, false⟩
abbrev G_at : Env := [(16, C_al), (17, C_y), (18, C_as)]
theorem g_at : EnvOk Tryz.prog G_at := (env_cons s_al (env_cons s_y (env_cons s_as env_nil)))
theorem r_at (x) : runFn T G_at [] Tryz.f5 C_at.ps C_at.rs x = C_at.F x := by kernel_rfl
theorem s_at : CallsOk Tryz.prog 5 C_at := fnC (L := []) hT g_at Tryz.f5 okP r_at
/-! impl.within -/
abbrev P_au : List PK := [.val YI, .val YI, .val YI]
abbrev R_au : List VK := [.s (.dat .bool)]
def F_au (x : denP P_au) : Option (denV R_au × denQ P_au) :=
 if (leI x.2.1 x.1) = true then
  some (((leI x.1 x.2.2.1), ()), ())
 else
  some ((false, ()), ())
abbrev C_au : Con := ⟨P_au, R_au, F_au, false⟩
abbrev G_au : Env := []
theorem g_au : EnvOk Tryz.prog G_au := env_nil
theorem r_au (x) : runFn T G_au [] Tryz.f60 C_au.ps C_au.rs x = C_au.F x := by kernel_rfl
theorem s_au : CallsOk Tryz.prog 60 C_au := fnC (L := []) hT g_au Tryz.f60 okP r_au
/-! (*impl.Policy).ownFault -/
abbrev P_av : List PK := [.ptr Y26]
abbrev R_av : List VK := [.s (.dat YI)]
abbrev i_av_10 : Shp := { slots := [(3, .s (.mp)), (4, .s (.dat .bool)), (20, .s (.dat Y22)), (21, .s (.dat YI)), (22, .s (.dat YI)), (30, .s (.dat Y28)), (31, .s (.dat YI)), (32, .s (.dat YI))], boxes := [], rows := [] }
abbrev o_av_10 : List (Ex × Shp) := [(.exit 2, { slots := [(3, .s (.mp)), (4, .s (.dat .bool)), (20, .s (.dat Y22)), (21, .s (.dat YI)), (22, .s (.dat YI))], boxes := [], rows := [] }), (.ret, { slots := [(2, .s (.dat YI))], boxes := [], rows := [] })]
def l_av_10 (rec : i_av_10.den → Option (denO o_av_10)) (u10 : i_av_10.den) : Option (denO o_av_10) :=
 if (ltI u10.1.2.2.2.2.2.2.2.1 u10.1.2.2.2.2.2.2.1) then
  if 0 ≤ u10.1.2.2.2.2.2.2.2.1 then
   ((u10.1.2.2.2.2.2.1)[(u10.1.2.2.2.2.2.2.2.1).toNat]?).bind fun y17 =>
   (F_au (y17, (0 : Int), (23 : Int), ())).bind fun r18 =>
   if (!r18.1.1) then
    some (.inr (.inl (((3 : Int), ()), ((), ()))))
   else
    if u10.1.2.1 = false then
     let v19 := (IntKind.i64.wrap (u10.1.2.2.2.2.2.2.2.1 + (1 : Int)))
     rec (((setM u10.1.1 y17 true), ((getM u10.1.1 y17), (u10.1.2.2.1, (u10.1.2.2.2.1, (u10.1.2.2.2.2.1, (u10.1.2.2.2.2.2.1, (u10.1.2.2.2.2.2.2.1, (v19, ())))))))), ((), ()))
    else
     let v20 := (IntKind.i64.wrap (u10.1.2.2.2.2.2.2.2.1 + (1 : Int)))
     rec (((setM u10.1.1 y17 true), (true, (u10.1.2.2.1, (u10.1.2.2.2.1, (u10.1.2.2.2.2.1, (u10.1.2.2.2.2.2.1, (u10.1.2.2.2.2.2.2.1, (v20, ())))))))), ((), ()))
  else none
 else
  some (.inl ((u10.1.1, (u10.1.2.1, (u10.1.2.2.1, (u10.1.2.2.2.1, (u10.1.2.2.2.2.1, ()))))), ((), ())))
def L_av_10 (x : i_av_10.den) : Option (denO o_av_10) := iterF l_av_10 lots x
abbrev i_av_5 : Shp := { slots := [(3, .s (.mp)), (4, .s (.dat .bool)), (20, .s (.dat Y22)), (21, .s (.dat YI)), (22, .s (.dat YI))], boxes := [], rows := [] }
abbrev o_av_5 : List (Ex × Shp) := [(.exit 0, { slots := [(4, .s (.dat .bool))], boxes := [], rows := [] }), (.ret, { slots := [(2, .s (.dat YI))], boxes := [], rows := [] })]
def l_av_5 (rec : i_av_5.den → Option (denO o_av_5)) (u5 : i_av_5.den) : Option (denO o_av_5) :=
 if (ltI u5.1.2.2.2.2.1 u5.1.2.2.2.1) then
  if 0 ≤ u5.1.2.2.2.2.1 then
   ((u5.1.2.2.1)[(u5.1.2.2.2.2.1).toNat]?).bind fun y11 =>
   let v12 := ((y11.length : Nat) : Int)
   (F_au (v12, (1 : Int), (5 : Int), ())).bind fun r13 =>
   if (!r13.1.1) then
    some (.inr (.inl (((2 : Int), ()), ((), ()))))
   else
    let v14 := ((y11.length : Nat) : Int)
    (L_av_10 ((u5.1.1, (u5.1.2.1, (u5.1.2.2.1, (u5.1.2.2.2.1, (u5.1.2.2.2.2.1, (y11, (v14, ((0 : Int), ())))))))), ((), ()))).bind fun z21 =>
    match z21 with
    | .inl x22 =>
     let v23 := (IntKind.i64.wrap (x22.1.2.2.2.2.1 + (1 : Int)))
     rec ((x22.1.1, (x22.1.2.1, (x22.1.2.2.1, (x22.1.2.2.2.1, (v23, ()))))), ((), ()))
    | .inr z21_ =>
     match z21_ with
     | .inl x24 =>
      some (.inr (.inl ((x24.1.1, ()), ((), ()))))
     | .inr z21__ =>
      none
  else none
 else
  some (.inl ((u5.1.2.1, ()), ((), ())))
def L_av_5 (x : i_av_5.den) : Option (denO o_av_5) := iterF l_av_5 lots x
def F_av (x : denP P_av) : Option (denV R_av × denQ P_av) :=
 let v1 := ((x.1.1.length : Nat) : Int)
 (F_au (v1, (1 : Int), (3 : Int), ())).bind fun r2 =>
 if (!r2.1.1) then
  some (((2 : Int), ()), ())
 else
  let v3 := ((x.1.1.length : Nat) : Int)
  (L_av_5 ((([] : List (Int × Bool)), (false, (x.1.1, (v3, ((0 : Int), ()))))), ((), ()))).bind fun z25 =>
  match z25 with
  | .inl x26 =>
   if x26.1.1 then
    some (((6 : Int), ()), ())
   else
    some (((0 : Int), ()), ())
  | .inr z25_ =>
   match z25_ with
   | .inl x27 =>
    some ((x27.1.1, ()), ())
   | .inr z25__ =>
    none
abbrev C_av : Con := ⟨P_av, R_av, F_av, false⟩
abbrev G_av : Env := [(60, C_au)]
theorem g_av : EnvOk Tryz.prog G_av := (env_cons s_au env_nil)
abbrev c_av_10 : Cut := ⟨i_av_10, o_av_10, fun x => iterF l_av_10 lots x⟩
theorem t_av_10 (rec x) : run T G_av [] (nav Tryz.f90 [1, 1, 1, 0, 1, 0, 0, 1, 1, 0, 0, 1, 1, 1, 0, 0]) (mk 50 i_av_10 x) (loopK i_av_10 o_av_10 rec) = l_av_10 rec x := by kernel_rfl
theorem k_av_10 : CutOk Tryz.prog 50 (.loop (nav Tryz.f90 [1, 1, 1, 0, 1, 0, 0, 1, 1, 0, 0, 1, 1, 1, 0, 0])) c_av_10 :=
  loop_cut (L := []) hT g_av t_av_10 okP _
abbrev c_av_5 : Cut := ⟨i_av_5, o_av_5, fun x => iterF l_av_5 lots x⟩
theorem t_av_5 (rec x) : run T G_av [(10, c_av_10)] (nav Tryz.f90 [1, 1, 1, 0, 1, 0, 0]) (mk 50 i_av_5 x) (loopK i_av_5 o_av_5 rec) = l_av_5 rec x := by kernel_rfl
theorem k_av_5 : CutOk Tryz.prog 50 (.loop (nav Tryz.f90 [1, 1, 1, 0, 1, 0, 0])) c_av_5 :=
  loop_cut (L := [(10, c_av_10)]) hT g_av t_av_5 (okS okP (okS okP (okS (okB (okS okP (okS okP (okS okP (okB (okU k_av_10)))))) okP))) _
theorem r_av (x) : runFn T G_av [(10, c_av_10), (5, c_av_5)] Tryz.f90 C_av.ps C_av.rs x = C_av.F x := by kernel_rfl
theorem s_av : CallsOk Tryz.prog 90 C_av := fnC (L := [(10, c_av_10), (5, c_av_5)]) hT g_av Tryz.f90 (okS okP (okS okP (okS okP (okS (okS okP (okB (okU k_av_5))) okP)))) r_av
/-! (*impl.Policy).isGuest -/
abbrev P_aw : List PK := [.ptr Y26, .val YI]
abbrev R_aw : List VK := [.s (.dat .bool)]
def F_aw (x : denP P_aw) : Option (denV R_aw × denQ P_aw) :=
 let v1 := ((x.1.1.length : Nat) : Int)
 let v2 := (IntKind.i64.wrap (v1 - (1 : Int)))
 (F_au (x.2.1, (0 : Int), v2, ())).bind fun r3 =>
 some ((r3.1.1, ()), ())
abbrev C_aw : Con := ⟨P_aw, R_aw, F_aw, false⟩
abbrev G_aw : Env := [(60, C_au)]
theorem g_aw : EnvOk Tryz.prog G_aw := (env_cons s_au env_nil)
theorem r_aw (x) : runFn T G_aw [] Tryz.f23 C_aw.ps C_aw.rs x = C_aw.F x := by kernel_rfl
theorem s_aw : CallsOk Tryz.prog 23 C_aw := fnC (L := []) hT g_aw Tryz.f23 okP r_aw
/-! (*impl.Policy).linkFault -/
abbrev P_ax : List PK := [.ptr Y26, .val YI, .val YI]
abbrev R_ax : List VK := [.s (.dat YI)]
def F_ax (x : denP P_ax) : Option (denV R_ax × denQ P_ax) :=
 (F_aw (x.1, x.2.1, ())).bind fun r1 =>
 if (!r1.1.1) = false then
  (F_aw (x.1, x.2.2.1, ())).bind fun r2 =>
  if (!r2.1.1) then
   some (((4 : Int), ()), ())
  else
   if (x.2.1 == x.2.2.1) then
    some (((1 : Int), ()), ())
   else
    some (((0 : Int), ()), ())
 else
  some (((4 : Int), ()), ())
abbrev C_ax : Con := ⟨P_ax, R_ax, F_ax, false⟩
abbrev G_ax : Env := [(23, C_aw)]
theorem g_ax : EnvOk Tryz.prog G_ax := (env_cons s_aw env_nil)
theorem r_ax (x) : runFn T G_ax [] Tryz.f107 C_ax.ps C_ax.rs x = C_ax.F x := by kernel_rfl
theorem s_ax : CallsOk Tryz.prog 107 C_ax := fnC (L := []) hT g_ax Tryz.f107 okP r_ax
/-! slices.Index[int64,int64] -/
abbrev P_ay : List PK := [.val Y28, .val YI]
abbrev R_ay : List VK := [.s (.dat YI)]
abbrev i_ay_2 : Shp := { slots := [(0, .s (.dat Y28)), (1, .s (.dat YI)), (7, .s (.dat YI)), (8, .s (.dat YI))], boxes := [], rows := [] }
abbrev o_ay_2 : List (Ex × Shp) := [(.exit 0, { slots := [], boxes := [], rows := [] }), (.ret, { slots := [(4, .s (.dat YI))], boxes := [], rows := [] })]
def l_ay_2 (rec : i_ay_2.den → Option (denO o_ay_2)) (u2 : i_ay_2.den) : Option (denO o_ay_2) :=
 if (ltI u2.1.2.2.2.1 u2.1.2.2.1) then
  if 0 ≤ u2.1.2.2.2.1 then
   ((u2.1.1)[(u2.1.2.2.2.1).toNat]?).bind fun y3 =>
   if (u2.1.2.1 == y3) then
    some (.inr (.inl ((u2.1.2.2.2.1, ()), ((), ()))))
   else
    let v4 := (IntKind.i64.wrap (u2.1.2.2.2.1 + (1 : Int)))
    rec ((u2.1.1, (u2.1.2.1, (u2.1.2.2.1, (v4, ())))), ((), ()))
  else none
 else
  some (.inl ((), ((), ())))
def L_ay_2 (x : i_ay_2.den) : Option (denO o_ay_2) := iterF l_ay_2 lots x
def F_ay (x : denP P_ay) : Option (denV R_ay × denQ P_ay) :=
 let v1 := ((x.1.length : Nat) : Int)
 (L_ay_2 ((x.1, (x.2.1, (v1, ((0 : Int), ())))), ((), ()))).bind fun z5 =>
 match z5 with
 | .inl x6 =>
  some (((-1 : Int), ()), ())
 | .inr z5_ =>
  match z5_ with
  | .inl x7 =>
   some ((x7.1.1, ()), ())
  | .inr z5__ =>
   none
abbrev C_ay : Con := ⟨P_ay, R_ay, F_ay, false⟩
abbrev G_ay : Env := []
theorem g_ay : EnvOk Tryz.prog G_ay := env_nil
abbrev c_ay_2 : Cut := ⟨i_ay_2, o_ay_2, fun x => iterF l_ay_2 lots x⟩
theorem t_ay_2 (rec x) : run T G_ay [] (nav Tryz.f123 [1, 0, 1, 0, 0]) (mk 19 i_ay_2 x) (loopK i_ay_2 o_ay_2 rec) = l_ay_2 rec x := by kernel_rfl
theorem k_ay_2 : CutOk Tryz.prog 19 (.loop (nav Tryz.f123 [1, 0, 1, 0, 0])) c_ay_2 :=
  loop_cut (L := []) hT g_ay t_ay_2 okP _
theorem r_ay (x) : runFn T G_ay [(2, c_ay_2)] Tryz.f123 C_ay.ps C_ay.rs x = C_ay.F x := by kernel_rfl
theorem s_ay : CallsOk Tryz.prog 123 C_ay := fnC (L := [(2, c_ay_2)]) hT g_ay Tryz.f123 (okS okP (okS (okS okP (okB (okU k_ay_2))) okP)) r_ay
/-! slices.Contains[int64,int64] -/
abbrev P_az : List PK := [.val Y28, .val YI]
abbrev R_az : List VK := [.s (.dat .bool)]
def F_az (x : denP P_az) : Option (denV R_az × denQ P_az) :=
 (F_ay (x.1, x.2.1, ())).bind fun r1 =>
 some (((leI (0 : Int) r1.1.1), ()), ())
abbrev C_az : Con := ⟨P_az, R_az, F_az, false⟩
abbrev G_az : Env := [(123, C_ay)]
theorem g_az : EnvOk Tryz.prog G_az := (env_cons s_ay env_nil)
theorem r_az (x) : runFn T G_az [] Tryz.f119 C_az.ps C_az.rs x = C_az.F x := by kernel_rfl
theorem s_az : CallsOk Tryz.prog 119 C_az := fnC (L := []) hT g_az Tryz.f119 okP r_az
/-! (*impl.Policy).owner.1 -/
abbrev P_ba_1 : List PK := [.val Y28, .ptr YI]
abbrev R_ba_1 : List VK := [.s (.dat .bool)]
def F_ba_1 (x : denP P_ba_1) : Option (denV R_ba_1 × denQ P_ba_1) :=
 (F_az (x.1, x.2.1, ())).bind fun r1 =>
 some ((r1.1.1, ()), ())
abbrev C_ba_1 : Con := ⟨P_ba_1, R_ba_1, F_ba_1, false⟩
abbrev G_ba_1 : Env := [(119, C_az)]
theorem g_ba_1 : EnvOk Tryz.prog G_ba_1 := (env_cons s_az env_nil)
theorem r_ba_1 (x) : runFn T G_ba_1 [] Tryz.f118 C_ba_1.ps C_ba_1.rs x = C_ba_1.F x := by kernel_rfl
theorem s_ba_1 : CallsOk Tryz.prog 118 C_ba_1 := fnC (L := []) hT g_ba_1 Tryz.f118 okP r_ba_1
/-! slices.IndexFunc[int64,int64] -/
abbrev P_bb_1 : List PK := [.val Y22, .fn 118 [YI]]
abbrev R_bb_1 : List VK := [.s (.dat YI)]
abbrev i_bc_2 : Shp := { slots := [(0, .s (.dat Y22)), (1, .s (.fn 118 [YI])), (7, .s (.dat YI)), (8, .s (.dat YI))], boxes := [], rows := [] }
abbrev o_bc_2 : List (Ex × Shp) := [(.exit 0, { slots := [], boxes := [], rows := [] }), (.ret, { slots := [(4, .s (.dat YI))], boxes := [], rows := [] })]
def l_bc_2 (rec : i_bc_2.den → Option (denO o_bc_2)) (u2 : i_bc_2.den) : Option (denO o_bc_2) :=
 if (ltI u2.1.2.2.2.1 u2.1.2.2.1) then
  if 0 ≤ u2.1.2.2.2.1 then
   ((u2.1.1)[(u2.1.2.2.2.1).toNat]?).bind fun y4 =>
   (F_ba_1 (y4, u2.1.2.1.1, ())).bind fun r5 =>
   if r5.1.1 then
    some (.inr (.inl ((u2.1.2.2.2.1, ()), ((), ()))))
   else
    let v6 := (IntKind.i64.wrap (u2.1.2.2.2.1 + (1 : Int)))
    rec ((u2.1.1, ((u2.1.2.1.1, ()), (u2.1.2.2.1, (v6, ())))), ((), ()))
  else none
 else
  some (.inl ((), ((), ())))
def L_bc_2 (x : i_bc_2.den) : Option (denO o_bc_2) := iterF l_bc_2 lots x
def F_bb_1 (x : denP P_bb_1) : Option (denV R_bb_1 × denQ P_bb_1) :=
 let v1 := ((x.1.length : Nat) : Int)
 (L_bc_2 ((x.1, ((x.2.1.1, ()), (v1, ((0 : Int), ())))), ((), ()))).bind fun z7 =>
 match z7 with
 | .inl x8 =>
  some (((-1 : Int), ()), ())
 | .inr z7_ =>
  match z7_ with
  | .inl x9 =>
   some ((x9.1.1, ()), ())
  | .inr z7__ =>
   none
abbrev C_bb_1 : Con := ⟨P_bb_1, R_bb_1, F_bb_1, false⟩
abbrev G_bb_1 : Env := [(118, C_ba_1)]
theorem g_bb_1 : EnvOk Tryz.prog G_bb_1 := (env_cons s_ba_1 env_nil)
abbrev c_bc_2 : Cut := ⟨i_bc_2, o_bc_2, fun x => iterF l_bc_2 lots x⟩
theorem t_bc_2 (rec x) : run T G_bb_1 [] (nav Tryz.f117 [1, 0, 1, 0, 0]) (mk 19 i_bc_2 x) (loopK i_bc_2 o_bc_2 rec) = l_bc_2 rec x := by kernel_rfl
theorem k_bc_2 : CutOk Tryz.prog 19 (.loop (nav Tryz.f117 [1, 0, 1, 0, 0])) c_bc_2 :=
  loop_cut (L := []) hT g_bb_1 t_bc_2 okP _
theorem r_bb_1 (x) : runFn T G_bb_1 [(2, c_bc_2)] Tryz.f117 C_bb_1.ps C_bb_1.rs x = C_bb_1.F x := by kernel_rfl
theorem s_bb_1 : CallsOk Tryz.prog 117 C_bb_1 := fnC (L := [(2, c_bc_2)]) hT g_bb_1 Tryz.f117 (okS okP (okS (okS okP (okB (okU k_bc_2))) okP)) r_bb_1
/-! (*impl.Policy).owner -/
abbrev P_ba : List PK := [.ptr Y26, .val YI]
abbrev R_ba : List VK := [.s (.dat YI)]
def F_ba (x : denP P_ba) : Option (denV R_ba × denQ P_ba) :=
 (F_bb_1 (x.1.1, (x.2.1, ()), ())).bind fun r1 =>
 some ((r1.1.1, ()), ())
abbrev C_ba : Con := ⟨P_ba, R_ba, F_ba, false⟩
abbrev G_ba : Env := [(117, C_bb_1)]
theorem g_ba : EnvOk Tryz.prog G_ba := (env_cons s_bb_1 env_nil)
theorem r_ba (x) : runFn T G_ba [] Tryz.f108 C_ba.ps C_ba.rs x = C_ba.F x := by kernel_rfl
theorem s_ba : CallsOk Tryz.prog 108 C_ba := fnC (L := []) hT g_ba Tryz.f108 okP r_ba
/-! (impl.Lane).sits -/
abbrev P_bd : List PK := [.val Y108, .val YI, .val YI]
abbrev R_bd : List VK := [.s (.dat .bool)]
def F_bd (x : denP P_bd) : Option (denV R_bd × denQ P_bd) :=
 if (x.1.1 == x.2.1) = true then
  if (x.1.2.2.2.1 == x.2.2.1) = false then
   if (x.1.2.1 == x.2.1) = true then
    some (((x.1.2.2.2.2.1 == x.2.2.1), ()), ())
   else
    some ((false, ()), ())
  else
   some ((true, ()), ())
 else
  if (x.1.2.1 == x.2.1) = true then
   some (((x.1.2.2.2.2.1 == x.2.2.1), ()), ())
  else
   some ((false, ()), ())
abbrev C_bd : Con := ⟨P_bd, R_bd, F_bd, false⟩
abbrev G_bd : Env := []
theorem g_bd : EnvOk Tryz.prog G_bd := env_nil
theorem r_bd (x) : runFn T G_bd [] Tryz.f111 C_bd.ps C_bd.rs x = C_bd.F x := by kernel_rfl
theorem s_bd : CallsOk Tryz.prog 111 C_bd := fnC (L := []) hT g_bd Tryz.f111 okP r_bd
/-! (*impl.Policy).laneFault.1 -/
abbrev P_be_1 : List PK := [.val Y108, .ptr Y108]
abbrev R_be_1 : List VK := [.s (.dat .bool)]
def F_be_1 (x : denP P_be_1) : Option (denV R_be_1 × denQ P_be_1) :=
 if (x.1.2.2.1 == x.2.1.2.2.1) = false then
  (F_bd (x.1, x.2.1.1, x.2.1.2.2.2.1, ())).bind fun r1 =>
  if r1.1.1 = false then
   (F_bd (x.1, x.2.1.2.1, x.2.1.2.2.2.2.1, ())).bind fun r2 =>
   some ((r2.1.1, ()), ())
  else
   some ((true, ()), ())
 else
  some ((true, ()), ())
abbrev C_be_1 : Con := ⟨P_be_1, R_be_1, F_be_1, false⟩
abbrev G_be_1 : Env := [(111, C_bd)]
theorem g_be_1 : EnvOk Tryz.prog G_be_1 := (env_cons s_bd env_nil)
theorem r_be_1 (x) : runFn T G_be_1 [] Tryz.f110 C_be_1.ps C_be_1.rs x = C_be_1.F x := by kernel_rfl
theorem s_be_1 : CallsOk Tryz.prog 110 C_be_1 := fnC (L := []) hT g_be_1 Tryz.f110 okP r_be_1
/-! slices.IndexFunc[impl.Lane,impl.Lane] -/
abbrev P_bf_1 : List PK := [.val Y23, .fn 110 [Y108]]
abbrev R_bf_1 : List VK := [.s (.dat YI)]
abbrev i_bg_2 : Shp := { slots := [(0, .s (.dat Y23)), (1, .s (.fn 110 [Y108])), (7, .s (.dat YI)), (8, .s (.dat YI))], boxes := [], rows := [] }
abbrev o_bg_2 : List (Ex × Shp) := [(.exit 0, { slots := [], boxes := [], rows := [] }), (.ret, { slots := [(4, .s (.dat YI))], boxes := [], rows := [] })]
def l_bg_2 (rec : i_bg_2.den → Option (denO o_bg_2)) (u2 : i_bg_2.den) : Option (denO o_bg_2) :=
 if (ltI u2.1.2.2.2.1 u2.1.2.2.1) then
  if 0 ≤ u2.1.2.2.2.1 then
   ((u2.1.1)[(u2.1.2.2.2.1).toNat]?).bind fun y4 =>
   (F_be_1 (y4, u2.1.2.1.1, ())).bind fun r5 =>
   if r5.1.1 then
    some (.inr (.inl ((u2.1.2.2.2.1, ()), ((), ()))))
   else
    let v6 := (IntKind.i64.wrap (u2.1.2.2.2.1 + (1 : Int)))
    rec ((u2.1.1, ((u2.1.2.1.1, ()), (u2.1.2.2.1, (v6, ())))), ((), ()))
  else none
 else
  some (.inl ((), ((), ())))
def L_bg_2 (x : i_bg_2.den) : Option (denO o_bg_2) := iterF l_bg_2 lots x
def F_bf_1 (x : denP P_bf_1) : Option (denV R_bf_1 × denQ P_bf_1) :=
 let v1 := ((x.1.length : Nat) : Int)
 (L_bg_2 ((x.1, ((x.2.1.1, ()), (v1, ((0 : Int), ())))), ((), ()))).bind fun z7 =>
 match z7 with
 | .inl x8 =>
  some (((-1 : Int), ()), ())
 | .inr z7_ =>
  match z7_ with
  | .inl x9 =>
   some ((x9.1.1, ()), ())
  | .inr z7__ =>
   none
abbrev C_bf_1 : Con := ⟨P_bf_1, R_bf_1, F_bf_1, false⟩
abbrev G_bf_1 : Env := [(110, C_be_1)]
theorem g_bf_1 : EnvOk Tryz.prog G_bf_1 := (env_cons s_be_1 env_nil)
abbrev c_bg_2 : Cut := ⟨i_bg_2, o_bg_2, fun x => iterF l_bg_2 lots x⟩
theorem t_bg_2 (rec x) : run T G_bf_1 [] (nav Tryz.f120 [1, 0, 1, 0, 0]) (mk 19 i_bg_2 x) (loopK i_bg_2 o_bg_2 rec) = l_bg_2 rec x := by kernel_rfl
theorem k_bg_2 : CutOk Tryz.prog 19 (.loop (nav Tryz.f120 [1, 0, 1, 0, 0])) c_bg_2 :=
  loop_cut (L := []) hT g_bf_1 t_bg_2 okP _
theorem r_bf_1 (x) : runFn T G_bf_1 [(2, c_bg_2)] Tryz.f120 C_bf_1.ps C_bf_1.rs x = C_bf_1.F x := by kernel_rfl
theorem s_bf_1 : CallsOk Tryz.prog 120 C_bf_1 := fnC (L := [(2, c_bg_2)]) hT g_bf_1 Tryz.f120 (okS okP (okS (okS okP (okB (okU k_bg_2))) okP)) r_bf_1
/-! slices.ContainsFunc[impl.Lane,impl.Lane] -/
abbrev P_bh_1 : List PK := [.val Y23, .fn 110 [Y108]]
abbrev R_bh_1 : List VK := [.s (.dat .bool)]
def F_bh_1 (x : denP P_bh_1) : Option (denV R_bh_1 × denQ P_bh_1) :=
 (F_bf_1 (x.1, (x.2.1.1, ()), ())).bind fun r1 =>
 some (((leI (0 : Int) r1.1.1), ()), ())
abbrev C_bh_1 : Con := ⟨P_bh_1, R_bh_1, F_bh_1, false⟩
abbrev G_bh_1 : Env := [(120, C_bf_1)]
theorem g_bh_1 : EnvOk Tryz.prog G_bh_1 := (env_cons s_bf_1 env_nil)
theorem r_bh_1 (x) : runFn T G_bh_1 [] Tryz.f109 C_bh_1.ps C_bh_1.rs x = C_bh_1.F x := by kernel_rfl
theorem s_bh_1 : CallsOk Tryz.prog 109 C_bh_1 := fnC (L := []) hT g_bh_1 Tryz.f109 okP r_bh_1
/-! (*impl.Policy).laneFault -/
abbrev P_be : List PK := [.ptr Y26, .val Y108, .val Y23]
abbrev R_be : List VK := [.s (.dat YI)]
def F_be (x : denP P_be) : Option (denV R_be × denQ P_be) :=
 (F_ax (x.1, x.2.1.1, x.2.1.2.1, ())).bind fun r1 =>
 if (r1.1.1 != (0 : Int)) then
  some ((r1.1.1, ()), ())
 else
  (F_au (x.2.1.2.2.1, (0 : Int), (23 : Int), ())).bind fun r2 =>
  if (!r2.1.1) = false then
   (F_au (x.2.1.2.2.2.1, (5 : Int), (6 : Int), ())).bind fun r3 =>
   if (!r3.1.1) = false then
    (F_au (x.2.1.2.2.2.2.1, (5 : Int), (6 : Int), ())).bind fun r4 =>
    if (!r4.1.1) then
     some (((3 : Int), ()), ())
    else
     (F_ba (x.1, x.2.1.2.2.1, ())).bind fun r5 =>
     if (leI (0 : Int) r5.1.1) = false then
      (F_bh_1 (x.2.2.1, (x.2.1, ()), ())).bind fun r6 =>
      if r6.1.1 then
       some (((6 : Int), ()), ())
      else
       some (((0 : Int), ()), ())
     else
      some (((6 : Int), ()), ())
   else
    some (((3 : Int), ()), ())
  else
   some (((3 : Int), ()), ())
abbrev C_be : Con := ⟨P_be, R_be, F_be, false⟩
abbrev G_be : Env := [(60, C_au), (107, C_ax), (108, C_ba), (109, C_bh_1)]
theorem g_be : EnvOk Tryz.prog G_be := (env_cons s_au (env_cons s_ax (env_cons s_ba (env_cons s_bh_1 env_nil))))
theorem r_be (x) : runFn T G_be [] Tryz.f91 C_be.ps C_be.rs x = C_be.F x := by kernel_rfl
theorem s_be : CallsOk Tryz.prog 91 C_be := fnC (L := []) hT g_be Tryz.f91 okP r_be
/-! slices.Index[impl.Bell,impl.Bell] -/
abbrev P_bi : List PK := [.val Y24, .val Y69]
abbrev R_bi : List VK := [.s (.dat YI)]
abbrev i_bi_2 : Shp := { slots := [(0, .s (.dat Y24)), (3, .s (.ptr 3 0)), (7, .s (.dat YI)), (8, .s (.dat YI))], boxes := [(3, [.dat YI, .dat YI])], rows := [] }
abbrev o_bi_2 : List (Ex × Shp) := [(.exit 0, { slots := [], boxes := [], rows := [] }), (.ret, { slots := [(4, .s (.dat YI))], boxes := [], rows := [] })]
def l_bi_2 (rec : i_bi_2.den → Option (denO o_bi_2)) (u2 : i_bi_2.den) : Option (denO o_bi_2) :=
 if (ltI u2.1.2.2.2.1 u2.1.2.2.1) then
  if 0 ≤ u2.1.2.2.2.1 then
   ((u2.1.1)[(u2.1.2.2.2.1).toNat]?).bind fun y3 =>
   if ((u2.2.1.1.1 == y3.1) && ((u2.2.1.1.2.1 == y3.2.1) && true)) then
    some (.inr (.inl ((u2.1.2.2.2.1, ()), ((), ()))))
   else
    let v4 := (IntKind.i64.wrap (u2.1.2.2.2.1 + (1 : Int)))
    rec ((u2.1.1, ((), (u2.1.2.2.1, (v4, ())))), ((u2.2.1.1, ()), ()))
  else none
 else
  some (.inl ((), ((), ())))
def L_bi_2 (x : i_bi_2.den) : Option (denO o_bi_2) := iterF l_bi_2 lots x
def F_bi (x : denP P_bi) : Option (denV R_bi × denQ P_bi) :=
 let v1 := ((x.1.length : Nat) : Int)
 (L_bi_2 ((x.1, ((), (v1, ((0 : Int), ())))), (((x.2.1.1, (x.2.1.2.1, ())), ()), ()))).bind fun z5 =>
 match z5 with
 | .inl x6 =>
  some (((-1 : Int), ()), ())
 | .inr z5_ =>
  match z5_ with
  | .inl x7 =>
   some ((x7.1.1, ()), ())
  | .inr z5__ =>
   none
abbrev C_bi : Con := ⟨P_bi, R_bi, F_bi, false⟩
abbrev G_bi : Env := []
theorem g_bi : EnvOk Tryz.prog G_bi := env_nil
abbrev c_bi_2 : Cut := ⟨i_bi_2, o_bi_2, fun x => iterF l_bi_2 lots x⟩
theorem t_bi_2 (rec x) : run T G_bi [] (nav Tryz.f121 [1, 0, 1, 0, 0]) (mk 19 i_bi_2 x) (loopK i_bi_2 o_bi_2 rec) = l_bi_2 rec x := by kernel_rfl
theorem k_bi_2 : CutOk Tryz.prog 19 (.loop (nav Tryz.f121 [1, 0, 1, 0, 0])) c_bi_2 :=
  loop_cut (L := []) hT g_bi t_bi_2 okP _
theorem r_bi (x) : runFn T G_bi [(2, c_bi_2)] Tryz.f121 C_bi.ps C_bi.rs x = C_bi.F x := by kernel_rfl
theorem s_bi : CallsOk Tryz.prog 121 C_bi := fnC (L := [(2, c_bi_2)]) hT g_bi Tryz.f121 (okS okP (okS (okS okP (okB (okU k_bi_2))) okP)) r_bi
/-! slices.Contains[impl.Bell,impl.Bell] -/
abbrev P_bj : List PK := [.val Y24, .val Y69]
abbrev R_bj : List VK := [.s (.dat .bool)]
def F_bj (x : denP P_bj) : Option (denV R_bj × denQ P_bj) :=
 (F_bi (x.1, x.2.1, ())).bind fun r1 =>
 some (((leI (0 : Int) r1.1.1), ()), ())
abbrev C_bj : Con := ⟨P_bj, R_bj, F_bj, false⟩
abbrev G_bj : Env := [(121, C_bi)]
theorem g_bj : EnvOk Tryz.prog G_bj := (env_cons s_bi env_nil)
theorem r_bj (x) : runFn T G_bj [] Tryz.f112 C_bj.ps C_bj.rs x = C_bj.F x := by kernel_rfl
theorem s_bj : CallsOk Tryz.prog 112 C_bj := fnC (L := []) hT g_bj Tryz.f112 okP r_bj
/-! (*impl.Policy).bellFault -/
abbrev P_bk : List PK := [.ptr Y26, .val Y69, .val Y24]
abbrev R_bk : List VK := [.s (.dat YI)]
def F_bk (x : denP P_bk) : Option (denV R_bk × denQ P_bk) :=
 (F_ax (x.1, x.2.1.1, x.2.1.2.1, ())).bind fun r1 =>
 if (r1.1.1 != (0 : Int)) then
  some ((r1.1.1, ()), ())
 else
  (F_bj (x.2.2.1, x.2.1, ())).bind fun r2 =>
  if r2.1.1 then
   some (((6 : Int), ()), ())
  else
   some (((0 : Int), ()), ())
abbrev C_bk : Con := ⟨P_bk, R_bk, F_bk, false⟩
abbrev G_bk : Env := [(107, C_ax), (112, C_bj)]
theorem g_bk : EnvOk Tryz.prog G_bk := (env_cons s_ax (env_cons s_bj env_nil))
theorem r_bk (x) : runFn T G_bk [] Tryz.f92 C_bk.ps C_bk.rs x = C_bk.F x := by kernel_rfl
theorem s_bk : CallsOk Tryz.prog 92 C_bk := fnC (L := []) hT g_bk Tryz.f92 okP r_bk
end Go.Proofs.YtajnommlfjfgpaaGreat
